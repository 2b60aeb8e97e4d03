/-
  What math/bits.TrailingZeros64 computes where its table is laid; mask.Least and mask.Next.
  What tod.Of, tod.Parts, tod.In, tod.Next and feriaref07.In compute.
-/
import Derived.Test.YtjahgimnfliooaaGreatDoorQbd5244
import Derived.Lib.TrailingZeros
set_option maxRecDepth 100000
set_option maxHeartbeats 25600000
namespace Go.Proofs.YtjahgimnfliooaaGreatDoor
set_option linter.unusedVariables false
section
open Go.RowKit
def Tab (w:World):Prop:=0 < w.heap.size∧∀i,i < 64→w.cell? ⟨0,i,none⟩=some (.int .u8 ((Lib.deBruijn64tab.getD i 0:Nat):Int))
theorem Tab.below {w w':World} {B:Nat} (h:Tab w) (hb:Below B w w') (hB:0 < B):Tab w':=
 ⟨zH h.1 hb.size,fun i hi=>(hb.cell (p:=⟨0,i,none⟩) hB).trans (h.2 i hi)⟩
theorem Tab.later {w w':World} (h:Tab w) (hb:Below w.heap.size w w'):Tab w':=h.below hb h.1
def lsb (x:Nat):Nat:=Lib.ctz 64 x
theorem yeC {x:Nat} (h0:x≠0) (hx:x < 18446744073709551616):lsb x < 64∧x.testBit (lsb x)=true∧∀i,i < lsb x→x.testBit i=false:=by
 obtain ⟨m,hm,hk⟩:=Lib.ctzFrom_spec 64 x (by omega) hx
 have e:lsb x=Lib.ctzFrom 64 x:=by simp [lsb,Lib.ctz,h0]
 rw [e]
 obtain ⟨k,hk2⟩:∃k,Lib.ctzFrom 64 x=k:=⟨_,rfl⟩
 rw [hk2] at hm hk⊢
 subst hm
 refine ⟨hk,?_,fun i hi=>?_⟩
 ·rw [Nat.mul_comm,Nat.testBit_mul_two_pow]; simp
 ·rw [Nat.mul_comm,Nat.testBit_mul_two_pow]; simp; omega
theorem Tz_any (x:Nat) (w:World) (h0:x≠0) (hx:x < 18446744073709551616) (hT:Tab w) :
  Calls Tryz.prog 170 #[.int .u64 x] w fun e w'=>e= .returned (.int .i64 (lsb x))∧w=w':=by
 obtain ⟨hl,hk⟩:=Lib.lowest_bit 64 x h0 hx
 have hk64:lsb x < 64:=hk
 obtain ⟨hd1,hd2⟩:=Lib.deBruijn64_at _ hk
 obtain ⟨q,hq⟩:∃q,2 ^ Lib.ctz 64 x * 285870213051353865 % 18446744073709551616 / 288230376151711744=q:=⟨_,rfl⟩
 rw [hq] at hd1 hd2
 have hcell:=hT.2 q hd1
 rw [hd2] at hcell
 have hz:((x:Int) == 0)=false:=by simp; omega
 have hneg:IntKind.u64.wrap (-(x:Int))= ((18446744073709551616 - x:Nat):Int):=by rw [IntKind.wrap_u64]; omega
 have hand:=yaE hx (b:=18446744073709551616 - x) (by omega)
 have hidx:IntKind.u64.wrap (bits .and .u64 (x:Int) (IntKind.u64.wrap (-(x:Int))) * 285870213051353865) / 288230376151711744= (q:Int):=by
  rw [hneg,hand,show (18446744073709551616:Nat) - x=2 ^ 64 - x from rfl,hl,IntKind.wrap_u64,←hq]
  generalize 2 ^ Lib.ctz 64 x=y
  omega
 have hk2:Lib.ctz 64 x < 64:=hk
 clear hneg hand hl hd2 hq hT hk h0
 go_enter Tryz.func170,Tryz.ntmps170
 go_wp2
 go_ret
 exact ⟨rfl,rfl⟩
def yb3 (m:Nat):Int:=if m=0 then 0 else (lsb m:Int)
def ybK (m:Nat):Bool:=decide (m≠0)
theorem ydV (m:Nat) (w:World) (hm:m < 18446744073709551616) (hT:Tab w) :
  Calls Tryz.prog 125 #[.int .u64 m] w fun e w'=>e= .returned (.tuple #[.int .i64 (yb3 m), .bool (ybK m)])∧w=w':=by
 by_cases h0:m=0
 ·subst h0
  go_enter Tryz.func125,Tryz.ntmps125
  go_wp2
  go_ret2
  exact ⟨rfl,rfl⟩
 ·have h1:Hid (yb3 m= (lsb m:Int)):=if_neg h0
  have h2:Hid (ybK m=true):=by show ybK m=true; simp [ybK,h0]
  have hz:((m:Int) == 0)=false:=by simp; omega
  have Hc:=hid (Tz_any m w h0 hm hT)
  clear h0
  go_enter Tryz.func125,Tryz.ntmps125
  go_wp2_with (go_at_call 170; refine Hc.out.mono ?_; rintro e w' ⟨rfl,rfl⟩)
  go_ret2
  rw [h1.out,h2.out]
  exact ⟨rfl,rfl⟩
def ygu (m n:Nat):Nat:=m / 2 ^ n * 2 ^ n
theorem ygt {m n:Nat} (hm:m < 18446744073709551616):ygu m n < 18446744073709551616:=Nat.lt_of_le_of_lt (Nat.div_mul_le_self _ _) hm
theorem yj7 (m n i:Nat):(ygu m n).testBit i= (decide (n≤i) && m.testBit i):=by
 rw [ygu,Nat.testBit_mul_two_pow,Nat.testBit_div_two_pow]
 by_cases h:n≤i
 ·simp [h]
 ·simp [h]
def ybp (m:Nat) (n:Int):Nat:=if n < 0 then m else if 63≤n then 0 else ygu m (n.toNat+1)
theorem aboveM_lt {m:Nat} {n:Int} (hm:m < 18446744073709551616):ybp m n < 18446744073709551616:=by
 unfold ybp; split
 ·exact hm
 ·split
  ·omega
  ·exact ygt hm
theorem ydu {m:Nat} (n:Int) (i:Nat) (hm:m < 18446744073709551616):(ybp m n).testBit i= (decide (n < (i:Int)) && m.testBit i):=by
 unfold ybp; split
 ·simp; omega
 ·split
  ·by_cases h:64≤i
   ·rw [ydB hm h]; simp
   ·simp; omega
  ·rw [yj7]
   congr 1
   simp; omega
theorem Next_any (m:Nat) (n:Int) (w:World) (hm:m < 18446744073709551616) (hT:Tab w) :
  Calls Tryz.prog 199 #[.int .u64 m, .int .i64 n] w fun e w'=>e= .returned (.tuple #[.int .i64 (yb3 (ybp m n)), .bool (ybK (ybp m n))])∧w=w':=by
 by_cases h0:n < 0
 ·have h1:Hid (ybp m n=m):=if_pos h0
  rw [h1.out]
  have Hc:=hid (ydV m w hm hT)
  go_enter Tryz.func199,Tryz.ntmps199
  go_wp2_with (go_at_call 125; refine Hc.out.mono ?_; rintro e w' ⟨rfl,rfl⟩)
  go_ret2
  exact ⟨rfl,rfl⟩
 by_cases h1:63≤n
 ·have h2:Hid (ybp m n=0):=by show ybp m n=0; rw [ybp,if_neg h0,if_pos h1]
  rw [h2.out]
  go_enter Tryz.func199,Tryz.ntmps199
  go_wp2
  go_ret2
  exact ⟨rfl,rfl⟩
 ·obtain ⟨k,rfl⟩:=Int.eq_ofNat_of_zero_le (by omega:0≤n)
  have h2:ybp m (k:Int)=ygu m (k+1):=by rw [ybp,if_neg h0,if_neg h1]; rfl
  rw [h2]
  have Hc:=hid (ydV (ygu m (k+1)) w (ygt hm) hT)
  have hw:IntKind.u64.wrap ((m:Int) / 2 ^ (k+1) * 2 ^ (k+1))= ((ygu m (k+1):Nat):Int):=by
   have e:((m:Int) / 2 ^ (k+1) * 2 ^ (k+1))= ((ygu m (k+1):Nat):Int):=by simp [ygu]
   rw [e]; exact ybx (ygt hm)
  clear h2
  go_enter Tryz.func199,Tryz.ntmps199
  go_wp2_with fail
  refine Hc.out.mono ?_
  rintro e w' ⟨rfl,rfl⟩
  go_wp2
  go_ret2
  exact ⟨rfl,rfl⟩
theorem yfo {a b:Nat} (ha:a < 18446744073709551616) (hb:b < 18446744073709551616):bits .andNot .u64 (a:Int) (b:Int)= ((mk (fun k=>a.testBit k && !b.testBit k):Nat):Int):=by
 show IntKind.u64.wrap ((BitVec.ofInt 64 (a:Int) &&& ~~~BitVec.ofInt 64 (b:Int)).toNat:Int)= _
 have hl:(BitVec.ofInt 64 (a:Int) &&& ~~~BitVec.ofInt 64 (b:Int)).toNat < 18446744073709551616:=BitVec.isLt _
 rw [ybx hl]
 congr 1
 refine yhj hl (fun i hi=>?_)
 rw [BitVec.testBit_toNat,BitVec.getLsbD_and,BitVec.getLsbD_not,←BitVec.testBit_toNat,←BitVec.testBit_toNat,ybd ha,ybd hb]
 simp [hi]
end
section
open Go.RowKit
def dayB (s:Int):Bool:=decide (0≤s∧s < 86400)
theorem day_cases (s:Int):(dayB s=true∧0≤s∧s < 86400)∨(dayB s=false∧(s < 0∨86400≤s)):=by
 by_cases h:0≤s∧s < 86400
 ·exact .inl ⟨by simpa only [dayB,zzY] using h,h.1,h.2⟩
 ·exact .inr ⟨by simpa only [dayB,decide_eq_false_iff_not] using h,by omega⟩
theorem Parts_no (s:Int) (w:World) (h:s < 0∨86400≤s):Calls Tryz.prog 81 #[.int .i64 s] w fun e w'=>e= .returned (.tuple #[.int .i64 0, .int .i64 0, .int .i64 0, .bool false])∧w=w':=by
 rcases h with h | h
 ·go_enter Tryz.func81,Tryz.ntmps81
  go_wp2
  exact bodyPost_ret (v:= .tuple #[.int .i64 0, .int .i64 0, .int .i64 0, .bool false]) (by simp [results,Tryz.results81,go_sem]) rfl ⟨rfl,rfl⟩
 ·go_enter Tryz.func81,Tryz.ntmps81
  go_wp2
  exact bodyPost_ret (v:= .tuple #[.int .i64 0, .int .i64 0, .int .i64 0, .bool false]) (by simp [results,Tryz.results81,go_sem]) rfl ⟨rfl,rfl⟩
theorem ycS (s:Int) (w:World) (h0:0≤s) (h1:s < 86400):Calls Tryz.prog 81 #[.int .i64 s] w fun e w'=>e= .returned (.tuple #[.int .i64 (s / 3600), .int .i64 (s / 60 % 60), .int .i64 (s % 60), .bool true])∧w=w':=by
 go_enter Tryz.func81,Tryz.ntmps81
 go_wp2
 exact bodyPost_ret (v:= .tuple #[.int .i64 (s / 3600), .int .i64 (s / 60 % 60), .int .i64 (s % 60), .bool true]) (by simp [results,Tryz.results81,go_sem]) rfl ⟨rfl,rfl⟩
def ybl (s:Int) (hs ms ss:Nat):Bool:=dayB s && (hasB hs (s / 3600) && (hasB ms (s / 60 % 60) && hasB ss (s % 60)))
theorem In_any (s:Int) (hs ms ss:Nat) (w:World) (hh:hs < 18446744073709551616) (hm:ms < 18446744073709551616) (hss:ss < 18446744073709551616) :
  Calls Tryz.prog 42 #[.int .i64 s, .int .u64 hs, .int .u64 ms, .int .u64 ss] w fun e w'=>e= .returned (.bool (ybl s hs ms ss))∧w=w':=by
 rcases day_cases s with ⟨hd,h0,h1⟩ | ⟨hd,h⟩
 ·have hr:ybl s hs ms ss= (hasB hs (s / 3600) && (hasB ms (s / 60 % 60) && hasB ss (s % 60))):=by simp [ybl,hd]
  have Hp:=hid (ycS s w h0 h1)
  have H1:=hid (fun n=>yb9 hs n w hh)
  have H2:=hid (fun n=>yb9 ms n w hm)
  have H3:=hid (fun n=>yb9 ss n w hss)
  obtain ⟨b1,hb1⟩:∃b,hasB hs (s / 3600)=b:=⟨_,rfl⟩
  obtain ⟨b2,hb2⟩:∃b,hasB ms (s / 60 % 60)=b:=⟨_,rfl⟩
  obtain ⟨b3,hb3⟩:∃b,hasB ss (s % 60)=b:=⟨_,rfl⟩
  rw [hr,hb1,hb2,hb3]
  have H1':=hid (hb1 ▸ H1.out (s / 3600))
  have H2':=hid (hb2 ▸ H2.out (s / 60 % 60))
  have H3':=hid (hb3 ▸ H3.out (s % 60))
  clear hr hb1 hb2 hb3 H1 H2 H3 hd
  cases b1
  ·go_enter Tryz.func42,Tryz.ntmps42
   go_wp2_with fail
   refine Hp.out.mono ?_
   rintro e w' ⟨rfl,rfl⟩
   go_wp2_with fail
   refine H1'.out.mono ?_
   rintro e w' ⟨rfl,rfl⟩
   go_wp2
   go_ret
   exact ⟨rfl,rfl⟩
  cases b2
  ·go_enter Tryz.func42,Tryz.ntmps42
   go_wp2_with fail
   refine Hp.out.mono ?_
   rintro e w' ⟨rfl,rfl⟩
   go_wp2_with fail
   refine H1'.out.mono ?_
   rintro e w' ⟨rfl,rfl⟩
   go_wp2_with fail
   refine H2'.out.mono ?_
   rintro e w' ⟨rfl,rfl⟩
   go_wp2
   go_ret
   exact ⟨rfl,rfl⟩
  ·go_enter Tryz.func42,Tryz.ntmps42
   go_wp2_with fail
   refine Hp.out.mono ?_
   rintro e w' ⟨rfl,rfl⟩
   go_wp2_with fail
   refine H1'.out.mono ?_
   rintro e w' ⟨rfl,rfl⟩
   go_wp2_with fail
   refine H2'.out.mono ?_
   rintro e w' ⟨rfl,rfl⟩
   go_wp2_with fail
   refine H3'.out.mono ?_
   rintro e w' ⟨rfl,rfl⟩
   go_wp2
   go_ret
   exact ⟨rfl,rfl⟩
 ·have hr:ybl s hs ms ss=false:=by simp [ybl,hd]
  rw [hr]
  have Hp:=hid (Parts_no s w h)
  clear hr hd h
  go_enter Tryz.func42,Tryz.ntmps42
  go_wp2_with fail
  refine Hp.out.mono ?_
  rintro e w' ⟨rfl,rfl⟩
  go_wp2
  go_ret
  exact ⟨rfl,rfl⟩
end
end Go.Proofs.YtjahgimnfliooaaGreatDoor
