/-
  What mask.Span and feriaref02.Span compute: the mask of the numbers of a span that are a step apart.
  What feriaref02.Span and feriaref02.List compute.
  What math/bits.TrailingZeros64 computes where its table is laid; mask.Least and mask.Next.
  What tod.Of, tod.Parts, tod.In, tod.Next and feriaref07.In compute.
-/
import Derived.Test.YtjahgimnfliooaaGreatDoorQ117f73
import Derived.Lib.TrailingZeros
set_option maxRecDepth 100000
set_option maxHeartbeats 25600000
namespace Go.Proofs.YtjahgimnfliooaaGreatDoor
set_option linter.unusedVariables false
section
open Go.RowKit
def ydg (f t s:Int) (k:Nat):Bool:=decide (1≤s∧f≤(k:Int)∧(k:Int)≤t∧((k:Int) - f) % s=0)
def ybi (f t s:Int):Nat:=mk (ydg f t s)
def ydE (f t s:Int) (n:Nat):Nat:=mk (fun k=>ydg f t s k && decide (k < n))
theorem yeZ {a b s:Int} (hs:1≤s) (ha:a % s=0) (hb:b % s=0) (h1:a < b) (h2:b < a+s):False:=by
 have h:=Int.emod_emod_of_dvd (b - a) (Int.dvd_refl s)
 have h3:(b - a) % s=0:=by rw [Int.sub_emod,ha,hb]; simp
 have h4:(b - a) % s=b - a:=Int.emod_eq_of_lt (by omega) (by omega)
 omega
theorem ycs (f t s:Int) (n:Nat) (hs:1≤s) (h64:n < 64) (hf:f≤(n:Int)) (ht:(n:Int)≤t) (hm:((n:Int) - f) % s=0) (q:Nat) (hq:(q:Int)=n+s∨64≤q∧(q:Int)≤n+s) :
  ydE f t s n ||| 2 ^ n=ydE f t s q:=by
 refine yfA (ykc (yaS _) (ydk h64)) (fun k hk=>?_)
 rw [Nat.testBit_or,ydE,ya8,Nat.testBit_two_pow]
 by_cases hkn:n=k
 ·subst hkn
  have:ydg f t s n=true:=by simp only [ydg,zzY]; exact ⟨hs,hf,ht,hm⟩
  simp [this]
  omega
 ·rcases Nat.lt_or_gt_of_ne hkn with h | h
  ·by_cases hb:ydg f t s k=true
   ·simp only [ydg,zzY] at hb
    have hbq:¬(k:Int) < n+s:=fun h2=>yeZ hs hm hb.2.2.2 (by omega) (by omega)
    have e1:¬k < n:=by omega
    have e2:¬k < q:=by omega
    simp [hkn,e1,e2]
   ·simp [hb,hkn]
  ·have e1:k < n:=h
   have e2:k < q:=by omega
   simp [hkn,e1,e2,hk]
theorem yc3 (f t s:Int) (n:Nat) (h:64≤n∨t < (n:Int)):ydE f t s n=ybi f t s:=
 ybo fun k hk=>by
  rcases h with h | h
  ·simp [show k < n by omega]
  ·by_cases hb:ydg f t s k=true
   ·simp only [ydg,zzY] at hb
    simp [show k < n by omega]
   ·simp [hb]
theorem yep (f t s:Int) (n:Nat) (hs:1≤s) (hm:((n:Int) - f) % s=0) (h:(n:Int)=f∨(n:Int) < s):ydE f t s n=0:=by
 rw [←yb5]
 refine ybo fun k hk=>?_
 by_cases hb:ydg f t s k=true
 ·simp only [ydg,zzY] at hb
  have:¬k < n:=by
   intro hkn
   rcases h with h | h
   ·omega
   ·exact yeZ hs hb.2.2.2 hm (by omega) (by omega)
  simp [this]
 ·simp [hb]
theorem span_none (f t s:Int) (h:s < 1):ybi f t s=0:=by
 rw [ybi,←yb5]
 exact ybo fun k _=>by simp [ydg]; omega
theorem ybU (f t s:Int) (w:World) (hf:-9223372036854775808≤f∧f≤9223372036854775807) (hsm:s≤9223372036854775807) :
  Calls Tryz.prog 64 #[.int .i64 f, .int .i64 t, .int .i64 s] w fun e w'=>e= .returned (.int .u64 (ybi f t s))∧w=w':=by
 obtain ⟨hf1,hf2⟩:=hf
 by_cases hs:s < 1
 ·have hr:=hid (span_none f t s hs)
  go_enter Tryz.func64,Tryz.ntmps64
  go_wp2
  go_ret
  rw [hr.out]; exact ⟨rfl,rfl⟩
 by_cases h0:f < 0
 ·obtain ⟨r,hr⟩:∃r,(f+1).tmod s=r:=⟨_,rfl⟩
  have hr1:-s < r∧r≤0:=by
   subst hr
   rw [show f+1= -(-(f+1)) by omega,Int.neg_tmod,Int.tmod_eq_emod_of_nonneg (by omega)]
   have:=Int.emod_nonneg (-(f+1)) (show s≠0 by omega)
   have:=Int.emod_lt_of_pos (-(f+1)) (show 0 < s by omega)
   omega
  obtain ⟨n0,hn0⟩:=Int.eq_ofNat_of_zero_le (show 0≤r - 1+s by omega)
  have hmod:((n0:Int) - f) % s=0:=by
   rw [←hn0,←hr]
   have:=Int.tmod_add_mul_tdiv (f+1) s
   rw [show (f+1).tmod s - 1+s - f=s * (1 - (f+1).tdiv s) by rw [Int.mul_sub]; omega]
   exact Int.mul_emod_right _ _
  have Hst:=hid (yep f t s n0 (by omega) hmod (.inr (by omega)))
  have Hmod:=hid hmod
  have Hn0:=hid hn0
  have hn1:f≤(n0:Int):=by omega
  have hn2:(n0:Int) < s:=by omega
  obtain ⟨hr2,hr3⟩:=hr1
  clear hmod hn0
  go_enter Tryz.func64,Tryz.ntmps64
  go_wp2
  rw [Hn0.out]
  go_loop [7,8] (fun v i=>∃n:Nat,i= .int .i64 n∧v= .int .u64 (ydE f t s n)∧f≤(n:Int)∧((n:Int) - f) % s=0) (fun _ i=>(64 - intOf i).toNat)
  case atStart=>exact ⟨n0,rfl,by rw [Hst.out]; rfl,hn1,Hmod.out⟩
  case round=>
   obtain ⟨n,rfl,rfl,hfn,hm⟩:=hrel
   have Hm:=hid hm
   have Hall:=hid (yc3 f t s n)
   obtain ⟨M,hM⟩:∃M,ydE f t s n=M:=⟨_,rfl⟩
   have HM:=hid hM
   rw [hM] at Hall⊢
   have hMl:M < 18446744073709551616:=by rw [←hM]; exact yaS _
   clear hM hm
   by_cases h64:64≤n
   ·have hr:=hid (Hall.out (.inl h64))
    go_wp2
    go_ret
    rw [hr.out]; exact ⟨rfl,rfl⟩
   by_cases hnt:t < (n:Int)
   ·have hr:=hid (Hall.out (.inr hnt))
    go_wp2
    go_ret
    rw [hr.out]; exact ⟨rfl,rfl⟩
   have hn64:n < 64:=by omega
   have hor:=hid (ybN hMl (ydk hn64))
   by_cases h65:64≤s
   ·have hst:=ycs f t s n (by omega) hn64 hfn (by omega) Hm.out 64 (.inr ⟨by omega,by omega⟩)
    have hr:Hid (M ||| 2 ^ n=ybi f t s):=by show M ||| 2 ^ n=ybi f t s; rw [←HM.out,hst]; exact yc3 f t s 64 (.inl (by omega))
    clear hst
    go_wp2
    go_ret
    rw [ycX hn64,hor.out,hr.out]; exact ⟨rfl,rfl⟩
   ·obtain ⟨q,hq⟩:=Int.eq_ofNat_of_zero_le (show 0≤(n:Int)+s by omega)
    have hst:=hid (ycs f t s n (by omega) hn64 hfn (by omega) Hm.out q (.inl hq.symm))
    have hq2:((q:Int) - f) % s=0:=by rw [←hq,show (n:Int)+s - f= ((n:Int) - f)+s by omega,Int.add_emod,Hm.out]; simp
    have Hq:=hid hq
    have Hq2:=hid hq2
    have hq3:f≤(q:Int):=by omega
    have hq4:(64 - ((n:Int)+s)).toNat < (64 - (n:Int)).toNat:=by omega
    clear hq hq2
    go_wp2
    refine ⟨⟨q,by rw [Hq.out],?_,hq3,Hq2.out⟩,by simp only [intOf]; exact hq4⟩
    rw [ycX hn64,hor.out,←HM.out,hst.out]
 ·obtain ⟨n0,rfl⟩:=Int.eq_ofNat_of_zero_le (by omega:0≤f)
  have hmod:((n0:Int) - (n0:Int)) % s=0:=by simp
  have Hst:=hid (yep (n0:Int) t s n0 (by omega) hmod (.inl rfl))
  have Hmod:=hid hmod
  have hn1:(n0:Int)≤(n0:Int):=by omega
  clear hmod
  go_enter Tryz.func64,Tryz.ntmps64
  go_wp2
  go_loop [7,8] (fun v i=>∃n:Nat,i= .int .i64 n∧v= .int .u64 (ydE (n0:Int) t s n)∧(n0:Int)≤(n:Int)∧((n:Int) - (n0:Int)) % s=0) (fun _ i=>(64 - intOf i).toNat)
  case atStart=>exact ⟨n0,rfl,by rw [Hst.out]; rfl,hn1,Hmod.out⟩
  case round=>
   obtain ⟨n,rfl,rfl,hfn,hm⟩:=hrel
   have Hm:=hid hm
   have Hall:=hid (yc3 (n0:Int) t s n)
   obtain ⟨M,hM⟩:∃M,ydE (n0:Int) t s n=M:=⟨_,rfl⟩
   have HM:=hid hM
   rw [hM] at Hall⊢
   have hMl:M < 18446744073709551616:=by rw [←hM]; exact yaS _
   clear hM hm
   by_cases h64:64≤n
   ·have hr:=hid (Hall.out (.inl h64))
    go_wp2
    go_ret
    rw [hr.out]; exact ⟨rfl,rfl⟩
   by_cases hnt:t < (n:Int)
   ·have hr:=hid (Hall.out (.inr hnt))
    go_wp2
    go_ret
    rw [hr.out]; exact ⟨rfl,rfl⟩
   have hn64:n < 64:=by omega
   have hor:=hid (ybN hMl (ydk hn64))
   by_cases h65:64≤s
   ·have hst:=ycs (n0:Int) t s n (by omega) hn64 hfn (by omega) Hm.out 64 (.inr ⟨by omega,by omega⟩)
    have hr:Hid (M ||| 2 ^ n=ybi (n0:Int) t s):=by show M ||| 2 ^ n=ybi (n0:Int) t s; rw [←HM.out,hst]; exact yc3 (n0:Int) t s 64 (.inl (by omega))
    clear hst
    go_wp2
    go_ret
    rw [ycX hn64,hor.out,hr.out]; exact ⟨rfl,rfl⟩
   ·obtain ⟨q,hq⟩:=Int.eq_ofNat_of_zero_le (show 0≤(n:Int)+s by omega)
    have hst:=hid (ycs (n0:Int) t s n (by omega) hn64 hfn (by omega) Hm.out q (.inl hq.symm))
    have hq2:((q:Int) - (n0:Int)) % s=0:=by rw [←hq,show (n:Int)+s - (n0:Int)= ((n:Int) - (n0:Int))+s by omega,Int.add_emod,Hm.out]; simp
    have Hq:=hid hq
    have Hq2:=hid hq2
    have hq3:(n0:Int)≤(q:Int):=by omega
    have hq4:(64 - ((n:Int)+s)).toNat < (64 - (n:Int)).toNat:=by omega
    clear hq hq2
    go_wp2
    refine ⟨⟨q,by rw [Hq.out],?_,hq3,Hq2.out⟩,by simp only [intOf]; exact hq4⟩
    rw [ycX hn64,hor.out,←HM.out,hst.out]
end
section
open Go.RowKit
theorem eInt:El Tryz.prog 22 3 (.int .i64 0) 1 8:=⟨Tryz.underlying22,by kernel_rfl,by kernel_rfl,by decide⟩
def sel (p:Nat→Bool) (n:Nat):List Int:=((List.range n).filter p).map (fun (k:Nat)=>(k:Int))
theorem yi1 (p:Nat→Bool):sel p 0= []:=rfl
theorem ydo {p:Nat→Bool} {n:Nat} (h:p n=true):sel p (n+1)=sel p n ++ [(n:Int)]:=by simp [sel,List.range_succ,h]
theorem yfH {p:Nat→Bool} {n:Nat} (h:p n=false):sel p (n+1)=sel p n:=by simp [sel,List.range_succ,h]
theorem yeS (p:Nat→Bool) (n:Nat):(sel p n).length≤n:=by
 simp only [sel,List.length_map]
 exact zI (List.length_filter_le _ _) (by simp)
theorem sel_mem {p:Nat→Bool} {n:Nat} {x:Int}:x∈sel p n↔∃k:Nat,k < n∧p k=true∧x= (k:Int):=by
 simp only [sel,List.mem_map,List.mem_filter,List.mem_range]
 constructor
 ·rintro ⟨k,⟨h1,h2⟩,rfl⟩; exact ⟨k,h1,h2,rfl⟩
 ·rintro ⟨k,h1,h2,rfl⟩; exact ⟨k,⟨h1,h2⟩,rfl⟩
end
section
open Go.RowKit
def Tab (w:World):Prop:=0 < w.heap.size∧∀i,i < 64→w.cell? ⟨0,i,none⟩=some (.int .u8 ((Lib.deBruijn64tab.getD i 0:Nat):Int))
theorem Tab.below {w w':World} {B:Nat} (h:Tab w) (hb:Below B w w') (hB:0 < B):Tab w':=
 ⟨zH h.1 hb.size,fun i hi=>(hb.cell (p:=⟨0,i,none⟩) hB).trans (h.2 i hi)⟩
theorem Tab.later {w w':World} (h:Tab w) (hb:Below w.heap.size w w'):Tab w':=h.below hb h.1
def lsb (x:Nat):Nat:=Lib.ctz 64 x
theorem yeF {x:Nat} (h0:x≠0) (hx:x < 18446744073709551616):lsb x < 64∧x.testBit (lsb x)=true∧∀i,i < lsb x→x.testBit i=false:=by
 obtain ⟨m,hm,hk⟩:=Lib.ctzFrom_spec 64 x (by omega) hx
 have e:lsb x=Lib.ctzFrom 64 x:=by simp [lsb,Lib.ctz,h0]
 rw [e]
 obtain ⟨k,hk2⟩:∃k,Lib.ctzFrom 64 x=k:=⟨_,rfl⟩
 rw [hk2] at hm hk⊢
 subst hm
 refine ⟨hk,?_,fun i hi=>?_⟩
 ·rw [Nat.mul_comm,Nat.testBit_mul_two_pow]; simp
 ·rw [Nat.mul_comm,Nat.testBit_mul_two_pow]; simp; omega
theorem Tz_any (x:Nat) (w:World) (h0:x≠0) (hx:x < 18446744073709551616) (hT:Tab w) :
  Calls Tryz.prog 170 #[.int .u64 x] w fun e w'=>e= .returned (.int .i64 (lsb x))∧w=w':=by
 obtain ⟨hl,hk⟩:=Lib.lowest_bit 64 x h0 hx
 have hk64:lsb x < 64:=hk
 obtain ⟨hd1,hd2⟩:=Lib.deBruijn64_at _ hk
 obtain ⟨q,hq⟩:∃q,2 ^ Lib.ctz 64 x * 285870213051353865 % 18446744073709551616 / 288230376151711744=q:=⟨_,rfl⟩
 rw [hq] at hd1 hd2
 have hcell:=hT.2 q hd1
 rw [hd2] at hcell
 have hz:((x:Int) == 0)=false:=by simp; omega
 have hneg:IntKind.u64.wrap (-(x:Int))= ((18446744073709551616 - x:Nat):Int):=by rw [IntKind.wrap_u64]; omega
 have hand:=yaD hx (b:=18446744073709551616 - x) (by omega)
 have hidx:IntKind.u64.wrap (bits .and .u64 (x:Int) (IntKind.u64.wrap (-(x:Int))) * 285870213051353865) / 288230376151711744= (q:Int):=by
  rw [hneg,hand,show (18446744073709551616:Nat) - x=2 ^ 64 - x from rfl,hl,IntKind.wrap_u64,←hq]
  generalize 2 ^ Lib.ctz 64 x=y
  omega
 have hk2:Lib.ctz 64 x < 64:=hk
 clear hneg hand hl hd2 hq hT hk h0
 go_enter Tryz.func170,Tryz.ntmps170
 go_wp2
 go_ret
 exact ⟨rfl,rfl⟩
def yb0 (m:Nat):Int:=if m=0 then 0 else (lsb m:Int)
def ybv (m:Nat):Bool:=decide (m≠0)
theorem ycW (m:Nat) (w:World) (hm:m < 18446744073709551616) (hT:Tab w) :
  Calls Tryz.prog 125 #[.int .u64 m] w fun e w'=>e= .returned (.tuple #[.int .i64 (yb0 m), .bool (ybv m)])∧w=w':=by
 by_cases h0:m=0
 ·subst h0
  go_enter Tryz.func125,Tryz.ntmps125
  go_wp2
  go_ret2
  exact ⟨rfl,rfl⟩
 ·have h1:Hid (yb0 m= (lsb m:Int)):=if_neg h0
  have h2:Hid (ybv m=true):=by show ybv m=true; simp [ybv,h0]
  have hz:((m:Int) == 0)=false:=by simp; omega
  have Hc:=hid (Tz_any m w h0 hm hT)
  clear h0
  go_enter Tryz.func125,Tryz.ntmps125
  go_wp2_with (go_at_call 170; refine Hc.out.mono ?_; rintro e w' ⟨rfl,rfl⟩)
  go_ret2
  rw [h1.out,h2.out]
  exact ⟨rfl,rfl⟩
def ygu (m n:Nat):Nat:=m / 2 ^ n * 2 ^ n
theorem ygt {m n:Nat} (hm:m < 18446744073709551616):ygu m n < 18446744073709551616:=Nat.lt_of_le_of_lt (Nat.div_mul_le_self _ _) hm
theorem ykv (m n i:Nat):(ygu m n).testBit i= (decide (n≤i) && m.testBit i):=by
 rw [ygu,Nat.testBit_mul_two_pow,Nat.testBit_div_two_pow]
 by_cases h:n≤i
 ·simp [h]
 ·simp [h]
def ybz (m:Nat) (n:Int):Nat:=if n < 0 then m else if 63≤n then 0 else ygu m (n.toNat+1)
theorem aboveM_lt {m:Nat} {n:Int} (hm:m < 18446744073709551616):ybz m n < 18446744073709551616:=by
 unfold ybz; split
 ·exact hm
 ·split
  ·omega
  ·exact ygt hm
theorem ydz {m:Nat} (n:Int) (i:Nat) (hm:m < 18446744073709551616):(ybz m n).testBit i= (decide (n < (i:Int)) && m.testBit i):=by
 unfold ybz; split
 ·simp; omega
 ·split
  ·by_cases h:64≤i
   ·rw [ydD hm h]; simp
   ·simp; omega
  ·rw [ykv]
   congr 1
   simp; omega
theorem Next_any (m:Nat) (n:Int) (w:World) (hm:m < 18446744073709551616) (hT:Tab w) :
  Calls Tryz.prog 199 #[.int .u64 m, .int .i64 n] w fun e w'=>e= .returned (.tuple #[.int .i64 (yb0 (ybz m n)), .bool (ybv (ybz m n))])∧w=w':=by
 by_cases h0:n < 0
 ·have h1:Hid (ybz m n=m):=if_pos h0
  rw [h1.out]
  have Hc:=hid (ycW m w hm hT)
  go_enter Tryz.func199,Tryz.ntmps199
  go_wp2_with (go_at_call 125; refine Hc.out.mono ?_; rintro e w' ⟨rfl,rfl⟩)
  go_ret2
  exact ⟨rfl,rfl⟩
 by_cases h1:63≤n
 ·have h2:Hid (ybz m n=0):=by show ybz m n=0; rw [ybz,if_neg h0,if_pos h1]
  rw [h2.out]
  go_enter Tryz.func199,Tryz.ntmps199
  go_wp2
  go_ret2
  exact ⟨rfl,rfl⟩
 ·obtain ⟨k,rfl⟩:=Int.eq_ofNat_of_zero_le (by omega:0≤n)
  have h2:ybz m (k:Int)=ygu m (k+1):=by rw [ybz,if_neg h0,if_neg h1]; rfl
  rw [h2]
  have Hc:=hid (ycW (ygu m (k+1)) w (ygt hm) hT)
  have hw:IntKind.u64.wrap ((m:Int) / 2 ^ (k+1) * 2 ^ (k+1))= ((ygu m (k+1):Nat):Int):=by
   have e:((m:Int) / 2 ^ (k+1) * 2 ^ (k+1))= ((ygu m (k+1):Nat):Int):=by simp [ygu]
   rw [e]; exact ybG (ygt hm)
  clear h2
  go_enter Tryz.func199,Tryz.ntmps199
  go_wp2_with fail
  refine Hc.out.mono ?_
  rintro e w' ⟨rfl,rfl⟩
  go_wp2
  go_ret2
  exact ⟨rfl,rfl⟩
theorem ydy {a b:Nat} (ha:a < 18446744073709551616) (hb:b < 18446744073709551616):bits .andNot .u64 (a:Int) (b:Int)= ((mk (fun k=>a.testBit k && !b.testBit k):Nat):Int):=by
 show IntKind.u64.wrap ((BitVec.ofInt 64 (a:Int) &&& ~~~BitVec.ofInt 64 (b:Int)).toNat:Int)= _
 have hl:(BitVec.ofInt 64 (a:Int) &&& ~~~BitVec.ofInt 64 (b:Int)).toNat < 18446744073709551616:=BitVec.isLt _
 rw [ybG hl]
 congr 1
 refine yfA hl (fun i hi=>?_)
 rw [BitVec.testBit_toNat,BitVec.getLsbD_and,BitVec.getLsbD_not,←BitVec.testBit_toNat,←BitVec.testBit_toNat,ybk ha,ybk hb]
 simp [hi]
end
section
open Go.RowKit
def dayB (s:Int):Bool:=decide (0≤s∧s < 86400)
theorem day_cases (s:Int):(dayB s=true∧0≤s∧s < 86400)∨(dayB s=false∧(s < 0∨86400≤s)):=by
 by_cases h:0≤s∧s < 86400
 ·exact .inl ⟨by simpa only [dayB,zzY] using h,h.1,h.2⟩
 ·exact .inr ⟨by simpa only [dayB,decide_eq_false_iff_not] using h,by omega⟩
theorem Parts_no (s:Int) (w:World) (h:s < 0∨86400≤s):Calls Tryz.prog 81 #[.int .i64 s] w fun e w'=>e= .returned (.tuple #[.int .i64 0, .int .i64 0, .int .i64 0, .bool false])∧w=w':=by
 rcases h with h | h
 ·go_enter Tryz.func81,Tryz.ntmps81
  go_wp2
  exact bodyPost_ret (v:= .tuple #[.int .i64 0, .int .i64 0, .int .i64 0, .bool false]) (by simp [results,Tryz.results81,go_sem]) rfl ⟨rfl,rfl⟩
 ·go_enter Tryz.func81,Tryz.ntmps81
  go_wp2
  exact bodyPost_ret (v:= .tuple #[.int .i64 0, .int .i64 0, .int .i64 0, .bool false]) (by simp [results,Tryz.results81,go_sem]) rfl ⟨rfl,rfl⟩
theorem ycV (s:Int) (w:World) (h0:0≤s) (h1:s < 86400):Calls Tryz.prog 81 #[.int .i64 s] w fun e w'=>e= .returned (.tuple #[.int .i64 (s / 3600), .int .i64 (s / 60 % 60), .int .i64 (s % 60), .bool true])∧w=w':=by
 go_enter Tryz.func81,Tryz.ntmps81
 go_wp2
 exact bodyPost_ret (v:= .tuple #[.int .i64 (s / 3600), .int .i64 (s / 60 % 60), .int .i64 (s % 60), .bool true]) (by simp [results,Tryz.results81,go_sem]) rfl ⟨rfl,rfl⟩
def ybs (s:Int) (hs ms ss:Nat):Bool:=dayB s && (hasB hs (s / 3600) && (hasB ms (s / 60 % 60) && hasB ss (s % 60)))
theorem In_any (s:Int) (hs ms ss:Nat) (w:World) (hh:hs < 18446744073709551616) (hm:ms < 18446744073709551616) (hss:ss < 18446744073709551616) :
  Calls Tryz.prog 42 #[.int .i64 s, .int .u64 hs, .int .u64 ms, .int .u64 ss] w fun e w'=>e= .returned (.bool (ybs s hs ms ss))∧w=w':=by
 rcases day_cases s with ⟨hd,h0,h1⟩ | ⟨hd,h⟩
 ·have hr:ybs s hs ms ss= (hasB hs (s / 3600) && (hasB ms (s / 60 % 60) && hasB ss (s % 60))):=by simp [ybs,hd]
  have Hp:=hid (ycV s w h0 h1)
  have H1:=hid (fun n=>ycf hs n w hh)
  have H2:=hid (fun n=>ycf ms n w hm)
  have H3:=hid (fun n=>ycf ss n w hss)
  obtain ⟨b1,hb1⟩:∃b,hasB hs (s / 3600)=b:=⟨_,rfl⟩
  obtain ⟨b2,hb2⟩:∃b,hasB ms (s / 60 % 60)=b:=⟨_,rfl⟩
  obtain ⟨b3,hb3⟩:∃b,hasB ss (s % 60)=b:=⟨_,rfl⟩
  rw [hr,hb1,hb2,hb3]
  have H1':=hid (hb1 ▸ H1.out (s / 3600))
  have H2':=hid (hb2 ▸ H2.out (s / 60 % 60))
  have H3':=hid (hb3 ▸ H3.out (s % 60))
  clear hr hb1 hb2 hb3 H1 H2 H3 hd
  cases b1
  ·go_enter Tryz.func42,Tryz.ntmps42
   go_wp2_with fail
   refine Hp.out.mono ?_
   rintro e w' ⟨rfl,rfl⟩
   go_wp2_with fail
   refine H1'.out.mono ?_
   rintro e w' ⟨rfl,rfl⟩
   go_wp2
   go_ret
   exact ⟨rfl,rfl⟩
  cases b2
  ·go_enter Tryz.func42,Tryz.ntmps42
   go_wp2_with fail
   refine Hp.out.mono ?_
   rintro e w' ⟨rfl,rfl⟩
   go_wp2_with fail
   refine H1'.out.mono ?_
   rintro e w' ⟨rfl,rfl⟩
   go_wp2_with fail
   refine H2'.out.mono ?_
   rintro e w' ⟨rfl,rfl⟩
   go_wp2
   go_ret
   exact ⟨rfl,rfl⟩
  ·go_enter Tryz.func42,Tryz.ntmps42
   go_wp2_with fail
   refine Hp.out.mono ?_
   rintro e w' ⟨rfl,rfl⟩
   go_wp2_with fail
   refine H1'.out.mono ?_
   rintro e w' ⟨rfl,rfl⟩
   go_wp2_with fail
   refine H2'.out.mono ?_
   rintro e w' ⟨rfl,rfl⟩
   go_wp2_with fail
   refine H3'.out.mono ?_
   rintro e w' ⟨rfl,rfl⟩
   go_wp2
   go_ret
   exact ⟨rfl,rfl⟩
 ·have hr:ybs s hs ms ss=false:=by simp [ybs,hd]
  rw [hr]
  have Hp:=hid (Parts_no s w h)
  clear hr hd h
  go_enter Tryz.func42,Tryz.ntmps42
  go_wp2_with fail
  refine Hp.out.mono ?_
  rintro e w' ⟨rfl,rfl⟩
  go_wp2
  go_ret
  exact ⟨rfl,rfl⟩
end
end Go.Proofs.YtjahgimnfliooaaGreatDoor
