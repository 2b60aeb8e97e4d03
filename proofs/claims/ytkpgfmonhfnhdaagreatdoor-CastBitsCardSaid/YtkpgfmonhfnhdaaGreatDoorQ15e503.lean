/-
  What math/bits.TrailingZeros64 computes where its table is laid; mask.Least and mask.Next.
  ferialaw02.MaskSpans answers true for every list, span, mask.
  math/bits.OnesCount64 computes how many bits a number has.
  math/bits.OnesCount64 and mask.Len compute how many numbers a mask has.
  feriaref02.List makes the list of a mask's numbers.
  What the small functions of wide compute: sets of numbers as seven words.
  What within, may, May, Has, Len of wide compute.
  What may, May, Has and Len of wide, and Has and List of feriaref04, compute.
-/
import Derived.Test.YtkpgfmonhfnhdaaGreatDoorQ594558
import Derived.Lib.TrailingZeros
import Derived.Deep.RegionHeld3
import Derived.Lib.BitFns
import Derived.ChangeKeysEq
set_option maxRecDepth 100000
set_option maxHeartbeats 25600000
namespace Go.Proofs.YtkpgfmonhfnhdaaGreatDoor
set_option linter.unusedVariables false
section
open Go.RowKit
def Tab (w:World):Prop:=0 < w.heap.size∧∀i,i < 64→w.cell? ⟨0,i,none⟩=some (.int .u8 ((Lib.deBruijn64tab.getD i 0:Nat):Int))
theorem Tab.below {w w':World} {B:Nat} (h:Tab w) (hb:Below B w w') (hB:0 < B):Tab w':=
 ⟨zH h.1 hb.size,fun i hi=>(hb.cell (p:=⟨0,i,none⟩) hB).trans (h.2 i hi)⟩
theorem Tab.later {w w':World} (h:Tab w) (hb:Below w.heap.size w w'):Tab w':=h.below hb h.1
def lsb (x:Nat):Nat:=Lib.ctz 64 x
theorem yeh {x:Nat} (h0:x≠0) (hx:x < 18446744073709551616):lsb x < 64∧x.testBit (lsb x)=true∧∀i,i < lsb x→x.testBit i=false:=by
 obtain ⟨m,hm,hk⟩:=Lib.ctzFrom_spec 64 x (by omega) hx
 have e:lsb x=Lib.ctzFrom 64 x:=by simp [lsb,Lib.ctz,h0]
 rw [e]
 obtain ⟨k,hk2⟩:∃k,Lib.ctzFrom 64 x=k:=⟨_,rfl⟩
 rw [hk2] at hm hk⊢
 subst hm
 refine ⟨hk,?_,fun i hi=>?_⟩
 ·rw [Nat.mul_comm,Nat.testBit_mul_two_pow]; simp
 ·rw [Nat.mul_comm,Nat.testBit_mul_two_pow]; simp; omega
theorem Tz_any (x:Nat) (w:World) (h0:x≠0) (hx:x < 18446744073709551616) (hT:Tab w) :
  Calls Tryz.prog 118 #[.int .u64 x] w fun e w'=>e= .returned (.int .i64 (lsb x))∧w=w':=by
 obtain ⟨hl,hk⟩:=Lib.lowest_bit 64 x h0 hx
 have hk64:lsb x < 64:=hk
 obtain ⟨hd1,hd2⟩:=Lib.deBruijn64_at _ hk
 obtain ⟨q,hq⟩:∃q,2 ^ Lib.ctz 64 x * 285870213051353865 % 18446744073709551616 / 288230376151711744=q:=⟨_,rfl⟩
 rw [hq] at hd1 hd2
 have hcell:=hT.2 q hd1
 rw [hd2] at hcell
 have hz:((x:Int) == 0)=false:=by simp; omega
 have hneg:IntKind.u64.wrap (-(x:Int))= ((18446744073709551616 - x:Nat):Int):=by rw [IntKind.wrap_u64]; omega
 have hand:=yar hx (b:=18446744073709551616 - x) (by omega)
 have hidx:IntKind.u64.wrap (bits .and .u64 (x:Int) (IntKind.u64.wrap (-(x:Int))) * 285870213051353865) / 288230376151711744= (q:Int):=by
  rw [hneg,hand,show (18446744073709551616:Nat) - x=2 ^ 64 - x from rfl,hl,IntKind.wrap_u64,←hq]
  generalize 2 ^ Lib.ctz 64 x=y
  omega
 have hk2:Lib.ctz 64 x < 64:=hk
 clear hneg hand hl hd2 hq hT hk h0
 go_enter Tryz.func118,Tryz.ntmps118
 go_wp2
 go_ret
 exact ⟨rfl,rfl⟩
def ybF (m:Nat):Int:=if m=0 then 0 else (lsb m:Int)
def ya6 (m:Nat):Bool:=decide (m≠0)
theorem ycc (m:Nat) (w:World) (hm:m < 18446744073709551616) (hT:Tab w) :
  Calls Tryz.prog 68 #[.int .u64 m] w fun e w'=>e= .returned (.tuple #[.int .i64 (ybF m), .bool (ya6 m)])∧w=w':=by
 by_cases h0:m=0
 ·subst h0
  go_enter Tryz.func68,Tryz.ntmps68
  go_wp2
  go_ret2
  exact ⟨rfl,rfl⟩
 ·have h1:Hid (ybF m= (lsb m:Int)):=if_neg h0
  have h2:Hid (ya6 m=true):=by show ya6 m=true; simp [ya6,h0]
  have hz:((m:Int) == 0)=false:=by simp; omega
  have Hc:=hid (Tz_any m w h0 hm hT)
  clear h0
  go_enter Tryz.func68,Tryz.ntmps68
  go_wp2_with (go_at_call 118; refine Hc.out.mono ?_; rintro e w' ⟨rfl,rfl⟩)
  go_ret2
  rw [h1.out,h2.out]
  exact ⟨rfl,rfl⟩
def ygg (m n:Nat):Nat:=m / 2 ^ n * 2 ^ n
theorem ygf {m n:Nat} (hm:m < 18446744073709551616):ygg m n < 18446744073709551616:=Nat.lt_of_le_of_lt (Nat.div_mul_le_self _ _) hm
theorem yjT (m n i:Nat):(ygg m n).testBit i= (decide (n≤i) && m.testBit i):=by
 rw [ygg,Nat.testBit_mul_two_pow,Nat.testBit_div_two_pow]
 by_cases h:n≤i
 ·simp [h]
 ·simp [h]
def ybj (m:Nat) (n:Int):Nat:=if n < 0 then m else if 63≤n then 0 else ygg m (n.toNat+1)
theorem aboveM_lt {m:Nat} {n:Int} (hm:m < 18446744073709551616):ybj m n < 18446744073709551616:=by
 unfold ybj; split
 ·exact hm
 ·split
  ·omega
  ·exact ygf hm
theorem ydf {m:Nat} (n:Int) (i:Nat) (hm:m < 18446744073709551616):(ybj m n).testBit i= (decide (n < (i:Int)) && m.testBit i):=by
 unfold ybj; split
 ·simp; omega
 ·split
  ·by_cases h:64≤i
   ·rw [ycd hm h]; simp
   ·simp; omega
  ·rw [yjT]
   congr 1
   simp; omega
theorem Next_any (m:Nat) (n:Int) (w:World) (hm:m < 18446744073709551616) (hT:Tab w) :
  Calls Tryz.prog 170 #[.int .u64 m, .int .i64 n] w fun e w'=>e= .returned (.tuple #[.int .i64 (ybF (ybj m n)), .bool (ya6 (ybj m n))])∧w=w':=by
 by_cases h0:n < 0
 ·have h1:Hid (ybj m n=m):=if_pos h0
  rw [h1.out]
  have Hc:=hid (ycc m w hm hT)
  go_enter Tryz.func170,Tryz.ntmps170
  go_wp2_with (go_at_call 68; refine Hc.out.mono ?_; rintro e w' ⟨rfl,rfl⟩)
  go_ret2
  exact ⟨rfl,rfl⟩
 by_cases h1:63≤n
 ·have h2:Hid (ybj m n=0):=by show ybj m n=0; rw [ybj,if_neg h0,if_pos h1]
  rw [h2.out]
  go_enter Tryz.func170,Tryz.ntmps170
  go_wp2
  go_ret2
  exact ⟨rfl,rfl⟩
 ·obtain ⟨k,rfl⟩:=Int.eq_ofNat_of_zero_le (by omega:0≤n)
  have h2:ybj m (k:Int)=ygg m (k+1):=by rw [ybj,if_neg h0,if_neg h1]; rfl
  rw [h2]
  have Hc:=hid (ycc (ygg m (k+1)) w (ygf hm) hT)
  have hw:IntKind.u64.wrap ((m:Int) / 2 ^ (k+1) * 2 ^ (k+1))= ((ygg m (k+1):Nat):Int):=by
   have e:((m:Int) / 2 ^ (k+1) * 2 ^ (k+1))= ((ygg m (k+1):Nat):Int):=by simp [ygg]
   rw [e]; exact ybe (ygf hm)
  clear h2
  go_enter Tryz.func170,Tryz.ntmps170
  go_wp2_with fail
  refine Hc.out.mono ?_
  rintro e w' ⟨rfl,rfl⟩
  go_wp2
  go_ret2
  exact ⟨rfl,rfl⟩
theorem ybs {a b:Nat} (ha:a < 18446744073709551616) (hb:b < 18446744073709551616):bits .andNot .u64 (a:Int) (b:Int)= ((mk (fun k=>a.testBit k && !b.testBit k):Nat):Int):=by
 show IntKind.u64.wrap ((BitVec.ofInt 64 (a:Int) &&& ~~~BitVec.ofInt 64 (b:Int)).toNat:Int)= _
 have hl:(BitVec.ofInt 64 (a:Int) &&& ~~~BitVec.ofInt 64 (b:Int)).toNat < 18446744073709551616:=BitVec.isLt _
 rw [ybe hl]
 congr 1
 refine ydV hl (fun i hi=>?_)
 rw [BitVec.testBit_toNat,BitVec.getLsbD_and,BitVec.getLsbD_not,←BitVec.testBit_toNat,←BitVec.testBit_toNat,yaN ha,yaN hb]
 simp [hi]
end
section
open Go.RowKit
abbrev SpS (w:World) (x0 x1 x2:Int) (W:World):Prop:=
 W.cell? ⟨w.heap.size,0,none⟩=some (.int .i64 x0)∧W.cell? ⟨w.heap.size,1,none⟩=some (.int .i64 x1)∧W.cell? ⟨w.heap.size,2,none⟩=some (.int .i64 x2)∧Below w.heap.size w W∧w.heap.size < W.heap.size
theorem SpS.keep {w W W':World} {x0 x1 x2:Int} (h:SpS w x0 x1 x2 W) (hb:Below W.heap.size W W'):SpS w x0 x1 x2 W':=by
 obtain ⟨h1,h2,h3,h4,h5⟩:=h
 exact ⟨(hb.cell (p:=⟨w.heap.size,0,none⟩) h5).trans h1,(hb.cell (p:=⟨w.heap.size,1,none⟩) h5).trans h2,(hb.cell (p:=⟨w.heap.size,2,none⟩) h5).trans h3,h4.trans (hb.mono (Nat.le_of_lt h5)),zH h5 hb.size⟩
theorem keep_of {P:Program} {f:FuncId} {args:Array Value} {W:World} {v:Value} {S:World→Prop} (h:Calls P f args W fun e w'=>e= .returned v∧Below W.heap.size W w') (hk:∀w',Below W.heap.size W w'→S w') :
  Calls P f args W fun e w'=>e= .returned v∧S w':=h.mono fun e w' ⟨h1,h2⟩=>⟨h1,hk w' h2⟩
theorem yb8 {P:Program} {f:FuncId} {args:Array Value} {W:World} {v:Value} (h:Calls P f args W fun e w'=>e= .returned v∧W=w') :
  Calls P f args W fun e w'=>e= .returned v∧Below W.heap.size W w':=h.mono fun e w' ⟨h1,h2⟩=>⟨h1,by rw [h2]; exact Below.refl _ _⟩
end
section
open Go.RowKit
theorem ycJ (x y:Nat):x &&& y= (x % 256 &&& y % 256)+256 * (x / 256 &&& y / 256):=by
 have h1:=Nat.and_mod_two_pow (a:=x) (b:=y) (n:=8)
 have h2:=Nat.and_div_two_pow (a:=x) (b:=y) (n:=8)
 simp only [show (2:Nat) ^ 8=256 from rfl] at h1 h2
 rw [←h1,←h2]; omega
def ya3 (c:Nat):Nat→Nat
 | 0=>0
 | n+1=>c+256 * ya3 c n
def sw1 (n x:Nat):Nat:=(x / 2 &&& ya3 0x55 n)+(x &&& ya3 0x55 n)
def sw2 (n x:Nat):Nat:=(x / 4 &&& ya3 0x33 n)+(x &&& ya3 0x33 n)
def sw3 (n x:Nat):Nat:=(x / 16+x) &&& ya3 0x0f n
theorem shr1:∀a:Fin 256,∀r:Fin 2,((a.val / 2+r.val * 128) &&& 0x55)= (a.val / 2 &&& 0x55):=by decide +kernel
theorem shr2:∀a:Fin 256,∀r:Fin 4,((a.val / 4+r.val * 64) &&& 0x33)= (a.val / 4 &&& 0x33):=by decide +kernel
theorem yiv (n a b:Nat) (ha:a < 256):sw1 (n+1) (a+256 * b)= (((a / 2 &&& 0x55)+(a &&& 0x55))+256 * sw1 n b):=by
 unfold sw1
 rw [ycJ ((a+256 * b) / 2),ycJ (a+256 * b)]
 simp only [ya3]
 have e1:(0x55+256 * ya3 0x55 n) % 256=0x55:=by omega
 have e2:(0x55+256 * ya3 0x55 n) / 256=ya3 0x55 n:=by omega
 have e3:(a+256 * b) / 2 % 256=a / 2+b % 2 * 128:=by omega
 have e4:(a+256 * b) / 2 / 256=b / 2:=by omega
 have e5:(a+256 * b) % 256=a:=by omega
 have e6:(a+256 * b) / 256=b:=by omega
 rw [e1,e2,e3,e4,e5,e6]
 have h:=shr1 ⟨a,ha⟩ ⟨b % 2,by omega⟩
 simp only at h
 rw [h]
 omega
theorem yiu (n a b:Nat) (ha:a < 256):sw2 (n+1) (a+256 * b)= (((a / 4 &&& 0x33)+(a &&& 0x33))+256 * sw2 n b):=by
 unfold sw2
 rw [ycJ ((a+256 * b) / 4),ycJ (a+256 * b)]
 simp only [ya3]
 have e1:(0x33+256 * ya3 0x33 n) % 256=0x33:=by omega
 have e2:(0x33+256 * ya3 0x33 n) / 256=ya3 0x33 n:=by omega
 have e3:(a+256 * b) / 4 % 256=a / 4+b % 4 * 64:=by omega
 have e4:(a+256 * b) / 4 / 256=b / 4:=by omega
 have e5:(a+256 * b) % 256=a:=by omega
 have e6:(a+256 * b) / 256=b:=by omega
 rw [e1,e2,e3,e4,e5,e6]
 have h:=shr2 ⟨a,ha⟩ ⟨b % 4,by omega⟩
 simp only at h
 rw [h]
 omega
theorem shr3:∀a:Fin 256,∀r:Fin 16,a.val / 16≤4→a.val % 16≤4→((a.val / 16+r.val * 16+a.val) % 256 &&& 0x0f)= ((a.val / 16+a.val) &&& 0x0f):=by decide +kernel
theorem sw3_cons (n a b:Nat) (ha:a < 256) (h1:a / 16≤4) (h2:a % 16≤4) (h3:b % 16≤4):sw3 (n+1) (a+256 * b)= (((a / 16+a) &&& 0x0f)+256 * sw3 n b):=by
 unfold sw3
 rw [ycJ]
 simp only [ya3]
 have e1:(0x0f+256 * ya3 0x0f n) % 256=0x0f:=by omega
 have e2:(0x0f+256 * ya3 0x0f n) / 256=ya3 0x0f n:=by omega
 have e3:((a+256 * b) / 16+(a+256 * b)) % 256= (a / 16+b % 16 * 16+a) % 256:=by omega
 have e4:((a+256 * b) / 16+(a+256 * b)) / 256=b / 16+b:=by omega
 rw [e1,e2,e3,e4]
 have h:=shr3 ⟨a,ha⟩ ⟨b % 16,by omega⟩ h1 h2
 simp only at h
 rw [h]
def ygp (a:Nat):Nat:=(a / 2 &&& 0x55)+(a &&& 0x55)
def yj0 (a:Nat):Nat:=(a / 4 &&& 0x33)+(a &&& 0x33)
def byte3 (a:Nat):Nat:=(a / 16+a) &&& 0x0f
theorem ydY:∀a:Fin 256,ygp a.val < 256∧yj0 (ygp a.val) < 256∧yj0 (ygp a.val) / 16≤4∧yj0 (ygp a.val) % 16≤4∧byte3 (yj0 (ygp a.val))=Lib.popAux 8 a.val∧Lib.popAux 8 a.val≤8:=by decide +kernel
def pops:Nat→Nat→Nat
 | 0,_=>0
 | n+1,x=>Lib.popAux 8 (x % 256)+256 * pops n (x / 256)
theorem sw12_low (n x:Nat) (hn:1≤n):sw2 n (sw1 n x) % 16≤4:=by
 obtain ⟨k,rfl⟩:∃k,n=k+1:=⟨n - 1,by omega⟩
 have e:x=x % 256+256 * (x / 256):=by omega
 obtain ⟨f1,f2,f3,f4,_⟩:=ydY ⟨x % 256,by omega⟩
 simp only at f1 f2 f3 f4
 rw [e,yiv _ _ _ (by omega)]
 show sw2 (k+1) (ygp (x % 256)+256 * sw1 k (x / 256)) % 16≤4
 rw [yiu _ _ _ f1]
 show (yj0 (ygp (x % 256))+256 * sw2 k (sw1 k (x / 256))) % 16≤4
 omega
theorem sw_zero (x:Nat):sw2 0 (sw1 0 x)=0:=by simp [sw1,sw2,ya3]
theorem sw_all:∀n x:Nat,sw3 n (sw2 n (sw1 n x))=pops n x
 | 0,x=>by simp [sw3,ya3,pops]
 | n+1,x=>by
   obtain ⟨f1,f2,f3,f4,f5,f6⟩:=ydY ⟨x % 256,by omega⟩
   simp only at f1 f2 f3 f4 f5
   have e:x=x % 256+256 * (x / 256):=by omega
   have hl:sw2 n (sw1 n (x / 256)) % 16≤4:=by
    by_cases h:1≤n
    ·exact sw12_low n _ h
    ·obtain rfl:n=0:=by omega
     rw [sw_zero]; omega
   rw [pops,←f5,←sw_all n (x / 256)]
   conv=>lhs; rw [e]
   rw [yiv _ _ _ (by omega)]
   show sw3 (n+1) (sw2 (n+1) (ygp (x % 256)+256 * sw1 n (x / 256)))= _
   rw [yiu _ _ _ f1]
   show sw3 (n+1) (yj0 (ygp (x % 256))+256 * sw2 n (sw1 n (x / 256)))= _
   rw [sw3_cons _ _ _ f2 f3 f4 hl]
   rfl
theorem yfo:∀n x:Nat,Lib.popAux n x=Lib.popAux n (x % 2 ^ n)
 | 0,x=>rfl
 | n+1,x=>by
   rw [Lib.popAux,Lib.popAux,yfo n (x / 2),Nat.pow_succ]
   have h1:x % (2 ^ n * 2) % 2=x % 2:=Nat.mod_mod_of_dvd _ (Nat.dvd_mul_left 2 _)
   have h2:x % (2 ^ n * 2) / 2=x / 2 % 2 ^ n:=by rw [Nat.mul_comm,Nat.mod_mul_right_div_self]
   rw [h1,h2]
theorem ydN:∀m n x:Nat,Lib.popAux (m+n) x=Lib.popAux m x+Lib.popAux n (x / 2 ^ m)
 | 0,n,x=>by simp [Lib.popAux]
 | m+1,n,x=>by
   rw [show m+1+n= (m+n)+1 by omega,Lib.popAux,Lib.popAux,ydN m n,Nat.div_div_eq_div_mul,Nat.pow_succ,Nat.mul_comm 2,Nat.add_assoc]
def popN (n x:Nat):Nat:=match n with
 | 0=>0
 | n+1=>Lib.popAux 8 (x % 256)+popN n (x / 256)
theorem popN_eq:∀n x:Nat,popN n x=Lib.popAux (8 * n) x
 | 0,x=>rfl
 | n+1,x=>by
   rw [popN,popN_eq n,show 8 * (n+1)=8+8 * n by omega,ydN 8,←yfo 8 x]
theorem yea (x:Nat):Lib.popAux 8 (x % 256)≤8:=(ydY ⟨x % 256,by omega⟩).2.2.2.2.2
theorem fold_pops (x:Nat):pops 8 x < 651061555542690057∧
  (pops 8 x+pops 8 x / 256+(pops 8 x+pops 8 x / 256) / 65536+(pops 8 x+pops 8 x / 256+(pops 8 x+pops 8 x / 256) / 65536) / 4294967296) % 128=Lib.popAux 64 x:=by
 rw [←popN_eq 8 x]
 simp only [pops,popN]
 have h0:=yea x
 have h1:=yea (x / 256)
 have h2:=yea (x / 256 / 256)
 have h3:=yea (x / 256 / 256 / 256)
 have h4:=yea (x / 256 / 256 / 256 / 256)
 have h5:=yea (x / 256 / 256 / 256 / 256 / 256)
 have h6:=yea (x / 256 / 256 / 256 / 256 / 256 / 256)
 have h7:=yea (x / 256 / 256 / 256 / 256 / 256 / 256 / 256)
 generalize Lib.popAux 8 (x % 256)=p0 at *
 generalize Lib.popAux 8 (x / 256 % 256)=p1 at *
 generalize Lib.popAux 8 (x / 256 / 256 % 256)=p2 at *
 generalize Lib.popAux 8 (x / 256 / 256 / 256 % 256)=p3 at *
 generalize Lib.popAux 8 (x / 256 / 256 / 256 / 256 % 256)=p4 at *
 generalize Lib.popAux 8 (x / 256 / 256 / 256 / 256 / 256 % 256)=p5 at *
 generalize Lib.popAux 8 (x / 256 / 256 / 256 / 256 / 256 / 256 % 256)=p6 at *
 generalize Lib.popAux 8 (x / 256 / 256 / 256 / 256 / 256 / 256 / 256 % 256)=p7 at *
 clear x
 refine ⟨by omega,?_⟩
 obtain ⟨t,ht⟩:∃t,p0+256 * (p1+256 * (p2+256 * (p3+256 * (p4+256 * (p5+256 * (p6+256 * (p7+256 * 0)))))))=t:=⟨_,rfl⟩
 rw [ht]
 have a1:t / 256=p1+256 * (p2+256 * (p3+256 * (p4+256 * (p5+256 * (p6+256 * p7))))):=by omega
 obtain ⟨u,hu⟩:∃u,t+t / 256=u:=⟨_,rfl⟩
 have a2:u= (p0+p1)+256 * (p1+p2)+65536 * ((p2+p3)+256 * (p3+p4)+65536 * ((p4+p5)+256 * (p5+p6)+65536 * ((p6+p7)+256 * p7))):=by omega
 rw [hu]
 have a3:u / 65536= (p2+p3)+256 * (p3+p4)+65536 * ((p4+p5)+256 * (p5+p6)+65536 * ((p6+p7)+256 * p7)):=by omega
 obtain ⟨v,hv⟩:∃v,u+u / 65536=v:=⟨_,rfl⟩
 rw [hv]
 have a4:v= ((p0+p1+p2+p3)+256 * (p1+p2+p3+p4)+65536 * ((p2+p3+p4+p5)+256 * (p3+p4+p5+p6)))+4294967296 * ((p4+p5+p6+p7)+256 * (p5+p6+p7)+65536 * ((p6+p7)+256 * p7)):=by omega
 clear ht a1 hu a2 a3 hv
 have a5:v / 4294967296= (p4+p5+p6+p7)+256 * (p5+p6+p7)+65536 * ((p6+p7)+256 * p7):=by omega
 rw [a5,a4]
 have a6:(p0+p1+p2+p3)+256 * (p1+p2+p3+p4)+65536 * ((p2+p3+p4+p5)+256 * (p3+p4+p5+p6))+4294967296 * ((p4+p5+p6+p7)+256 * (p5+p6+p7)+65536 * ((p6+p7)+256 * p7))+((p4+p5+p6+p7)+256 * (p5+p6+p7)+65536 * ((p6+p7)+256 * p7))
   = (p0+(p1+(p2+(p3+(p4+(p5+(p6+p7)))))))+128 * (2 * (p1+p2+p3+p4)+512 * ((p2+p3+p4+p5)+256 * (p3+p4+p5+p6))+33554432 * ((p4+p5+p6+p7)+256 * (p5+p6+p7)+65536 * ((p6+p7)+256 * p7))+2 * (p5+p6+p7)+512 * ((p6+p7)+256 * p7)):=by omega
 rw [a6,Nat.add_mul_mod_self_left]
 exact Nat.mod_eq_of_lt (by omega)
end
section
open Go.RowKit
theorem ycb:ya3 0x55 8=6148914691236517205∧ya3 0x33 8=3689348814741910323∧ya3 0x0f 8=1085102592571150095:=by decide
theorem ycI (x c:Nat):x &&& c≤c:=Nat.and_le_right
theorem pop_e1 (x:Nat) (hx:x < 18446744073709551616):IntKind.u64.wrap (bits .and .u64 ((x:Int) / 2) 6148914691236517205+bits .and .u64 (x:Int) 6148914691236517205)= ((sw1 8 x:Nat):Int):=by
 have e:((x:Int) / 2)= ((x / 2:Nat):Int):=by simp
 have h1:=yar (a:=x / 2) (b:=6148914691236517205) (by omega) (by omega)
 have h2:=yar (a:=x) (b:=6148914691236517205) hx (by omega)
 have l1:=ycI (x / 2) 6148914691236517205
 have l2:=ycI x 6148914691236517205
 rw [e,show (6148914691236517205:Int)= ((6148914691236517205:Nat):Int) from rfl,h1,h2,←Int.natCast_add,ybe (by omega),sw1,ycb.1]
theorem pop_e2 (x:Nat) (hx:x < 18446744073709551616):IntKind.u64.wrap (bits .and .u64 ((x:Int) / 4) 3689348814741910323+bits .and .u64 (x:Int) 3689348814741910323)= ((sw2 8 x:Nat):Int):=by
 have e:((x:Int) / 4)= ((x / 4:Nat):Int):=by simp
 have h1:=yar (a:=x / 4) (b:=3689348814741910323) (by omega) (by omega)
 have h2:=yar (a:=x) (b:=3689348814741910323) hx (by omega)
 have l1:=ycI (x / 4) 3689348814741910323
 have l2:=ycI x 3689348814741910323
 rw [e,show (3689348814741910323:Int)= ((3689348814741910323:Nat):Int) from rfl,h1,h2,←Int.natCast_add,ybe (by omega),sw2,ycb.2.1]
theorem pop_e3 (x:Nat) (hx:x≤7378697629483820646):bits .and .u64 (IntKind.u64.wrap ((x:Int) / 16+(x:Int))) 1085102592571150095= ((sw3 8 x:Nat):Int):=by
 have e:((x:Int) / 16)= ((x / 16:Nat):Int):=by simp
 have h1:=yar (a:=x / 16+x) (b:=1085102592571150095) (by omega) (by omega)
 rw [e,←Int.natCast_add,ybe (by omega),show (1085102592571150095:Int)= ((1085102592571150095:Nat):Int) from rfl,h1,sw3,ycb.2.2]
theorem pop_e4 (x k:Nat) (c:Int) (hc:c= (k:Int)) (hx:x≤9223372036854775807):IntKind.u64.wrap ((x:Int)+(x:Int) / c)= ((x+x / k:Nat):Int):=by
 subst hc
 have e:((x:Int) / (k:Int))= ((x / k:Nat):Int):=by simp
 have:x / k≤x:=Nat.div_le_self _ _
 rw [e,←Int.natCast_add,ybe (by omega)]
theorem pop_e7 (x:Nat) (hx:x≤9223372036854775807):bits .and .i64 (x:Int) 127= ((x % 128:Nat):Int):=by
 show IntKind.i64.wrap ((BitVec.ofInt 64 (x:Int) &&& BitVec.ofInt 64 (127:Int)).toNat:Int)= _
 rw [BitVec.toNat_and,yaN (by omega),show (127:Int)= ((127:Nat):Int) from rfl,yaN (by omega),show (127:Nat)=2 ^ 7 - 1 from rfl,Nat.and_two_pow_sub_one_eq_mod]
 exact IntWalk.i64_in _ (by omega)
theorem Ones_any (x:Nat) (w:World) (hx:x < 18446744073709551616):Calls Tryz.prog 151 #[.int .u64 x] w fun e w'=>e= .returned (.int .i64 (Lib.popAux 64 x:Nat))∧w=w':=by
 go_enter Tryz.func151,Tryz.ntmps151
 go_wp2_with fail
 refine bodyPost_ret (v:= .int .i64 (Lib.popAux 64 x:Nat)) ?_ rfl ⟨rfl,rfl⟩
 simp [results,Tryz.results151,go_sem]
 have a1:sw1 8 x≤12297829382473034410:=by unfold sw1; rw [ycb.1]; have:=ycI (x / 2) 6148914691236517205; have:=ycI x 6148914691236517205; omega
 have a2:sw2 8 (sw1 8 x)≤7378697629483820646:=by unfold sw2; rw [ycb.2.1]; have:=ycI (sw1 8 x / 4) 3689348814741910323; have:=ycI (sw1 8 x) 3689348814741910323; omega
 obtain ⟨f1,f2⟩:=fold_pops x
 rw [pop_e1 x hx,pop_e2 _ (by omega),pop_e3 _ a2,sw_all,pop_e4 _ 256 256 rfl (by omega),pop_e4 _ 65536 65536 rfl (by omega),pop_e4 _ 4294967296 4294967296 rfl (by omega)]
 rw [IntWalk.wrap64_in _ (by omega),pop_e7 _ (by omega),f2]
theorem ygz (x:Nat) (w:World) (hx:x < 18446744073709551616):Calls Tryz.prog 108 #[.int .u64 x] w fun e w'=>e= .returned (.int .i64 (Lib.popAux 64 x:Nat))∧w=w':=by
 have H:=hid (Ones_any x w hx)
 go_enter Tryz.func108,Tryz.ntmps108
 go_wp2_with fail
 refine H.out.mono ?_
 rintro e w' ⟨rfl,rfl⟩
 go_wp2
 go_ret
 exact ⟨rfl,rfl⟩
def listM (m:Nat) (n:Nat):List Int:=((List.range n).filter m.testBit).map Int.ofNat
theorem yjI (m n:Nat):listM m (n+1)=if m.testBit n then listM m n ++ [(n:Int)] else listM m n:=by
 unfold listM
 rw [List.range_succ,List.filter_append,List.map_append]
 by_cases h:m.testBit n <;> simp [h]
theorem yhH (n m:Nat):Lib.popAux (n+1) m=Lib.popAux n m+(if m.testBit n then 1 else 0):=by
 rw [ydN n 1 m,Lib.popAux,Lib.popAux,Nat.testBit_eq_decide_div_mod_eq]
 simp
 split <;> omega
theorem ygW (m:Nat):∀n,(listM m n).length=Lib.popAux n m
 | 0=>rfl
 | n+1=>by
   rw [yjI,yhH,←ygW m n]
   by_cases h:m.testBit n <;> simp [h]
end
section
open Go.RowKit
theorem ydK (m:Nat):(sel m.testBit 64).length=Lib.popAux 64 m:=ygW m 64
theorem yds (m n:Nat):hasB m (n:Int)=m.testBit n:=by simp [hasB]
end
section
open Go.RowKit
abbrev wv (s:Nat→Nat):Value:= .agg #[.int .u64 (s 0:Nat), .int .u64 (s 1:Nat), .int .u64 (s 2:Nat), .int .u64 (s 3:Nat), .int .u64 (s 4:Nat), .int .u64 (s 5:Nat), .int .u64 (s 6:Nat)]
def WCells (W:World) (b:Nat) (s:Nat→Nat):Prop:=∀i,i < 7→W.cell? ⟨b,i,none⟩=some (.int .u64 (s i:Nat))
theorem WCells.below {W W':World} {b B:Nat} {s:Nat→Nat} (h:WCells W b s) (hb:Below B W W') (hB:b < B):WCells W' b s:=fun i hi=>(hb.cell (p:=⟨b,i,none⟩) hB).trans (h i hi)
theorem WCells.congr {W:World} {b:Nat} {s t:Nat→Nat} (h:WCells W b s) (e:∀i,i < 7→s i=t i):WCells W b t:=fun i hi=>by rw [←e i hi]; exact h i hi
theorem WCells.all {W:World} {b:Nat} {s:Nat→Nat} (h:WCells W b s):W.cell? ⟨b,0,none⟩=some (.int .u64 (s 0:Nat))∧W.cell? ⟨b,1,none⟩=some (.int .u64 (s 1:Nat))∧W.cell? ⟨b,2,none⟩=some (.int .u64 (s 2:Nat))∧
  W.cell? ⟨b,3,none⟩=some (.int .u64 (s 3:Nat))∧W.cell? ⟨b,4,none⟩=some (.int .u64 (s 4:Nat))∧W.cell? ⟨b,5,none⟩=some (.int .u64 (s 5:Nat))∧W.cell? ⟨b,6,none⟩=some (.int .u64 (s 6:Nat)):=
 ⟨h 0 (by omega),h 1 (by omega),h 2 (by omega),h 3 (by omega),h 4 (by omega),h 5 (by omega),h 6 (by omega)⟩
theorem WCells.set {W:World} {b i:Nat} {s:Nat→Nat} {v:Nat} (h:WCells W b s) (hi:i < 7):WCells (W.setCell ⟨b,i,none⟩ (.int .u64 v)) b (fun j=>if j=i then v else s j):=by
 intro j hj
 by_cases e:j=i
 ·subst e; simp [go_sem,h j hj]
 ·simp [go_sem,h j hj,e]
def ycq (i:Nat):Nat:=yaX 0 (399 - 64 * (i:Int)) 1
theorem fullW_lt (i:Nat):ycq i < 18446744073709551616:=yao _
theorem yjR (i k:Nat):(ycq i).testBit k= (decide (k < 64) && decide (64 * i+k < 400)):=by
 rw [ycq,yaX,yaw,ycv,zze]
 simp only [zzX,zzY]
 omega
def WFree (W:World) (b:Nat):Prop:=∀j,W.frozen? ⟨b,j,none⟩=false
theorem WFree.below {W W':World} {b B:Nat} (h:WFree W b) (hb:Below B W W') (hB:b < B):WFree W' b:=fun i=>(hb.frozen (p:=⟨b,i,none⟩) hB).trans (h i)
theorem WFree.set {W:World} {b:Nat} (h:WFree W b) (p:Addr) (v:Value):WFree (W.setCell p v) b:=fun j=>by simp [go_sem,h j]
theorem yhk (w:World):Calls Tryz.prog 82 #[] w fun e w'=>e= .returned (wv ycq)∧Below w.heap.size w w':=by
 have c1:Hid (∀(i:Nat) W,(i:Int) < 7→Calls Tryz.prog 80 #[.int .i64 0, .int .i64 (399 - (i:Int) * 64), .int .i64 1] W fun e w'=>e= .returned (.int .u64 (ycq i))∧W=w'):=fun i W h=>by
  have:=ybM 0 (399 - 64 * (i:Int)) 1 W (by omega) (by omega)
  rw [Int.mul_comm] at this
  have e:ycq i=yaX 0 (399 - (i:Int) * 64) 1:=by rw [ycq,Int.mul_comm]
  rw [e]; exact this
 go_enter Tryz.func82,Tryz.ntmps82
 go_wp2
 go_loopw [3] (fun v wr=>∃i:Nat,v= .int .i64 i∧i≤7∧Hid (WCells wr (w.heap.size+1) (fun j=>if j < i then ycq j else 0))∧Hid (WCells wr w.heap.size (fun _=>0))∧Hid (WFree wr (w.heap.size+1))∧Hid (WFree wr w.heap.size)∧Below w.heap.size w wr∧wr.heap.size=w.heap.size+2) (fun v _=>7 - (intOf v).toNat)
 case atStart=>
  refine ⟨0,rfl,by omega,fun j hj=>?_,fun j hj=>?_,fun j=>by simp [go_sem],fun j=>by simp [go_sem],yaa (yaa (Below.refl _ _) (zG _)) (by simp),by simp⟩
  ·have:j=0∨j=1∨j=2∨j=3∨j=4∨j=5∨j=6:=by omega
   rcases this with rfl | rfl | rfl | rfl | rfl | rfl | rfl <;> simp [go_sem]
  ·have:j=0∨j=1∨j=2∨j=3∨j=4∨j=5∨j=6:=by omega
   rcases this with rfl | rfl | rfl | rfl | rfl | rfl | rfl <;> simp [go_sem]
 case round=>
  obtain ⟨i,rfl,hi,hc,hc0,hf,hf0,hB,hsz⟩:=hrel
  by_cases hlt:i < 7
  ·have e1:=hc.out i hlt
   have e2:=hf.out i
   go_wp2_with fail
   refine (c1.out i wr (by omega)).mono ?_
   rintro e w1 ⟨rfl,rfl⟩
   go_wp2
   refine ⟨⟨i+1,by go_num,by omega,?_,?_,?_,?_,yab hB (by omega),by simpa [go_sem] using hsz⟩,by simp [intOf]; omega⟩
   ·exact (hc.out.set (v:=ycq i) hlt).congr (fun j hj=>by
     by_cases e:j=i
     ·subst e; simp
     ·have:(j < i+1)= (j < i):=by simp; omega
      simp [e,this])
   ·exact fun j hj=>(zzJ (w:=wr) (a:=⟨w.heap.size,j,none⟩) (Below.heap_setCell _ _ _ _ (by simp))).trans (hc0.out j hj)
   ·exact hf.out.set _ _
   ·exact hf0.out.set _ _
  ·obtain rfl:i=7:=by omega
   have hc':WCells wr (w.heap.size+1) ycq:=hc.out.congr (fun j hj=>by simp [hj])
   obtain ⟨r0,r1,r2,r3,r4,r5,r6⟩:=hc'.all
   obtain ⟨z0,z1,z2,z3,z4,z5,z6⟩:=hc0.out.all
   have f0:=hf0.out 0
   have f1:=hf0.out 1
   have f2:=hf0.out 2
   have f3:=hf0.out 3
   have f4:=hf0.out 4
   have f5:=hf0.out 5
   have f6:=hf0.out 6
   clear hc hc0 hf hf0 hc'
   go_wp2
   refine bodyPost_ret (v:=wv ycq) (by simp [results,Tryz.results82,go_sem,z0,z1,z2,z3,z4,z5,z6]) rfl ⟨rfl,?_⟩
   exact yab (yab (yab (yab (yab (yab (yab hB (zG _)) (zG _)) (zG _)) (zG _)) (zG _)) (zG _)) (zG _)
end
section
open Go.RowKit
def inW (s:Nat→Nat) (i:Nat):Nat:=s i &&& ycq i
theorem inW_lt {s:Nat→Nat} (i:Nat) (h:s i < 18446744073709551616):inW s i < 18446744073709551616:=yaU (b:=ycq i) h
theorem ye9 {i:Nat} (h:i < 7):i=0∨i=1∨i=2∨i=3∨i=4∨i=5∨i=6:=by omega
theorem ybN (w:World) (s:Nat→Nat) (t:TypeId):WCells (w.alloc (.cells #[.int .u64 (s 0:Nat), .int .u64 (s 1:Nat), .int .u64 (s 2:Nat), .int .u64 (s 3:Nat), .int .u64 (s 4:Nat), .int .u64 (s 5:Nat), .int .u64 (s 6:Nat)] t)) w.heap.size s:=by
 intro i hi
 rcases ye9 hi with rfl | rfl | rfl | rfl | rfl | rfl | rfl <;> simp [go_sem]
theorem wfree_new (w:World) (s:Nat→Nat) (t:TypeId):WFree (w.alloc (.cells #[.int .u64 (s 0:Nat), .int .u64 (s 1:Nat), .int .u64 (s 2:Nat), .int .u64 (s 3:Nat), .int .u64 (s 4:Nat), .int .u64 (s 5:Nat), .int .u64 (s 6:Nat)] t)) w.heap.size:=fun i=>by simp [go_sem]
theorem yf9:(Tryz.prog.info? 24).map (fun i=>(i.zero,i.size,i.bytes))=some (some (.int .u64 0),1,8):=by kernel_rfl
theorem ygP (s:Nat→Nat) (i:Nat) (h:i < 7) (W:World):(Instr.index 25 (wv s) (.int .i64 i)).run Tryz.prog W= .ok (.int .u64 (s i:Nat)) W:=by
 obtain ⟨i0,hi0,hz0,hz1,hz2⟩:=info_parts yf9
 rcases ye9 h with rfl | rfl | rfl | rfl | rfl | rfl | rfl
 all_goals
  simp [Instr.index,wv,go_sem,part,sizeOf,typeInfo,hi0,hz1]
theorem yj3 (s:Nat→Nat) (w:World) (hs:∀i,i < 7→s i < 18446744073709551616) :
  Calls Tryz.prog 89 #[wv s] w fun e w'=>e= .returned (wv (inW s))∧Below w.heap.size w w':=by
 have c1:=hid (fun W=>yhk W)
 obtain ⟨W0,hW0⟩:∃W0,(w.alloc (.cells #[.int .u64 (s 0:Nat), .int .u64 (s 1:Nat), .int .u64 (s 2:Nat), .int .u64 (s 3:Nat), .int .u64 (s 4:Nat), .int .u64 (s 5:Nat), .int .u64 (s 6:Nat)] 25)).alloc (.cells #[.int .u64 0, .int .u64 0, .int .u64 0, .int .u64 0, .int .u64 0, .int .u64 0, .int .u64 0] 25)=W0:=⟨_,rfl⟩
 have q1:W0.heap.size=w.heap.size+2:=by rw [←hW0]; simp
 have q2:Below w.heap.size w W0:=by rw [←hW0]; exact yaa (yaa (Below.refl _ _) (zG _)) (by simp)
 have q3:WCells W0 w.heap.size s:=by rw [←hW0]; exact (ybN w s _).below (yaa (Below.refl _ _) (zG _)) (by simp)
 have q4:WFree W0 w.heap.size:=by rw [←hW0]; exact (wfree_new w s _).below (yaa (Below.refl _ _) (zG _)) (by simp)
 have q5:WCells W0 (w.heap.size+1) (fun _=>0):=by
  rw [←hW0]
  intro i hi
  rcases ye9 hi with rfl | rfl | rfl | rfl | rfl | rfl | rfl <;> simp [go_sem]
 have q6:WFree W0 (w.heap.size+1):=fun i=>by rw [←hW0]; simp [go_sem]
 have HW0:=hid hW0
 have HS:=hid hs
 have HQ:=hid (And.intro q2 (And.intro q3 (And.intro q4 (And.intro q5 q6))))
 clear hW0 hs q2 q3 q4 q5 q6
 go_enter Tryz.func89,Tryz.ntmps89
 go_wp2_with fail
 rw [HW0.out]
 refine (c1.out W0).mono ?_
 rintro e w1 ⟨rfl,hB1⟩
 obtain ⟨q2,q3,q4,q5,q6⟩:=HQ.out
 have s1:=hB1.size
 have r3:=hid (q3.below hB1 (by omega))
 have r4:=hid (q4.below hB1 (by omega))
 have r5:=hid (q5.below hB1 (by omega))
 have r6:=hid (q6.below hB1 (by omega))
 have r2:Hid (Below w.heap.size w w1):=q2.trans (hB1.mono (by omega))
 clear q2 q3 q4 q5 q6 hB1
 go_wp2
 go_loopw [6] (fun v wr=>∃i:Nat,v= .int .i64 i∧i≤7∧Hid (WCells wr w.heap.size (fun j=>if j < i then inW s j else s j))∧Hid (WCells wr (w.heap.size+1) (fun _=>0))∧Hid (WFree wr w.heap.size)∧Hid (WFree wr (w.heap.size+1))∧Hid (Below w.heap.size w wr)) (fun v _=>7 - (intOf v).toNat)
 case atStart=>exact ⟨0,rfl,by omega,r3.out.congr (fun j hj=>by simp),r5.out,r4.out,r6.out,r2.out⟩
 case round=>
  obtain ⟨i,rfl,hi,hc,hc0,hf,hf0,hB⟩:=hrel
  by_cases hlt:i < 7
  ·have e1:wr.cell? ⟨w.heap.size,i,none⟩=some (.int .u64 (s i:Nat)):=by have:=hc.out i hlt; simpa using this
   have e2:=hf.out i
   have hand:=hid (yar (HS.out i hlt) (fullW_lt i))
   have done:∀W',W' =wr.setCell ⟨w.heap.size,i,none⟩ (.int .u64 (bits .and .u64 (s i:Nat) (ycq i:Nat)))→WCells W' w.heap.size (fun j=>if j < i+1 then inW s j else s j)∧WCells W' (w.heap.size+1) (fun _=>0)∧WFree W' w.heap.size∧WFree W' (w.heap.size+1)∧Below w.heap.size w W':=by
    rintro W' rfl
    rw [hand.out]
    refine ⟨(hc.out.set (v:=inW s i) hlt).congr (fun j hj=>?_),fun j hj=>(zzJ (w:=wr) (a:=⟨w.heap.size+1,j,none⟩) (Below.heap_setCell _ _ _ _ (by simp))).trans (hc0.out j hj),hf.out.set _ _,hf0.out.set _ _,yab hB.out (zG _)⟩
    by_cases e:j=i
    ·subst e; simp
    ·have:(j < i+1)= (j < i):=by simp; omega
     simp [e,this]
   have Done:=hid done
   clear done
   have hix:=fun W=>ygP ycq i hlt W
   clear hc hc0 hf hf0 hB
   go_wp2
   obtain ⟨d1,d2,d3,d4,d5⟩:=Done.out _ rfl
   exact ⟨⟨i+1,by go_num,by omega,d1,d2,d3,d4,d5⟩,by simp [intOf]; omega⟩
  ·obtain rfl:i=7:=by omega
   have hc':WCells wr w.heap.size (inW s):=hc.out.congr (fun j hj=>by simp [hj])
   obtain ⟨r0,r1,r2,r3,r4,r5,r6⟩:=hc'.all
   obtain ⟨z0,z1,z2,z3,z4,z5,z6⟩:=hc0.out.all
   have f0:=hf0.out 0
   have f1:=hf0.out 1
   have f2:=hf0.out 2
   have f3:=hf0.out 3
   have f4:=hf0.out 4
   have f5:=hf0.out 5
   have f6:=hf0.out 6
   clear hc hc0 hf hf0 hc'
   go_wp2
   refine bodyPost_ret (v:=wv (inW s)) (by simp [results,Tryz.results89,go_sem,z0,z1,z2,z3,z4,z5,z6]) rfl ⟨rfl,?_⟩
   exact yab (yab (yab (yab (yab (yab (yab hB.out (Nat.le_add_right _ _)) (Nat.le_add_right _ _)) (Nat.le_add_right _ _)) (Nat.le_add_right _ _)) (Nat.le_add_right _ _)) (Nat.le_add_right _ _)) (Nat.le_add_right _ _)
end
section
open Go.RowKit
def eqW (s t:Nat→Nat):Bool:=(List.range 7).all (fun i=>s i == t i)
theorem yhX (s t:Nat→Nat):eqW s t=true↔∀i,i < 7→s i=t i:=by
 rw [eqW,List.all_eq_true]
 simp
theorem part_wv (s:Nat→Nat) (i:Nat) (h:i < 7) (W:World):(part 24 #[.int .u64 (s 0:Nat), .int .u64 (s 1:Nat), .int .u64 (s 2:Nat), .int .u64 (s 3:Nat), .int .u64 (s 4:Nat), .int .u64 (s 5:Nat), .int .u64 (s 6:Nat)] (i * Tryz.prog.cellsOf 24)).run Tryz.prog W= .ok (.int .u64 (s i:Nat)) W:=by
 rw [show Tryz.prog.cellsOf 24=1 by kernel_rfl]
 rcases ye9 h with rfl | rfl | rfl | rfl | rfl | rfl | rfl
 all_goals
  simp [go_sem,part]
theorem yfm (s t:Nat→Nat) (W:World):(binOp .eql 25 (wv s) (wv t)).run Tryz.prog W= .ok (.bool (eqW s t)) W:=by
 obtain ⟨i0,hi0,hz0,hz1,hz2⟩:=info_parts yf9
 rw [run_eql_struct,show (10000:Nat)=9999+1 from rfl,run_equalIn_array W 9999 _ _ Tryz.underlying25 hi0,eqW]
 have hl:∀i∈List.range 7,i < 7:=fun i hi=>by simpa using hi
 generalize List.range 7=l at hl⊢
 have key:(Op.eqItems 9999 24 (Tryz.prog.cellsOf 24) #[.int .u64 (s 0:Nat), .int .u64 (s 1:Nat), .int .u64 (s 2:Nat), .int .u64 (s 3:Nat), .int .u64 (s 4:Nat), .int .u64 (s 5:Nat), .int .u64 (s 6:Nat)]
   #[.int .u64 (t 0:Nat), .int .u64 (t 1:Nat), .int .u64 (t 2:Nat), .int .u64 (t 3:Nat), .int .u64 (t 4:Nat), .int .u64 (t 5:Nat), .int .u64 (t 6:Nat)] l).run Tryz.prog W= .ok (l.all (fun i=>s i == t i)) W:=by
  induction l with
  | nil=>simp [Op.eqItems]
  | cons i l ih=>
    have hi:i < 7:=hl i (by simp)
    have pe:(Op.equalIn 9999 24 (.int .u64 (s i:Nat)) (.int .u64 (t i:Nat))).run Tryz.prog W= .ok ((s i:Int) == (t i:Int)) W:=by
     rw [show (9999:Nat)=9998+1 from rfl,run_equalIn_int W 9998 24 .u64 .u64 _ _ Tryz.underlying24]
    simp only [Op.eqItems,Sem.run_bind,part_wv s i hi W,part_wv t i hi W,pe,Result.andThen_ok,List.all_cons]
    have hb:((s i:Int) == (t i:Int))= (s i == t i):=by rw [zze]; simp; omega
    rw [hb]
    cases hc:(s i == t i)
    ·simp
    ·simp only [Bool.not_true,Bool.false_eq_true,if_false,zzo]
     exact ih fun j hj=>hl j (by simp [hj])
 rw [key]
 rfl
def mayB (n:Int):Bool:=decide (0≤n) && decide (n < 400)
theorem WMayN_any (n:Int) (w:World):Calls Tryz.prog 168 #[.int .i64 n] w fun e w'=>e= .returned (.bool (mayB n))∧w=w':=by
 unfold mayB
 by_cases h0:0≤n
 ·by_cases h1:n < 400
  ·go_enter Tryz.func168,Tryz.ntmps168
   go_wp2
   go_ret
   exact ⟨yaT (by rw [zze]; simp; omega),rfl⟩
  ·go_enter Tryz.func168,Tryz.ntmps168
   go_wp2
   go_ret
   exact ⟨yaT (by rw [zze]; simp; omega),rfl⟩
 ·go_enter Tryz.func168,Tryz.ntmps168
  go_wp2
  go_ret
  exact ⟨yaT (by rw [zze]; simp; omega),rfl⟩
abbrev BoxS (w:World) (s:Nat→Nat) (W:World):Prop:=
 W.cell? ⟨w.heap.size,0,none⟩=some (.int .u64 (s 0:Nat))∧W.cell? ⟨w.heap.size,1,none⟩=some (.int .u64 (s 1:Nat))∧W.cell? ⟨w.heap.size,2,none⟩=some (.int .u64 (s 2:Nat))∧W.cell? ⟨w.heap.size,3,none⟩=some (.int .u64 (s 3:Nat))∧
 W.cell? ⟨w.heap.size,4,none⟩=some (.int .u64 (s 4:Nat))∧W.cell? ⟨w.heap.size,5,none⟩=some (.int .u64 (s 5:Nat))∧W.cell? ⟨w.heap.size,6,none⟩=some (.int .u64 (s 6:Nat))∧Below w.heap.size w W∧w.heap.size < W.heap.size
theorem BoxS.keep {w W W':World} {s:Nat→Nat} (h:BoxS w s W) (hb:Below W.heap.size W W'):BoxS w s W':=by
 obtain ⟨h0,h1,h2,h3,h4,h5,h6,h7,h8⟩:=h
 exact ⟨(hb.cell (p:=⟨w.heap.size,0,none⟩) h8).trans h0,(hb.cell (p:=⟨w.heap.size,1,none⟩) h8).trans h1,(hb.cell (p:=⟨w.heap.size,2,none⟩) h8).trans h2,(hb.cell (p:=⟨w.heap.size,3,none⟩) h8).trans h3,
  (hb.cell (p:=⟨w.heap.size,4,none⟩) h8).trans h4,(hb.cell (p:=⟨w.heap.size,5,none⟩) h8).trans h5,(hb.cell (p:=⟨w.heap.size,6,none⟩) h8).trans h6,h7.trans (hb.mono (by omega)),zH h8 hb.size⟩
theorem WMay_any (s:Nat→Nat) (w:World) (hs:∀i,i < 7→s i < 18446744073709551616) :
  Calls Tryz.prog 43 #[wv s] w fun e w'=>e= .returned (.bool (eqW (inW s) s))∧Below w.heap.size w w':=by
 have c1:=hid (fun W=>yj3 s W hs)
 have heq:=fun W=>yfm (inW s) s W
 have hB0:Below w.heap.size w (w.alloc (.cells #[.int .u64 (s 0:Nat), .int .u64 (s 1:Nat), .int .u64 (s 2:Nat), .int .u64 (s 3:Nat), .int .u64 (s 4:Nat), .int .u64 (s 5:Nat), .int .u64 (s 6:Nat)] 25)):=yaa (Below.refl _ _) (zG _)
 have HS0:Hid (BoxS w s (w.alloc (.cells #[.int .u64 (s 0:Nat), .int .u64 (s 1:Nat), .int .u64 (s 2:Nat), .int .u64 (s 3:Nat), .int .u64 (s 4:Nat), .int .u64 (s 5:Nat), .int .u64 (s 6:Nat)] 25)).drew):=by
  obtain ⟨r0,r1,r2,r3,r4,r5,r6⟩:=(ybN w s 25).all
  exact ⟨r0,r1,r2,r3,r4,r5,r6,hB0.drew,by simp [go_sem]⟩
 have c2:=hid (fun W (h:BoxS w s W)=>keep_of (c1.out W) (fun _=>h.keep))
 clear hB0
 go_enter Tryz.func43,Tryz.ntmps43
 go_wp2_with fail
 go_region_held3 (fun w'=>BoxS w s w') (first | exact HS0.out | assumption)
  (first
    | (go_at_call 89; refine (c2.out _ (by assumption)).mono ?_; rintro e w' ⟨rfl,hS⟩))
 go_wp2
 go_ret
 exact ⟨rfl,(‹BoxS w s _›).2.2.2.2.2.2.2.1⟩
def bitW (s:Nat→Nat) (k:Nat):Bool:=(s (k / 64)).testBit (k % 64)
def hasW (s:Nat→Nat) (n:Int):Bool:=mayB n && bitW s n.toNat
theorem WHas_any (s:Nat→Nat) (n:Int) (w:World) (hs:∀i,i < 7→s i < 18446744073709551616) :
  Calls Tryz.prog 139 #[wv s, .int .i64 n] w fun e w'=>e= .returned (.bool (hasW s n))∧Below w.heap.size w w':=by
 have c1:=hid (fun W=>WMayN_any n W)
 unfold hasW
 by_cases hb:mayB n=true
 ·rw [hb] at c1⊢
  rw [mayB] at hb
  simp at hb
  obtain ⟨k,rfl⟩:∃k:Nat,n=k:=⟨n.toNat,by omega⟩
  have hk:k < 400:=by omega
  have hc:=ybN w s 25
  have e1:=hc (k / 64) (by omega)
  have c2:=hid (fun W=>ydg (s (k / 64)) ((k % 64:Nat):Int) W (hs _ (by omega)))
  rw [yds,show ((k % 64:Nat):Int)= (k:Int) % 64 by simp] at c2
  have hlt:k / 64 < 7:=by omega
  clear hb hc
  go_enter Tryz.func139,Tryz.ntmps139
  go_wp2_with fail
  refine (c1.out _).mono ?_
  rintro e w' ⟨rfl,rfl⟩
  go_wp2_with fail
  refine (c2.out _).mono ?_
  rintro e w' ⟨rfl,rfl⟩
  go_wp2
  go_ret
  exact ⟨by simp [bitW],yaa (Below.refl _ _) (zG _)⟩
 ·have hb':mayB n=false:=by simpa using hb
  rw [hb'] at c1⊢
  clear hb hb'
  go_enter Tryz.func139,Tryz.ntmps139
  go_wp2_with fail
  refine (c1.out _).mono ?_
  rintro e w' ⟨rfl,rfl⟩
  go_wp2
  go_ret
  exact ⟨rfl,yaa (Below.refl _ _) (zG _)⟩
theorem ye1 (s:Nat→Nat) (n:Int) (w:World) (hs:∀i,i < 7→s i < 18446744073709551616) :
  Calls Tryz.prog 17 #[wv s, .int .i64 n] w fun e w'=>e= .returned (.bool (hasW s n))∧Below w.heap.size w w':=by
 unfold hasW
 by_cases h0:0≤n
 ·by_cases h1:n < 400
  ·have hb:mayB n=true:=by simp [mayB]; omega
   rw [hb]
   obtain ⟨k,rfl⟩:∃k:Nat,n=k:=⟨n.toNat,by omega⟩
   have hk:k < 400:=by omega
   have hc:=ybN w s 25
   have e1:=hc (k / 64) (by omega)
   have c2:=hid (fun W=>yc0 (s (k / 64)) ((k % 64:Nat):Int) W (hs _ (by omega)))
   rw [yds,show ((k % 64:Nat):Int)= (k:Int) % 64 by simp] at c2
   have hm7:k / 64 % 7=k / 64:=by omega
   have hlt:k / 64 < 7:=by omega
   have e1':(w.alloc (.cells #[.int .u64 (s 0:Nat), .int .u64 (s 1:Nat), .int .u64 (s 2:Nat), .int .u64 (s 3:Nat), .int .u64 (s 4:Nat), .int .u64 (s 5:Nat), .int .u64 (s 6:Nat)] 25)).cell? ⟨w.heap.size,k / 64 % 7,none⟩=some (.int .u64 (s (k / 64):Nat)):=by rw [hm7]; exact e1
   have hlt':k / 64 % 7 < 7:=by omega
   have hkI:(k:Int) < 400:=by omega
   have Hk:=hid hk
   clear hc hb h0 h1 hm7 hk e1 hlt
   by_cases hk0:0 < k
   ·go_enter Tryz.func17,Tryz.ntmps17
    go_wp2_with fail
    refine (c2.out _).mono ?_
    rintro e w' ⟨rfl,rfl⟩
    go_wp2
    go_ret
    exact ⟨by simp [bitW],yaa (Below.refl _ _) (zG _)⟩
   ·obtain rfl:k=0:=by omega
    have c3:Hid (∀W,Calls Tryz.prog 16 #[.int .u64 (s 0:Nat), .int .i64 0] W fun e w'=>e= .returned (.bool ((s 0).testBit 0))∧W=w'):=fun W=>yc0 (s 0) 0 W (hs 0 (by omega))
    have f1:=(ybN w s 25) 0 (by omega)
    clear e1' hlt' c2 hkI hk0
    go_enter Tryz.func17,Tryz.ntmps17
    go_wp2_with fail
    refine (c3.out _).mono ?_
    rintro e w' ⟨rfl,rfl⟩
    go_wp2
    go_ret
    exact ⟨by simp [bitW],yaa (Below.refl _ _) (zG _)⟩
  ·have hb:mayB n=false:=by simp [mayB]; omega
   rw [hb]
   clear hb
   go_enter Tryz.func17,Tryz.ntmps17
   go_wp2
   go_ret
   exact ⟨rfl,yaa (Below.refl _ _) (zG _)⟩
 ·have hb:mayB n=false:=by simp [mayB]; omega
  rw [hb]
  clear hb
  go_enter Tryz.func17,Tryz.ntmps17
  go_wp2
  go_ret
  exact ⟨rfl,yaa (Below.refl _ _) (zG _)⟩
def lenW (t:Nat→Nat):Nat→Nat
 | 0=>0
 | n+1=>lenW t n+Lib.popAux 64 (t n)
theorem lenW_succ (t:Nat→Nat) (n:Nat):lenW t (n+1)=lenW t n+Lib.popAux 64 (t n):=rfl
theorem lenW_le (t:Nat→Nat):∀n,lenW t n≤64 * n
 | 0=>zG _
 | n+1=>by
   have:=lenW_le t n
   have h:Lib.popAux 64 (t n)≤64:=by rw [←ydK]; exact yc8 _ _
   rw [lenW]; omega
end
end Go.Proofs.YtkpgfmonhfnhdaaGreatDoor
