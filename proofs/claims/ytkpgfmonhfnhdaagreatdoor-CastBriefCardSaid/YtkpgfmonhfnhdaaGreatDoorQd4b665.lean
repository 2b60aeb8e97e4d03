/-
  What math/bits.TrailingZeros64 computes where its table is laid; mask.Least and mask.Next.
  ferialaw02.MaskSpans answers true for every list, span, mask.
  math/bits.OnesCount64 computes how many bits a number has.
  math/bits.OnesCount64 and mask.Len compute how many numbers a mask has.
  feriaref02.List makes the list of a mask's numbers.
-/
import Derived.Test.YtkpgfmonhfnhdaaGreatDoorQ060903
import Derived.Lib.TrailingZeros
import Derived.Deep.RegionHeld3
import Derived.Lib.BitFns
namespace Go.Proofs.YtkpgfmonhfnhdaaGreatDoor
set_option linter.unusedVariables false
section
open Go.RowKit
def Tab (w:World):Prop:=0 < w.heap.size∧∀i,i < 64→w.cell? ⟨0,i,none⟩=some (.int .u8 ((Lib.deBruijn64tab.getD i 0:Nat):Int))
theorem Tab.below {w w':World} {B:Nat} (h:Tab w) (hb:Below B w w') (hB:0 < B):Tab w':=
 ⟨zH h.1 hb.size,fun i hi=>(hb.cell (p:=⟨0,i,none⟩) hB).trans (h.2 i hi)⟩
theorem Tab.later {w w':World} (h:Tab w) (hb:Below w.heap.size w w'):Tab w':=h.below hb h.1
def lsb (x:Nat):Nat:=Lib.ctz 64 x
theorem yeh {x:Nat} (h0:x≠0) (hx:x < 18446744073709551616):lsb x < 64∧x.testBit (lsb x)=true∧∀i,i < lsb x→x.testBit i=false:=by
 obtain ⟨m,hm,hk⟩:=Lib.ctzFrom_spec 64 x (by omega) hx
 have e:lsb x=Lib.ctzFrom 64 x:=by simp [lsb,Lib.ctz,h0]
 rw [e]
 obtain ⟨k,hk2⟩:∃k,Lib.ctzFrom 64 x=k:=⟨_,rfl⟩
 rw [hk2] at hm hk⊢
 subst hm
 refine ⟨hk,?_,fun i hi=>?_⟩
 ·rw [Nat.mul_comm,Nat.testBit_mul_two_pow]; simp
 ·rw [Nat.mul_comm,Nat.testBit_mul_two_pow]; simp; omega
set_option maxHeartbeats 800000 in
theorem Tz_any (x:Nat) (w:World) (h0:x≠0) (hx:x < 18446744073709551616) (hT:Tab w) :
  Calls Tryz.prog 118 #[.int .u64 x] w fun e w'=>e= .returned (.int .i64 (lsb x))∧w=w':=by
 obtain ⟨hl,hk⟩:=Lib.lowest_bit 64 x h0 hx
 have hk64:lsb x < 64:=hk
 obtain ⟨hd1,hd2⟩:=Lib.deBruijn64_at _ hk
 obtain ⟨q,hq⟩:∃q,2 ^ Lib.ctz 64 x * 285870213051353865 % 18446744073709551616 / 288230376151711744=q:=⟨_,rfl⟩
 rw [hq] at hd1 hd2
 have hcell:=hT.2 q hd1
 rw [hd2] at hcell
 have hz:((x:Int) == 0)=false:=by simp; omega
 have hneg:IntKind.u64.wrap (-(x:Int))= ((18446744073709551616 - x:Nat):Int):=by rw [IntKind.wrap_u64]; omega
 have hand:=yat hx (b:=18446744073709551616 - x) (by omega)
 have hidx:IntKind.u64.wrap (bits .and .u64 (x:Int) (IntKind.u64.wrap (-(x:Int))) * 285870213051353865) / 288230376151711744= (q:Int):=by
  rw [hneg,hand,show (18446744073709551616:Nat) - x=2 ^ 64 - x from rfl,hl,IntKind.wrap_u64,←hq]
  generalize 2 ^ Lib.ctz 64 x=y
  omega
 have hk2:Lib.ctz 64 x < 64:=hk
 clear hneg hand hl hd2 hq hT hk h0
 go_enter Tryz.func118,Tryz.ntmps118
 go_wp2
 go_ret
 exact ⟨rfl,rfl⟩
def ybS (m:Nat):Int:=if m=0 then 0 else (lsb m:Int)
def ybf (m:Nat):Bool:=decide (m≠0)
set_option maxHeartbeats 400000 in
theorem ycS (m:Nat) (w:World) (hm:m < 18446744073709551616) (hT:Tab w) :
  Calls Tryz.prog 68 #[.int .u64 m] w fun e w'=>e= .returned (.tuple #[.int .i64 (ybS m), .bool (ybf m)])∧w=w':=by
 by_cases h0:m=0
 ·subst h0
  go_enter Tryz.func68,Tryz.ntmps68
  go_wp2
  go_ret2
  exact ⟨rfl,rfl⟩
 ·have h1:Hid (ybS m= (lsb m:Int)):=if_neg h0
  have h2:Hid (ybf m=true):=by show ybf m=true; simp [ybf,h0]
  have hz:((m:Int) == 0)=false:=by simp; omega
  have Hc:=hid (Tz_any m w h0 hm hT)
  clear h0
  go_enter Tryz.func68,Tryz.ntmps68
  go_wp2_with (go_at_call 118; refine Hc.out.mono ?_; rintro e w' ⟨rfl,rfl⟩)
  go_ret2
  rw [h1.out,h2.out]
  exact ⟨rfl,rfl⟩
def yf0 (m n:Nat):Nat:=m / 2 ^ n * 2 ^ n
theorem yfZ {m n:Nat} (hm:m < 18446744073709551616):yf0 m n < 18446744073709551616:=Nat.lt_of_le_of_lt (Nat.div_mul_le_self _ _) hm
theorem yjq (m n i:Nat):(yf0 m n).testBit i= (decide (n≤i) && m.testBit i):=by
 rw [yf0,Nat.testBit_mul_two_pow,Nat.testBit_div_two_pow]
 by_cases h:n≤i
 ·simp [h]
 ·simp [h]
def ybh (m:Nat) (n:Int):Nat:=if n < 0 then m else if 63≤n then 0 else yf0 m (n.toNat+1)
theorem aboveM_lt {m:Nat} {n:Int} (hm:m < 18446744073709551616):ybh m n < 18446744073709551616:=by
 unfold ybh; split
 ·exact hm
 ·split
  ·omega
  ·exact yfZ hm
theorem ydi {m:Nat} (n:Int) (i:Nat) (hm:m < 18446744073709551616):(ybh m n).testBit i= (decide (n < (i:Int)) && m.testBit i):=by
 unfold ybh; split
 ·simp; omega
 ·split
  ·by_cases h:64≤i
   ·rw [ycn hm h]; simp
   ·simp; omega
  ·rw [yjq]
   congr 1
   simp; omega
set_option maxHeartbeats 400000 in
theorem Next_any (m:Nat) (n:Int) (w:World) (hm:m < 18446744073709551616) (hT:Tab w) :
  Calls Tryz.prog 170 #[.int .u64 m, .int .i64 n] w fun e w'=>e= .returned (.tuple #[.int .i64 (ybS (ybh m n)), .bool (ybf (ybh m n))])∧w=w':=by
 by_cases h0:n < 0
 ·have h1:Hid (ybh m n=m):=if_pos h0
  rw [h1.out]
  have Hc:=hid (ycS m w hm hT)
  go_enter Tryz.func170,Tryz.ntmps170
  go_wp2_with (go_at_call 68; refine Hc.out.mono ?_; rintro e w' ⟨rfl,rfl⟩)
  go_ret2
  exact ⟨rfl,rfl⟩
 by_cases h1:63≤n
 ·have h2:Hid (ybh m n=0):=by show ybh m n=0; rw [ybh,if_neg h0,if_pos h1]
  rw [h2.out]
  go_enter Tryz.func170,Tryz.ntmps170
  go_wp2
  go_ret2
  exact ⟨rfl,rfl⟩
 ·obtain ⟨k,rfl⟩:=Int.eq_ofNat_of_zero_le (by omega:0≤n)
  have h2:ybh m (k:Int)=yf0 m (k+1):=by rw [ybh,if_neg h0,if_neg h1]; rfl
  rw [h2]
  have Hc:=hid (ycS (yf0 m (k+1)) w (yfZ hm) hT)
  have hw:IntKind.u64.wrap ((m:Int) / 2 ^ (k+1) * 2 ^ (k+1))= ((yf0 m (k+1):Nat):Int):=by
   have e:((m:Int) / 2 ^ (k+1) * 2 ^ (k+1))= ((yf0 m (k+1):Nat):Int):=by simp [yf0]
   rw [e]; exact ybc (yfZ hm)
  clear h2
  go_enter Tryz.func170,Tryz.ntmps170
  go_wp2_with fail
  refine Hc.out.mono ?_
  rintro e w' ⟨rfl,rfl⟩
  go_wp2
  go_ret2
  exact ⟨rfl,rfl⟩
theorem ybU {a b:Nat} (ha:a < 18446744073709551616) (hb:b < 18446744073709551616):bits .andNot .u64 (a:Int) (b:Int)= ((mk (fun k=>a.testBit k && !b.testBit k):Nat):Int):=by
 show IntKind.u64.wrap ((BitVec.ofInt 64 (a:Int) &&& ~~~BitVec.ofInt 64 (b:Int)).toNat:Int)= _
 have hl:(BitVec.ofInt 64 (a:Int) &&& ~~~BitVec.ofInt 64 (b:Int)).toNat < 18446744073709551616:=BitVec.isLt _
 rw [ybc hl]
 congr 1
 refine ydv hl (fun i hi=>?_)
 rw [BitVec.testBit_toNat,BitVec.getLsbD_and,BitVec.getLsbD_not,←BitVec.testBit_toNat,←BitVec.testBit_toNat,yaT ha,yaT hb]
 simp [hi]
end
section
open Go.RowKit
abbrev SpS (w:World) (x0 x1 x2:Int) (W:World):Prop:=
 W.cell? ⟨w.heap.size,0,none⟩=some (.int .i64 x0)∧W.cell? ⟨w.heap.size,1,none⟩=some (.int .i64 x1)∧W.cell? ⟨w.heap.size,2,none⟩=some (.int .i64 x2)∧Below w.heap.size w W∧w.heap.size < W.heap.size
theorem SpS.keep {w W W':World} {x0 x1 x2:Int} (h:SpS w x0 x1 x2 W) (hb:Below W.heap.size W W'):SpS w x0 x1 x2 W':=by
 obtain ⟨h1,h2,h3,h4,h5⟩:=h
 exact ⟨(hb.cell (p:=⟨w.heap.size,0,none⟩) h5).trans h1,(hb.cell (p:=⟨w.heap.size,1,none⟩) h5).trans h2,(hb.cell (p:=⟨w.heap.size,2,none⟩) h5).trans h3,h4.trans (hb.mono (Nat.le_of_lt h5)),zH h5 hb.size⟩
theorem keep_of {P:Program} {f:FuncId} {args:Array Value} {W:World} {v:Value} {S:World→Prop} (h:Calls P f args W fun e w'=>e= .returned v∧Below W.heap.size W w') (hk:∀w',Below W.heap.size W w'→S w') :
  Calls P f args W fun e w'=>e= .returned v∧S w':=h.mono fun e w' ⟨h1,h2⟩=>⟨h1,hk w' h2⟩
theorem ycc {P:Program} {f:FuncId} {args:Array Value} {W:World} {v:Value} (h:Calls P f args W fun e w'=>e= .returned v∧W=w') :
  Calls P f args W fun e w'=>e= .returned v∧Below W.heap.size W w':=h.mono fun e w' ⟨h1,h2⟩=>⟨h1,by rw [h2]; exact Below.refl _ _⟩
end
section
open Go.RowKit
theorem ycP (x y:Nat):x &&& y= (x % 256 &&& y % 256)+256 * (x / 256 &&& y / 256):=by
 have h1:=Nat.and_mod_two_pow (a:=x) (b:=y) (n:=8)
 have h2:=Nat.and_div_two_pow (a:=x) (b:=y) (n:=8)
 simp only [show (2:Nat) ^ 8=256 from rfl] at h1 h2
 rw [←h1,←h2]; omega
def ya3 (c:Nat):Nat→Nat
 | 0=>0
 | n+1=>c+256 * ya3 c n
def sw1 (n x:Nat):Nat:=(x / 2 &&& ya3 0x55 n)+(x &&& ya3 0x55 n)
def sw2 (n x:Nat):Nat:=(x / 4 &&& ya3 0x33 n)+(x &&& ya3 0x33 n)
def sw3 (n x:Nat):Nat:=(x / 16+x) &&& ya3 0x0f n
theorem shr1:∀a:Fin 256,∀r:Fin 2,((a.val / 2+r.val * 128) &&& 0x55)= (a.val / 2 &&& 0x55):=by decide +kernel
theorem shr2:∀a:Fin 256,∀r:Fin 4,((a.val / 4+r.val * 64) &&& 0x33)= (a.val / 4 &&& 0x33):=by decide +kernel
theorem yh4 (n a b:Nat) (ha:a < 256):sw1 (n+1) (a+256 * b)= (((a / 2 &&& 0x55)+(a &&& 0x55))+256 * sw1 n b):=by
 unfold sw1
 rw [ycP ((a+256 * b) / 2),ycP (a+256 * b)]
 simp only [ya3]
 have e1:(0x55+256 * ya3 0x55 n) % 256=0x55:=by omega
 have e2:(0x55+256 * ya3 0x55 n) / 256=ya3 0x55 n:=by omega
 have e3:(a+256 * b) / 2 % 256=a / 2+b % 2 * 128:=by omega
 have e4:(a+256 * b) / 2 / 256=b / 2:=by omega
 have e5:(a+256 * b) % 256=a:=by omega
 have e6:(a+256 * b) / 256=b:=by omega
 rw [e1,e2,e3,e4,e5,e6]
 have h:=shr1 ⟨a,ha⟩ ⟨b % 2,by omega⟩
 simp only at h
 rw [h]
 omega
theorem yh3 (n a b:Nat) (ha:a < 256):sw2 (n+1) (a+256 * b)= (((a / 4 &&& 0x33)+(a &&& 0x33))+256 * sw2 n b):=by
 unfold sw2
 rw [ycP ((a+256 * b) / 4),ycP (a+256 * b)]
 simp only [ya3]
 have e1:(0x33+256 * ya3 0x33 n) % 256=0x33:=by omega
 have e2:(0x33+256 * ya3 0x33 n) / 256=ya3 0x33 n:=by omega
 have e3:(a+256 * b) / 4 % 256=a / 4+b % 4 * 64:=by omega
 have e4:(a+256 * b) / 4 / 256=b / 4:=by omega
 have e5:(a+256 * b) % 256=a:=by omega
 have e6:(a+256 * b) / 256=b:=by omega
 rw [e1,e2,e3,e4,e5,e6]
 have h:=shr2 ⟨a,ha⟩ ⟨b % 4,by omega⟩
 simp only at h
 rw [h]
 omega
theorem shr3:∀a:Fin 256,∀r:Fin 16,a.val / 16≤4→a.val % 16≤4→((a.val / 16+r.val * 16+a.val) % 256 &&& 0x0f)= ((a.val / 16+a.val) &&& 0x0f):=by decide +kernel
theorem sw3_cons (n a b:Nat) (ha:a < 256) (h1:a / 16≤4) (h2:a % 16≤4) (h3:b % 16≤4):sw3 (n+1) (a+256 * b)= (((a / 16+a) &&& 0x0f)+256 * sw3 n b):=by
 unfold sw3
 rw [ycP]
 simp only [ya3]
 have e1:(0x0f+256 * ya3 0x0f n) % 256=0x0f:=by omega
 have e2:(0x0f+256 * ya3 0x0f n) / 256=ya3 0x0f n:=by omega
 have e3:((a+256 * b) / 16+(a+256 * b)) % 256= (a / 16+b % 16 * 16+a) % 256:=by omega
 have e4:((a+256 * b) / 16+(a+256 * b)) / 256=b / 16+b:=by omega
 rw [e1,e2,e3,e4]
 have h:=shr3 ⟨a,ha⟩ ⟨b % 16,by omega⟩ h1 h2
 simp only at h
 rw [h]
def yga (a:Nat):Nat:=(a / 2 &&& 0x55)+(a &&& 0x55)
def yjz (a:Nat):Nat:=(a / 4 &&& 0x33)+(a &&& 0x33)
def byte3 (a:Nat):Nat:=(a / 16+a) &&& 0x0f
theorem ydU:∀a:Fin 256,yga a.val < 256∧yjz (yga a.val) < 256∧yjz (yga a.val) / 16≤4∧yjz (yga a.val) % 16≤4∧byte3 (yjz (yga a.val))=Lib.popAux 8 a.val∧Lib.popAux 8 a.val≤8:=by decide +kernel
def pops:Nat→Nat→Nat
 | 0,_=>0
 | n+1,x=>Lib.popAux 8 (x % 256)+256 * pops n (x / 256)
theorem sw12_low (n x:Nat) (hn:1≤n):sw2 n (sw1 n x) % 16≤4:=by
 obtain ⟨k,rfl⟩:∃k,n=k+1:=⟨n - 1,by omega⟩
 have e:x=x % 256+256 * (x / 256):=by omega
 obtain ⟨f1,f2,f3,f4,_⟩:=ydU ⟨x % 256,by omega⟩
 simp only at f1 f2 f3 f4
 rw [e,yh4 _ _ _ (by omega)]
 show sw2 (k+1) (yga (x % 256)+256 * sw1 k (x / 256)) % 16≤4
 rw [yh3 _ _ _ f1]
 show (yjz (yga (x % 256))+256 * sw2 k (sw1 k (x / 256))) % 16≤4
 omega
theorem sw_zero (x:Nat):sw2 0 (sw1 0 x)=0:=by simp [sw1,sw2,ya3]
theorem sw_all:∀n x:Nat,sw3 n (sw2 n (sw1 n x))=pops n x
 | 0,x=>by simp [sw3,ya3,pops]
 | n+1,x=>by
   obtain ⟨f1,f2,f3,f4,f5,f6⟩:=ydU ⟨x % 256,by omega⟩
   simp only at f1 f2 f3 f4 f5
   have e:x=x % 256+256 * (x / 256):=by omega
   have hl:sw2 n (sw1 n (x / 256)) % 16≤4:=by
    by_cases h:1≤n
    ·exact sw12_low n _ h
    ·obtain rfl:n=0:=by omega
     rw [sw_zero]; omega
   rw [pops,←f5,←sw_all n (x / 256)]
   conv=>lhs; rw [e]
   rw [yh4 _ _ _ (by omega)]
   show sw3 (n+1) (sw2 (n+1) (yga (x % 256)+256 * sw1 n (x / 256)))= _
   rw [yh3 _ _ _ f1]
   show sw3 (n+1) (yjz (yga (x % 256))+256 * sw2 n (sw1 n (x / 256)))= _
   rw [sw3_cons _ _ _ f2 f3 f4 hl]
   rfl
theorem yfc:∀n x:Nat,Lib.popAux n x=Lib.popAux n (x % 2 ^ n)
 | 0,x=>rfl
 | n+1,x=>by
   rw [Lib.popAux,Lib.popAux,yfc n (x / 2),Nat.pow_succ]
   have h1:x % (2 ^ n * 2) % 2=x % 2:=Nat.mod_mod_of_dvd _ (Nat.dvd_mul_left 2 _)
   have h2:x % (2 ^ n * 2) / 2=x / 2 % 2 ^ n:=by rw [Nat.mul_comm,Nat.mod_mul_right_div_self]
   rw [h1,h2]
theorem ydO:∀m n x:Nat,Lib.popAux (m+n) x=Lib.popAux m x+Lib.popAux n (x / 2 ^ m)
 | 0,n,x=>by simp [Lib.popAux]
 | m+1,n,x=>by
   rw [show m+1+n= (m+n)+1 by omega,Lib.popAux,Lib.popAux,ydO m n,Nat.div_div_eq_div_mul,Nat.pow_succ,Nat.mul_comm 2,Nat.add_assoc]
def popN (n x:Nat):Nat:=match n with
 | 0=>0
 | n+1=>Lib.popAux 8 (x % 256)+popN n (x / 256)
theorem popN_eq:∀n x:Nat,popN n x=Lib.popAux (8 * n) x
 | 0,x=>rfl
 | n+1,x=>by
   rw [popN,popN_eq n,show 8 * (n+1)=8+8 * n by omega,ydO 8,←yfc 8 x]
theorem yd7 (x:Nat):Lib.popAux 8 (x % 256)≤8:=(ydU ⟨x % 256,by omega⟩).2.2.2.2.2
theorem fold_pops (x:Nat):pops 8 x < 651061555542690057∧
  (pops 8 x+pops 8 x / 256+(pops 8 x+pops 8 x / 256) / 65536+(pops 8 x+pops 8 x / 256+(pops 8 x+pops 8 x / 256) / 65536) / 4294967296) % 128=Lib.popAux 64 x:=by
 rw [←popN_eq 8 x]
 simp only [pops,popN]
 have h0:=yd7 x
 have h1:=yd7 (x / 256)
 have h2:=yd7 (x / 256 / 256)
 have h3:=yd7 (x / 256 / 256 / 256)
 have h4:=yd7 (x / 256 / 256 / 256 / 256)
 have h5:=yd7 (x / 256 / 256 / 256 / 256 / 256)
 have h6:=yd7 (x / 256 / 256 / 256 / 256 / 256 / 256)
 have h7:=yd7 (x / 256 / 256 / 256 / 256 / 256 / 256 / 256)
 generalize Lib.popAux 8 (x % 256)=p0 at *
 generalize Lib.popAux 8 (x / 256 % 256)=p1 at *
 generalize Lib.popAux 8 (x / 256 / 256 % 256)=p2 at *
 generalize Lib.popAux 8 (x / 256 / 256 / 256 % 256)=p3 at *
 generalize Lib.popAux 8 (x / 256 / 256 / 256 / 256 % 256)=p4 at *
 generalize Lib.popAux 8 (x / 256 / 256 / 256 / 256 / 256 % 256)=p5 at *
 generalize Lib.popAux 8 (x / 256 / 256 / 256 / 256 / 256 / 256 % 256)=p6 at *
 generalize Lib.popAux 8 (x / 256 / 256 / 256 / 256 / 256 / 256 / 256 % 256)=p7 at *
 clear x
 refine ⟨by omega,?_⟩
 obtain ⟨t,ht⟩:∃t,p0+256 * (p1+256 * (p2+256 * (p3+256 * (p4+256 * (p5+256 * (p6+256 * (p7+256 * 0)))))))=t:=⟨_,rfl⟩
 rw [ht]
 have a1:t / 256=p1+256 * (p2+256 * (p3+256 * (p4+256 * (p5+256 * (p6+256 * p7))))):=by omega
 obtain ⟨u,hu⟩:∃u,t+t / 256=u:=⟨_,rfl⟩
 have a2:u= (p0+p1)+256 * (p1+p2)+65536 * ((p2+p3)+256 * (p3+p4)+65536 * ((p4+p5)+256 * (p5+p6)+65536 * ((p6+p7)+256 * p7))):=by omega
 rw [hu]
 have a3:u / 65536= (p2+p3)+256 * (p3+p4)+65536 * ((p4+p5)+256 * (p5+p6)+65536 * ((p6+p7)+256 * p7)):=by omega
 obtain ⟨v,hv⟩:∃v,u+u / 65536=v:=⟨_,rfl⟩
 rw [hv]
 have a4:v= ((p0+p1+p2+p3)+256 * (p1+p2+p3+p4)+65536 * ((p2+p3+p4+p5)+256 * (p3+p4+p5+p6)))+4294967296 * ((p4+p5+p6+p7)+256 * (p5+p6+p7)+65536 * ((p6+p7)+256 * p7)):=by omega
 clear ht a1 hu a2 a3 hv
 have a5:v / 4294967296= (p4+p5+p6+p7)+256 * (p5+p6+p7)+65536 * ((p6+p7)+256 * p7):=by omega
 rw [a5,a4]
 have a6:(p0+p1+p2+p3)+256 * (p1+p2+p3+p4)+65536 * ((p2+p3+p4+p5)+256 * (p3+p4+p5+p6))+4294967296 * ((p4+p5+p6+p7)+256 * (p5+p6+p7)+65536 * ((p6+p7)+256 * p7))+((p4+p5+p6+p7)+256 * (p5+p6+p7)+65536 * ((p6+p7)+256 * p7))
   = (p0+(p1+(p2+(p3+(p4+(p5+(p6+p7)))))))+128 * (2 * (p1+p2+p3+p4)+512 * ((p2+p3+p4+p5)+256 * (p3+p4+p5+p6))+33554432 * ((p4+p5+p6+p7)+256 * (p5+p6+p7)+65536 * ((p6+p7)+256 * p7))+2 * (p5+p6+p7)+512 * ((p6+p7)+256 * p7)):=by omega
 rw [a6,Nat.add_mul_mod_self_left]
 exact Nat.mod_eq_of_lt (by omega)
end
section
open Go.RowKit
theorem yck:ya3 0x55 8=6148914691236517205∧ya3 0x33 8=3689348814741910323∧ya3 0x0f 8=1085102592571150095:=by decide
theorem ycO (x c:Nat):x &&& c≤c:=Nat.and_le_right
theorem pop_e1 (x:Nat) (hx:x < 18446744073709551616):IntKind.u64.wrap (bits .and .u64 ((x:Int) / 2) 6148914691236517205+bits .and .u64 (x:Int) 6148914691236517205)= ((sw1 8 x:Nat):Int):=by
 have e:((x:Int) / 2)= ((x / 2:Nat):Int):=by simp
 have h1:=yat (a:=x / 2) (b:=6148914691236517205) (by omega) (by omega)
 have h2:=yat (a:=x) (b:=6148914691236517205) hx (by omega)
 have l1:=ycO (x / 2) 6148914691236517205
 have l2:=ycO x 6148914691236517205
 rw [e,show (6148914691236517205:Int)= ((6148914691236517205:Nat):Int) from rfl,h1,h2,←Int.natCast_add,ybc (by omega),sw1,yck.1]
theorem pop_e2 (x:Nat) (hx:x < 18446744073709551616):IntKind.u64.wrap (bits .and .u64 ((x:Int) / 4) 3689348814741910323+bits .and .u64 (x:Int) 3689348814741910323)= ((sw2 8 x:Nat):Int):=by
 have e:((x:Int) / 4)= ((x / 4:Nat):Int):=by simp
 have h1:=yat (a:=x / 4) (b:=3689348814741910323) (by omega) (by omega)
 have h2:=yat (a:=x) (b:=3689348814741910323) hx (by omega)
 have l1:=ycO (x / 4) 3689348814741910323
 have l2:=ycO x 3689348814741910323
 rw [e,show (3689348814741910323:Int)= ((3689348814741910323:Nat):Int) from rfl,h1,h2,←Int.natCast_add,ybc (by omega),sw2,yck.2.1]
theorem pop_e3 (x:Nat) (hx:x≤7378697629483820646):bits .and .u64 (IntKind.u64.wrap ((x:Int) / 16+(x:Int))) 1085102592571150095= ((sw3 8 x:Nat):Int):=by
 have e:((x:Int) / 16)= ((x / 16:Nat):Int):=by simp
 have h1:=yat (a:=x / 16+x) (b:=1085102592571150095) (by omega) (by omega)
 rw [e,←Int.natCast_add,ybc (by omega),show (1085102592571150095:Int)= ((1085102592571150095:Nat):Int) from rfl,h1,sw3,yck.2.2]
theorem pop_e4 (x k:Nat) (c:Int) (hc:c= (k:Int)) (hx:x≤9223372036854775807):IntKind.u64.wrap ((x:Int)+(x:Int) / c)= ((x+x / k:Nat):Int):=by
 subst hc
 have e:((x:Int) / (k:Int))= ((x / k:Nat):Int):=by simp
 have:x / k≤x:=Nat.div_le_self _ _
 rw [e,←Int.natCast_add,ybc (by omega)]
theorem pop_e7 (x:Nat) (hx:x≤9223372036854775807):bits .and .i64 (x:Int) 127= ((x % 128:Nat):Int):=by
 show IntKind.i64.wrap ((BitVec.ofInt 64 (x:Int) &&& BitVec.ofInt 64 (127:Int)).toNat:Int)= _
 rw [BitVec.toNat_and,yaT (by omega),show (127:Int)= ((127:Nat):Int) from rfl,yaT (by omega),show (127:Nat)=2 ^ 7 - 1 from rfl,Nat.and_two_pow_sub_one_eq_mod]
 exact IntWalk.i64_in _ (by omega)
set_option maxRecDepth 100000 in
theorem Ones_any (x:Nat) (w:World) (hx:x < 18446744073709551616):Calls Tryz.prog 151 #[.int .u64 x] w fun e w'=>e= .returned (.int .i64 (Lib.popAux 64 x:Nat))∧w=w':=by
 go_enter Tryz.func151,Tryz.ntmps151
 go_wp2_with fail
 refine bodyPost_ret (v:= .int .i64 (Lib.popAux 64 x:Nat)) ?_ rfl ⟨rfl,rfl⟩
 simp [results,Tryz.results151,go_sem]
 have a1:sw1 8 x≤12297829382473034410:=by unfold sw1; rw [yck.1]; have:=ycO (x / 2) 6148914691236517205; have:=ycO x 6148914691236517205; omega
 have a2:sw2 8 (sw1 8 x)≤7378697629483820646:=by unfold sw2; rw [yck.2.1]; have:=ycO (sw1 8 x / 4) 3689348814741910323; have:=ycO (sw1 8 x) 3689348814741910323; omega
 obtain ⟨f1,f2⟩:=fold_pops x
 rw [pop_e1 x hx,pop_e2 _ (by omega),pop_e3 _ a2,sw_all,pop_e4 _ 256 256 rfl (by omega),pop_e4 _ 65536 65536 rfl (by omega),pop_e4 _ 4294967296 4294967296 rfl (by omega)]
 rw [IntWalk.wrap64_in _ (by omega),pop_e7 _ (by omega),f2]
theorem ygi (x:Nat) (w:World) (hx:x < 18446744073709551616):Calls Tryz.prog 108 #[.int .u64 x] w fun e w'=>e= .returned (.int .i64 (Lib.popAux 64 x:Nat))∧w=w':=by
 have H:=hid (Ones_any x w hx)
 go_enter Tryz.func108,Tryz.ntmps108
 go_wp2_with fail
 refine H.out.mono ?_
 rintro e w' ⟨rfl,rfl⟩
 go_wp2
 go_ret
 exact ⟨rfl,rfl⟩
def listM (m:Nat) (n:Nat):List Int:=((List.range n).filter m.testBit).map Int.ofNat
theorem yjg (m n:Nat):listM m (n+1)=if m.testBit n then listM m n ++ [(n:Int)] else listM m n:=by
 unfold listM
 rw [List.range_succ,List.filter_append,List.map_append]
 by_cases h:m.testBit n <;> simp [h]
theorem yhr (n m:Nat):Lib.popAux (n+1) m=Lib.popAux n m+(if m.testBit n then 1 else 0):=by
 rw [ydO n 1 m,Lib.popAux,Lib.popAux,Nat.testBit_eq_decide_div_mod_eq]
 simp
 split <;> omega
theorem ygF (m:Nat):∀n,(listM m n).length=Lib.popAux n m
 | 0=>rfl
 | n+1=>by
   rw [yjg,yhr,←ygF m n]
   by_cases h:m.testBit n <;> simp [h]
end
section
open Go.RowKit
theorem ydK (m:Nat):(sel m.testBit 64).length=Lib.popAux 64 m:=ygF m 64
theorem ycw (m n:Nat):hasB m (n:Int)=m.testBit n:=by simp [hasB]
set_option maxHeartbeats 800000 in
theorem ycl (x:Nat) (w:World) (hx:x < 18446744073709551616) :
  Calls Tryz.prog 36 #[.int .u64 x] w fun e w'=>∃v,e= .returned v∧w'.ownsRow w.heap.size 3 1 v (sel x.testBit 64).length (ints (sel x.testBit 64))∧Below w.heap.size w w':=by
 have H1:=hid (fun n W=>ybv x n W hx)
 go_enter Tryz.func36,Tryz.ntmps36
 go_wp2
 go_loopw [3,4] (fun v i wr=>∃(n m cap:Nat) (a:Option Addr),i= .int .i64 n∧n≤64∧v= .slice a m cap∧m= (sel x.testBit n).length∧m≤n∧wr.ownsRow w.heap.size 3 1 (.slice a m cap) m (ints (sel x.testBit n))∧Below w.heap.size w wr) (fun _ i _=>(64 - intOf i).toNat)
 case atStart=>exact ⟨0,0,0,none,rfl,by omega,rfl,rfl,by omega,World.ownsRow_nil _ _ _ _,Below.refl _ _⟩
 case round=>
  obtain ⟨n,m,cap,a,rfl,hn,rfl,hme,hm,hown,hB⟩:=hrel
  by_cases hlt:n < 64
  ·have hsz:=hB.size
   have H2:=hid (ycw x n ▸ H1.out n wr)
   have Hme:=hid hme
   clear hme
   by_cases hb:x.testBit n=true
   ·have Hy:=hid (ybB hb)
    rw [hb] at H2
    clear hb
    go_wp2_with fail
    refine H2.out.mono ?_
    rintro e w1 ⟨rfl,rfl⟩
    go_wp2_with (at_builtin; refine app1 eInt (.tmp 12) (.tmp 14) rfl rfl rfl rfl rfl hown rfl (by omega) (by omega) hsz ?_)
    intro a' cap' w' hown2 hg2 hb2 hf2
    have hB2:=hB.trans hb2
    rw [←yb1,←yaJ,←Hy.out] at hown2
    go_wp2
    exact ⟨⟨n+1,m+1,cap',a',by go_num,by omega,rfl,by rw [Hy.out,List.length_append,←Hme.out]; rfl,by omega,hown2,hB2⟩,by simp [intOf]; omega⟩
   ·have hb':x.testBit n=false:=by simpa using hb
    have Hy:=hid (ycH hb')
    rw [hb'] at H2
    clear hb hb'
    go_wp2_with (go_at_call 16; refine H2.out.mono ?_; rintro e w1 ⟨rfl,rfl⟩)
    exact ⟨⟨n+1,m,cap,a,by go_num,by omega,rfl,by rw [Hy.out]; exact Hme.out,by omega,by rw [Hy.out]; exact hown,hB⟩,by simp [intOf]; omega⟩
  ·obtain rfl:n=64:=by omega
   have Hme:=hid hme
   clear hme
   go_wp2
   go_ret
   refine ⟨_,rfl,?_,hB⟩
   rw [←Hme.out]; exact hown
end
end Go.Proofs.YtkpgfmonhfnhdaaGreatDoor
