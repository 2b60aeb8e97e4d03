/-
  What math/bits.TrailingZeros64 computes where its table is laid; mask.Least and mask.Next.
  ferialaw02.MaskSpans answers true for every list, span, mask.
  feriaref02.List makes the list of a mask's numbers.
  What the small functions of wide compute: sets of numbers as seven words.
  What within, may, May, Has, Len of wide compute.
  What may, May, Has and Len of wide, and Has and List of feriaref04, compute.
  Discs: their words in a block; what the small functions of disc compute.
  The least number of a mask above another one is the first such one of its list.
-/
import Derived.Test.YthimhfmnikfgaaaGreatDoorQ1a3286
import Derived.Lib.TrailingZeros
import Derived.Deep.RegionHeld3
import Derived.Lib.BitFns
import Derived.ChangeKeysEq
namespace Go.Proofs.YthimhfmnikfgaaaGreatDoor
set_option linter.unusedVariables false
section
open Go.RowKit
def Tab (w:World):Prop:=0 < w.heap.size∧∀i,i < 64→w.cell? ⟨0,i,none⟩=some (.int .u8 ((Lib.deBruijn64tab.getD i 0:Nat):Int))
theorem Tab.below {w w':World} {B:Nat} (h:Tab w) (hb:Below B w w') (hB:0 < B):Tab w':=
 ⟨zH h.1 hb.size,fun i hi=>(hb.cell (p:=⟨0,i,none⟩) hB).trans (h.2 i hi)⟩
theorem Tab.later {w w':World} (h:Tab w) (hb:Below w.heap.size w w'):Tab w':=h.below hb h.1
def lsb (x:Nat):Nat:=Lib.ctz 64 x
theorem lsb_spec {x:Nat} (h0:x≠0) (hx:x < 18446744073709551616):lsb x < 64∧x.testBit (lsb x)=true∧∀i,i < lsb x→x.testBit i=false:=by
 obtain ⟨m,hm,hk⟩:=Lib.ctzFrom_spec 64 x (by omega) hx
 have e:lsb x=Lib.ctzFrom 64 x:=by simp [lsb,Lib.ctz,h0]
 rw [e]
 obtain ⟨k,hk2⟩:∃k,Lib.ctzFrom 64 x=k:=⟨_,rfl⟩
 rw [hk2] at hm hk⊢
 subst hm
 refine ⟨hk,?_,fun i hi=>?_⟩
 ·rw [Nat.mul_comm,Nat.testBit_mul_two_pow]; simp
 ·rw [Nat.mul_comm,Nat.testBit_mul_two_pow]; simp; omega
set_option maxHeartbeats 800000 in
theorem Tz_any (x:Nat) (w:World) (h0:x≠0) (hx:x < 18446744073709551616) (hT:Tab w) :
  Calls Tryz.prog 174 #[.int .u64 x] w fun e w'=>e= .returned (.int .i64 (lsb x))∧w=w':=by
 obtain ⟨hl,hk⟩:=Lib.lowest_bit 64 x h0 hx
 have hk64:lsb x < 64:=hk
 obtain ⟨hd1,hd2⟩:=Lib.deBruijn64_at _ hk
 obtain ⟨q,hq⟩:∃q,2 ^ Lib.ctz 64 x * 285870213051353865 % 18446744073709551616 / 288230376151711744=q:=⟨_,rfl⟩
 rw [hq] at hd1 hd2
 have hcell:=hT.2 q hd1
 rw [hd2] at hcell
 have hz:((x:Int) == 0)=false:=by simp; omega
 have hneg:IntKind.u64.wrap (-(x:Int))= ((18446744073709551616 - x:Nat):Int):=by rw [IntKind.wrap_u64]; omega
 have hand:=bits_and hx (b:=18446744073709551616 - x) (by omega)
 have hidx:IntKind.u64.wrap (bits .and .u64 (x:Int) (IntKind.u64.wrap (-(x:Int))) * 285870213051353865) / 288230376151711744= (q:Int):=by
  rw [hneg,hand,show (18446744073709551616:Nat) - x=2 ^ 64 - x from rfl,hl,IntKind.wrap_u64,←hq]
  generalize 2 ^ Lib.ctz 64 x=y
  omega
 have hk2:Lib.ctz 64 x < 64:=hk
 clear hneg hand hl hd2 hq hT hk h0
 go_enter Tryz.func174,Tryz.ntmps174
 go_wp2
 go_ret
 exact ⟨rfl,rfl⟩
def leastI (m:Nat):Int:=if m=0 then 0 else (lsb m:Int)
def leastB (m:Nat):Bool:=decide (m≠0)
set_option maxHeartbeats 400000 in
theorem Least_any (m:Nat) (w:World) (hm:m < 18446744073709551616) (hT:Tab w) :
  Calls Tryz.prog 128 #[.int .u64 m] w fun e w'=>e= .returned (.tuple #[.int .i64 (leastI m), .bool (leastB m)])∧w=w':=by
 by_cases h0:m=0
 ·subst h0
  go_enter Tryz.func128,Tryz.ntmps128
  go_wp2
  go_ret2
  exact ⟨rfl,rfl⟩
 ·have h1:Hid (leastI m= (lsb m:Int)):=if_neg h0
  have h2:Hid (leastB m=true):=by show leastB m=true; simp [leastB,h0]
  have hz:((m:Int) == 0)=false:=by simp; omega
  have Hc:=hid (Tz_any m w h0 hm hT)
  clear h0
  go_enter Tryz.func128,Tryz.ntmps128
  go_wp2_with (go_at_call 174; refine Hc.out.mono ?_; rintro e w' ⟨rfl,rfl⟩)
  go_ret2
  rw [h1.out,h2.out]
  exact ⟨rfl,rfl⟩
def fromM (m n:Nat):Nat:=m / 2 ^ n * 2 ^ n
theorem fromM_lt {m n:Nat} (hm:m < 18446744073709551616):fromM m n < 18446744073709551616:=Nat.lt_of_le_of_lt (Nat.div_mul_le_self _ _) hm
theorem fromM_test (m n i:Nat):(fromM m n).testBit i= (decide (n≤i) && m.testBit i):=by
 rw [fromM,Nat.testBit_mul_two_pow,Nat.testBit_div_two_pow]
 by_cases h:n≤i
 ·simp [h]
 ·simp [h]
def aboveM (m:Nat) (n:Int):Nat:=if n < 0 then m else if 63≤n then 0 else fromM m (n.toNat+1)
theorem aboveM_lt {m:Nat} {n:Int} (hm:m < 18446744073709551616):aboveM m n < 18446744073709551616:=by
 unfold aboveM; split
 ·exact hm
 ·split
  ·omega
  ·exact fromM_lt hm
theorem aboveM_test {m:Nat} (n:Int) (i:Nat) (hm:m < 18446744073709551616):(aboveM m n).testBit i= (decide (n < (i:Int)) && m.testBit i):=by
 unfold aboveM; split
 ·simp; omega
 ·split
  ·by_cases h:64≤i
   ·rw [test_big hm h]; simp
   ·simp; omega
  ·rw [fromM_test]
   congr 1
   simp; omega
set_option maxHeartbeats 400000 in
theorem Next_any (m:Nat) (n:Int) (w:World) (hm:m < 18446744073709551616) (hT:Tab w) :
  Calls Tryz.prog 183 #[.int .u64 m, .int .i64 n] w fun e w'=>e= .returned (.tuple #[.int .i64 (leastI (aboveM m n)), .bool (leastB (aboveM m n))])∧w=w':=by
 by_cases h0:n < 0
 ·have h1:Hid (aboveM m n=m):=if_pos h0
  rw [h1.out]
  have Hc:=hid (Least_any m w hm hT)
  go_enter Tryz.func183,Tryz.ntmps183
  go_wp2_with (go_at_call 128; refine Hc.out.mono ?_; rintro e w' ⟨rfl,rfl⟩)
  go_ret2
  exact ⟨rfl,rfl⟩
 by_cases h1:63≤n
 ·have h2:Hid (aboveM m n=0):=by show aboveM m n=0; rw [aboveM,if_neg h0,if_pos h1]
  rw [h2.out]
  go_enter Tryz.func183,Tryz.ntmps183
  go_wp2
  go_ret2
  exact ⟨rfl,rfl⟩
 ·obtain ⟨k,rfl⟩:=Int.eq_ofNat_of_zero_le (by omega:0≤n)
  have h2:aboveM m (k:Int)=fromM m (k+1):=by rw [aboveM,if_neg h0,if_neg h1]; rfl
  rw [h2]
  have Hc:=hid (Least_any (fromM m (k+1)) w (fromM_lt hm) hT)
  have hw:IntKind.u64.wrap ((m:Int) / 2 ^ (k+1) * 2 ^ (k+1))= ((fromM m (k+1):Nat):Int):=by
   have e:((m:Int) / 2 ^ (k+1) * 2 ^ (k+1))= ((fromM m (k+1):Nat):Int):=by simp [fromM]
   rw [e]; exact wrap_nat (fromM_lt hm)
  clear h2
  go_enter Tryz.func183,Tryz.ntmps183
  go_wp2_with fail
  refine Hc.out.mono ?_
  rintro e w' ⟨rfl,rfl⟩
  go_wp2
  go_ret2
  exact ⟨rfl,rfl⟩
theorem bits_andNot {a b:Nat} (ha:a < 18446744073709551616) (hb:b < 18446744073709551616):bits .andNot .u64 (a:Int) (b:Int)= ((mk (fun k=>a.testBit k && !b.testBit k):Nat):Int):=by
 show IntKind.u64.wrap ((BitVec.ofInt 64 (a:Int) &&& ~~~BitVec.ofInt 64 (b:Int)).toNat:Int)= _
 have hl:(BitVec.ofInt 64 (a:Int) &&& ~~~BitVec.ofInt 64 (b:Int)).toNat < 18446744073709551616:=BitVec.isLt _
 rw [wrap_nat hl]
 congr 1
 refine eq_mk hl (fun i hi=>?_)
 rw [BitVec.testBit_toNat,BitVec.getLsbD_and,BitVec.getLsbD_not,←BitVec.testBit_toNat,←BitVec.testBit_toNat,ofInt_nat ha,ofInt_nat hb]
 simp [hi]
end
section
open Go.RowKit
abbrev SpS (w:World) (x0 x1 x2:Int) (W:World):Prop:=
 W.cell? ⟨w.heap.size,0,none⟩=some (.int .i64 x0)∧W.cell? ⟨w.heap.size,1,none⟩=some (.int .i64 x1)∧W.cell? ⟨w.heap.size,2,none⟩=some (.int .i64 x2)∧Below w.heap.size w W∧w.heap.size < W.heap.size
theorem SpS.keep {w W W':World} {x0 x1 x2:Int} (h:SpS w x0 x1 x2 W) (hb:Below W.heap.size W W'):SpS w x0 x1 x2 W':=by
 obtain ⟨h1,h2,h3,h4,h5⟩:=h
 exact ⟨(hb.cell (p:=⟨w.heap.size,0,none⟩) h5).trans h1,(hb.cell (p:=⟨w.heap.size,1,none⟩) h5).trans h2,(hb.cell (p:=⟨w.heap.size,2,none⟩) h5).trans h3,h4.trans (hb.mono (Nat.le_of_lt h5)),zH h5 hb.size⟩
theorem keep_of {P:Program} {f:FuncId} {args:Array Value} {W:World} {v:Value} {S:World→Prop} (h:Calls P f args W fun e w'=>e= .returned v∧Below W.heap.size W w') (hk:∀w',Below W.heap.size W w'→S w') :
  Calls P f args W fun e w'=>e= .returned v∧S w':=h.mono fun e w' ⟨h1,h2⟩=>⟨h1,hk w' h2⟩
theorem same_below {P:Program} {f:FuncId} {args:Array Value} {W:World} {v:Value} (h:Calls P f args W fun e w'=>e= .returned v∧W=w') :
  Calls P f args W fun e w'=>e= .returned v∧Below W.heap.size W w':=h.mono fun e w' ⟨h1,h2⟩=>⟨h1,by rw [h2]; exact Below.refl _ _⟩
end
section
open Go.RowKit
theorem hasB_nat (m n:Nat):hasB m (n:Int)=m.testBit n:=by simp [hasB]
set_option maxHeartbeats 800000 in
theorem RList_any (x:Nat) (w:World) (hx:x < 18446744073709551616) :
  Calls Tryz.prog 71 #[.int .u64 x] w fun e w'=>∃v,e= .returned v∧w'.ownsRow w.heap.size 3 1 v (sel x.testBit 64).length (ints (sel x.testBit 64))∧Below w.heap.size w w':=by
 have H1:=hid (fun n W=>RHas_any x n W hx)
 go_enter Tryz.func71,Tryz.ntmps71
 go_wp2
 go_loopw [3,4] (fun v i wr=>∃(n m cap:Nat) (a:Option Addr),i= .int .i64 n∧n≤64∧v= .slice a m cap∧m= (sel x.testBit n).length∧m≤n∧wr.ownsRow w.heap.size 3 1 (.slice a m cap) m (ints (sel x.testBit n))∧Below w.heap.size w wr) (fun _ i _=>(64 - intOf i).toNat)
 case atStart=>exact ⟨0,0,0,none,rfl,by omega,rfl,rfl,by omega,World.ownsRow_nil _ _ _ _,Below.refl _ _⟩
 case round=>
  obtain ⟨n,m,cap,a,rfl,hn,rfl,hme,hm,hown,hB⟩:=hrel
  by_cases hlt:n < 64
  ·have hsz:=hB.size
   have H2:=hid (hasB_nat x n ▸ H1.out n wr)
   have Hme:=hid hme
   clear hme
   by_cases hb:x.testBit n=true
   ·have Hy:=hid (sel_yes hb)
    rw [hb] at H2
    clear hb
    go_wp2_with fail
    refine H2.out.mono ?_
    rintro e w1 ⟨rfl,rfl⟩
    go_wp2_with (at_builtin; refine app1 eInt (.tmp 12) (.tmp 14) rfl rfl rfl rfl rfl hown rfl (by omega) (by omega) hsz ?_)
    intro a' cap' w' hown2 hg2 hb2 hf2
    have hB2:=hB.trans hb2
    rw [←ints_one,←ints_append,←Hy.out] at hown2
    go_wp2
    exact ⟨⟨n+1,m+1,cap',a',by go_num,by omega,rfl,by rw [Hy.out,List.length_append,←Hme.out]; rfl,by omega,hown2,hB2⟩,by simp [intOf]; omega⟩
   ·have hb':x.testBit n=false:=by simpa using hb
    have Hy:=hid (sel_no hb')
    rw [hb'] at H2
    clear hb hb'
    go_wp2_with (go_at_call 29; refine H2.out.mono ?_; rintro e w1 ⟨rfl,rfl⟩)
    exact ⟨⟨n+1,m,cap,a,by go_num,by omega,rfl,by rw [Hy.out]; exact Hme.out,by omega,by rw [Hy.out]; exact hown,hB⟩,by simp [intOf]; omega⟩
  ·obtain rfl:n=64:=by omega
   have Hme:=hid hme
   clear hme
   go_wp2
   go_ret
   refine ⟨_,rfl,?_,hB⟩
   rw [←Hme.out]; exact hown
end
section
open Go.RowKit
abbrev wv (s:Nat→Nat):Value:= .agg #[.int .u64 (s 0:Nat), .int .u64 (s 1:Nat), .int .u64 (s 2:Nat), .int .u64 (s 3:Nat), .int .u64 (s 4:Nat), .int .u64 (s 5:Nat), .int .u64 (s 6:Nat)]
def WCells (W:World) (b:Nat) (s:Nat→Nat):Prop:=∀i,i < 7→W.cell? ⟨b,i,none⟩=some (.int .u64 (s i:Nat))
theorem WCells.below {W W':World} {b B:Nat} {s:Nat→Nat} (h:WCells W b s) (hb:Below B W W') (hB:b < B):WCells W' b s:=fun i hi=>(hb.cell (p:=⟨b,i,none⟩) hB).trans (h i hi)
theorem WCells.congr {W:World} {b:Nat} {s t:Nat→Nat} (h:WCells W b s) (e:∀i,i < 7→s i=t i):WCells W b t:=fun i hi=>by rw [←e i hi]; exact h i hi
theorem WCells.all {W:World} {b:Nat} {s:Nat→Nat} (h:WCells W b s):W.cell? ⟨b,0,none⟩=some (.int .u64 (s 0:Nat))∧W.cell? ⟨b,1,none⟩=some (.int .u64 (s 1:Nat))∧W.cell? ⟨b,2,none⟩=some (.int .u64 (s 2:Nat))∧
  W.cell? ⟨b,3,none⟩=some (.int .u64 (s 3:Nat))∧W.cell? ⟨b,4,none⟩=some (.int .u64 (s 4:Nat))∧W.cell? ⟨b,5,none⟩=some (.int .u64 (s 5:Nat))∧W.cell? ⟨b,6,none⟩=some (.int .u64 (s 6:Nat)):=
 ⟨h 0 (by omega),h 1 (by omega),h 2 (by omega),h 3 (by omega),h 4 (by omega),h 5 (by omega),h 6 (by omega)⟩
theorem WCells.set {W:World} {b i:Nat} {s:Nat→Nat} {v:Nat} (h:WCells W b s) (hi:i < 7):WCells (W.setCell ⟨b,i,none⟩ (.int .u64 v)) b (fun j=>if j=i then v else s j):=by
 intro j hj
 by_cases e:j=i
 ·subst e; simp [go_sem,h j hj]
 ·simp [go_sem,h j hj,e]
def fullW (i:Nat):Nat:=spanM 0 (399 - 64 * (i:Int)) 1
theorem fullW_lt (i:Nat):fullW i < 18446744073709551616:=mk_lt _
theorem fullW_test (i k:Nat):(fullW i).testBit k= (decide (k < 64) && decide (64 * i+k < 400)):=by
 rw [fullW,spanM,mk_test,spanB,Bool.eq_iff_iff]
 simp only [Bool.and_eq_true,decide_eq_true_eq]
 omega
def WFree (W:World) (b:Nat):Prop:=∀j,W.frozen? ⟨b,j,none⟩=false
theorem WFree.below {W W':World} {b B:Nat} (h:WFree W b) (hb:Below B W W') (hB:b < B):WFree W' b:=fun i=>(hb.frozen (p:=⟨b,i,none⟩) hB).trans (h i)
theorem WFree.set {W:World} {b:Nat} (h:WFree W b) (p:Addr) (v:Value):WFree (W.setCell p v) b:=fun j=>by simp [go_sem,h j]
set_option maxHeartbeats 800000 in
theorem WFull_any (w:World):Calls Tryz.prog 137 #[] w fun e w'=>e= .returned (wv fullW)∧Below w.heap.size w w':=by
 have c1:Hid (∀(i:Nat) W,(i:Int) < 7→Calls Tryz.prog 135 #[.int .i64 0, .int .i64 (399 - (i:Int) * 64), .int .i64 1] W fun e w'=>e= .returned (.int .u64 (fullW i))∧W=w'):=fun i W h=>by
  have:=Span_any 0 (399 - 64 * (i:Int)) 1 W (by omega) (by omega)
  rw [Int.mul_comm] at this
  have e:fullW i=spanM 0 (399 - (i:Int) * 64) 1:=by rw [fullW,Int.mul_comm]
  rw [e]; exact this
 go_enter Tryz.func137,Tryz.ntmps137
 go_wp2
 go_loopw [3] (fun v wr=>∃i:Nat,v= .int .i64 i∧i≤7∧Hid (WCells wr (w.heap.size+1) (fun j=>if j < i then fullW j else 0))∧Hid (WCells wr w.heap.size (fun _=>0))∧Hid (WFree wr (w.heap.size+1))∧Hid (WFree wr w.heap.size)∧Below w.heap.size w wr∧wr.heap.size=w.heap.size+2) (fun v _=>7 - (intOf v).toNat)
 case atStart=>
  refine ⟨0,rfl,by omega,fun j hj=>?_,fun j hj=>?_,fun j=>by simp [go_sem],fun j=>by simp [go_sem],below_new (below_new (Below.refl _ _) (zG _)) (by simp),by simp⟩
  ·have:j=0∨j=1∨j=2∨j=3∨j=4∨j=5∨j=6:=by omega
   rcases this with rfl | rfl | rfl | rfl | rfl | rfl | rfl <;> simp [go_sem]
  ·have:j=0∨j=1∨j=2∨j=3∨j=4∨j=5∨j=6:=by omega
   rcases this with rfl | rfl | rfl | rfl | rfl | rfl | rfl <;> simp [go_sem]
 case round=>
  obtain ⟨i,rfl,hi,hc,hc0,hf,hf0,hB,hsz⟩:=hrel
  by_cases hlt:i < 7
  ·have e1:=hc.out i hlt
   have e2:=hf.out i
   go_wp2_with fail
   refine (c1.out i wr (by omega)).mono ?_
   rintro e w1 ⟨rfl,rfl⟩
   go_wp2
   refine ⟨⟨i+1,by go_num,by omega,?_,?_,?_,?_,below_set hB (by omega),by simpa [go_sem] using hsz⟩,by simp [intOf]; omega⟩
   ·exact (hc.out.set (v:=fullW i) hlt).congr (fun j hj=>by
     by_cases e:j=i
     ·subst e; simp
     ·have:(j < i+1)= (j < i):=by simp; omega
      simp [e,this])
   ·exact fun j hj=>(World.cell?_of_block (w:=wr) (a:=⟨w.heap.size,j,none⟩) (Below.heap_setCell _ _ _ _ (by simp))).trans (hc0.out j hj)
   ·exact hf.out.set _ _
   ·exact hf0.out.set _ _
  ·obtain rfl:i=7:=by omega
   have hc':WCells wr (w.heap.size+1) fullW:=hc.out.congr (fun j hj=>by simp [hj])
   obtain ⟨r0,r1,r2,r3,r4,r5,r6⟩:=hc'.all
   obtain ⟨z0,z1,z2,z3,z4,z5,z6⟩:=hc0.out.all
   have f0:=hf0.out 0
   have f1:=hf0.out 1
   have f2:=hf0.out 2
   have f3:=hf0.out 3
   have f4:=hf0.out 4
   have f5:=hf0.out 5
   have f6:=hf0.out 6
   clear hc hc0 hf hf0 hc'
   go_wp2
   refine bodyPost_ret (v:=wv fullW) (by simp [results,Tryz.results137,go_sem,z0,z1,z2,z3,z4,z5,z6]) rfl ⟨rfl,?_⟩
   exact below_set (below_set (below_set (below_set (below_set (below_set (below_set hB (zG _)) (zG _)) (zG _)) (zG _)) (zG _)) (zG _)) (zG _)
end
section
open Go.RowKit
def inW (s:Nat→Nat) (i:Nat):Nat:=s i &&& fullW i
theorem inW_lt {s:Nat→Nat} (i:Nat) (h:s i < 18446744073709551616):inW s i < 18446744073709551616:=and_lt (b:=fullW i) h
theorem seven {i:Nat} (h:i < 7):i=0∨i=1∨i=2∨i=3∨i=4∨i=5∨i=6:=by omega
theorem wcells_new (w:World) (s:Nat→Nat) (t:TypeId):WCells (w.alloc (.cells #[.int .u64 (s 0:Nat), .int .u64 (s 1:Nat), .int .u64 (s 2:Nat), .int .u64 (s 3:Nat), .int .u64 (s 4:Nat), .int .u64 (s 5:Nat), .int .u64 (s 6:Nat)] t)) w.heap.size s:=by
 intro i hi
 rcases seven hi with rfl | rfl | rfl | rfl | rfl | rfl | rfl <;> simp [go_sem]
theorem wfree_new (w:World) (s:Nat→Nat) (t:TypeId):WFree (w.alloc (.cells #[.int .u64 (s 0:Nat), .int .u64 (s 1:Nat), .int .u64 (s 2:Nat), .int .u64 (s 3:Nat), .int .u64 (s 4:Nat), .int .u64 (s 5:Nat), .int .u64 (s 6:Nat)] t)) w.heap.size:=fun i=>by simp [go_sem]
theorem infoU64:(Tryz.prog.info? 29).map (fun i=>(i.zero,i.size,i.bytes))=some (some (.int .u64 0),1,8):=by kernel_rfl
theorem run_index_wv (s:Nat→Nat) (i:Nat) (h:i < 7) (W:World):(Instr.index 33 (wv s) (.int .i64 i)).run Tryz.prog W= .ok (.int .u64 (s i:Nat)) W:=by
 obtain ⟨i0,hi0,hz0,hz1,hz2⟩:=info_parts infoU64
 rcases seven h with rfl | rfl | rfl | rfl | rfl | rfl | rfl
 all_goals
  simp [Instr.index,wv,go_sem,part,sizeOf,typeInfo,hi0,hz1]
set_option maxRecDepth 100000 in
set_option maxHeartbeats 1600000 in
theorem Within_any (s:Nat→Nat) (w:World) (hs:∀i,i < 7→s i < 18446744073709551616) :
  Calls Tryz.prog 141 #[wv s] w fun e w'=>e= .returned (wv (inW s))∧Below w.heap.size w w':=by
 have c1:=hid (fun W=>WFull_any W)
 obtain ⟨W0,hW0⟩:∃W0,(w.alloc (.cells #[.int .u64 (s 0:Nat), .int .u64 (s 1:Nat), .int .u64 (s 2:Nat), .int .u64 (s 3:Nat), .int .u64 (s 4:Nat), .int .u64 (s 5:Nat), .int .u64 (s 6:Nat)] 33)).alloc (.cells #[.int .u64 0, .int .u64 0, .int .u64 0, .int .u64 0, .int .u64 0, .int .u64 0, .int .u64 0] 33)=W0:=⟨_,rfl⟩
 have q1:W0.heap.size=w.heap.size+2:=by rw [←hW0]; simp
 have q2:Below w.heap.size w W0:=by rw [←hW0]; exact below_new (below_new (Below.refl _ _) (zG _)) (by simp)
 have q3:WCells W0 w.heap.size s:=by rw [←hW0]; exact (wcells_new w s _).below (below_new (Below.refl _ _) (zG _)) (by simp)
 have q4:WFree W0 w.heap.size:=by rw [←hW0]; exact (wfree_new w s _).below (below_new (Below.refl _ _) (zG _)) (by simp)
 have q5:WCells W0 (w.heap.size+1) (fun _=>0):=by
  rw [←hW0]
  intro i hi
  rcases seven hi with rfl | rfl | rfl | rfl | rfl | rfl | rfl <;> simp [go_sem]
 have q6:WFree W0 (w.heap.size+1):=fun i=>by rw [←hW0]; simp [go_sem]
 have HW0:=hid hW0
 have HS:=hid hs
 have HQ:=hid (And.intro q2 (And.intro q3 (And.intro q4 (And.intro q5 q6))))
 clear hW0 hs q2 q3 q4 q5 q6
 go_enter Tryz.func141,Tryz.ntmps141
 go_wp2_with fail
 rw [HW0.out]
 refine (c1.out W0).mono ?_
 rintro e w1 ⟨rfl,hB1⟩
 obtain ⟨q2,q3,q4,q5,q6⟩:=HQ.out
 have s1:=hB1.size
 have r3:=hid (q3.below hB1 (by omega))
 have r4:=hid (q4.below hB1 (by omega))
 have r5:=hid (q5.below hB1 (by omega))
 have r6:=hid (q6.below hB1 (by omega))
 have r2:Hid (Below w.heap.size w w1):=q2.trans (hB1.mono (by omega))
 clear q2 q3 q4 q5 q6 hB1
 go_wp2
 go_loopw [6] (fun v wr=>∃i:Nat,v= .int .i64 i∧i≤7∧Hid (WCells wr w.heap.size (fun j=>if j < i then inW s j else s j))∧Hid (WCells wr (w.heap.size+1) (fun _=>0))∧Hid (WFree wr w.heap.size)∧Hid (WFree wr (w.heap.size+1))∧Hid (Below w.heap.size w wr)) (fun v _=>7 - (intOf v).toNat)
 case atStart=>exact ⟨0,rfl,by omega,r3.out.congr (fun j hj=>by simp),r5.out,r4.out,r6.out,r2.out⟩
 case round=>
  obtain ⟨i,rfl,hi,hc,hc0,hf,hf0,hB⟩:=hrel
  by_cases hlt:i < 7
  ·have e1:wr.cell? ⟨w.heap.size,i,none⟩=some (.int .u64 (s i:Nat)):=by have:=hc.out i hlt; simpa using this
   have e2:=hf.out i
   have hand:=hid (bits_and (HS.out i hlt) (fullW_lt i))
   have done:∀W',W' =wr.setCell ⟨w.heap.size,i,none⟩ (.int .u64 (bits .and .u64 (s i:Nat) (fullW i:Nat)))→WCells W' w.heap.size (fun j=>if j < i+1 then inW s j else s j)∧WCells W' (w.heap.size+1) (fun _=>0)∧WFree W' w.heap.size∧WFree W' (w.heap.size+1)∧Below w.heap.size w W':=by
    rintro W' rfl
    rw [hand.out]
    refine ⟨(hc.out.set (v:=inW s i) hlt).congr (fun j hj=>?_),fun j hj=>(World.cell?_of_block (w:=wr) (a:=⟨w.heap.size+1,j,none⟩) (Below.heap_setCell _ _ _ _ (by simp))).trans (hc0.out j hj),hf.out.set _ _,hf0.out.set _ _,below_set hB.out (zG _)⟩
    by_cases e:j=i
    ·subst e; simp
    ·have:(j < i+1)= (j < i):=by simp; omega
     simp [e,this]
   have Done:=hid done
   clear done
   have hix:=fun W=>run_index_wv fullW i hlt W
   clear hc hc0 hf hf0 hB
   go_wp2
   obtain ⟨d1,d2,d3,d4,d5⟩:=Done.out _ rfl
   exact ⟨⟨i+1,by go_num,by omega,d1,d2,d3,d4,d5⟩,by simp [intOf]; omega⟩
  ·obtain rfl:i=7:=by omega
   have hc':WCells wr w.heap.size (inW s):=hc.out.congr (fun j hj=>by simp [hj])
   obtain ⟨r0,r1,r2,r3,r4,r5,r6⟩:=hc'.all
   obtain ⟨z0,z1,z2,z3,z4,z5,z6⟩:=hc0.out.all
   have f0:=hf0.out 0
   have f1:=hf0.out 1
   have f2:=hf0.out 2
   have f3:=hf0.out 3
   have f4:=hf0.out 4
   have f5:=hf0.out 5
   have f6:=hf0.out 6
   clear hc hc0 hf hf0 hc'
   go_wp2
   refine bodyPost_ret (v:=wv (inW s)) (by simp [results,Tryz.results141,go_sem,z0,z1,z2,z3,z4,z5,z6]) rfl ⟨rfl,?_⟩
   exact below_set (below_set (below_set (below_set (below_set (below_set (below_set hB.out (Nat.le_add_right _ _)) (Nat.le_add_right _ _)) (Nat.le_add_right _ _)) (Nat.le_add_right _ _)) (Nat.le_add_right _ _)) (Nat.le_add_right _ _)) (Nat.le_add_right _ _)
end
section
open Go.RowKit
def eqW (s t:Nat→Nat):Bool:=(List.range 7).all (fun i=>s i == t i)
theorem eqW_iff (s t:Nat→Nat):eqW s t=true↔∀i,i < 7→s i=t i:=by
 rw [eqW,List.all_eq_true]
 simp
theorem part_wv (s:Nat→Nat) (i:Nat) (h:i < 7) (W:World):(part 29 #[.int .u64 (s 0:Nat), .int .u64 (s 1:Nat), .int .u64 (s 2:Nat), .int .u64 (s 3:Nat), .int .u64 (s 4:Nat), .int .u64 (s 5:Nat), .int .u64 (s 6:Nat)] (i * Tryz.prog.cellsOf 29)).run Tryz.prog W= .ok (.int .u64 (s i:Nat)) W:=by
 rw [show Tryz.prog.cellsOf 29=1 by kernel_rfl]
 rcases seven h with rfl | rfl | rfl | rfl | rfl | rfl | rfl
 all_goals
  simp [go_sem,part]
theorem run_eql_wv (s t:Nat→Nat) (W:World):(binOp .eql 33 (wv s) (wv t)).run Tryz.prog W= .ok (.bool (eqW s t)) W:=by
 obtain ⟨i0,hi0,hz0,hz1,hz2⟩:=info_parts infoU64
 rw [run_eql_struct,show (10000:Nat)=9999+1 from rfl,run_equalIn_array W 9999 _ _ Tryz.underlying33 hi0,eqW]
 have hl:∀i∈List.range 7,i < 7:=fun i hi=>by simpa using hi
 generalize List.range 7=l at hl⊢
 have key:(Op.eqItems 9999 29 (Tryz.prog.cellsOf 29) #[.int .u64 (s 0:Nat), .int .u64 (s 1:Nat), .int .u64 (s 2:Nat), .int .u64 (s 3:Nat), .int .u64 (s 4:Nat), .int .u64 (s 5:Nat), .int .u64 (s 6:Nat)]
   #[.int .u64 (t 0:Nat), .int .u64 (t 1:Nat), .int .u64 (t 2:Nat), .int .u64 (t 3:Nat), .int .u64 (t 4:Nat), .int .u64 (t 5:Nat), .int .u64 (t 6:Nat)] l).run Tryz.prog W= .ok (l.all (fun i=>s i == t i)) W:=by
  induction l with
  | nil=>simp [Op.eqItems]
  | cons i l ih=>
    have hi:i < 7:=hl i (by simp)
    have pe:(Op.equalIn 9999 29 (.int .u64 (s i:Nat)) (.int .u64 (t i:Nat))).run Tryz.prog W= .ok ((s i:Int) == (t i:Int)) W:=by
     rw [show (9999:Nat)=9998+1 from rfl,run_equalIn_int W 9998 29 .u64 .u64 _ _ Tryz.underlying29]
    simp only [Op.eqItems,Sem.run_bind,part_wv s i hi W,part_wv t i hi W,pe,Result.andThen_ok,List.all_cons]
    have hb:((s i:Int) == (t i:Int))= (s i == t i):=by rw [Bool.eq_iff_iff]; simp; omega
    rw [hb]
    cases hc:(s i == t i)
    ·simp
    ·simp only [Bool.not_true,Bool.false_eq_true,if_false,Bool.true_and]
     exact ih fun j hj=>hl j (by simp [hj])
 rw [key]
 rfl
def mayB (n:Int):Bool:=decide (0≤n) && decide (n < 400)
theorem WMayN_any (n:Int) (w:World):Calls Tryz.prog 205 #[.int .i64 n] w fun e w'=>e= .returned (.bool (mayB n))∧w=w':=by
 unfold mayB
 by_cases h0:0≤n
 ·by_cases h1:n < 400
  ·go_enter Tryz.func205,Tryz.ntmps205
   go_wp2
   go_ret
   exact ⟨ret_bool (by rw [Bool.eq_iff_iff]; simp; omega),rfl⟩
  ·go_enter Tryz.func205,Tryz.ntmps205
   go_wp2
   go_ret
   exact ⟨ret_bool (by rw [Bool.eq_iff_iff]; simp; omega),rfl⟩
 ·go_enter Tryz.func205,Tryz.ntmps205
  go_wp2
  go_ret
  exact ⟨ret_bool (by rw [Bool.eq_iff_iff]; simp; omega),rfl⟩
abbrev BoxS (w:World) (s:Nat→Nat) (W:World):Prop:=
 W.cell? ⟨w.heap.size,0,none⟩=some (.int .u64 (s 0:Nat))∧W.cell? ⟨w.heap.size,1,none⟩=some (.int .u64 (s 1:Nat))∧W.cell? ⟨w.heap.size,2,none⟩=some (.int .u64 (s 2:Nat))∧W.cell? ⟨w.heap.size,3,none⟩=some (.int .u64 (s 3:Nat))∧
 W.cell? ⟨w.heap.size,4,none⟩=some (.int .u64 (s 4:Nat))∧W.cell? ⟨w.heap.size,5,none⟩=some (.int .u64 (s 5:Nat))∧W.cell? ⟨w.heap.size,6,none⟩=some (.int .u64 (s 6:Nat))∧Below w.heap.size w W∧w.heap.size < W.heap.size
theorem BoxS.keep {w W W':World} {s:Nat→Nat} (h:BoxS w s W) (hb:Below W.heap.size W W'):BoxS w s W':=by
 obtain ⟨h0,h1,h2,h3,h4,h5,h6,h7,h8⟩:=h
 exact ⟨(hb.cell (p:=⟨w.heap.size,0,none⟩) h8).trans h0,(hb.cell (p:=⟨w.heap.size,1,none⟩) h8).trans h1,(hb.cell (p:=⟨w.heap.size,2,none⟩) h8).trans h2,(hb.cell (p:=⟨w.heap.size,3,none⟩) h8).trans h3,
  (hb.cell (p:=⟨w.heap.size,4,none⟩) h8).trans h4,(hb.cell (p:=⟨w.heap.size,5,none⟩) h8).trans h5,(hb.cell (p:=⟨w.heap.size,6,none⟩) h8).trans h6,h7.trans (hb.mono (by omega)),zH h8 hb.size⟩
set_option maxHeartbeats 800000 in
theorem WMay_any (s:Nat→Nat) (w:World) (hs:∀i,i < 7→s i < 18446744073709551616) :
  Calls Tryz.prog 78 #[wv s] w fun e w'=>e= .returned (.bool (eqW (inW s) s))∧Below w.heap.size w w':=by
 have c1:=hid (fun W=>Within_any s W hs)
 have heq:=fun W=>run_eql_wv (inW s) s W
 have hB0:Below w.heap.size w (w.alloc (.cells #[.int .u64 (s 0:Nat), .int .u64 (s 1:Nat), .int .u64 (s 2:Nat), .int .u64 (s 3:Nat), .int .u64 (s 4:Nat), .int .u64 (s 5:Nat), .int .u64 (s 6:Nat)] 33)):=below_new (Below.refl _ _) (zG _)
 have HS0:Hid (BoxS w s (w.alloc (.cells #[.int .u64 (s 0:Nat), .int .u64 (s 1:Nat), .int .u64 (s 2:Nat), .int .u64 (s 3:Nat), .int .u64 (s 4:Nat), .int .u64 (s 5:Nat), .int .u64 (s 6:Nat)] 33)).drew):=by
  obtain ⟨r0,r1,r2,r3,r4,r5,r6⟩:=(wcells_new w s 33).all
  exact ⟨r0,r1,r2,r3,r4,r5,r6,hB0.drew,by simp [go_sem]⟩
 have c2:=hid (fun W (h:BoxS w s W)=>keep_of (c1.out W) (fun _=>h.keep))
 clear hB0
 go_enter Tryz.func78,Tryz.ntmps78
 go_wp2_with fail
 go_region_held3 (fun w'=>BoxS w s w') (first | exact HS0.out | assumption)
  (first
    | (go_at_call 141; refine (c2.out _ (by assumption)).mono ?_; rintro e w' ⟨rfl,hS⟩))
 go_wp2
 go_ret
 exact ⟨rfl,(‹BoxS w s _›).2.2.2.2.2.2.2.1⟩
def bitW (s:Nat→Nat) (k:Nat):Bool:=(s (k / 64)).testBit (k % 64)
def hasW (s:Nat→Nat) (n:Int):Bool:=mayB n && bitW s n.toNat
set_option maxHeartbeats 800000 in
theorem WHas_any (s:Nat→Nat) (n:Int) (w:World) (hs:∀i,i < 7→s i < 18446744073709551616) :
  Calls Tryz.prog 194 #[wv s, .int .i64 n] w fun e w'=>e= .returned (.bool (hasW s n))∧Below w.heap.size w w':=by
 have c1:=hid (fun W=>WMayN_any n W)
 unfold hasW
 by_cases hb:mayB n=true
 ·rw [hb] at c1⊢
  rw [mayB] at hb
  simp at hb
  obtain ⟨k,rfl⟩:∃k:Nat,n=k:=⟨n.toNat,by omega⟩
  have hk:k < 400:=by omega
  have hc:=wcells_new w s 33
  have e1:=hc (k / 64) (by omega)
  have c2:=hid (fun W=>Has_any (s (k / 64)) ((k % 64:Nat):Int) W (hs _ (by omega)))
  rw [hasB_nat,show ((k % 64:Nat):Int)= (k:Int) % 64 by simp] at c2
  have hlt:k / 64 < 7:=by omega
  clear hb hc
  go_enter Tryz.func194,Tryz.ntmps194
  go_wp2_with fail
  refine (c1.out _).mono ?_
  rintro e w' ⟨rfl,rfl⟩
  go_wp2_with fail
  refine (c2.out _).mono ?_
  rintro e w' ⟨rfl,rfl⟩
  go_wp2
  go_ret
  exact ⟨by simp [bitW],below_new (Below.refl _ _) (zG _)⟩
 ·have hb':mayB n=false:=by simpa using hb
  rw [hb'] at c1⊢
  clear hb hb'
  go_enter Tryz.func194,Tryz.ntmps194
  go_wp2_with fail
  refine (c1.out _).mono ?_
  rintro e w' ⟨rfl,rfl⟩
  go_wp2
  go_ret
  exact ⟨rfl,below_new (Below.refl _ _) (zG _)⟩
set_option maxHeartbeats 800000 in
theorem RHasW_any (s:Nat→Nat) (n:Int) (w:World) (hs:∀i,i < 7→s i < 18446744073709551616) :
  Calls Tryz.prog 30 #[wv s, .int .i64 n] w fun e w'=>e= .returned (.bool (hasW s n))∧Below w.heap.size w w':=by
 unfold hasW
 by_cases h0:0≤n
 ·by_cases h1:n < 400
  ·have hb:mayB n=true:=by simp [mayB]; omega
   rw [hb]
   obtain ⟨k,rfl⟩:∃k:Nat,n=k:=⟨n.toNat,by omega⟩
   have hk:k < 400:=by omega
   have hc:=wcells_new w s 33
   have e1:=hc (k / 64) (by omega)
   have c2:=hid (fun W=>RHas_any (s (k / 64)) ((k % 64:Nat):Int) W (hs _ (by omega)))
   rw [hasB_nat,show ((k % 64:Nat):Int)= (k:Int) % 64 by simp] at c2
   have hm7:k / 64 % 7=k / 64:=by omega
   have hlt:k / 64 < 7:=by omega
   have e1':(w.alloc (.cells #[.int .u64 (s 0:Nat), .int .u64 (s 1:Nat), .int .u64 (s 2:Nat), .int .u64 (s 3:Nat), .int .u64 (s 4:Nat), .int .u64 (s 5:Nat), .int .u64 (s 6:Nat)] 33)).cell? ⟨w.heap.size,k / 64 % 7,none⟩=some (.int .u64 (s (k / 64):Nat)):=by rw [hm7]; exact e1
   have hlt':k / 64 % 7 < 7:=by omega
   have hkI:(k:Int) < 400:=by omega
   have Hk:=hid hk
   clear hc hb h0 h1 hm7 hk e1 hlt
   by_cases hk0:0 < k
   ·go_enter Tryz.func30,Tryz.ntmps30
    go_wp2_with fail
    refine (c2.out _).mono ?_
    rintro e w' ⟨rfl,rfl⟩
    go_wp2
    go_ret
    exact ⟨by simp [bitW],below_new (Below.refl _ _) (zG _)⟩
   ·obtain rfl:k=0:=by omega
    have c3:Hid (∀W,Calls Tryz.prog 29 #[.int .u64 (s 0:Nat), .int .i64 0] W fun e w'=>e= .returned (.bool ((s 0).testBit 0))∧W=w'):=fun W=>RHas_any (s 0) 0 W (hs 0 (by omega))
    have f1:=(wcells_new w s 33) 0 (by omega)
    clear e1' hlt' c2 hkI hk0
    go_enter Tryz.func30,Tryz.ntmps30
    go_wp2_with fail
    refine (c3.out _).mono ?_
    rintro e w' ⟨rfl,rfl⟩
    go_wp2
    go_ret
    exact ⟨by simp [bitW],below_new (Below.refl _ _) (zG _)⟩
  ·have hb:mayB n=false:=by simp [mayB]; omega
   rw [hb]
   clear hb
   go_enter Tryz.func30,Tryz.ntmps30
   go_wp2
   go_ret
   exact ⟨rfl,below_new (Below.refl _ _) (zG _)⟩
 ·have hb:mayB n=false:=by simp [mayB]; omega
  rw [hb]
  clear hb
  go_enter Tryz.func30,Tryz.ntmps30
  go_wp2
  go_ret
  exact ⟨rfl,below_new (Below.refl _ _) (zG _)⟩
end
section
open Go.RowKit
theorem rep_one {α:Type} (v:α): [v]=List.replicate 1 v:=rfl
theorem rep_cons {α:Type} (v:α) (n:Nat):v :: List.replicate n v=List.replicate (n+1) v:=rfl
theorem rep_app {α:Type} (v:α) (n m:Nat):(List.replicate n v).append (List.replicate m v)=List.replicate (n+m) v:=List.replicate_append_replicate
set_option maxRecDepth 100000 in
theorem zc104:Tryz.zeroCells165= (List.replicate 86400 (Value.bool false)).toArray:=by
 simp only [Tryz.zeroCells165,rep_one,rep_cons,rep_app,Nat.reduceAdd]
set_option maxRecDepth 100000 in
theorem zc107:Tryz.zeroCells205= (List.replicate 1350 (Value.int .u64 0)).toArray:=by
 simp only [Tryz.zeroCells205,rep_one,rep_cons,rep_app,Nat.reduceAdd]
set_option maxRecDepth 100000 in
theorem zcw:Tryz.zeroCells203= (List.replicate 1350 (Value.int .u64 0)).toArray:=by
 simp only [Tryz.zeroCells203,rep_one,rep_cons,rep_app,Nat.reduceAdd]
def DC (W:World) (b:Nat) (f:Nat→Nat):Prop:=∀i,i < 1350→W.cell? ⟨b,i,none⟩=some (.int .u64 (f i:Nat))
theorem DC.below {W W':World} {b B:Nat} {f:Nat→Nat} (h:DC W b f) (hb:Below B W W') (hB:b < B):DC W' b f:=fun i hi=>(hb.cell (p:=⟨b,i,none⟩) hB).trans (h i hi)
theorem DC.set {W:World} {b i:Nat} {f:Nat→Nat} {v:Nat} (h:DC W b f) (hi:i < 1350):DC (W.setCell ⟨b,i,none⟩ (.int .u64 v)) b (fun j=>if j=i then v else f j):=by
 intro j hj
 by_cases e:j=i
 ·subst e; simp [go_sem,h j hj]
 ·simp [go_sem,h j hj,e]
theorem DC.congr {W:World} {b:Nat} {f g:Nat→Nat} (h:DC W b f) (e:∀i,i < 1350→f i=g i):DC W b g:=fun i hi=>by rw [←e i hi]; exact h i hi
theorem cell_rep (W:World) (n:Nat) (v:Value) (t:TypeId) (i:Nat) (hi:i < n):(W.alloc (.cells (List.replicate n v).toArray t)).cell? ⟨W.heap.size,i,none⟩=some v:=by simp [go_sem,hi]
theorem dc_new (W:World):DC (W.alloc (.cells Tryz.zeroCells205 205)) W.heap.size (fun _=>0):=fun i hi=>by
 rw [zc107]
 exact cell_rep W 1350 _ _ i hi
def dsecB (n:Int):Bool:=decide (0≤n) && decide (n < 86400)
theorem dsecB_nat (k:Nat):dsecB (k:Int)=decide (k < 86400):=by rw [dsecB,Bool.eq_iff_iff]; simp only [Bool.and_eq_true,decide_eq_true_eq]; omega
theorem dsecB_some {n:Int} (h:dsecB n=true):∃k:Nat,n=k∧k < 86400:=by
 rw [dsecB] at h
 simp only [Bool.and_eq_true,decide_eq_true_eq] at h
 exact ⟨n.toNat,by omega,by omega⟩
def hasD (f:Nat→Nat) (n:Int):Bool:=dsecB n && bitW f n.toNat
theorem DMay_any (n:Int) (w:World):Calls Tryz.prog 127 #[.int .i64 n] w fun e w'=>e= .returned (.bool (dsecB n))∧w=w':=by
 unfold dsecB
 by_cases h0:0≤n
 ·by_cases h1:n < 86400
  ·rw [decide_eq_true h0,decide_eq_true h1]
   go_enter Tryz.func127,Tryz.ntmps127
   go_wp2
   go_ret
   exact ⟨rfl,rfl⟩
  ·rw [decide_eq_true h0,decide_eq_false h1]
   go_enter Tryz.func127,Tryz.ntmps127
   go_wp2
   go_ret
   exact ⟨rfl,rfl⟩
 ·rw [decide_eq_false h0,Bool.false_and]
  go_enter Tryz.func127,Tryz.ntmps127
  go_wp2
  go_ret
  exact ⟨rfl,rfl⟩
set_option maxHeartbeats 800000 in
theorem DHas_any (b:Nat) (f:Nat→Nat) (n:Int) (w:World) (hc:DC w b f) (hf:∀i,i < 1350→f i < 18446744073709551616) :
  Calls Tryz.prog 139 #[.pointer (some ⟨b,0,none⟩), .int .i64 n] w fun e w'=>e= .returned (.bool (hasD f n))∧w=w':=by
 have c1:=hid (fun W=>DMay_any n W)
 unfold hasD
 by_cases hb:dsecB n=true
 ·rw [hb] at c1⊢
  obtain ⟨k,rfl,hk⟩:=dsecB_some hb
  have e1:=hc (k / 64) (by omega)
  have c2:=hid (fun W=>Has_any (f (k / 64)) ((k % 64:Nat):Int) W (hf _ (by omega)))
  rw [hasB_nat,show ((k % 64:Nat):Int)= (k:Int) % 64 by simp] at c2
  have hlt:k / 64 < 1350:=by omega
  clear hb hc hk
  go_enter Tryz.func139,Tryz.ntmps139
  go_wp2_with fail
  refine (c1.out _).mono ?_
  rintro e w' ⟨rfl,rfl⟩
  go_wp2_with fail
  refine (c2.out _).mono ?_
  rintro e w' ⟨rfl,rfl⟩
  go_wp2
  go_ret
  exact ⟨by simp [bitW],rfl⟩
 ·have hb':dsecB n=false:=by simpa using hb
  rw [hb'] at c1⊢
  clear hb hb'
  go_enter Tryz.func139,Tryz.ntmps139
  go_wp2_with fail
  refine (c1.out _).mono ?_
  rintro e w' ⟨rfl,rfl⟩
  go_wp2
  go_ret
  exact ⟨rfl,rfl⟩
end
section
open Go.RowKit
theorem sel_split (p:Nat→Bool) (k:Nat) (hk:p k=true):∀N,k < N→∃bs,sel p N=sel p k ++ (k:Int) :: bs
 | 0,h=>by omega
 | N+1,h=>by
   by_cases e:k=N
   ·subst e; exact ⟨[],sel_yes hk⟩
   ·obtain ⟨bs,hb⟩:=sel_split p k hk N (by omega)
    by_cases hp:p N=true
    ·exact ⟨bs ++ [(N:Int)],by rw [sel_yes hp,hb]; simp⟩
    ·exact ⟨bs,by rw [sel_no (by simpa using hp),hb]⟩
theorem sel_none {p:Nat→Bool} {n:Nat} (h:∀i,i < n→p i=false):sel p n= []:=by
 cases e:sel p n with
 | nil=>rfl
 | cons x xs=>
   have hx:x∈sel p n:=by rw [e]; simp
   obtain ⟨k,hk,hp,_⟩:=sel_mem.mp hx
   rw [h k hk] at hp; cases hp
def wantF (n:Int):List Int→Int
 | []=>-1
 | x :: xs=>if n < x then x else wantF n xs
theorem wantF_none (n:Int):∀l:List Int,(∀x∈l,¬n < x)→wantF n l= -1
 | [],_=>rfl
 | x :: xs,h=>by rw [wantF,if_neg (h x (by simp)),wantF_none n xs (fun y hy=>h y (by simp [hy]))]
theorem wantF_at (n y:Int) (bs:List Int) (hy:n < y):∀l:List Int,(∀x∈l,¬n < x)→wantF n (l ++ y :: bs)=y
 | [],_=>by simp [wantF,hy]
 | x :: xs,h=>by
   rw [List.cons_append,wantF,if_neg (h x (by simp)),wantF_at n y bs hy xs (fun z hz=>h z (by simp [hz]))]
theorem want_no {m:Nat} (n:Int) (hm:m < 18446744073709551616) (h:aboveM m n=0):wantF n (sel m.testBit 64)= -1:=by
 refine wantF_none n _ (fun x hx hlt=>?_)
 obtain ⟨k,hk,hp,rfl⟩:=sel_mem.mp hx
 have:=aboveM_test n k hm
 rw [h,hp] at this
 simp at this; omega
theorem want_yes {m:Nat} (n:Int) (hm:m < 18446744073709551616) (h:aboveM m n≠0):wantF n (sel m.testBit 64)= (lsb (aboveM m n):Int):=by
 obtain ⟨h1,h2,h3⟩:=lsb_spec h (aboveM_lt hm)
 obtain ⟨k,hk⟩:∃k,lsb (aboveM m n)=k:=⟨_,rfl⟩
 rw [hk] at h1 h2 h3⊢
 rw [aboveM_test n k hm] at h2
 simp only [Bool.and_eq_true,decide_eq_true_eq] at h2
 obtain ⟨bs,hb⟩:=sel_split m.testBit k h2.2 64 h1
 rw [hb]
 refine wantF_at n k bs h2.1 _ (fun x hx hlt=>?_)
 obtain ⟨j,hj,hp,rfl⟩:=sel_mem.mp hx
 have:=h3 j hj
 rw [aboveM_test n j hm,hp] at this
 simp at this; omega
theorem first_no {m:Nat} (h:m=0):sel m.testBit 64= []:=sel_none (fun i _=>by subst h; simp)
theorem first_yes {m:Nat} (hm:m < 18446744073709551616) (h:m≠0):∃bs,sel m.testBit 64= (lsb m:Int) :: bs:=by
 obtain ⟨h1,h2,h3⟩:=lsb_spec h hm
 obtain ⟨bs,hb⟩:=sel_split m.testBit (lsb m) h2 64 h1
 rw [sel_none h3] at hb
 exact ⟨bs,hb⟩
end
end Go.Proofs.YthimhfmnikfgaaaGreatDoor
