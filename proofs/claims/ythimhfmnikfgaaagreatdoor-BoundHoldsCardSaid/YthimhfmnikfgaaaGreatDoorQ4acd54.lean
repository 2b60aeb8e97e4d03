/-
  What the small functions of wide compute: sets of numbers as seven words.
  What within, may, May, Has, Len of wide compute.
  What may, May, Has and Len of wide, and Has and List of feriaref04, compute.
  Discs: their words in a block; what the small functions of disc compute.
  The least number of a mask above another one is the first such one of its list.
  Arguments that came in, opened: of a type that is flat (integers, bools, structs and arrays of them) the cells are what its leaves say; a slice of flat elements is a row of such cells. No condition.
  mask.All makes a function that has captured the box of what is in all of the masks.
-/
import Derived.Test.YthimhfmnikfgaaaGreatDoorQba836d
import Derived.ChangeKeysEq
import Derived.Deep.RegionHeld3
import Derived.OpenShut
import Derived.Deep.Slices
import Derived.ChangeOld
import Derived.ShutString
namespace Go.Proofs.YthimhfmnikfgaaaGreatDoor
set_option linter.unusedVariables false
section
open Go.RowKit
abbrev wv (s:Nat→Nat):Value:= .agg #[.int .u64 (s 0:Nat), .int .u64 (s 1:Nat), .int .u64 (s 2:Nat), .int .u64 (s 3:Nat), .int .u64 (s 4:Nat), .int .u64 (s 5:Nat), .int .u64 (s 6:Nat)]
def WCells (W:World) (b:Nat) (s:Nat→Nat):Prop:=∀i,i < 7→W.cell? ⟨b,i,none⟩=some (.int .u64 (s i:Nat))
theorem WCells.below {W W':World} {b B:Nat} {s:Nat→Nat} (h:WCells W b s) (hb:Below B W W') (hB:b < B):WCells W' b s:=fun i hi=>(hb.cell (p:=⟨b,i,none⟩) hB).trans (h i hi)
theorem WCells.congr {W:World} {b:Nat} {s t:Nat→Nat} (h:WCells W b s) (e:∀i,i < 7→s i=t i):WCells W b t:=fun i hi=>by rw [←e i hi]; exact h i hi
theorem WCells.all {W:World} {b:Nat} {s:Nat→Nat} (h:WCells W b s):W.cell? ⟨b,0,none⟩=some (.int .u64 (s 0:Nat))∧W.cell? ⟨b,1,none⟩=some (.int .u64 (s 1:Nat))∧W.cell? ⟨b,2,none⟩=some (.int .u64 (s 2:Nat))∧
  W.cell? ⟨b,3,none⟩=some (.int .u64 (s 3:Nat))∧W.cell? ⟨b,4,none⟩=some (.int .u64 (s 4:Nat))∧W.cell? ⟨b,5,none⟩=some (.int .u64 (s 5:Nat))∧W.cell? ⟨b,6,none⟩=some (.int .u64 (s 6:Nat)):=
 ⟨h 0 (by omega),h 1 (by omega),h 2 (by omega),h 3 (by omega),h 4 (by omega),h 5 (by omega),h 6 (by omega)⟩
theorem WCells.set {W:World} {b i:Nat} {s:Nat→Nat} {v:Nat} (h:WCells W b s) (hi:i < 7):WCells (W.setCell ⟨b,i,none⟩ (.int .u64 v)) b (fun j=>if j=i then v else s j):=by
 intro j hj
 by_cases e:j=i
 ·subst e; simp [go_sem,h j hj]
 ·simp [go_sem,h j hj,e]
def fullW (i:Nat):Nat:=spanM 0 (399 - 64 * (i:Int)) 1
theorem fullW_lt (i:Nat):fullW i < 18446744073709551616:=mk_lt _
theorem fullW_test (i k:Nat):(fullW i).testBit k= (decide (k < 64) && decide (64 * i+k < 400)):=by
 rw [fullW,spanM,mk_test,spanB,Bool.eq_iff_iff]
 simp only [Bool.and_eq_true,decide_eq_true_eq]
 omega
def WFree (W:World) (b:Nat):Prop:=∀j,W.frozen? ⟨b,j,none⟩=false
theorem WFree.below {W W':World} {b B:Nat} (h:WFree W b) (hb:Below B W W') (hB:b < B):WFree W' b:=fun i=>(hb.frozen (p:=⟨b,i,none⟩) hB).trans (h i)
theorem WFree.set {W:World} {b:Nat} (h:WFree W b) (p:Addr) (v:Value):WFree (W.setCell p v) b:=fun j=>by simp [go_sem,h j]
set_option maxHeartbeats 800000 in
theorem WFull_any (w:World):Calls Tryz.prog 137 #[] w fun e w'=>e= .returned (wv fullW)∧Below w.heap.size w w':=by
 have c1:Hid (∀(i:Nat) W,(i:Int) < 7→Calls Tryz.prog 135 #[.int .i64 0, .int .i64 (399 - (i:Int) * 64), .int .i64 1] W fun e w'=>e= .returned (.int .u64 (fullW i))∧W=w'):=fun i W h=>by
  have:=Span_any 0 (399 - 64 * (i:Int)) 1 W (by omega) (by omega)
  rw [Int.mul_comm] at this
  have e:fullW i=spanM 0 (399 - (i:Int) * 64) 1:=by rw [fullW,Int.mul_comm]
  rw [e]; exact this
 go_enter Tryz.func137,Tryz.ntmps137
 go_wp2
 go_loopw [3] (fun v wr=>∃i:Nat,v= .int .i64 i∧i≤7∧Hid (WCells wr (w.heap.size+1) (fun j=>if j < i then fullW j else 0))∧Hid (WCells wr w.heap.size (fun _=>0))∧Hid (WFree wr (w.heap.size+1))∧Hid (WFree wr w.heap.size)∧Below w.heap.size w wr∧wr.heap.size=w.heap.size+2) (fun v _=>7 - (intOf v).toNat)
 case atStart=>
  refine ⟨0,rfl,by omega,fun j hj=>?_,fun j hj=>?_,fun j=>by simp [go_sem],fun j=>by simp [go_sem],below_new (below_new (Below.refl _ _) (zG _)) (by simp),by simp⟩
  ·have:j=0∨j=1∨j=2∨j=3∨j=4∨j=5∨j=6:=by omega
   rcases this with rfl | rfl | rfl | rfl | rfl | rfl | rfl <;> simp [go_sem]
  ·have:j=0∨j=1∨j=2∨j=3∨j=4∨j=5∨j=6:=by omega
   rcases this with rfl | rfl | rfl | rfl | rfl | rfl | rfl <;> simp [go_sem]
 case round=>
  obtain ⟨i,rfl,hi,hc,hc0,hf,hf0,hB,hsz⟩:=hrel
  by_cases hlt:i < 7
  ·have e1:=hc.out i hlt
   have e2:=hf.out i
   go_wp2_with fail
   refine (c1.out i wr (by omega)).mono ?_
   rintro e w1 ⟨rfl,rfl⟩
   go_wp2
   refine ⟨⟨i+1,by go_num,by omega,?_,?_,?_,?_,below_set hB (by omega),by simpa [go_sem] using hsz⟩,by simp [intOf]; omega⟩
   ·exact (hc.out.set (v:=fullW i) hlt).congr (fun j hj=>by
     by_cases e:j=i
     ·subst e; simp
     ·have:(j < i+1)= (j < i):=by simp; omega
      simp [e,this])
   ·exact fun j hj=>(World.cell?_of_block (w:=wr) (a:=⟨w.heap.size,j,none⟩) (Below.heap_setCell _ _ _ _ (by simp))).trans (hc0.out j hj)
   ·exact hf.out.set _ _
   ·exact hf0.out.set _ _
  ·obtain rfl:i=7:=by omega
   have hc':WCells wr (w.heap.size+1) fullW:=hc.out.congr (fun j hj=>by simp [hj])
   obtain ⟨r0,r1,r2,r3,r4,r5,r6⟩:=hc'.all
   obtain ⟨z0,z1,z2,z3,z4,z5,z6⟩:=hc0.out.all
   have f0:=hf0.out 0
   have f1:=hf0.out 1
   have f2:=hf0.out 2
   have f3:=hf0.out 3
   have f4:=hf0.out 4
   have f5:=hf0.out 5
   have f6:=hf0.out 6
   clear hc hc0 hf hf0 hc'
   go_wp2
   refine bodyPost_ret (v:=wv fullW) (by simp [results,Tryz.results137,go_sem,z0,z1,z2,z3,z4,z5,z6]) rfl ⟨rfl,?_⟩
   exact below_set (below_set (below_set (below_set (below_set (below_set (below_set hB (zG _)) (zG _)) (zG _)) (zG _)) (zG _)) (zG _)) (zG _)
end
section
open Go.RowKit
def inW (s:Nat→Nat) (i:Nat):Nat:=s i &&& fullW i
theorem inW_lt {s:Nat→Nat} (i:Nat) (h:s i < 18446744073709551616):inW s i < 18446744073709551616:=and_lt (b:=fullW i) h
theorem seven {i:Nat} (h:i < 7):i=0∨i=1∨i=2∨i=3∨i=4∨i=5∨i=6:=by omega
theorem wcells_new (w:World) (s:Nat→Nat) (t:TypeId):WCells (w.alloc (.cells #[.int .u64 (s 0:Nat), .int .u64 (s 1:Nat), .int .u64 (s 2:Nat), .int .u64 (s 3:Nat), .int .u64 (s 4:Nat), .int .u64 (s 5:Nat), .int .u64 (s 6:Nat)] t)) w.heap.size s:=by
 intro i hi
 rcases seven hi with rfl | rfl | rfl | rfl | rfl | rfl | rfl <;> simp [go_sem]
theorem wfree_new (w:World) (s:Nat→Nat) (t:TypeId):WFree (w.alloc (.cells #[.int .u64 (s 0:Nat), .int .u64 (s 1:Nat), .int .u64 (s 2:Nat), .int .u64 (s 3:Nat), .int .u64 (s 4:Nat), .int .u64 (s 5:Nat), .int .u64 (s 6:Nat)] t)) w.heap.size:=fun i=>by simp [go_sem]
theorem infoU64:(Tryz.prog.info? 29).map (fun i=>(i.zero,i.size,i.bytes))=some (some (.int .u64 0),1,8):=by kernel_rfl
theorem run_index_wv (s:Nat→Nat) (i:Nat) (h:i < 7) (W:World):(Instr.index 33 (wv s) (.int .i64 i)).run Tryz.prog W= .ok (.int .u64 (s i:Nat)) W:=by
 obtain ⟨i0,hi0,hz0,hz1,hz2⟩:=info_parts infoU64
 rcases seven h with rfl | rfl | rfl | rfl | rfl | rfl | rfl
 all_goals
  simp [Instr.index,wv,go_sem,part,sizeOf,typeInfo,hi0,hz1]
set_option maxRecDepth 100000 in
set_option maxHeartbeats 1600000 in
theorem Within_any (s:Nat→Nat) (w:World) (hs:∀i,i < 7→s i < 18446744073709551616) :
  Calls Tryz.prog 141 #[wv s] w fun e w'=>e= .returned (wv (inW s))∧Below w.heap.size w w':=by
 have c1:=hid (fun W=>WFull_any W)
 obtain ⟨W0,hW0⟩:∃W0,(w.alloc (.cells #[.int .u64 (s 0:Nat), .int .u64 (s 1:Nat), .int .u64 (s 2:Nat), .int .u64 (s 3:Nat), .int .u64 (s 4:Nat), .int .u64 (s 5:Nat), .int .u64 (s 6:Nat)] 33)).alloc (.cells #[.int .u64 0, .int .u64 0, .int .u64 0, .int .u64 0, .int .u64 0, .int .u64 0, .int .u64 0] 33)=W0:=⟨_,rfl⟩
 have q1:W0.heap.size=w.heap.size+2:=by rw [←hW0]; simp
 have q2:Below w.heap.size w W0:=by rw [←hW0]; exact below_new (below_new (Below.refl _ _) (zG _)) (by simp)
 have q3:WCells W0 w.heap.size s:=by rw [←hW0]; exact (wcells_new w s _).below (below_new (Below.refl _ _) (zG _)) (by simp)
 have q4:WFree W0 w.heap.size:=by rw [←hW0]; exact (wfree_new w s _).below (below_new (Below.refl _ _) (zG _)) (by simp)
 have q5:WCells W0 (w.heap.size+1) (fun _=>0):=by
  rw [←hW0]
  intro i hi
  rcases seven hi with rfl | rfl | rfl | rfl | rfl | rfl | rfl <;> simp [go_sem]
 have q6:WFree W0 (w.heap.size+1):=fun i=>by rw [←hW0]; simp [go_sem]
 have HW0:=hid hW0
 have HS:=hid hs
 have HQ:=hid (And.intro q2 (And.intro q3 (And.intro q4 (And.intro q5 q6))))
 clear hW0 hs q2 q3 q4 q5 q6
 go_enter Tryz.func141,Tryz.ntmps141
 go_wp2_with fail
 rw [HW0.out]
 refine (c1.out W0).mono ?_
 rintro e w1 ⟨rfl,hB1⟩
 obtain ⟨q2,q3,q4,q5,q6⟩:=HQ.out
 have s1:=hB1.size
 have r3:=hid (q3.below hB1 (by omega))
 have r4:=hid (q4.below hB1 (by omega))
 have r5:=hid (q5.below hB1 (by omega))
 have r6:=hid (q6.below hB1 (by omega))
 have r2:Hid (Below w.heap.size w w1):=q2.trans (hB1.mono (by omega))
 clear q2 q3 q4 q5 q6 hB1
 go_wp2
 go_loopw [6] (fun v wr=>∃i:Nat,v= .int .i64 i∧i≤7∧Hid (WCells wr w.heap.size (fun j=>if j < i then inW s j else s j))∧Hid (WCells wr (w.heap.size+1) (fun _=>0))∧Hid (WFree wr w.heap.size)∧Hid (WFree wr (w.heap.size+1))∧Hid (Below w.heap.size w wr)) (fun v _=>7 - (intOf v).toNat)
 case atStart=>exact ⟨0,rfl,by omega,r3.out.congr (fun j hj=>by simp),r5.out,r4.out,r6.out,r2.out⟩
 case round=>
  obtain ⟨i,rfl,hi,hc,hc0,hf,hf0,hB⟩:=hrel
  by_cases hlt:i < 7
  ·have e1:wr.cell? ⟨w.heap.size,i,none⟩=some (.int .u64 (s i:Nat)):=by have:=hc.out i hlt; simpa using this
   have e2:=hf.out i
   have hand:=hid (bits_and (HS.out i hlt) (fullW_lt i))
   have done:∀W',W' =wr.setCell ⟨w.heap.size,i,none⟩ (.int .u64 (bits .and .u64 (s i:Nat) (fullW i:Nat)))→WCells W' w.heap.size (fun j=>if j < i+1 then inW s j else s j)∧WCells W' (w.heap.size+1) (fun _=>0)∧WFree W' w.heap.size∧WFree W' (w.heap.size+1)∧Below w.heap.size w W':=by
    rintro W' rfl
    rw [hand.out]
    refine ⟨(hc.out.set (v:=inW s i) hlt).congr (fun j hj=>?_),fun j hj=>(World.cell?_of_block (w:=wr) (a:=⟨w.heap.size+1,j,none⟩) (Below.heap_setCell _ _ _ _ (by simp))).trans (hc0.out j hj),hf.out.set _ _,hf0.out.set _ _,below_set hB.out (zG _)⟩
    by_cases e:j=i
    ·subst e; simp
    ·have:(j < i+1)= (j < i):=by simp; omega
     simp [e,this]
   have Done:=hid done
   clear done
   have hix:=fun W=>run_index_wv fullW i hlt W
   clear hc hc0 hf hf0 hB
   go_wp2
   obtain ⟨d1,d2,d3,d4,d5⟩:=Done.out _ rfl
   exact ⟨⟨i+1,by go_num,by omega,d1,d2,d3,d4,d5⟩,by simp [intOf]; omega⟩
  ·obtain rfl:i=7:=by omega
   have hc':WCells wr w.heap.size (inW s):=hc.out.congr (fun j hj=>by simp [hj])
   obtain ⟨r0,r1,r2,r3,r4,r5,r6⟩:=hc'.all
   obtain ⟨z0,z1,z2,z3,z4,z5,z6⟩:=hc0.out.all
   have f0:=hf0.out 0
   have f1:=hf0.out 1
   have f2:=hf0.out 2
   have f3:=hf0.out 3
   have f4:=hf0.out 4
   have f5:=hf0.out 5
   have f6:=hf0.out 6
   clear hc hc0 hf hf0 hc'
   go_wp2
   refine bodyPost_ret (v:=wv (inW s)) (by simp [results,Tryz.results141,go_sem,z0,z1,z2,z3,z4,z5,z6]) rfl ⟨rfl,?_⟩
   exact below_set (below_set (below_set (below_set (below_set (below_set (below_set hB.out (Nat.le_add_right _ _)) (Nat.le_add_right _ _)) (Nat.le_add_right _ _)) (Nat.le_add_right _ _)) (Nat.le_add_right _ _)) (Nat.le_add_right _ _)) (Nat.le_add_right _ _)
end
section
open Go.RowKit
def eqW (s t:Nat→Nat):Bool:=(List.range 7).all (fun i=>s i == t i)
theorem eqW_iff (s t:Nat→Nat):eqW s t=true↔∀i,i < 7→s i=t i:=by
 rw [eqW,List.all_eq_true]
 simp
theorem part_wv (s:Nat→Nat) (i:Nat) (h:i < 7) (W:World):(part 29 #[.int .u64 (s 0:Nat), .int .u64 (s 1:Nat), .int .u64 (s 2:Nat), .int .u64 (s 3:Nat), .int .u64 (s 4:Nat), .int .u64 (s 5:Nat), .int .u64 (s 6:Nat)] (i * Tryz.prog.cellsOf 29)).run Tryz.prog W= .ok (.int .u64 (s i:Nat)) W:=by
 rw [show Tryz.prog.cellsOf 29=1 by kernel_rfl]
 rcases seven h with rfl | rfl | rfl | rfl | rfl | rfl | rfl
 all_goals
  simp [go_sem,part]
theorem run_eql_wv (s t:Nat→Nat) (W:World):(binOp .eql 33 (wv s) (wv t)).run Tryz.prog W= .ok (.bool (eqW s t)) W:=by
 obtain ⟨i0,hi0,hz0,hz1,hz2⟩:=info_parts infoU64
 rw [run_eql_struct,show (10000:Nat)=9999+1 from rfl,run_equalIn_array W 9999 _ _ Tryz.underlying33 hi0,eqW]
 have hl:∀i∈List.range 7,i < 7:=fun i hi=>by simpa using hi
 generalize List.range 7=l at hl⊢
 have key:(Op.eqItems 9999 29 (Tryz.prog.cellsOf 29) #[.int .u64 (s 0:Nat), .int .u64 (s 1:Nat), .int .u64 (s 2:Nat), .int .u64 (s 3:Nat), .int .u64 (s 4:Nat), .int .u64 (s 5:Nat), .int .u64 (s 6:Nat)]
   #[.int .u64 (t 0:Nat), .int .u64 (t 1:Nat), .int .u64 (t 2:Nat), .int .u64 (t 3:Nat), .int .u64 (t 4:Nat), .int .u64 (t 5:Nat), .int .u64 (t 6:Nat)] l).run Tryz.prog W= .ok (l.all (fun i=>s i == t i)) W:=by
  induction l with
  | nil=>simp [Op.eqItems]
  | cons i l ih=>
    have hi:i < 7:=hl i (by simp)
    have pe:(Op.equalIn 9999 29 (.int .u64 (s i:Nat)) (.int .u64 (t i:Nat))).run Tryz.prog W= .ok ((s i:Int) == (t i:Int)) W:=by
     rw [show (9999:Nat)=9998+1 from rfl,run_equalIn_int W 9998 29 .u64 .u64 _ _ Tryz.underlying29]
    simp only [Op.eqItems,Sem.run_bind,part_wv s i hi W,part_wv t i hi W,pe,Result.andThen_ok,List.all_cons]
    have hb:((s i:Int) == (t i:Int))= (s i == t i):=by rw [Bool.eq_iff_iff]; simp; omega
    rw [hb]
    cases hc:(s i == t i)
    ·simp
    ·simp only [Bool.not_true,Bool.false_eq_true,if_false,Bool.true_and]
     exact ih fun j hj=>hl j (by simp [hj])
 rw [key]
 rfl
def mayB (n:Int):Bool:=decide (0≤n) && decide (n < 400)
theorem WMayN_any (n:Int) (w:World):Calls Tryz.prog 205 #[.int .i64 n] w fun e w'=>e= .returned (.bool (mayB n))∧w=w':=by
 unfold mayB
 by_cases h0:0≤n
 ·by_cases h1:n < 400
  ·go_enter Tryz.func205,Tryz.ntmps205
   go_wp2
   go_ret
   exact ⟨ret_bool (by rw [Bool.eq_iff_iff]; simp; omega),rfl⟩
  ·go_enter Tryz.func205,Tryz.ntmps205
   go_wp2
   go_ret
   exact ⟨ret_bool (by rw [Bool.eq_iff_iff]; simp; omega),rfl⟩
 ·go_enter Tryz.func205,Tryz.ntmps205
  go_wp2
  go_ret
  exact ⟨ret_bool (by rw [Bool.eq_iff_iff]; simp; omega),rfl⟩
abbrev BoxS (w:World) (s:Nat→Nat) (W:World):Prop:=
 W.cell? ⟨w.heap.size,0,none⟩=some (.int .u64 (s 0:Nat))∧W.cell? ⟨w.heap.size,1,none⟩=some (.int .u64 (s 1:Nat))∧W.cell? ⟨w.heap.size,2,none⟩=some (.int .u64 (s 2:Nat))∧W.cell? ⟨w.heap.size,3,none⟩=some (.int .u64 (s 3:Nat))∧
 W.cell? ⟨w.heap.size,4,none⟩=some (.int .u64 (s 4:Nat))∧W.cell? ⟨w.heap.size,5,none⟩=some (.int .u64 (s 5:Nat))∧W.cell? ⟨w.heap.size,6,none⟩=some (.int .u64 (s 6:Nat))∧Below w.heap.size w W∧w.heap.size < W.heap.size
theorem BoxS.keep {w W W':World} {s:Nat→Nat} (h:BoxS w s W) (hb:Below W.heap.size W W'):BoxS w s W':=by
 obtain ⟨h0,h1,h2,h3,h4,h5,h6,h7,h8⟩:=h
 exact ⟨(hb.cell (p:=⟨w.heap.size,0,none⟩) h8).trans h0,(hb.cell (p:=⟨w.heap.size,1,none⟩) h8).trans h1,(hb.cell (p:=⟨w.heap.size,2,none⟩) h8).trans h2,(hb.cell (p:=⟨w.heap.size,3,none⟩) h8).trans h3,
  (hb.cell (p:=⟨w.heap.size,4,none⟩) h8).trans h4,(hb.cell (p:=⟨w.heap.size,5,none⟩) h8).trans h5,(hb.cell (p:=⟨w.heap.size,6,none⟩) h8).trans h6,h7.trans (hb.mono (by omega)),zH h8 hb.size⟩
set_option maxHeartbeats 800000 in
theorem WMay_any (s:Nat→Nat) (w:World) (hs:∀i,i < 7→s i < 18446744073709551616) :
  Calls Tryz.prog 78 #[wv s] w fun e w'=>e= .returned (.bool (eqW (inW s) s))∧Below w.heap.size w w':=by
 have c1:=hid (fun W=>Within_any s W hs)
 have heq:=fun W=>run_eql_wv (inW s) s W
 have hB0:Below w.heap.size w (w.alloc (.cells #[.int .u64 (s 0:Nat), .int .u64 (s 1:Nat), .int .u64 (s 2:Nat), .int .u64 (s 3:Nat), .int .u64 (s 4:Nat), .int .u64 (s 5:Nat), .int .u64 (s 6:Nat)] 33)):=below_new (Below.refl _ _) (zG _)
 have HS0:Hid (BoxS w s (w.alloc (.cells #[.int .u64 (s 0:Nat), .int .u64 (s 1:Nat), .int .u64 (s 2:Nat), .int .u64 (s 3:Nat), .int .u64 (s 4:Nat), .int .u64 (s 5:Nat), .int .u64 (s 6:Nat)] 33)).drew):=by
  obtain ⟨r0,r1,r2,r3,r4,r5,r6⟩:=(wcells_new w s 33).all
  exact ⟨r0,r1,r2,r3,r4,r5,r6,hB0.drew,by simp [go_sem]⟩
 have c2:=hid (fun W (h:BoxS w s W)=>keep_of (c1.out W) (fun _=>h.keep))
 clear hB0
 go_enter Tryz.func78,Tryz.ntmps78
 go_wp2_with fail
 go_region_held3 (fun w'=>BoxS w s w') (first | exact HS0.out | assumption)
  (first
    | (go_at_call 141; refine (c2.out _ (by assumption)).mono ?_; rintro e w' ⟨rfl,hS⟩))
 go_wp2
 go_ret
 exact ⟨rfl,(‹BoxS w s _›).2.2.2.2.2.2.2.1⟩
def bitW (s:Nat→Nat) (k:Nat):Bool:=(s (k / 64)).testBit (k % 64)
def hasW (s:Nat→Nat) (n:Int):Bool:=mayB n && bitW s n.toNat
set_option maxHeartbeats 800000 in
theorem WHas_any (s:Nat→Nat) (n:Int) (w:World) (hs:∀i,i < 7→s i < 18446744073709551616) :
  Calls Tryz.prog 194 #[wv s, .int .i64 n] w fun e w'=>e= .returned (.bool (hasW s n))∧Below w.heap.size w w':=by
 have c1:=hid (fun W=>WMayN_any n W)
 unfold hasW
 by_cases hb:mayB n=true
 ·rw [hb] at c1⊢
  rw [mayB] at hb
  simp at hb
  obtain ⟨k,rfl⟩:∃k:Nat,n=k:=⟨n.toNat,by omega⟩
  have hk:k < 400:=by omega
  have hc:=wcells_new w s 33
  have e1:=hc (k / 64) (by omega)
  have c2:=hid (fun W=>Has_any (s (k / 64)) ((k % 64:Nat):Int) W (hs _ (by omega)))
  rw [hasB_nat,show ((k % 64:Nat):Int)= (k:Int) % 64 by simp] at c2
  have hlt:k / 64 < 7:=by omega
  clear hb hc
  go_enter Tryz.func194,Tryz.ntmps194
  go_wp2_with fail
  refine (c1.out _).mono ?_
  rintro e w' ⟨rfl,rfl⟩
  go_wp2_with fail
  refine (c2.out _).mono ?_
  rintro e w' ⟨rfl,rfl⟩
  go_wp2
  go_ret
  exact ⟨by simp [bitW],below_new (Below.refl _ _) (zG _)⟩
 ·have hb':mayB n=false:=by simpa using hb
  rw [hb'] at c1⊢
  clear hb hb'
  go_enter Tryz.func194,Tryz.ntmps194
  go_wp2_with fail
  refine (c1.out _).mono ?_
  rintro e w' ⟨rfl,rfl⟩
  go_wp2
  go_ret
  exact ⟨rfl,below_new (Below.refl _ _) (zG _)⟩
set_option maxHeartbeats 800000 in
theorem RHasW_any (s:Nat→Nat) (n:Int) (w:World) (hs:∀i,i < 7→s i < 18446744073709551616) :
  Calls Tryz.prog 30 #[wv s, .int .i64 n] w fun e w'=>e= .returned (.bool (hasW s n))∧Below w.heap.size w w':=by
 unfold hasW
 by_cases h0:0≤n
 ·by_cases h1:n < 400
  ·have hb:mayB n=true:=by simp [mayB]; omega
   rw [hb]
   obtain ⟨k,rfl⟩:∃k:Nat,n=k:=⟨n.toNat,by omega⟩
   have hk:k < 400:=by omega
   have hc:=wcells_new w s 33
   have e1:=hc (k / 64) (by omega)
   have c2:=hid (fun W=>RHas_any (s (k / 64)) ((k % 64:Nat):Int) W (hs _ (by omega)))
   rw [hasB_nat,show ((k % 64:Nat):Int)= (k:Int) % 64 by simp] at c2
   have hm7:k / 64 % 7=k / 64:=by omega
   have hlt:k / 64 < 7:=by omega
   have e1':(w.alloc (.cells #[.int .u64 (s 0:Nat), .int .u64 (s 1:Nat), .int .u64 (s 2:Nat), .int .u64 (s 3:Nat), .int .u64 (s 4:Nat), .int .u64 (s 5:Nat), .int .u64 (s 6:Nat)] 33)).cell? ⟨w.heap.size,k / 64 % 7,none⟩=some (.int .u64 (s (k / 64):Nat)):=by rw [hm7]; exact e1
   have hlt':k / 64 % 7 < 7:=by omega
   have hkI:(k:Int) < 400:=by omega
   have Hk:=hid hk
   clear hc hb h0 h1 hm7 hk e1 hlt
   by_cases hk0:0 < k
   ·go_enter Tryz.func30,Tryz.ntmps30
    go_wp2_with fail
    refine (c2.out _).mono ?_
    rintro e w' ⟨rfl,rfl⟩
    go_wp2
    go_ret
    exact ⟨by simp [bitW],below_new (Below.refl _ _) (zG _)⟩
   ·obtain rfl:k=0:=by omega
    have c3:Hid (∀W,Calls Tryz.prog 29 #[.int .u64 (s 0:Nat), .int .i64 0] W fun e w'=>e= .returned (.bool ((s 0).testBit 0))∧W=w'):=fun W=>RHas_any (s 0) 0 W (hs 0 (by omega))
    have f1:=(wcells_new w s 33) 0 (by omega)
    clear e1' hlt' c2 hkI hk0
    go_enter Tryz.func30,Tryz.ntmps30
    go_wp2_with fail
    refine (c3.out _).mono ?_
    rintro e w' ⟨rfl,rfl⟩
    go_wp2
    go_ret
    exact ⟨by simp [bitW],below_new (Below.refl _ _) (zG _)⟩
  ·have hb:mayB n=false:=by simp [mayB]; omega
   rw [hb]
   clear hb
   go_enter Tryz.func30,Tryz.ntmps30
   go_wp2
   go_ret
   exact ⟨rfl,below_new (Below.refl _ _) (zG _)⟩
 ·have hb:mayB n=false:=by simp [mayB]; omega
  rw [hb]
  clear hb
  go_enter Tryz.func30,Tryz.ntmps30
  go_wp2
  go_ret
  exact ⟨rfl,below_new (Below.refl _ _) (zG _)⟩
end
section
open Go.RowKit
theorem rep_one {α:Type} (v:α): [v]=List.replicate 1 v:=rfl
theorem rep_cons {α:Type} (v:α) (n:Nat):v :: List.replicate n v=List.replicate (n+1) v:=rfl
theorem rep_app {α:Type} (v:α) (n m:Nat):(List.replicate n v).append (List.replicate m v)=List.replicate (n+m) v:=List.replicate_append_replicate
set_option maxRecDepth 100000 in
theorem zc107:Tryz.zeroCells205= (List.replicate 1350 (Value.int .u64 0)).toArray:=by
 simp only [Tryz.zeroCells205,rep_one,rep_cons,rep_app,Nat.reduceAdd]
def DC (W:World) (b:Nat) (f:Nat→Nat):Prop:=∀i,i < 1350→W.cell? ⟨b,i,none⟩=some (.int .u64 (f i:Nat))
theorem DC.below {W W':World} {b B:Nat} {f:Nat→Nat} (h:DC W b f) (hb:Below B W W') (hB:b < B):DC W' b f:=fun i hi=>(hb.cell (p:=⟨b,i,none⟩) hB).trans (h i hi)
theorem DC.set {W:World} {b i:Nat} {f:Nat→Nat} {v:Nat} (h:DC W b f) (hi:i < 1350):DC (W.setCell ⟨b,i,none⟩ (.int .u64 v)) b (fun j=>if j=i then v else f j):=by
 intro j hj
 by_cases e:j=i
 ·subst e; simp [go_sem,h j hj]
 ·simp [go_sem,h j hj,e]
theorem DC.congr {W:World} {b:Nat} {f g:Nat→Nat} (h:DC W b f) (e:∀i,i < 1350→f i=g i):DC W b g:=fun i hi=>by rw [←e i hi]; exact h i hi
theorem cell_rep (W:World) (n:Nat) (v:Value) (t:TypeId) (i:Nat) (hi:i < n):(W.alloc (.cells (List.replicate n v).toArray t)).cell? ⟨W.heap.size,i,none⟩=some v:=by simp [go_sem,hi]
theorem dc_new (W:World):DC (W.alloc (.cells Tryz.zeroCells205 205)) W.heap.size (fun _=>0):=fun i hi=>by
 rw [zc107]
 exact cell_rep W 1350 _ _ i hi
def dsecB (n:Int):Bool:=decide (0≤n) && decide (n < 86400)
theorem dsecB_nat (k:Nat):dsecB (k:Int)=decide (k < 86400):=by rw [dsecB,Bool.eq_iff_iff]; simp only [Bool.and_eq_true,decide_eq_true_eq]; omega
theorem dsecB_some {n:Int} (h:dsecB n=true):∃k:Nat,n=k∧k < 86400:=by
 rw [dsecB] at h
 simp only [Bool.and_eq_true,decide_eq_true_eq] at h
 exact ⟨n.toNat,by omega,by omega⟩
def hasD (f:Nat→Nat) (n:Int):Bool:=dsecB n && bitW f n.toNat
theorem DMay_any (n:Int) (w:World):Calls Tryz.prog 127 #[.int .i64 n] w fun e w'=>e= .returned (.bool (dsecB n))∧w=w':=by
 unfold dsecB
 by_cases h0:0≤n
 ·by_cases h1:n < 86400
  ·rw [decide_eq_true h0,decide_eq_true h1]
   go_enter Tryz.func127,Tryz.ntmps127
   go_wp2
   go_ret
   exact ⟨rfl,rfl⟩
  ·rw [decide_eq_true h0,decide_eq_false h1]
   go_enter Tryz.func127,Tryz.ntmps127
   go_wp2
   go_ret
   exact ⟨rfl,rfl⟩
 ·rw [decide_eq_false h0,Bool.false_and]
  go_enter Tryz.func127,Tryz.ntmps127
  go_wp2
  go_ret
  exact ⟨rfl,rfl⟩
set_option maxHeartbeats 800000 in
theorem DHas_any (b:Nat) (f:Nat→Nat) (n:Int) (w:World) (hc:DC w b f) (hf:∀i,i < 1350→f i < 18446744073709551616) :
  Calls Tryz.prog 139 #[.pointer (some ⟨b,0,none⟩), .int .i64 n] w fun e w'=>e= .returned (.bool (hasD f n))∧w=w':=by
 have c1:=hid (fun W=>DMay_any n W)
 unfold hasD
 by_cases hb:dsecB n=true
 ·rw [hb] at c1⊢
  obtain ⟨k,rfl,hk⟩:=dsecB_some hb
  have e1:=hc (k / 64) (by omega)
  have c2:=hid (fun W=>Has_any (f (k / 64)) ((k % 64:Nat):Int) W (hf _ (by omega)))
  rw [hasB_nat,show ((k % 64:Nat):Int)= (k:Int) % 64 by simp] at c2
  have hlt:k / 64 < 1350:=by omega
  clear hb hc hk
  go_enter Tryz.func139,Tryz.ntmps139
  go_wp2_with fail
  refine (c1.out _).mono ?_
  rintro e w' ⟨rfl,rfl⟩
  go_wp2_with fail
  refine (c2.out _).mono ?_
  rintro e w' ⟨rfl,rfl⟩
  go_wp2
  go_ret
  exact ⟨by simp [bitW],rfl⟩
 ·have hb':dsecB n=false:=by simpa using hb
  rw [hb'] at c1⊢
  clear hb hb'
  go_enter Tryz.func139,Tryz.ntmps139
  go_wp2_with fail
  refine (c1.out _).mono ?_
  rintro e w' ⟨rfl,rfl⟩
  go_wp2
  go_ret
  exact ⟨rfl,rfl⟩
theorem Word_any (b:Nat) (f:Nat→Nat) (i:Nat) (w:World) (hc:DC w b f) (hi:i < 1350) :
  Calls Tryz.prog 157 #[.pointer (some ⟨b,0,none⟩), .int .i64 i] w fun e w'=>e= .returned (.int .u64 (f i:Nat))∧w=w':=by
 have e1:=hc i hi
 clear hc
 go_enter Tryz.func157,Tryz.ntmps157
 go_wp2
 go_ret
 exact ⟨rfl,rfl⟩
theorem Word_nil (i:Nat) (w:World):Calls Tryz.prog 157 #[.pointer none, .int .i64 i] w fun e w'=>e= .returned (.int .u64 (0:Nat))∧w=w':=by
 go_enter Tryz.func157,Tryz.ntmps157
 go_wp2
 go_ret
 exact ⟨rfl,rfl⟩
end
section
open Go.RowKit
theorem sel_split (p:Nat→Bool) (k:Nat) (hk:p k=true):∀N,k < N→∃bs,sel p N=sel p k ++ (k:Int) :: bs
 | 0,h=>by omega
 | N+1,h=>by
   by_cases e:k=N
   ·subst e; exact ⟨[],sel_yes hk⟩
   ·obtain ⟨bs,hb⟩:=sel_split p k hk N (by omega)
    by_cases hp:p N=true
    ·exact ⟨bs ++ [(N:Int)],by rw [sel_yes hp,hb]; simp⟩
    ·exact ⟨bs,by rw [sel_no (by simpa using hp),hb]⟩
theorem sel_none {p:Nat→Bool} {n:Nat} (h:∀i,i < n→p i=false):sel p n= []:=by
 cases e:sel p n with
 | nil=>rfl
 | cons x xs=>
   have hx:x∈sel p n:=by rw [e]; simp
   obtain ⟨k,hk,hp,_⟩:=sel_mem.mp hx
   rw [h k hk] at hp; cases hp
def wantF (n:Int):List Int→Int
 | []=>-1
 | x :: xs=>if n < x then x else wantF n xs
theorem wantF_none (n:Int):∀l:List Int,(∀x∈l,¬n < x)→wantF n l= -1
 | [],_=>rfl
 | x :: xs,h=>by rw [wantF,if_neg (h x (by simp)),wantF_none n xs (fun y hy=>h y (by simp [hy]))]
theorem wantF_at (n y:Int) (bs:List Int) (hy:n < y):∀l:List Int,(∀x∈l,¬n < x)→wantF n (l ++ y :: bs)=y
 | [],_=>by simp [wantF,hy]
 | x :: xs,h=>by
   rw [List.cons_append,wantF,if_neg (h x (by simp)),wantF_at n y bs hy xs (fun z hz=>h z (by simp [hz]))]
theorem want_no {m:Nat} (n:Int) (hm:m < 18446744073709551616) (h:aboveM m n=0):wantF n (sel m.testBit 64)= -1:=by
 refine wantF_none n _ (fun x hx hlt=>?_)
 obtain ⟨k,hk,hp,rfl⟩:=sel_mem.mp hx
 have:=aboveM_test n k hm
 rw [h,hp] at this
 simp at this; omega
theorem want_yes {m:Nat} (n:Int) (hm:m < 18446744073709551616) (h:aboveM m n≠0):wantF n (sel m.testBit 64)= (lsb (aboveM m n):Int):=by
 obtain ⟨h1,h2,h3⟩:=lsb_spec h (aboveM_lt hm)
 obtain ⟨k,hk⟩:∃k,lsb (aboveM m n)=k:=⟨_,rfl⟩
 rw [hk] at h1 h2 h3⊢
 rw [aboveM_test n k hm] at h2
 simp only [Bool.and_eq_true,decide_eq_true_eq] at h2
 obtain ⟨bs,hb⟩:=sel_split m.testBit k h2.2 64 h1
 rw [hb]
 refine wantF_at n k bs h2.1 _ (fun x hx hlt=>?_)
 obtain ⟨j,hj,hp,rfl⟩:=sel_mem.mp hx
 have:=h3 j hj
 rw [aboveM_test n j hm,hp] at this
 simp at this; omega
theorem first_no {m:Nat} (h:m=0):sel m.testBit 64= []:=sel_none (fun i _=>by subst h; simp)
theorem first_yes {m:Nat} (hm:m < 18446744073709551616) (h:m≠0):∃bs,sel m.testBit 64= (lsb m:Int) :: bs:=by
 obtain ⟨h1,h2,h3⟩:=lsb_spec h hm
 obtain ⟨bs,hb⟩:=sel_split m.testBit (lsb m) h2 64 h1
 rw [sel_none h3] at hb
 exact ⟨bs,hb⟩
end
section
open Go.RowKit Go.ChangeShapes Go.WideShapes
inductive Leaf where
 | int (k:IntKind)
 | bool
def Leaf.ok:Leaf→Value→Prop
 | .int k,v=>∃n,v= .int k n∧(Lit.int k n).wf=true
 | .bool,v=>∃b,v= .bool b
def oks:List Leaf→List Value→Prop
 | [],[]=>True
 | k :: ks,v :: vs=>k.ok v∧oks ks vs
 | _,_=>False
theorem oks_append:∀{ks ls:List Leaf} {cs ds:List Value},oks ks cs→oks ls ds→oks (ks ++ ls) (cs ++ ds)
 | [],_,[],_,_,h=>h
 | k :: ks,ls,v :: vs,ds,h,h'=>⟨h.1,oks_append h.2 h'⟩
 | [],_,_ :: _,_,h,_=>h.elim
 | _ :: _,_,[],_,h,_=>h.elim
def leavesF (P:Program) (g:TypeId→Option (List Leaf)):List Field→Nat→Option (List Leaf)
 | [],_=>some []
 | f :: fs,o=>(g f.type).bind fun l=>if f.offset=o∧l.length=P.cellsOf f.type then (leavesF P g fs (o+l.length)).map (l ++ ·) else none
def leaves (P:Program):Nat→TypeId→Option (List Leaf)
 | 0,_=>none
 | m+1,t=>
   match P.underlying t with
   | some (.int k)=>some [.int k]
   | some .bool=>some [.bool]
   | some (.struct fs)=>(leavesF P (leaves P m) fs.toList 0).bind fun l=>if l.length=P.cellsOf t then some l else none
   | some (.array n e)=>(leaves P m e).bind fun l=>if l.length=P.cellsOf e∧n * P.cellsOf e=P.cellsOf t then some (List.replicate n l).flatten else none
   | _=>none
section
variable {H:Type} {enc:TypeId × Value→H} {P:Program} {w:World} {base:Nat} {spare:Nat→Bool} {held:Bool}
theorem leavesF_ok {g:TypeId→Option (List Leaf)} {n:Nat} {cs:List Value}
  (hg:∀t ks c (x:DataW H × List MemPlace),g t=some ks→DataW.trod enc P w base spare held n t c=some x→oks ks c) :
  ∀(fs:List Field) (o:Nat) (ks:List Leaf),leavesF P g fs o=some ks→
   (∀f∈fs,∃x:DataW H × List MemPlace,DataW.trod enc P w base spare held n f.type ((cs.drop f.offset).take (P.cellsOf f.type))=some x)→cs.length=o+ks.length→oks ks (cs.drop o):=by
 intro fs
 induction fs with
 | nil=>
   intro o ks h _ hl
   simp [leavesF] at h
   subst h
   rw [List.drop_of_length_le (by simp at hl; omega)]
   trivial
 | cons f fs ih=>
   intro o ks h hx hl
   simp only [leavesF,Option.bind_eq_some_iff] at h
   obtain ⟨l,hgl,h⟩:=h
   split at h
   ·rename_i hc
    obtain ⟨ho,hlen⟩:=hc
    simp only [Option.map_eq_some_iff] at h
    obtain ⟨r,hr,rfl⟩:=h
    obtain ⟨x,hx1⟩:=hx f (by simp)
    have h1:=hg _ _ _ _ hgl hx1
    rw [ho,←hlen] at h1
    have h2:=ih (o+l.length) r hr (fun f hf=>hx f (by simp [hf])) (by simp at hl; omega)
    have:=oks_append h1 h2
    rw [←List.drop_drop] at this
    rwa [List.take_append_drop] at this
   ·cases h
theorem oks_rep (l:List Leaf) (cs:List Value):∀(n:Nat),cs.length=n * l.length→(∀i,i < n→oks l ((cs.drop (i * l.length)).take l.length))→oks (List.replicate n l).flatten cs:=by
 intro n
 induction n generalizing cs with
 | zero=>intro h _; simp at h; subst h; trivial
 | succ n ih=>
   intro h hx
   rw [List.replicate_succ,List.flatten_cons]
   have h0:=hx 0 (by omega)
   simp only [Nat.zero_mul,List.drop_zero] at h0
   have h1:=ih (cs.drop l.length) (by rw [List.length_drop,h,Nat.succ_mul]; omega) (fun i hi=>by
    have:=hx (i+1) (by omega)
    rw [List.drop_drop]
    rwa [Nat.succ_mul,Nat.add_comm] at this)
   have:=oks_append h0 h1
   rwa [List.take_append_drop] at this
theorem leaves_ok:∀(m:Nat) {t:TypeId} {ks:List Leaf} {fuel:Nat} {cs:List Value} {x:DataW H × List MemPlace},leaves P m t=some ks→DataW.trod enc P w base spare held fuel t cs=some x→oks ks cs
 | 0,_,_,_,_,_,h,_=>by simp [leaves] at h
 | m+1,t,ks,fuel,cs,x,h,hx=>by
   unfold leaves at h
   split at h
   ·rename_i k ht
    obtain ⟨n,rfl,_,hw⟩:=DataW.trod_int ht hx
    cases h
    exact ⟨⟨n,rfl,hw⟩,trivial⟩
   ·rename_i ht
    obtain ⟨b,rfl,_⟩:=DataW.trod_bool ht hx
    cases h
    exact ⟨⟨b,rfl⟩,trivial⟩
   ·rename_i fs ht
    obtain ⟨xs,n,rfl,_,hlen,hxl,hf⟩:=DataW.trod_struct ht hx
    simp only [Option.bind_eq_some_iff] at h
    obtain ⟨l,hl,h⟩:=h
    split at h
    ·rename_i hc
     cases h
     have:=leavesF_ok (cs:=cs) (enc:=enc) (P:=P) (w:=w) (base:=base) (spare:=spare) (held:=held) (n:=n) (fun t ks c x h1 h2=>leaves_ok m h1 h2) fs.toList 0 ks hl (fun f hff=>by
      obtain ⟨i,hi,rfl⟩:=List.getElem_of_mem hff
      have h3:=hf i fs.toList[i] (by simp at hi⊢)
      have hi':i < xs.length:=by rw [hxl]; simpa using hi
      rw [List.getElem?_eq_getElem hi'] at h3
      exact ⟨_,h3⟩) (by omega)
     simpa using this
    ·cases h
   ·rename_i n e ht
    obtain ⟨xs,m',rfl,_,hlen,hxl,hf⟩:=DataW.trod_array ht hx
    simp only [Option.bind_eq_some_iff] at h
    obtain ⟨l,hl,h⟩:=h
    split at h
    ·rename_i hc
     cases h
     refine oks_rep l cs n (by rw [hlen,←hc.2,hc.1]) (fun i hi=>?_)
     have h3:=hf i hi
     rw [List.getElem?_eq_getElem (by omega)] at h3
     rw [hc.1]
     exact leaves_ok m hl h3
    ·cases h
   ·cases h
theorem flat_get {n s:Nat} {C:Nat→List Value} (hC:∀i,i < n→(C i).length=s):((List.range n).flatMap C).length=n * s∧
  ∀i r,i < n→r < s→((List.range n).flatMap C)[i * s+r]? = (C i)[r]?:=by
 induction n with
 | zero=>exact ⟨by simp,fun i r hi=>by omega⟩
 | succ n ih=>
   obtain ⟨h1,h2⟩:=ih (fun i hi=>hC i (by omega))
   rw [List.range_succ,List.flatMap_append]
   refine ⟨by simp [h1,hC n (by omega),Nat.succ_mul],fun i r hi hr=>?_⟩
   by_cases hin:i < n
   ·rw [List.getElem?_append_left,h2 i r hin hr]
    rw [h1]
    calc i * s+r < i * s+s:=by omega
     _ = (i+1) * s:=by rw [Nat.succ_mul]
     _≤n * s:=Nat.mul_le_mul_right _ hin
   ·obtain rfl:i=n:=by omega
    rw [List.getElem?_append_right (by rw [h1]; omega),h1,Nat.add_sub_cancel_left]
    simp
theorem open_flat {t e:TypeId} {fuel m:Nat} {ks:List Leaf} {v:Value} {x:DataW H × List MemPlace} (ht:P.underlying t=some (.slice e)) (hk:leaves P m e=some ks) (hkl:ks.length=P.cellsOf e) (hpos:0 < ks.length)
  (h:DataW.trod enc P w base spare held fuel t [v]=some x) :
  ∃(a:Option Addr) (n cap:Nat) (cells:List Value),v= .slice a n cap∧n≤cap∧cap≤maxLen∧cells.length=n * ks.length∧Sl w a cells∧(a=none→cap=0)∧∀i,i < n→oks ks ((cells.drop (i * ks.length)).take ks.length):=by
 rcases Go.Deep.open_slice ht h with ⟨h1,_⟩ | ⟨a,len,cap,mm,nn,D,Pl,h1,hb,hl,hm,hmm,rfl,hx⟩
 ·simp at h1; subst h1
  exact ⟨none,0,0,[],rfl,zG _,by unfold maxLen; omega,by simp, .inl rfl,fun _=>rfl,fun i hi=>by omega⟩
 ·simp at h1; subst h1
  have hlm:len≤mm:=by rw [hmm]; split <;> omega
  obtain ⟨C,hC⟩:=Go.Deep.choose_lt (α:=List Value) (p:=fun i c=>w.cells? base (a.add (i * P.cellsOf e)) (P.cellsOf e)=some c∧DataW.trod enc P w base spare held nn e c=some (D i,Pl i)) (fun i hi=>hx i hi)
  have hCl:∀i,i < len→(C i).length=ks.length:=fun i hi=>by rw [hkl]; exact (World.cells?_some (hC i (by omega)).1).2.1
  obtain ⟨hfl,hfg⟩:=flat_get hCl
  refine ⟨some a,len,cap,(List.range len).flatMap C,rfl,hl,hm,hfl,?_,fun h=>(by cases h),?_⟩
  ·rcases Nat.eq_zero_or_pos len with h0 | h0
   ·subst h0; exact .inl rfl
   ·obtain ⟨_,_,hc0⟩:=World.cells?_some (hC 0 (by omega)).1
    have hc00:=hc0 0 (by omega)
    rw [List.getElem?_eq_getElem (by rw [hCl 0 h0]; omega)] at hc00
    have hsp:(a.add (0 * P.cellsOf e)).add 0=a:=by simp [Addr.add]
    rw [hsp] at hc00
    have hspot:=World.cell?_spot hc00
    obtain ⟨b,off,spot⟩:=a
    simp at hspot
    subst hspot
    refine .inr ⟨b,off,rfl,World.block_lt_of_cell? w _ hc00,fun j hj=>?_⟩
    rw [hfl] at hj
    have hi:j / ks.length < len:=Nat.div_lt_of_lt_mul (by rwa [Nat.mul_comm] at hj)
    have hr:j % ks.length < ks.length:=Nat.mod_lt _ hpos
    have hj2:j / ks.length * ks.length+j % ks.length=j:=by rw [Nat.mul_comm]; exact Nat.div_add_mod _ _
    have h1:=hfg _ _ hi hr
    rw [hj2] at h1
    obtain ⟨_,_,hc⟩:=World.cells?_some (hC _ (by omega:j / ks.length < mm)).1
    have h2:=hc (j % ks.length) (by omega)
    rw [Addr.add_lit,Addr.add_lit,←hkl,Nat.add_assoc,hj2,←h1,List.getElem?_eq_getElem (by rw [hfl]; exact hj)] at h2
    exact h2
  ·intro i hi
   have e:(((List.range len).flatMap C).drop (i * ks.length)).take ks.length=C i:=by
    apply List.ext_getElem?
    intro r
    by_cases hr:r < ks.length
    ·rw [List.getElem?_take_of_lt hr,List.getElem?_drop,hfg i r hi hr]
    ·rw [List.getElem?_eq_none (by rw [List.length_take]; omega),List.getElem?_eq_none (by rw [hCl i hi]; omega)]
   rw [e]
   exact leaves_ok m hk (hC i (by omega)).2
end
theorem wf_i64 {n:Int} (h:(Lit.int .i64 n).wf=true):-9223372036854775808≤n∧n≤9223372036854775807:=by
 have h1:IntKind.i64.min= -9223372036854775808:=by decide
 have h2:=h
 simp [Lit.wf,h1] at h2
 exact h2
theorem wf_u64 {n:Int} (h:(Lit.int .u64 n).wf=true):∃m:Nat,n= (m:Int)∧m < 18446744073709551616:=by
 have h1:IntKind.u64.min=0:=by decide
 have h3:IntKind.u64.max=18446744073709551615:=by decide
 have h2:=h
 simp [Lit.wf,h1,h3] at h2
 exact ⟨n.toNat,by omega,by omega⟩
def u64s (l:List Nat):List Value:=l.map fun (n:Nat)=>Value.int .u64 (n:Int)
end
section
open Go.RowKit
theorem u64s_length (l:List Nat):(u64s l).length=l.length:=by simp [u64s]
theorem Sl.atU64 {w:World} {a:Option Addr} {l:List Nat} (h:Sl w a (u64s l)) {k:Nat} (hk:k < l.length) :
  ∃b off,a=some ⟨b,off,none⟩∧b < w.heap.size∧∀j (h:j < l.length),w.cell? ⟨b,off+j,none⟩=some (.int .u64 l[j]):=by
 obtain ⟨b,off,rfl,hlt,hc⟩:=Sl.at h (k:=k) (by rw [u64s_length]; exact hk)
 refine ⟨b,off,rfl,hlt,fun j hj=>?_⟩
 rw [hc j (by rw [u64s_length]; exact hj)]
 simp [u64s]
def foldM (m:Nat) (l:List Nat):Nat:=l.foldl (fun x y=>x &&& y) m
def andM (l:List Nat):Nat:=if l.length=0 then 0 else foldM 18446744073709551615 l
theorem foldM_lt {m:Nat} (hm:m < 18446744073709551616):∀l:List Nat,foldM m l < 18446744073709551616:=by
 intro l
 induction l generalizing m with
 | nil=>exact hm
 | cons x xs ih=>exact ih (and_lt (b:=x) hm)
theorem foldM_snoc (m:Nat) (l:List Nat) (k:Nat) (hk:k < l.length):foldM m (l.take k) &&& l[k]=foldM m (l.take (k+1)):=by
 rw [List.take_add_one,List.getElem?_eq_getElem hk,foldM,foldM,List.foldl_append]; rfl
set_option maxHeartbeats 800000 in
theorem MAll_any (a:Option Addr) (cap:Nat) (l:List Nat) (w:World) (hl:l.length≤9223372036854775807) (hs:Sl w a (u64s l)) (hb:∀x∈l,x < 18446744073709551616) :
  Calls Tryz.prog 152 #[.slice a l.length cap] w fun e w'=>e= .returned (.func (.func 182) #[] #[.pointer (some ⟨w.heap.size,0,none⟩)])∧
   w'.cell? ⟨w.heap.size,0,none⟩=some (.int .u64 (andM l))∧Below w.heap.size w w'∧w.heap.size < w'.heap.size:=by
 go_enter Tryz.func152,Tryz.ntmps152
 by_cases h0:l.length=0
 ·have hr:Hid (andM l=0):=if_pos h0
  go_wp2
  go_loopw [5,11] (fun _ i wr=>i= .int .i64 0∧wr=w.alloc (.cells #[.int .u64 0] 29)) (fun _ _ _=>0)
  case atStart=>exact ⟨rfl,rfl⟩
  case round=>
   obtain ⟨rfl,rfl⟩:=hrel
   go_wp2
   go_ret
   refine ⟨rfl,?_,below_new (Below.refl _ _) (zG _),by simp [go_sem]⟩
   rw [hr.out]; simp [go_sem]
 ·have hr:Hid (andM l=foldM 18446744073709551615 l):=if_neg h0
  go_wp2
  go_loopw [5,11] (fun _ i wr=>∃k:Nat,i= .int .i64 k∧k≤l.length∧wr.cell? ⟨w.heap.size,0,none⟩=some (.int .u64 (foldM 18446744073709551615 (l.take k)))∧wr.frozen? ⟨w.heap.size,0,none⟩=false∧Below w.heap.size w wr∧w.heap.size < wr.heap.size) (fun _ i _=>l.length - (intOf i).toNat)
  case atStart=>exact ⟨0,rfl,by omega,by simp [go_sem,foldM],by simp [go_sem],below_new (Below.refl _ _) (zG _),by simp [go_sem]⟩
  case round=>
   obtain ⟨k,rfl,hk,hbox,hfz,hB,hlt⟩:=hrel
   by_cases hkl:k < l.length
   ·obtain ⟨b,off,rfl,hbk,hc⟩:=hs.atU64 hkl
    have e1:=(hB.cell (p:=⟨b,off+k,none⟩) hbk).trans (hc k hkl)
    have hf:=hid (foldM_snoc 18446744073709551615 l k hkl)
    have hM:=foldM_lt (m:=18446744073709551615) (by omega) (l.take k)
    have hx:=hb l[k] (by simp)
    obtain ⟨x,hxe⟩:∃x,l[k]=x:=⟨_,rfl⟩
    obtain ⟨M,hMe⟩:∃M,foldM 18446744073709551615 (l.take k)=M:=⟨_,rfl⟩
    rw [hxe] at e1 hf hx
    rw [hMe] at hf hbox hM
    have hand:=hid (bits_and hM hx)
    have hne:b≠w.heap.size:=by omega
    clear hs hc hxe hMe hb
    go_wp2
    exact ⟨⟨k+1,by go_num,by omega,by rw [←hf.out,hand.out]; simp [go_sem,hbox],by simp [go_sem,hfz],below_set hB (zG _),by simpa [go_sem] using hlt⟩,by simp [intOf]; omega⟩
   ·have hke:l.take k=l:=List.take_of_length_le (by omega)
    rw [hke] at hbox
    have Hke:Hid (k=l.length):=by show k=l.length; omega
    clear hke hb hs
    go_wp2
    go_ret
    exact ⟨rfl,by rw [hr.out]; exact hbox,hB,hlt⟩
end
end Go.Proofs.YthimhfmnikfgaaaGreatDoor
