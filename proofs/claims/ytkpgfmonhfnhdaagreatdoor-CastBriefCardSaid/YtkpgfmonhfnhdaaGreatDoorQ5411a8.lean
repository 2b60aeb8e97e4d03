/-
  What the small functions of wide compute: sets of numbers as seven words.
  What within, may, May, Has, Len of wide compute.
  What may, May, Has and Len of wide, and Has and List of feriaref04, compute.
  What wide.Of and feriaref04.Of compute: the set of a list.
  The dates of the window's days, as plain arithmetic: by the program's formula, and by years and months one behind the other.
  What the small functions of num, civil, feriaref01 and feriaref05 compute, of the window's years.
-/
import Derived.Test.YtkpgfmonhfnhdaaGreatDoorQd4b665
import Derived.ChangeKeysEq
import Derived.Deep.RegionHeld3
import Derived.BigRegion
import Derived.Test.YtkpgfmonhfnhdaaGreatDoorQ060903
namespace Go.Proofs.YtkpgfmonhfnhdaaGreatDoor
set_option linter.unusedVariables false
section
open Go.RowKit
abbrev wv (s:Nat→Nat):Value:= .agg #[.int .u64 (s 0:Nat), .int .u64 (s 1:Nat), .int .u64 (s 2:Nat), .int .u64 (s 3:Nat), .int .u64 (s 4:Nat), .int .u64 (s 5:Nat), .int .u64 (s 6:Nat)]
def WCells (W:World) (b:Nat) (s:Nat→Nat):Prop:=∀i,i < 7→W.cell? ⟨b,i,none⟩=some (.int .u64 (s i:Nat))
theorem WCells.below {W W':World} {b B:Nat} {s:Nat→Nat} (h:WCells W b s) (hb:Below B W W') (hB:b < B):WCells W' b s:=fun i hi=>(hb.cell (p:=⟨b,i,none⟩) hB).trans (h i hi)
theorem WCells.congr {W:World} {b:Nat} {s t:Nat→Nat} (h:WCells W b s) (e:∀i,i < 7→s i=t i):WCells W b t:=fun i hi=>by rw [←e i hi]; exact h i hi
theorem WCells.all {W:World} {b:Nat} {s:Nat→Nat} (h:WCells W b s):W.cell? ⟨b,0,none⟩=some (.int .u64 (s 0:Nat))∧W.cell? ⟨b,1,none⟩=some (.int .u64 (s 1:Nat))∧W.cell? ⟨b,2,none⟩=some (.int .u64 (s 2:Nat))∧
  W.cell? ⟨b,3,none⟩=some (.int .u64 (s 3:Nat))∧W.cell? ⟨b,4,none⟩=some (.int .u64 (s 4:Nat))∧W.cell? ⟨b,5,none⟩=some (.int .u64 (s 5:Nat))∧W.cell? ⟨b,6,none⟩=some (.int .u64 (s 6:Nat)):=
 ⟨h 0 (by omega),h 1 (by omega),h 2 (by omega),h 3 (by omega),h 4 (by omega),h 5 (by omega),h 6 (by omega)⟩
theorem WCells.set {W:World} {b i:Nat} {s:Nat→Nat} {v:Nat} (h:WCells W b s) (hi:i < 7):WCells (W.setCell ⟨b,i,none⟩ (.int .u64 v)) b (fun j=>if j=i then v else s j):=by
 intro j hj
 by_cases e:j=i
 ·subst e; simp [go_sem,h j hj]
 ·simp [go_sem,h j hj,e]
def ycC (i:Nat):Nat:=yaY 0 (399 - 64 * (i:Int)) 1
theorem fullW_lt (i:Nat):ycC i < 18446744073709551616:=yan _
theorem yjo (i k:Nat):(ycC i).testBit k= (decide (k < 64) && decide (64 * i+k < 400)):=by
 rw [ycC,yaY,yaN,ycG,Bool.eq_iff_iff]
 simp only [Bool.and_eq_true,decide_eq_true_eq]
 omega
def WFree (W:World) (b:Nat):Prop:=∀j,W.frozen? ⟨b,j,none⟩=false
theorem WFree.below {W W':World} {b B:Nat} (h:WFree W b) (hb:Below B W W') (hB:b < B):WFree W' b:=fun i=>(hb.frozen (p:=⟨b,i,none⟩) hB).trans (h i)
theorem WFree.set {W:World} {b:Nat} (h:WFree W b) (p:Addr) (v:Value):WFree (W.setCell p v) b:=fun j=>by simp [go_sem,h j]
set_option maxHeartbeats 800000 in
theorem ygV (w:World):Calls Tryz.prog 82 #[] w fun e w'=>e= .returned (wv ycC)∧Below w.heap.size w w':=by
 have c1:Hid (∀(i:Nat) W,(i:Int) < 7→Calls Tryz.prog 80 #[.int .i64 0, .int .i64 (399 - (i:Int) * 64), .int .i64 1] W fun e w'=>e= .returned (.int .u64 (ycC i))∧W=w'):=fun i W h=>by
  have:=ybJ 0 (399 - 64 * (i:Int)) 1 W (by omega) (by omega)
  rw [Int.mul_comm] at this
  have e:ycC i=yaY 0 (399 - (i:Int) * 64) 1:=by rw [ycC,Int.mul_comm]
  rw [e]; exact this
 go_enter Tryz.func82,Tryz.ntmps82
 go_wp2
 go_loopw [3] (fun v wr=>∃i:Nat,v= .int .i64 i∧i≤7∧Hid (WCells wr (w.heap.size+1) (fun j=>if j < i then ycC j else 0))∧Hid (WCells wr w.heap.size (fun _=>0))∧Hid (WFree wr (w.heap.size+1))∧Hid (WFree wr w.heap.size)∧Below w.heap.size w wr∧wr.heap.size=w.heap.size+2) (fun v _=>7 - (intOf v).toNat)
 case atStart=>
  refine ⟨0,rfl,by omega,fun j hj=>?_,fun j hj=>?_,fun j=>by simp [go_sem],fun j=>by simp [go_sem],yaa (yaa (Below.refl _ _) (zG _)) (by simp),by simp⟩
  ·have:j=0∨j=1∨j=2∨j=3∨j=4∨j=5∨j=6:=by omega
   rcases this with rfl | rfl | rfl | rfl | rfl | rfl | rfl <;> simp [go_sem]
  ·have:j=0∨j=1∨j=2∨j=3∨j=4∨j=5∨j=6:=by omega
   rcases this with rfl | rfl | rfl | rfl | rfl | rfl | rfl <;> simp [go_sem]
 case round=>
  obtain ⟨i,rfl,hi,hc,hc0,hf,hf0,hB,hsz⟩:=hrel
  by_cases hlt:i < 7
  ·have e1:=hc.out i hlt
   have e2:=hf.out i
   go_wp2_with fail
   refine (c1.out i wr (by omega)).mono ?_
   rintro e w1 ⟨rfl,rfl⟩
   go_wp2
   refine ⟨⟨i+1,by go_num,by omega,?_,?_,?_,?_,yab hB (by omega),by simpa [go_sem] using hsz⟩,by simp [intOf]; omega⟩
   ·exact (hc.out.set (v:=ycC i) hlt).congr (fun j hj=>by
     by_cases e:j=i
     ·subst e; simp
     ·have:(j < i+1)= (j < i):=by simp; omega
      simp [e,this])
   ·exact fun j hj=>(World.cell?_of_block (w:=wr) (a:=⟨w.heap.size,j,none⟩) (Below.heap_setCell _ _ _ _ (by simp))).trans (hc0.out j hj)
   ·exact hf.out.set _ _
   ·exact hf0.out.set _ _
  ·obtain rfl:i=7:=by omega
   have hc':WCells wr (w.heap.size+1) ycC:=hc.out.congr (fun j hj=>by simp [hj])
   obtain ⟨r0,r1,r2,r3,r4,r5,r6⟩:=hc'.all
   obtain ⟨z0,z1,z2,z3,z4,z5,z6⟩:=hc0.out.all
   have f0:=hf0.out 0
   have f1:=hf0.out 1
   have f2:=hf0.out 2
   have f3:=hf0.out 3
   have f4:=hf0.out 4
   have f5:=hf0.out 5
   have f6:=hf0.out 6
   clear hc hc0 hf hf0 hc'
   go_wp2
   refine bodyPost_ret (v:=wv ycC) (by simp [results,Tryz.results82,go_sem,z0,z1,z2,z3,z4,z5,z6]) rfl ⟨rfl,?_⟩
   exact yab (yab (yab (yab (yab (yab (yab hB (zG _)) (zG _)) (zG _)) (zG _)) (zG _)) (zG _)) (zG _)
end
section
open Go.RowKit
def inW (s:Nat→Nat) (i:Nat):Nat:=s i &&& ycC i
theorem inW_lt {s:Nat→Nat} (i:Nat) (h:s i < 18446744073709551616):inW s i < 18446744073709551616:=ya7 (b:=ycC i) h
theorem yfG {i:Nat} (h:i < 7):i=0∨i=1∨i=2∨i=3∨i=4∨i=5∨i=6:=by omega
theorem ybK (w:World) (s:Nat→Nat) (t:TypeId):WCells (w.alloc (.cells #[.int .u64 (s 0:Nat), .int .u64 (s 1:Nat), .int .u64 (s 2:Nat), .int .u64 (s 3:Nat), .int .u64 (s 4:Nat), .int .u64 (s 5:Nat), .int .u64 (s 6:Nat)] t)) w.heap.size s:=by
 intro i hi
 rcases yfG hi with rfl | rfl | rfl | rfl | rfl | rfl | rfl <;> simp [go_sem]
theorem wfree_new (w:World) (s:Nat→Nat) (t:TypeId):WFree (w.alloc (.cells #[.int .u64 (s 0:Nat), .int .u64 (s 1:Nat), .int .u64 (s 2:Nat), .int .u64 (s 3:Nat), .int .u64 (s 4:Nat), .int .u64 (s 5:Nat), .int .u64 (s 6:Nat)] t)) w.heap.size:=fun i=>by simp [go_sem]
theorem yfV:(Tryz.prog.info? 24).map (fun i=>(i.zero,i.size,i.bytes))=some (some (.int .u64 0),1,8):=by kernel_rfl
theorem ygw (s:Nat→Nat) (i:Nat) (h:i < 7) (W:World):(Instr.index 25 (wv s) (.int .i64 i)).run Tryz.prog W= .ok (.int .u64 (s i:Nat)) W:=by
 obtain ⟨i0,hi0,hz0,hz1,hz2⟩:=info_parts yfV
 rcases yfG h with rfl | rfl | rfl | rfl | rfl | rfl | rfl
 all_goals
  simp [Instr.index,wv,go_sem,part,sizeOf,typeInfo,hi0,hz1]
set_option maxRecDepth 100000 in
set_option maxHeartbeats 1600000 in
theorem yjB (s:Nat→Nat) (w:World) (hs:∀i,i < 7→s i < 18446744073709551616) :
  Calls Tryz.prog 89 #[wv s] w fun e w'=>e= .returned (wv (inW s))∧Below w.heap.size w w':=by
 have c1:=hid (fun W=>ygV W)
 obtain ⟨W0,hW0⟩:∃W0,(w.alloc (.cells #[.int .u64 (s 0:Nat), .int .u64 (s 1:Nat), .int .u64 (s 2:Nat), .int .u64 (s 3:Nat), .int .u64 (s 4:Nat), .int .u64 (s 5:Nat), .int .u64 (s 6:Nat)] 25)).alloc (.cells #[.int .u64 0, .int .u64 0, .int .u64 0, .int .u64 0, .int .u64 0, .int .u64 0, .int .u64 0] 25)=W0:=⟨_,rfl⟩
 have q1:W0.heap.size=w.heap.size+2:=by rw [←hW0]; simp
 have q2:Below w.heap.size w W0:=by rw [←hW0]; exact yaa (yaa (Below.refl _ _) (zG _)) (by simp)
 have q3:WCells W0 w.heap.size s:=by rw [←hW0]; exact (ybK w s _).below (yaa (Below.refl _ _) (zG _)) (by simp)
 have q4:WFree W0 w.heap.size:=by rw [←hW0]; exact (wfree_new w s _).below (yaa (Below.refl _ _) (zG _)) (by simp)
 have q5:WCells W0 (w.heap.size+1) (fun _=>0):=by
  rw [←hW0]
  intro i hi
  rcases yfG hi with rfl | rfl | rfl | rfl | rfl | rfl | rfl <;> simp [go_sem]
 have q6:WFree W0 (w.heap.size+1):=fun i=>by rw [←hW0]; simp [go_sem]
 have HW0:=hid hW0
 have HS:=hid hs
 have HQ:=hid (And.intro q2 (And.intro q3 (And.intro q4 (And.intro q5 q6))))
 clear hW0 hs q2 q3 q4 q5 q6
 go_enter Tryz.func89,Tryz.ntmps89
 go_wp2_with fail
 rw [HW0.out]
 refine (c1.out W0).mono ?_
 rintro e w1 ⟨rfl,hB1⟩
 obtain ⟨q2,q3,q4,q5,q6⟩:=HQ.out
 have s1:=hB1.size
 have r3:=hid (q3.below hB1 (by omega))
 have r4:=hid (q4.below hB1 (by omega))
 have r5:=hid (q5.below hB1 (by omega))
 have r6:=hid (q6.below hB1 (by omega))
 have r2:Hid (Below w.heap.size w w1):=q2.trans (hB1.mono (by omega))
 clear q2 q3 q4 q5 q6 hB1
 go_wp2
 go_loopw [6] (fun v wr=>∃i:Nat,v= .int .i64 i∧i≤7∧Hid (WCells wr w.heap.size (fun j=>if j < i then inW s j else s j))∧Hid (WCells wr (w.heap.size+1) (fun _=>0))∧Hid (WFree wr w.heap.size)∧Hid (WFree wr (w.heap.size+1))∧Hid (Below w.heap.size w wr)) (fun v _=>7 - (intOf v).toNat)
 case atStart=>exact ⟨0,rfl,by omega,r3.out.congr (fun j hj=>by simp),r5.out,r4.out,r6.out,r2.out⟩
 case round=>
  obtain ⟨i,rfl,hi,hc,hc0,hf,hf0,hB⟩:=hrel
  by_cases hlt:i < 7
  ·have e1:wr.cell? ⟨w.heap.size,i,none⟩=some (.int .u64 (s i:Nat)):=by have:=hc.out i hlt; simpa using this
   have e2:=hf.out i
   have hand:=hid (yat (HS.out i hlt) (fullW_lt i))
   have done:∀W',W' =wr.setCell ⟨w.heap.size,i,none⟩ (.int .u64 (bits .and .u64 (s i:Nat) (ycC i:Nat)))→WCells W' w.heap.size (fun j=>if j < i+1 then inW s j else s j)∧WCells W' (w.heap.size+1) (fun _=>0)∧WFree W' w.heap.size∧WFree W' (w.heap.size+1)∧Below w.heap.size w W':=by
    rintro W' rfl
    rw [hand.out]
    refine ⟨(hc.out.set (v:=inW s i) hlt).congr (fun j hj=>?_),fun j hj=>(World.cell?_of_block (w:=wr) (a:=⟨w.heap.size+1,j,none⟩) (Below.heap_setCell _ _ _ _ (by simp))).trans (hc0.out j hj),hf.out.set _ _,hf0.out.set _ _,yab hB.out (zG _)⟩
    by_cases e:j=i
    ·subst e; simp
    ·have:(j < i+1)= (j < i):=by simp; omega
     simp [e,this]
   have Done:=hid done
   clear done
   have hix:=fun W=>ygw ycC i hlt W
   clear hc hc0 hf hf0 hB
   go_wp2
   obtain ⟨d1,d2,d3,d4,d5⟩:=Done.out _ rfl
   exact ⟨⟨i+1,by go_num,by omega,d1,d2,d3,d4,d5⟩,by simp [intOf]; omega⟩
  ·obtain rfl:i=7:=by omega
   have hc':WCells wr w.heap.size (inW s):=hc.out.congr (fun j hj=>by simp [hj])
   obtain ⟨r0,r1,r2,r3,r4,r5,r6⟩:=hc'.all
   obtain ⟨z0,z1,z2,z3,z4,z5,z6⟩:=hc0.out.all
   have f0:=hf0.out 0
   have f1:=hf0.out 1
   have f2:=hf0.out 2
   have f3:=hf0.out 3
   have f4:=hf0.out 4
   have f5:=hf0.out 5
   have f6:=hf0.out 6
   clear hc hc0 hf hf0 hc'
   go_wp2
   refine bodyPost_ret (v:=wv (inW s)) (by simp [results,Tryz.results89,go_sem,z0,z1,z2,z3,z4,z5,z6]) rfl ⟨rfl,?_⟩
   exact yab (yab (yab (yab (yab (yab (yab hB.out (Nat.le_add_right _ _)) (Nat.le_add_right _ _)) (Nat.le_add_right _ _)) (Nat.le_add_right _ _)) (Nat.le_add_right _ _)) (Nat.le_add_right _ _)) (Nat.le_add_right _ _)
end
section
open Go.RowKit
def eqW (s t:Nat→Nat):Bool:=(List.range 7).all (fun i=>s i == t i)
theorem eqW_iff (s t:Nat→Nat):eqW s t=true↔∀i,i < 7→s i=t i:=by
 rw [eqW,List.all_eq_true]
 simp
theorem part_wv (s:Nat→Nat) (i:Nat) (h:i < 7) (W:World):(part 24 #[.int .u64 (s 0:Nat), .int .u64 (s 1:Nat), .int .u64 (s 2:Nat), .int .u64 (s 3:Nat), .int .u64 (s 4:Nat), .int .u64 (s 5:Nat), .int .u64 (s 6:Nat)] (i * Tryz.prog.cellsOf 24)).run Tryz.prog W= .ok (.int .u64 (s i:Nat)) W:=by
 rw [show Tryz.prog.cellsOf 24=1 by kernel_rfl]
 rcases yfG h with rfl | rfl | rfl | rfl | rfl | rfl | rfl
 all_goals
  simp [go_sem,part]
theorem yfb (s t:Nat→Nat) (W:World):(binOp .eql 25 (wv s) (wv t)).run Tryz.prog W= .ok (.bool (eqW s t)) W:=by
 obtain ⟨i0,hi0,hz0,hz1,hz2⟩:=info_parts yfV
 rw [run_eql_struct,show (10000:Nat)=9999+1 from rfl,run_equalIn_array W 9999 _ _ Tryz.underlying25 hi0,eqW]
 have hl:∀i∈List.range 7,i < 7:=fun i hi=>by simpa using hi
 generalize List.range 7=l at hl⊢
 have key:(Op.eqItems 9999 24 (Tryz.prog.cellsOf 24) #[.int .u64 (s 0:Nat), .int .u64 (s 1:Nat), .int .u64 (s 2:Nat), .int .u64 (s 3:Nat), .int .u64 (s 4:Nat), .int .u64 (s 5:Nat), .int .u64 (s 6:Nat)]
   #[.int .u64 (t 0:Nat), .int .u64 (t 1:Nat), .int .u64 (t 2:Nat), .int .u64 (t 3:Nat), .int .u64 (t 4:Nat), .int .u64 (t 5:Nat), .int .u64 (t 6:Nat)] l).run Tryz.prog W= .ok (l.all (fun i=>s i == t i)) W:=by
  induction l with
  | nil=>simp [Op.eqItems]
  | cons i l ih=>
    have hi:i < 7:=hl i (by simp)
    have pe:(Op.equalIn 9999 24 (.int .u64 (s i:Nat)) (.int .u64 (t i:Nat))).run Tryz.prog W= .ok ((s i:Int) == (t i:Int)) W:=by
     rw [show (9999:Nat)=9998+1 from rfl,run_equalIn_int W 9998 24 .u64 .u64 _ _ Tryz.underlying24]
    simp only [Op.eqItems,Sem.run_bind,part_wv s i hi W,part_wv t i hi W,pe,Result.andThen_ok,List.all_cons]
    have hb:((s i:Int) == (t i:Int))= (s i == t i):=by rw [Bool.eq_iff_iff]; simp; omega
    rw [hb]
    cases hc:(s i == t i)
    ·simp
    ·simp only [Bool.not_true,Bool.false_eq_true,if_false,Bool.true_and]
     exact ih fun j hj=>hl j (by simp [hj])
 rw [key]
 rfl
def mayB (n:Int):Bool:=decide (0≤n) && decide (n < 400)
theorem WMayN_any (n:Int) (w:World):Calls Tryz.prog 168 #[.int .i64 n] w fun e w'=>e= .returned (.bool (mayB n))∧w=w':=by
 unfold mayB
 by_cases h0:0≤n
 ·by_cases h1:n < 400
  ·go_enter Tryz.func168,Tryz.ntmps168
   go_wp2
   go_ret
   exact ⟨yaz (by rw [Bool.eq_iff_iff]; simp; omega),rfl⟩
  ·go_enter Tryz.func168,Tryz.ntmps168
   go_wp2
   go_ret
   exact ⟨yaz (by rw [Bool.eq_iff_iff]; simp; omega),rfl⟩
 ·go_enter Tryz.func168,Tryz.ntmps168
  go_wp2
  go_ret
  exact ⟨yaz (by rw [Bool.eq_iff_iff]; simp; omega),rfl⟩
abbrev BoxS (w:World) (s:Nat→Nat) (W:World):Prop:=
 W.cell? ⟨w.heap.size,0,none⟩=some (.int .u64 (s 0:Nat))∧W.cell? ⟨w.heap.size,1,none⟩=some (.int .u64 (s 1:Nat))∧W.cell? ⟨w.heap.size,2,none⟩=some (.int .u64 (s 2:Nat))∧W.cell? ⟨w.heap.size,3,none⟩=some (.int .u64 (s 3:Nat))∧
 W.cell? ⟨w.heap.size,4,none⟩=some (.int .u64 (s 4:Nat))∧W.cell? ⟨w.heap.size,5,none⟩=some (.int .u64 (s 5:Nat))∧W.cell? ⟨w.heap.size,6,none⟩=some (.int .u64 (s 6:Nat))∧Below w.heap.size w W∧w.heap.size < W.heap.size
theorem BoxS.keep {w W W':World} {s:Nat→Nat} (h:BoxS w s W) (hb:Below W.heap.size W W'):BoxS w s W':=by
 obtain ⟨h0,h1,h2,h3,h4,h5,h6,h7,h8⟩:=h
 exact ⟨(hb.cell (p:=⟨w.heap.size,0,none⟩) h8).trans h0,(hb.cell (p:=⟨w.heap.size,1,none⟩) h8).trans h1,(hb.cell (p:=⟨w.heap.size,2,none⟩) h8).trans h2,(hb.cell (p:=⟨w.heap.size,3,none⟩) h8).trans h3,
  (hb.cell (p:=⟨w.heap.size,4,none⟩) h8).trans h4,(hb.cell (p:=⟨w.heap.size,5,none⟩) h8).trans h5,(hb.cell (p:=⟨w.heap.size,6,none⟩) h8).trans h6,h7.trans (hb.mono (by omega)),zH h8 hb.size⟩
set_option maxHeartbeats 800000 in
theorem WMay_any (s:Nat→Nat) (w:World) (hs:∀i,i < 7→s i < 18446744073709551616) :
  Calls Tryz.prog 43 #[wv s] w fun e w'=>e= .returned (.bool (eqW (inW s) s))∧Below w.heap.size w w':=by
 have c1:=hid (fun W=>yjB s W hs)
 have heq:=fun W=>yfb (inW s) s W
 have hB0:Below w.heap.size w (w.alloc (.cells #[.int .u64 (s 0:Nat), .int .u64 (s 1:Nat), .int .u64 (s 2:Nat), .int .u64 (s 3:Nat), .int .u64 (s 4:Nat), .int .u64 (s 5:Nat), .int .u64 (s 6:Nat)] 25)):=yaa (Below.refl _ _) (zG _)
 have HS0:Hid (BoxS w s (w.alloc (.cells #[.int .u64 (s 0:Nat), .int .u64 (s 1:Nat), .int .u64 (s 2:Nat), .int .u64 (s 3:Nat), .int .u64 (s 4:Nat), .int .u64 (s 5:Nat), .int .u64 (s 6:Nat)] 25)).drew):=by
  obtain ⟨r0,r1,r2,r3,r4,r5,r6⟩:=(ybK w s 25).all
  exact ⟨r0,r1,r2,r3,r4,r5,r6,hB0.drew,by simp [go_sem]⟩
 have c2:=hid (fun W (h:BoxS w s W)=>keep_of (c1.out W) (fun _=>h.keep))
 clear hB0
 go_enter Tryz.func43,Tryz.ntmps43
 go_wp2_with fail
 go_region_held3 (fun w'=>BoxS w s w') (first | exact HS0.out | assumption)
  (first
    | (go_at_call 89; refine (c2.out _ (by assumption)).mono ?_; rintro e w' ⟨rfl,hS⟩))
 go_wp2
 go_ret
 exact ⟨rfl,(‹BoxS w s _›).2.2.2.2.2.2.2.1⟩
def bitW (s:Nat→Nat) (k:Nat):Bool:=(s (k / 64)).testBit (k % 64)
def hasW (s:Nat→Nat) (n:Int):Bool:=mayB n && bitW s n.toNat
set_option maxHeartbeats 800000 in
theorem WHas_any (s:Nat→Nat) (n:Int) (w:World) (hs:∀i,i < 7→s i < 18446744073709551616) :
  Calls Tryz.prog 139 #[wv s, .int .i64 n] w fun e w'=>e= .returned (.bool (hasW s n))∧Below w.heap.size w w':=by
 have c1:=hid (fun W=>WMayN_any n W)
 unfold hasW
 by_cases hb:mayB n=true
 ·rw [hb] at c1⊢
  rw [mayB] at hb
  simp at hb
  obtain ⟨k,rfl⟩:∃k:Nat,n=k:=⟨n.toNat,by omega⟩
  have hk:k < 400:=by omega
  have hc:=ybK w s 25
  have e1:=hc (k / 64) (by omega)
  have c2:=hid (fun W=>ydk (s (k / 64)) ((k % 64:Nat):Int) W (hs _ (by omega)))
  rw [ycw,show ((k % 64:Nat):Int)= (k:Int) % 64 by simp] at c2
  have hlt:k / 64 < 7:=by omega
  clear hb hc
  go_enter Tryz.func139,Tryz.ntmps139
  go_wp2_with fail
  refine (c1.out _).mono ?_
  rintro e w' ⟨rfl,rfl⟩
  go_wp2_with fail
  refine (c2.out _).mono ?_
  rintro e w' ⟨rfl,rfl⟩
  go_wp2
  go_ret
  exact ⟨by simp [bitW],yaa (Below.refl _ _) (zG _)⟩
 ·have hb':mayB n=false:=by simpa using hb
  rw [hb'] at c1⊢
  clear hb hb'
  go_enter Tryz.func139,Tryz.ntmps139
  go_wp2_with fail
  refine (c1.out _).mono ?_
  rintro e w' ⟨rfl,rfl⟩
  go_wp2
  go_ret
  exact ⟨rfl,yaa (Below.refl _ _) (zG _)⟩
set_option maxHeartbeats 800000 in
theorem yg3 (s:Nat→Nat) (n:Int) (w:World) (hs:∀i,i < 7→s i < 18446744073709551616) :
  Calls Tryz.prog 17 #[wv s, .int .i64 n] w fun e w'=>e= .returned (.bool (hasW s n))∧Below w.heap.size w w':=by
 unfold hasW
 by_cases h0:0≤n
 ·by_cases h1:n < 400
  ·have hb:mayB n=true:=by simp [mayB]; omega
   rw [hb]
   obtain ⟨k,rfl⟩:∃k:Nat,n=k:=⟨n.toNat,by omega⟩
   have hk:k < 400:=by omega
   have hc:=ybK w s 25
   have e1:=hc (k / 64) (by omega)
   have c2:=hid (fun W=>ybv (s (k / 64)) ((k % 64:Nat):Int) W (hs _ (by omega)))
   rw [ycw,show ((k % 64:Nat):Int)= (k:Int) % 64 by simp] at c2
   have hm7:k / 64 % 7=k / 64:=by omega
   have hlt:k / 64 < 7:=by omega
   have e1':(w.alloc (.cells #[.int .u64 (s 0:Nat), .int .u64 (s 1:Nat), .int .u64 (s 2:Nat), .int .u64 (s 3:Nat), .int .u64 (s 4:Nat), .int .u64 (s 5:Nat), .int .u64 (s 6:Nat)] 25)).cell? ⟨w.heap.size,k / 64 % 7,none⟩=some (.int .u64 (s (k / 64):Nat)):=by rw [hm7]; exact e1
   have hlt':k / 64 % 7 < 7:=by omega
   have hkI:(k:Int) < 400:=by omega
   have Hk:=hid hk
   clear hc hb h0 h1 hm7 hk e1 hlt
   by_cases hk0:0 < k
   ·go_enter Tryz.func17,Tryz.ntmps17
    go_wp2_with fail
    refine (c2.out _).mono ?_
    rintro e w' ⟨rfl,rfl⟩
    go_wp2
    go_ret
    exact ⟨by simp [bitW],yaa (Below.refl _ _) (zG _)⟩
   ·obtain rfl:k=0:=by omega
    have c3:Hid (∀W,Calls Tryz.prog 16 #[.int .u64 (s 0:Nat), .int .i64 0] W fun e w'=>e= .returned (.bool ((s 0).testBit 0))∧W=w'):=fun W=>ybv (s 0) 0 W (hs 0 (by omega))
    have f1:=(ybK w s 25) 0 (by omega)
    clear e1' hlt' c2 hkI hk0
    go_enter Tryz.func17,Tryz.ntmps17
    go_wp2_with fail
    refine (c3.out _).mono ?_
    rintro e w' ⟨rfl,rfl⟩
    go_wp2
    go_ret
    exact ⟨by simp [bitW],yaa (Below.refl _ _) (zG _)⟩
  ·have hb:mayB n=false:=by simp [mayB]; omega
   rw [hb]
   clear hb
   go_enter Tryz.func17,Tryz.ntmps17
   go_wp2
   go_ret
   exact ⟨rfl,yaa (Below.refl _ _) (zG _)⟩
 ·have hb:mayB n=false:=by simp [mayB]; omega
  rw [hb]
  clear hb
  go_enter Tryz.func17,Tryz.ntmps17
  go_wp2
  go_ret
  exact ⟨rfl,yaa (Below.refl _ _) (zG _)⟩
def lenW (t:Nat→Nat):Nat→Nat
 | 0=>0
 | n+1=>lenW t n+Lib.popAux 64 (t n)
theorem lenW_succ (t:Nat→Nat) (n:Nat):lenW t (n+1)=lenW t n+Lib.popAux 64 (t n):=rfl
theorem lenW_le (t:Nat→Nat):∀n,lenW t n≤64 * n
 | 0=>zG _
 | n+1=>by
   have:=lenW_le t n
   have h:Lib.popAux 64 (t n)≤64:=by rw [←ydK]; exact ya1 _ _
   rw [lenW]; omega
end
section
open Go.RowKit
def inWB (l:List Int) (i k:Nat):Bool:=decide (((64 * i+k:Nat):Int)∈l) && decide (64 * i+k < 400)
def wof (l:List Int) (i:Nat):Nat:=mk (inWB l i)
theorem wof_lt (l:List Int) (i:Nat):wof l i < 18446744073709551616:=yan _
theorem wof_nil (i:Nat):wof [] i=0:=by rw [wof,←ybG]; exact yaE fun k _=>by simp [inWB]
theorem wof_in (l:List Int) (n:Nat) (h:n < 400):wof l (n / 64) ||| 2 ^ (n % 64)=wof (l ++ [(n:Int)]) (n / 64):=by
 refine ydv (yeE (yan _) (ybQ (by omega))) (fun i hi=>?_)
 rw [Nat.testBit_or,wof,yaN,Nat.testBit_two_pow,inWB,inWB,Bool.eq_iff_iff]
 simp only [Bool.or_eq_true,Bool.and_eq_true,decide_eq_true_eq,List.mem_append,List.mem_singleton]
 constructor
 ·rintro (⟨_,h1,h2⟩ | h1)
  ·exact ⟨.inl h1,h2⟩
  ·exact ⟨.inr (by omega),by omega⟩
 ·rintro ⟨h1 | h1,h2⟩
  ·exact .inl ⟨hi,h1,h2⟩
  ·exact .inr (by omega)
theorem wof_other (l:List Int) (n i:Nat) (h:i≠n / 64):wof (l ++ [(n:Int)]) i=wof l i:=
 yaE fun k hk=>by
  rw [inWB,inWB,Bool.eq_iff_iff]
  simp only [Bool.and_eq_true,decide_eq_true_eq,List.mem_append,List.mem_singleton]
  constructor
  ·rintro ⟨h1 | h1,h2⟩
   ·exact ⟨h1,h2⟩
   ·omega
  ·rintro ⟨h1,h2⟩; exact ⟨.inl h1,h2⟩
end
section
open Go.RowKit
/-! ### years of 400 years -/
def cg (o:Nat):Nat:=o - o / 1460+o / 36524 - o / 146096
def cst (k:Nat):Nat:=365 * k+k / 4 - k / 100
def cen (k:Nat):Nat:=if k=399 then 146097 else cst (k+1)
theorem cg_step (o:Nat):cg o≤cg (o+1):=by unfold cg; omega
theorem yhE (a:Nat):∀d,cg a≤cg (a+d)
 | 0=>zG _
 | d+1=>zI (yhE a d) (cg_step (a+d))
theorem cg_ends:∀k,k < 400→365 * k≤cg (cst k)∧cg (cen k - 1) < 365 * (k+1):=by decide +kernel
theorem cg_at (k o:Nat) (hk:k < 400) (h1:cst k≤o) (h2:o < cen k):cg o / 365=k:=by
 obtain ⟨e1,e2⟩:=cg_ends k hk
 have m1:=yhE (cst k) (o - cst k)
 have m2:=yhE o (cen k - 1 - o)
 rw [show cst k+(o - cst k)=o by omega] at m1
 rw [show o+(cen k - 1 - o)=cen k - 1 by omega] at m2
 omega
theorem yiG (o:Nat):∀m,m < 400→o < cen m→∃k,k < 400∧cst k≤o∧o < cen k
 | 0,_,h=>⟨0,by omega,by simp [cst],h⟩
 | m+1,hm,h=>by
   by_cases h0:cst (m+1)≤o
   ·exact ⟨m+1,hm,h0,h⟩
   ·refine yiG o m (by omega) ?_
    unfold cen
    rw [if_neg (by omega)]; omega
/-! ### months -/
def yaI (y:Int):Int:=y / 4 - (y - 1) / 4 - (y / 100 - (y - 1) / 100)+(y / 400 - (y - 1) / 400)
theorem ybu (y:Int):yaI y=0∨yaI y=1:=by unfold yaI; omega
theorem leapI_iff (y:Int):yaI y=1↔y % 4=0∧(y % 100≠0∨y % 400=0):=by unfold yaI; omega
def yee (y:Int):Bool:=decide (y % 4=0∧(y % 100≠0∨y % 400=0))
theorem yfS (y:Int):(yee y=true∧yaI y=1)∨(yee y=false∧yaI y=0):=by
 have h:=leapI_iff y
 rcases ybu y with h0 | h0
 ·refine .inr ⟨decide_eq_false fun hh=>?_,h0⟩
  have:=h.mpr hh; omega
 ·exact .inl ⟨decide_eq_true (h.mp h0),h0⟩
def lenI (y m:Int):Int:=if m=2 then 28+yaI y else if m=4∨m=6∨m=9∨m=11 then 30 else 31
def msI (y:Int):Nat→Int
 | 0=>0 | 1=>0 | 2=>31 | 3=>59+yaI y | 4=>90+yaI y | 5=>120+yaI y | 6=>151+yaI y | 7=>181+yaI y | 8=>212+yaI y | 9=>243+yaI y | 10=>273+yaI y | 11=>304+yaI y | _=>334+yaI y
def ysI (y:Int):Int:=365 * (y - 1970)+(y - 1) / 4 - (y - 1) / 100+(y - 1) / 400 - 477
theorem yef (y:Int):ysI (y+1)=ysI y+365+yaI y:=by
 unfold ysI yaI; rw [show y+1 - 1=y by omega]; omega
theorem yen:ysI 1970=0:=by decide
theorem yc2 (y:Int) (m:Nat) (h1:1≤m) (h2:m < 12):msI y (m+1)=msI y m+lenI y m:=by
 have:m=1∨m=2∨m=3∨m=4∨m=5∨m=6∨m=7∨m=8∨m=9∨m=10∨m=11:=by omega
 rcases this with rfl | rfl | rfl | rfl | rfl | rfl | rfl | rfl | rfl | rfl | rfl <;> simp [msI,lenI] <;> omega
theorem msI_last (y:Int):msI y 12+lenI y 12=365+yaI y:=by simp [msI,lenI]; omega
theorem ybr (y m:Int):28≤lenI y m∧lenI y m≤31:=by
 have:=ybu y
 unfold lenI
 split
 ·omega
 ·split <;> omega
structure IsDate (n y:Int) (m:Nat) (d:Int):Prop where
 y0:1970≤y
 y1:y≤2369
 m0:1≤m
 m1:m≤12
 d0:1≤d
 d1:d≤lenI y m
 sum:ysI y+msI y m+d - 1=n
theorem yfd {y:Int} {m:Nat} {d:Int} (h1:1≤m) (h2:m≤12) (d0:1≤d) (d1:d≤lenI y m):0≤msI y m+d - 1∧msI y m+d - 1 < 365+yaI y:=by
 have hl:=ybu y
 have:m=1∨m=2∨m=3∨m=4∨m=5∨m=6∨m=7∨m=8∨m=9∨m=10∨m=11∨m=12:=by omega
 rcases this with rfl | rfl | rfl | rfl | rfl | rfl | rfl | rfl | rfl | rfl | rfl | rfl <;> simp [msI,lenI] at d1⊢<;> omega
theorem yhW (y:Int) (d:Nat):ysI y+365 * d≤ysI (y+d):=by
 induction d with
 | zero=>simp
 | succ d ih=>
   have:=yef (y+d)
   have hl:=ybu (y+d)
   rw [show y+((d+1:Nat):Int)=y+d+1 by omega]; omega
theorem ysI_lt {y z:Int} (h:y < z):ysI y+365+yaI y≤ysI z:=by
 have:=yhW (y+1) (z - (y+1)).toNat
 have h2:=yef y
 rw [show y+1+((z - (y+1)).toNat:Int)=z by omega] at this
 omega
theorem msI_lt {y:Int} {m k:Nat} (h1:1≤m) (h:m < k) (h2:k≤12):msI y m+lenI y m≤msI y k:=by
 have hl:=ybu y
 rw [←yc2 y m h1 (by omega)]
 obtain ⟨d,rfl⟩:∃d,k=m+1+d:=⟨k - (m+1),by omega⟩
 induction d with
 | zero=>exact Int.le_refl _
 | succ d ih=>
   have:=ih (by omega) (by omega)
   have h3:=yc2 y (m+1+d) (by omega) (by omega)
   have h4:=ybr y ((m+1+d:Nat):Int)
   rw [show m+1+(d+1)=m+1+d+1 by omega,h3]; omega
theorem IsDate.unique {n y z:Int} {m k:Nat} {d e:Int} (h:IsDate n y m d) (g:IsDate n z k e):y=z∧m=k∧d=e:=by
 obtain ⟨_,_,a1,a2,a3,a4,a5⟩:=h
 obtain ⟨_,_,b1,b2,b3,b4,b5⟩:=g
 have u:=yfd a1 a2 a3 a4
 have v:=yfd b1 b2 b3 b4
 have hyz:y=z:=by
  rcases Int.lt_trichotomy y z with h | h | h
  ·have:=ysI_lt h; omega
  ·exact h
  ·have:=ysI_lt h; omega
 subst hyz
 have hmk:m=k:=by
  rcases Nat.lt_trichotomy m k with h | h | h
  ·have:=msI_lt (y:=y) a1 h b2; omega
  ·exact h
  ·have:=msI_lt (y:=y) b1 h a2; omega
 subst hmk
 exact ⟨rfl,rfl,by omega⟩
/-! ### the program's formula -/
def fN (n:Int):Int:=n+719468
def fO (n:Int):Int:=fN n % 146097
def fK (n:Int):Int:=(fO n - fO n / 1460+fO n / 36524 - fO n / 146096) / 365
def fL (n:Int):Int:=fO n - (fK n * 365+fK n / 4 - fK n / 100)
def fM (n:Int):Int:=(5 * fL n+2) / 153
def fD (n:Int):Int:=fL n - (153 * fM n+2) / 5+1
def fMo (n:Int):Int:=(fM n+2) % 12+1
def fY (n:Int):Int:=fN n / 146097 * 400+fK n+(if fMo n≤2 then 1 else 0)
theorem fK_spec (n:Int):∃k:Nat,k < 400∧fK n=k∧(cst k:Int)≤fO n∧fO n < cen k:=by
 obtain ⟨o,ho⟩:∃o:Nat,fO n=o:=⟨(fO n).toNat,by unfold fO; omega⟩
 have hlt:o < 146097:=by unfold fO at ho; omega
 obtain ⟨k,hk,h1,h2⟩:=yiG o 399 (by omega) (by simpa [cen] using hlt)
 refine ⟨k,hk,?_,by rw [ho]; omega,by rw [ho]; omega⟩
 have:=cg_at k o hk h1 h2
 unfold fK
 rw [ho]
 unfold cg at this
 omega
theorem yjw (n:Int) (h0:0≤n) (h1:n < 146097):∃m:Nat,fMo n=m∧IsDate n (fY n) m (fD n)∧0≤fK n∧fK n < 400∧0≤fL n∧fL n < 366:=by
 obtain ⟨k,hk,eK,c1,c2⟩:=fK_spec n
 have hera:(fN n / 146097=4∧fO n=n+135080)∨(fN n / 146097=5∧fO n=n - 11017):=by unfold fO fN; omega
 have hcst:(cst k:Int)=365 * k+k / 4 - k / 100:=by unfold cst; omega
 have hcen:(cen k:Int)=if k=399 then 146097 else 365 * (k+1)+((k:Int)+1) / 4 - ((k:Int)+1) / 100:=by
  unfold cen cst; split <;> omega
 have hL:fL n=fO n - (365 * k+(k:Int) / 4 - k / 100):=by unfold fL; rw [eK]; omega
 have hL0:0≤fL n:=by omega
 have hL1:fL n < 366:=by split at hcen <;> omega
 obtain ⟨L,hLL⟩:∃L,fL n=L:=⟨_,rfl⟩
 have hyear:∀e:Int,(e=4∨e=5)→fN n / 146097=e→(fN n / 146097 * 400+fK n)=400 * e+k:=by intro e _ h; rw [h,eK]; omega
 obtain ⟨e,he,hfe,hoe⟩:∃e:Int,(e=4∨e=5)∧fN n / 146097=e∧fO n=n+719468 - 146097 * e:=by
  rcases hera with ⟨a,b⟩ | ⟨a,b⟩
  ·exact ⟨4, .inl rfl,a,by omega⟩
  ·exact ⟨5, .inr rfl,a,by omega⟩
 have hmp:fM n= (5 * L+2) / 153:=by unfold fM; rw [hLL]
 obtain ⟨M,hM⟩:∃M,fM n=M:=⟨_,rfl⟩
 have hMb:0≤M∧M≤11:=by omega
 have hD:fD n=L - (153 * M+2) / 5+1:=by unfold fD; rw [hLL,hM]
 have hMo:fMo n= (M+2) % 12+1:=by unfold fMo; rw [hM]
 have hY:fY n=400 * e+k+(if (M+2) % 12+1≤2 then 1 else 0):=by unfold fY; rw [hMo,hfe,eK]; split <;> omega
 rw [hLL] at hL hL0 hL1
 rw [hM] at hmp
 rw [hoe] at hL c1 c2
 rw [hcst] at c1
 rw [hcen] at c2
 have fin:0≤fK n∧fK n < 400∧0≤fL n∧fL n < 366:=by omega
 refine ⟨((M+2) % 12+1).toNat,by rw [hMo]; omega,?_,fin⟩
 clear fin
 have:M=0∨M=1∨M=2∨M=3∨M=4∨M=5∨M=6∨M=7∨M=8∨M=9∨M=10∨M=11:=by omega
 have hk9:(k:Int)≤399:=by omega
 have hk0:(0:Int)≤k:=by omega
 obtain ⟨K,hK⟩:∃K:Int,(k:Int)=K:=⟨_,rfl⟩
 have hc2:n+719468 - 146097 * e < 365 * (K+1)+(K+1) / 4 - (K+1) / 100+(if K=399 then 1 else 0):=by
  rw [←hK]; split at c2 <;> rename_i h5
  ·subst h5; simp; omega
  ·rw [if_neg (by omega)]; omega
 rw [hK] at c1 hL hY hk9 hk0
 clear c2 hyear hera hcst hcen hfe hoe hLL hM eK hk hK
 have hif:(if K=399 then (1:Int) else 0)=1∧K=399∨(if K=399 then (1:Int) else 0)=0∧K≠399:=by
  by_cases h:K=399
  ·exact .inl ⟨if_pos h,h⟩
  ·exact .inr ⟨if_neg h,h⟩
 obtain ⟨I,hI⟩:∃I,(if K=399 then (1:Int) else 0)=I:=⟨_,rfl⟩
 rw [hI] at hc2 hif
 clear hI
 obtain ⟨Y,hYY⟩:∃Y,400 * e+K=Y:=⟨_,rfl⟩
 have A:Y / 4=100 * e+K / 4∧Y / 100=4 * e+K / 100∧Y / 400=e:=by omega
 have B:(Y+1) / 4=100 * e+(K+1) / 4∧(Y+1) / 100=4 * e+(K+1) / 100∧(Y+1) / 400=e+I:=by omega
 have H1:ysI Y+yaI Y=365 * (Y - 1970)+(100 * e+K / 4) - (4 * e+K / 100)+e - 477:=by
  unfold ysI yaI; rw [A.1,A.2.1,A.2.2]; omega
 have H2:ysI (Y+1)=365 * (Y+1 - 1970)+(100 * e+K / 4) - (4 * e+K / 100)+e - 477:=by
  unfold ysI; rw [show Y+1 - 1=Y by omega,A.1,A.2.1,A.2.2]
 have H3:yaI (Y+1)= (K+1) / 4 - K / 4 - ((K+1) / 100 - K / 100)+I:=by
  unfold yaI; rw [show Y+1 - 1=Y by omega,A.1,A.2.1,A.2.2,B.1,B.2.1,B.2.2]; omega
 have H4:2369≤Y→146097≤ysI (Y+1):=fun h=>by
  have h1:=yhW 2370 (Y+1 - 2370).toNat
  have h2:ysI 2370=146097:=by decide
  rw [show (2370:Int)+((Y+1 - 2370).toNat:Int)=Y+1 by omega] at h1
  omega
 rw [hY,hD,hYY]
 clear hY hD hMo hMb A B
 rcases this with rfl | rfl | rfl | rfl | rfl | rfl | rfl | rfl | rfl | rfl | rfl | rfl
 all_goals
  refine ⟨?_,?_,by decide,by decide,?_,?_,?_⟩ <;> simp [lenI,msI] <;> omega
theorem yas {n:Int} (h0:0≤n) (h1:n < 146097):1970≤fY n∧fY n≤2369∧1≤fMo n∧fMo n≤12∧1≤fD n∧fD n≤lenI (fY n) (fMo n):=by
 obtain ⟨m,e,hd,_⟩:=yjw n h0 h1
 rw [e]
 exact ⟨hd.y0,hd.y1,by have:=hd.m0; omega,by have:=hd.m1; omega,hd.d0,hd.d1⟩
end
section
open Go.RowKit
theorem yeY (a b:Int) (w:World) (ha:0≤a) (hb:1≤b) (ha2:a≤9223372036854775807):Calls Tryz.prog 153 #[.int .i64 a, .int .i64 b] w fun e w'=>e= .returned (.int .i64 (a / b))∧w=w':=by
 have h1:¬b < 1:=by omega
 have h2:¬a % b < 0:=by have:=Int.emod_nonneg a (show b≠0 by omega); omega
 have h3:a / b≤a:=Int.ediv_le_self b ha
 have h4:0≤a / b:=Int.ediv_nonneg ha (by omega)
 go_enter Tryz.func153,Tryz.ntmps153
 go_wp2
 go_ret
 exact ⟨rfl,rfl⟩
theorem ydX (a b:Int) (w:World) (ha:0≤a) (hb:1≤b) (ha2:a≤9223372036854775807):Calls Tryz.prog 122 #[.int .i64 a, .int .i64 b] w fun e w'=>e= .returned (.int .i64 (a / b))∧w=w':=by
 have h1:¬b < 1:=by omega
 have h2:¬a % b < 0:=by have:=Int.emod_nonneg a (show b≠0 by omega); omega
 have h3:a / b≤a:=Int.ediv_le_self b ha
 have h4:0≤a / b:=Int.ediv_nonneg ha (by omega)
 go_enter Tryz.func122,Tryz.ntmps122
 go_wp2
 go_ret
 exact ⟨rfl,rfl⟩
theorem ygf (a b:Int) (w:World) (ha:0≤a) (hb:1≤b):Calls Tryz.prog 147 #[.int .i64 a, .int .i64 b] w fun e w'=>e= .returned (.int .i64 (a % b))∧w=w':=by
 have h1:¬b < 1:=by omega
 have h2:¬a % b < 0:=by have:=Int.emod_nonneg a (show b≠0 by omega); omega
 go_enter Tryz.func147,Tryz.ntmps147
 go_wp2
 go_ret
 exact ⟨rfl,rfl⟩
theorem yiR (a b:Int) (w:World) (ha:0≤a) (hb:1≤b) (ha2:a≤9223372036854775807):Calls Tryz.prog 124 #[.int .i64 a, .int .i64 b] w fun e w'=>e= .returned (.int .i64 (a % b))∧w=w':=by
 have c1:=hid (ydX a b w ha hb ha2)
 have h1:¬b < 1:=by omega
 have h3:b * (a / b)≤a:=Int.mul_ediv_self_le (by omega)
 have h4:0≤b * (a / b):=Int.mul_nonneg (by omega) (Int.ediv_nonneg ha (by omega))
 have h5:Hid (a - b * (a / b)=a % b):=by show _ = _; rw [Int.emod_def]
 obtain ⟨q,hq⟩:∃q,a / b=q:=⟨_,rfl⟩
 rw [hq] at c1 h3 h4 h5
 clear hq
 go_enter Tryz.func124,Tryz.ntmps124
 go_wp2_with fail
 refine c1.out.mono ?_
 rintro e w' ⟨rfl,rfl⟩
 go_wp2
 go_ret
 rw [←h5.out]
 exact ⟨rfl,rfl⟩
theorem yiT (y:Int) (w:World) (h0:0≤y):Calls Tryz.prog 155 #[.int .i64 y] w fun e w'=>e= .returned (.bool (yee y))∧w=w':=by
 by_cases h4:y % 4=0
 ·by_cases h100:y % 100=0
  ·by_cases h400:y % 400=0
   ·have hr:Hid (yee y=true):=decide_eq_true (by omega)
    go_enter Tryz.func155,Tryz.ntmps155
    go_wp2
    go_ret
    exact ⟨by rw [hr.out]; rfl,rfl⟩
   ·have hr:Hid (yee y=false):=decide_eq_false (by omega)
    have hb:(y % 400 == 0)=false:=by simpa using h400
    go_enter Tryz.func155,Tryz.ntmps155
    go_wp2
    go_ret
    exact ⟨by rw [hr.out]; rfl,rfl⟩
  ·have hr:Hid (yee y=true):=decide_eq_true (by omega)
   have hb:(y % 100 == 0)=false:=by simpa using h100
   have hb2:(y % 100 != 0)=true:=by simpa using h100
   go_enter Tryz.func155,Tryz.ntmps155
   go_wp2
   go_ret
   exact ⟨by rw [hr.out]; rfl,rfl⟩
 ·have hr:Hid (yee y=false):=decide_eq_false (by omega)
  have hb:(y % 4 == 0)=false:=by simpa using h4
  go_enter Tryz.func155,Tryz.ntmps155
  go_wp2
  go_ret
  exact ⟨by rw [hr.out]; rfl,rfl⟩
theorem yg2 (y:Int) (w:World) (h0:0≤y):Calls Tryz.prog 123 #[.int .i64 y] w fun e w'=>e= .returned (.bool (yee y))∧w=w':=by
 by_cases h400:y % 400=0
 ·have hr:Hid (yee y=true):=decide_eq_true (by omega)
  go_enter Tryz.func123,Tryz.ntmps123
  go_wp2
  go_ret
  exact ⟨by rw [hr.out]; rfl,rfl⟩
 ·have hb4:(y % 400 == 0)=false:=by simpa using h400
  by_cases h4:y % 4=0
  ·by_cases h100:y % 100=0
   ·have hr:Hid (yee y=false):=decide_eq_false (by omega)
    go_enter Tryz.func123,Tryz.ntmps123
    go_wp2
    go_ret
    exact ⟨by rw [hr.out]; rfl,rfl⟩
   ·have hr:Hid (yee y=true):=decide_eq_true (by omega)
    have hb:(y % 100 == 0)=false:=by simpa using h100
    have hb2:(y % 100 != 0)=true:=by simpa using h100
    go_enter Tryz.func123,Tryz.ntmps123
    go_wp2
    go_ret
    exact ⟨by rw [hr.out]; rfl,rfl⟩
  ·have hr:Hid (yee y=false):=decide_eq_false (by omega)
   have hb:(y % 4 == 0)=false:=by simpa using h4
   go_enter Tryz.func123,Tryz.ntmps123
   go_wp2
   go_ret
   exact ⟨by rw [hr.out]; rfl,rfl⟩
theorem twelve {m:Int} (h1:1≤m) (h2:m≤12):m=1∨m=2∨m=3∨m=4∨m=5∨m=6∨m=7∨m=8∨m=9∨m=10∨m=11∨m=12:=by omega
set_option maxHeartbeats 1600000 in
theorem yc7 (y m:Int) (w:World) (h0:0≤y) (h1:1≤m) (h2:m≤12):Calls Tryz.prog 115 #[.int .i64 y, .int .i64 m] w fun e w'=>e= .returned (.int .i64 (lenI y m))∧Below w.heap.size w w':=by
 have c1:=hid (fun W=>yiT y W h0)
 have hl:=yfS y
 rcases twelve h1 h2 with rfl | rfl | rfl | rfl | rfl | rfl | rfl | rfl | rfl | rfl | rfl | rfl
 case inr.inl=>
  clear h0 h1 h2
  rcases hl with ⟨e1,e2⟩ | ⟨e1,e2⟩
  all_goals
   have hr:lenI y 2=28+yaI y:=by simp [lenI]
   rw [e2] at hr
   rw [e1] at c1
   have Hr:=hid hr
   clear e1 e2 hr
   go_enter Tryz.func115,Tryz.ntmps115
   go_wp2_with fail
   refine (c1.out _).mono ?_
   rintro e w' ⟨rfl,rfl⟩
   go_wp2
   go_ret
   exact ⟨by rw [Hr.out]; rfl,yaa (Below.refl _ _) (zG _)⟩
 all_goals
  clear h0 h1 h2 hl
  go_enter Tryz.func115,Tryz.ntmps115
  go_wp2
  go_ret
  exact ⟨by simp [lenI],yaa (Below.refl _ _) (zG _)⟩
set_option maxHeartbeats 1600000 in
theorem ydj (y m:Int) (w:World) (h0:0≤y) (h1:1≤m) (h2:m≤12):Calls Tryz.prog 74 #[.int .i64 y, .int .i64 m] w fun e w'=>e= .returned (.int .i64 (lenI y m))∧w=w':=by
 have c1:=hid (fun W=>yg2 y W h0)
 have hl:=yfS y
 rcases twelve h1 h2 with rfl | rfl | rfl | rfl | rfl | rfl | rfl | rfl | rfl | rfl | rfl | rfl
 case inr.inl=>
  clear h0 h1 h2
  rcases hl with ⟨e1,e2⟩ | ⟨e1,e2⟩
  all_goals
   have hr:lenI y 2=28+yaI y:=by simp [lenI]
   rw [e2] at hr
   rw [e1] at c1
   have Hr:=hid hr
   clear e1 e2 hr
   go_enter Tryz.func74,Tryz.ntmps74
   go_wp2_with fail
   refine (c1.out _).mono ?_
   rintro e w' ⟨rfl,rfl⟩
   go_wp2
   go_ret
   exact ⟨by rw [Hr.out]; rfl,rfl⟩
 all_goals
  clear h0 h1 h2 hl
  go_enter Tryz.func74,Tryz.ntmps74
  go_wp2
  go_ret
  exact ⟨by simp [lenI],rfl⟩
theorem ygY (y:Int) (w:World) (h0:0≤y):Calls Tryz.prog 77 #[.int .i64 y] w fun e w'=>e= .returned (.int .i64 (365+yaI y))∧w=w':=by
 have c1:=hid (fun W=>yg2 y W h0)
 rcases yfS y with ⟨e1,e2⟩ | ⟨e1,e2⟩
 all_goals
  rw [e1] at c1
  rw [e2]
  clear e1 e2
  go_enter Tryz.func77,Tryz.ntmps77
  go_wp2_with fail
  refine (c1.out _).mono ?_
  rintro e w' ⟨rfl,rfl⟩
  go_wp2
  go_ret
  exact ⟨rfl,rfl⟩
theorem yiZ (y m d:Int) (w:World) (h0:0≤y) (hy:y≤3000) (h1:1≤m) (h2:m≤12) (h3:1≤d) (h4:d≤lenI y m):Calls Tryz.prog 154 #[.int .i64 y, .int .i64 m, .int .i64 d] w fun e w'=>e= .returned (.bool true)∧Below w.heap.size w w':=by
 have c1:=hid (fun W=>yc7 y m W h0 h1 h2)
 obtain ⟨l,hl⟩:∃l,lenI y m=l:=⟨_,rfl⟩
 rw [hl] at c1 h4
 clear hl
 go_enter Tryz.func154,Tryz.ntmps154
 go_wp2_with fail
 refine (c1.out _).mono ?_
 rintro e w' ⟨rfl,hB⟩
 have HB:=hid hB
 clear hB
 go_wp2
 go_ret
 exact ⟨yaz (by first | (simp; done) | (simp; omega)),HB.out⟩
end
end Go.Proofs.YtkpgfmonhfnhdaaGreatDoor
