/-
  clause.May and feriaref13.May: whether a clause may be.
  A day's shape, number by number; what an Ord says of it.
  What tod.held, tod.from, tod.Next and feriaref07.In compute.
  The least number of a mask above another one is the first such one of its list.
  Arguments that came in, opened: of a type that is flat (integers, bools, structs and arrays of them) the cells are what its leaves say; a slice of flat elements is a row of such cells. No condition.
  mask.All makes a function that has captured the box of what is in all of the masks.
  Function values that are called back: a closure, or a loop's yield; and who owns which block.
  The function that mask.All makes tells the numbers of its mask, rising, as long as more are wanted.
-/
import Derived.Test.YtkpgfmonhfnhdaaGreatDoorQ656077
import Derived.Test.YtkpgfmonhfnhdaaGreatDoorQ824fec
import Derived.Test.YtkpgfmonhfnhdaaGreatDoorQd4b665
import Derived.Test.YtkpgfmonhfnhdaaGreatDoorQ060903
import Derived.OpenShut
import Derived.Deep.Slices
import Derived.ChangeOld
import Derived.ShutString
import Derived.RangeFuncNested
import Derived.RangeFuncBound
import Derived.RangeFuncCalls
import Derived.RangeFuncLeaves
import Derived.OwnWalkIn
import Derived.TacticsInMore
import Derived.LoopNIn
import Derived.LoopIn
namespace Go.Proofs.YtkpgfmonhfnhdaaGreatDoor
set_option linter.unusedVariables false
section
open Go.RowKit
def yd8 (m:Nat→Nat):Bool:=ybj (m 0) 0 59 && (ybj (m 1) 0 59 && (ybj (m 2) 0 23 && (ybj (m 3) 1 12 && (ybj (m 4) 1 31 && (ybj (m 5) 1 31 && ybj (m 6) 1 7)))))
def mayC (c:Cl):Bool:=yd8 c.m && (ordB c.oin c.oback c.od && (eqW (inW c.ys) c.ys && (unB c.unit && (decide (1≤c.step) && winB c.anchor))))
theorem yhg (m:Nat→Nat):yb3 [(m 0,ybH 0),(m 1,ybH 1),(m 2,ybH 2),(m 3,ybH 3),(m 4,ybH 4),(m 5,ybH 5),(m 6,ybH 6)]=yd8 m:=by
 have e:∀x lo hi,(yfR x (yaY lo hi 1) == 0)=ybj x lo hi:=fun x lo hi=>by
  rw [Bool.eq_iff_iff,beq_iff_eq,ygG]
 have f0:ybH 0=yaY 0 59 1:=rfl
 have f1:ybH 1=yaY 0 59 1:=rfl
 have f2:ybH 2=yaY 0 23 1:=rfl
 have f3:ybH 3=yaY 1 12 1:=rfl
 have f4:ybH 4=yaY 1 31 1:=rfl
 have f5:ybH 5=yaY 1 31 1:=rfl
 have f6:ybH 6=yaY 1 7 1:=rfl
 simp only [yb3,List.all_cons,List.all_nil,Bool.and_true,yd8,f0,f1,f2,f3,f4,f5,f6,e]
abbrev nameL:List Value:= [.string {data:=#[83,69,67,79,78,68,76,89]}, .string {data:=#[77,73,78,85,84,69,76,89]}, .string {data:=#[72,79,85,82,76,89]}, .string {data:=#[68,65,73,76,89]}, .string {data:=#[87,69,69,75,76,89]}, .string {data:=#[77,79,78,84,72,76,89]}, .string {data:=#[89,69,65,82,76,89]}]
theorem Names_any (w:World):Calls Tryz.prog 90 #[] w fun e w'=>e= .returned (.agg nameL.toArray)∧Below w.heap.size w w':=by
 go_enter Tryz.func90,Tryz.ntmps90
 go_wp2
 refine bodyPost_ret (yac rfl _ _ w.heap.size 0 _ _ rfl (yaD w _ _) Tryz.underlying165 rfl (by kernel_rfl)) rfl ⟨rfl,yaa (Below.refl _ _) (zG _)⟩
theorem infoStr:(Tryz.prog.info? 9).map (fun i=>(i.zero,i.size,i.bytes))=some (some (.string {data:=#[]}),1,16):=by kernel_rfl
theorem yeA (V:Value) (hV:V= .agg nameL.toArray) (W:World):(Instr.index 165 V (.int .i64 0)).run Tryz.prog W= .ok (.string {data:=#[83,69,67,79,78,68,76,89]}) W∧(Instr.index 165 V (.int .i64 1)).run Tryz.prog W= .ok (.string {data:=#[77,73,78,85,84,69,76,89]}) W∧(Instr.index 165 V (.int .i64 2)).run Tryz.prog W= .ok (.string {data:=#[72,79,85,82,76,89]}) W∧(Instr.index 165 V (.int .i64 3)).run Tryz.prog W= .ok (.string {data:=#[68,65,73,76,89]}) W∧(Instr.index 165 V (.int .i64 4)).run Tryz.prog W= .ok (.string {data:=#[87,69,69,75,76,89]}) W∧(Instr.index 165 V (.int .i64 5)).run Tryz.prog W= .ok (.string {data:=#[77,79,78,84,72,76,89]}) W∧(Instr.index 165 V (.int .i64 6)).run Tryz.prog W= .ok (.string {data:=#[89,69,65,82,76,89]}) W:=by
 obtain ⟨i0,hi0,hz0,hz1,hz2⟩:=info_parts infoStr
 rw [hV]
 refine ⟨?_,?_,?_,?_,?_,?_,?_⟩ <;> simp [Instr.index,go_sem,part,sizeOf,typeInfo,hi0,hz1]
set_option maxRecDepth 100000 in
theorem Name_any (u:Int) (w:World):Calls Tryz.prog 44 #[.int .i64 u] w fun e w'=>(∃s:ByteArray,e= .returned (.string s)∧(s.toList == [])= !unB u)∧Below w.heap.size w w':=by
 obtain ⟨V,hV⟩:∃V:Value,V= .agg nameL.toArray:=⟨_,rfl⟩
 have c1:Hid (∀W,Calls Tryz.prog 90 #[] W fun e w'=>e= .returned V∧Below W.heap.size W w'):=fun W=>by rw [hV]; exact Names_any W
 have hix:=hid (fun W=>yeA V hV W)
 clear hV
 rcases ydm u with ⟨e,h0,h1⟩ | ⟨e,h⟩
 ·rw [e]
  have hcase:u=0∨u=1∨u=2∨u=3∨u=4∨u=5∨u=6:=by omega
  clear e h0 h1
  rcases hcase with rfl | rfl | rfl | rfl | rfl | rfl | rfl
  all_goals
   go_enter Tryz.func44,Tryz.ntmps44
   go_wp2_with fail
   refine (c1.out _).mono ?_
   rintro e w1 ⟨rfl,hB1⟩
   have HB1:=hid hB1
   obtain ⟨i0,i1,i2,i3,i4,i5,i6⟩:=hix.out w1
   clear hB1
   go_wp2
   go_ret
   exact ⟨⟨_,rfl,by kernel_rfl⟩,HB1.out⟩
 ·rw [e]
  clear e
  rcases h with h | h
  ·go_enter Tryz.func44,Tryz.ntmps44
   go_wp2
   go_ret
   exact ⟨⟨_,rfl,by kernel_rfl⟩,Below.refl _ _⟩
  ·have h0:¬u < 0:=by omega
   have h7:7≤u:=by omega
   go_enter Tryz.func44,Tryz.ntmps44
   go_wp2
   go_ret
   exact ⟨⟨_,rfl,by kernel_rfl⟩,Below.refl _ _⟩
def ClB (W:World) (b:Nat) (c:Cl):Prop:=W.rangeAt b 0 (yad c)
theorem ClB.below {W W':World} {b B:Nat} {c:Cl} (h:ClB W b c) (hb:Below B W W') (hB:b < B):ClB W' b c:=fun j v hv=>(hb.cell (p:=⟨b,0+j,none⟩) hB).trans (h j v hv)
theorem yb8 (w:World) (c:Cl) (t:TypeId):ClB (w.alloc (.cells (yad c).toArray t)) w.heap.size c:=yaD w _ _
theorem ClB.at {W:World} {b:Nat} {c:Cl} (h:ClB W b c) (j:Nat) {v:Value} (hv:(yad c)[j]? =some v):W.cell? ⟨b,j,none⟩=some v:=by
 have:=h j v hv
 rwa [Nat.zero_add] at this
theorem ClB.masks {W:World} {b:Nat} {c:Cl} (h:ClB W b c):W.cell? ⟨b,0,none⟩=some (.int .u64 (c.m 0:Nat))∧W.cell? ⟨b,1,none⟩=some (.int .u64 (c.m 1:Nat))∧W.cell? ⟨b,2,none⟩=some (.int .u64 (c.m 2:Nat))∧
  W.cell? ⟨b,3,none⟩=some (.int .u64 (c.m 3:Nat))∧W.cell? ⟨b,4,none⟩=some (.int .u64 (c.m 4:Nat))∧W.cell? ⟨b,5,none⟩=some (.int .u64 (c.m 5:Nat))∧W.cell? ⟨b,6,none⟩=some (.int .u64 (c.m 6:Nat)):=
 ⟨h.at 0 rfl,h.at 1 rfl,h.at 2 rfl,h.at 3 rfl,h.at 4 rfl,h.at 5 rfl,h.at 6 rfl⟩
theorem ClB.ord {W:World} {b:Nat} {c:Cl} (h:ClB W b c):W.cell? ⟨b,8,none⟩=some (.int .i64 c.oin)∧W.cell? ⟨b,9,none⟩=some (.bool c.oback)∧W.cell? ⟨b,10,none⟩=some (.int .u64 (c.od 0:Nat))∧W.cell? ⟨b,11,none⟩=some (.int .u64 (c.od 1:Nat))∧
  W.cell? ⟨b,12,none⟩=some (.int .u64 (c.od 2:Nat))∧W.cell? ⟨b,13,none⟩=some (.int .u64 (c.od 3:Nat))∧W.cell? ⟨b,14,none⟩=some (.int .u64 (c.od 4:Nat))∧W.cell? ⟨b,15,none⟩=some (.int .u64 (c.od 5:Nat))∧
  W.cell? ⟨b,16,none⟩=some (.int .u64 (c.od 6:Nat))∧W.cell? ⟨b,17,none⟩=some (.int .u64 (c.od 7:Nat)):=
 ⟨h.at 8 rfl,h.at 9 rfl,h.at 10 rfl,h.at 11 rfl,h.at 12 rfl,h.at 13 rfl,h.at 14 rfl,h.at 15 rfl,h.at 16 rfl,h.at 17 rfl⟩
theorem ClB.years {W:World} {b:Nat} {c:Cl} (h:ClB W b c):W.cell? ⟨b,18,none⟩=some (.int .u64 (c.ys 0:Nat))∧W.cell? ⟨b,19,none⟩=some (.int .u64 (c.ys 1:Nat))∧W.cell? ⟨b,20,none⟩=some (.int .u64 (c.ys 2:Nat))∧W.cell? ⟨b,21,none⟩=some (.int .u64 (c.ys 3:Nat))∧
  W.cell? ⟨b,22,none⟩=some (.int .u64 (c.ys 4:Nat))∧W.cell? ⟨b,23,none⟩=some (.int .u64 (c.ys 5:Nat))∧W.cell? ⟨b,24,none⟩=some (.int .u64 (c.ys 6:Nat)):=
 ⟨h.at 18 rfl,h.at 19 rfl,h.at 20 rfl,h.at 21 rfl,h.at 22 rfl,h.at 23 rfl,h.at 24 rfl⟩
theorem ClB.tail {W:World} {b:Nat} {c:Cl} (h:ClB W b c):W.cell? ⟨b,25,none⟩=some (.int .i64 c.unit)∧W.cell? ⟨b,26,none⟩=some (.int .i64 c.step)∧W.cell? ⟨b,27,none⟩=some (.int .i64 c.anchor)∧W.cell? ⟨b,28,none⟩=some (.int .i64 c.fr)∧W.cell? ⟨b,29,none⟩=some (.int .i64 c.un):=
 ⟨h.at 25 rfl,h.at 26 rfl,h.at 27 rfl,h.at 28 rfl,h.at 29 rfl⟩
theorem ydo {W:World} {b:Nat} {cs:List Value} (h:W.rangeAt b 0 cs) (hb:b < W.heap.size):Sl W (some ⟨b,0,none⟩) cs:= .inr ⟨b,0,rfl,hb,fun j hj=>h j _ (List.getElem?_eq_getElem hj)⟩
attribute [local go_sem ↓] ya9
attribute [local go_sem] yaR
abbrev zL:List Value:= [.int .u64 0, .int .u64 0, .int .u64 0, .int .u64 0, .int .u64 0, .int .u64 0, .int .u64 0, .bool false, .int .i64 0, .bool false, .int .u64 0, .int .u64 0, .int .u64 0, .int .u64 0, .int .u64 0, .int .u64 0, .int .u64 0, .int .u64 0, .int .u64 0, .int .u64 0, .int .u64 0, .int .u64 0, .int .u64 0, .int .u64 0, .int .u64 0, .int .i64 0, .int .i64 0, .int .i64 0, .int .i64 0, .int .i64 0]
set_option maxRecDepth 100000 in
set_option maxHeartbeats 3200000 in
theorem yd0 (c:Cl) (w:World) (hc:c.Ok):Calls Tryz.prog 13 #[clv c] w fun e w'=>e= .returned (.bool (mayC c))∧Below w.heap.size w w':=by
 have c0:=hid (fun W=>yiX W)
 obtain ⟨F,hF⟩:∃F,fullCl=F:=⟨_,rfl⟩
 have HF:Hid (∀i,F.m i=ybH i):=fun i=>by rw [←hF]; rfl
 rw [hF] at c0
 clear hF
 have hC:=hid (yb8 w c 36)
 have hB0:Hid (Below w.heap.size w (w.alloc (.cells (yad c).toArray 36))):=yaa (Below.refl _ _) (zG _)
 have cO:=hid (fun W=>yhc c.oin c.oback c.od W hc.oin hc.od)
 have cY:=hid (fun W=>WMay_any c.ys W hc.ys)
 have cN:=hid (fun W=>Name_any c.unit W)
 have cM:=hid (fun W=>yhO c.anchor W)
 have hres:Hid (mayC c= (yd8 c.m && (ordB c.oin c.oback c.od && (eqW (inW c.ys) c.ys && (unB c.unit && (decide (1≤c.step) && winB c.anchor)))))):=rfl
 rw [hres.out]
 obtain ⟨b1,hb1⟩:∃b,yd8 c.m=b:=⟨_,rfl⟩
 obtain ⟨b2,hb2⟩:∃b,ordB c.oin c.oback c.od=b:=⟨_,rfl⟩
 obtain ⟨b3,hb3⟩:∃b,eqW (inW c.ys) c.ys=b:=⟨_,rfl⟩
 obtain ⟨b4,hb4⟩:∃b,unB c.unit=b:=⟨_,rfl⟩
 obtain ⟨b6,hb6⟩:∃b,winB c.anchor=b:=⟨_,rfl⟩
 obtain ⟨b5,hb5⟩:∃b,decide (1≤c.step)=b:=⟨_,rfl⟩
 rw [hb1]
 have Hb1:=hid hb1
 rw [hb2] at cO⊢
 rw [hb3] at cY⊢
 rw [hb4] at cN⊢
 rw [hb6] at cM⊢
 rw [hb5]
 have Hb5:=hid hb5
 clear hb1 hb2 hb3 hb4 hb5 hb6 hres
 go_enter Tryz.func13,Tryz.ntmps13
 go_wp2_with fail
 refine (c0.out _).mono ?_
 rintro e w1 ⟨rfl,hB1⟩
 have hC1:=hC.out.below hB1 (by simp)
 have HB1:Hid (Below w.heap.size w w1):=hB0.out.trans (hB1.mono (by simp))
 have hs1:w.heap.size < w1.heap.size:=by have:=hB1.size; simp at this; omega
 clear hB1
 have hth:(w1.alloc (.cells zL.toArray 36)).there w1.heap.size 0 30:=yb9 w1 _ _
 have hF2:ClB (yb5 (w1.alloc (.cells zL.toArray 36)) w1.heap.size (yad F)) w1.heap.size F:=ybp _ rfl hth
 have hBa:Below w1.heap.size w1 (yb5 (w1.alloc (.cells zL.toArray 36)) w1.heap.size (yad F)):=ybq (yaa (Below.refl _ _) (zG _)) (zG _) _
 have hCa:=hC1.below hBa hs1
 obtain ⟨r0,r1,r2,r3,r4,r5,r6⟩:=hCa.masks
 obtain ⟨s0,s1,s2,s3,s4,s5,s6⟩:=hF2.masks
 have HBa:=hid hBa
 have HCa:=hid hCa
 obtain ⟨W2,hW2⟩:∃W2,yb5 (w1.alloc (.cells zL.toArray 36)) w1.heap.size (yad F)=W2:=⟨_,rfl⟩
 have HW2:=hid hW2
 rw [hW2] at HBa HCa
 have HB2:Hid (Below w.heap.size w W2):=HB1.out.trans (HBa.out.mono (by omega))
 have hs2:w.heap.size < W2.heap.size:=by have:=HBa.out.size; omega
 have hm:=hc.m
 have cW:Hid (Calls Tryz.prog 41 #[.slice (some ⟨W2.heap.size,0,none⟩) 7 7] (W2.alloc (.cells #[.int .u64 (c.m 0:Nat), .int .u64 (F.m 0:Nat), .int .u64 (c.m 1:Nat), .int .u64 (F.m 1:Nat), .int .u64 (c.m 2:Nat), .int .u64 (F.m 2:Nat), .int .u64 (c.m 3:Nat), .int .u64 (F.m 3:Nat),
   .int .u64 (c.m 4:Nat), .int .u64 (F.m 4:Nat), .int .u64 (c.m 5:Nat), .int .u64 (F.m 5:Nat), .int .u64 (c.m 6:Nat), .int .u64 (F.m 6:Nat)] 93)) fun e w'=>e= .returned (.bool (yd8 c.m))∧Below (W2.heap.size+1) (W2.alloc (.cells #[.int .u64 (c.m 0:Nat), .int .u64 (F.m 0:Nat), .int .u64 (c.m 1:Nat), .int .u64 (F.m 1:Nat), .int .u64 (c.m 2:Nat), .int .u64 (F.m 2:Nat), .int .u64 (c.m 3:Nat), .int .u64 (F.m 3:Nat),
   .int .u64 (c.m 4:Nat), .int .u64 (F.m 4:Nat), .int .u64 (c.m 5:Nat), .int .u64 (F.m 5:Nat), .int .u64 (c.m 6:Nat), .int .u64 (F.m 6:Nat)] 93)) w'):=by
  have h:=yhH (some ⟨W2.heap.size,0,none⟩) 7 [(c.m 0,F.m 0),(c.m 1,F.m 1),(c.m 2,F.m 2),(c.m 3,F.m 3),(c.m 4,F.m 4),(c.m 5,F.m 5),(c.m 6,F.m 6)]
   (W2.alloc (.cells #[.int .u64 (c.m 0:Nat), .int .u64 (F.m 0:Nat), .int .u64 (c.m 1:Nat), .int .u64 (F.m 1:Nat), .int .u64 (c.m 2:Nat), .int .u64 (F.m 2:Nat), .int .u64 (c.m 3:Nat), .int .u64 (F.m 3:Nat),
     .int .u64 (c.m 4:Nat), .int .u64 (F.m 4:Nat), .int .u64 (c.m 5:Nat), .int .u64 (F.m 5:Nat), .int .u64 (c.m 6:Nat), .int .u64 (F.m 6:Nat)] 93)) (by simp) (ydo (yaD W2 _ _) (by simp)) (by
     have hf:∀i,F.m i < 18446744073709551616:=fun i=>by rw [HF.out i]; unfold ybH; repeat (first | exact yan _ | split)
     intro p hp
     simp only [List.mem_cons,List.not_mem_nil,or_false] at hp
     rcases hp with rfl | rfl | rfl | rfl | rfl | rfl | rfl <;> exact ⟨hm _ (by omega),hf _⟩)
  rw [HF.out 0,HF.out 1,HF.out 2,HF.out 3,HF.out 4,HF.out 5,HF.out 6,yhg,World.size_alloc] at h
  rw [HF.out 0,HF.out 1,HF.out 2,HF.out 3,HF.out 4,HF.out 5,HF.out 6]
  exact h
 rw [Hb1.out] at cW
 clear hF2 hBa hCa hC1 hW2 hm
 go_wp2_with fail
 rw [HW2.out]
 clear r0 r1 r2 r3 r4 r5 r6 s0 s1 s2 s3 s4 s5 s6 hth
 refine cW.out.mono ?_
 rintro e w3 ⟨rfl,hB3⟩
 have HB23:Hid (Below W2.heap.size W2 w3):=(yaa (Below.refl _ _) (zG _)).trans (hB3.mono (by omega))
 have HB3:Hid (Below w.heap.size w w3):=HB2.out.trans (HB23.out.mono (by omega))
 have HC3:=hid (HCa.out.below HB23.out hs2)
 have hs3:w.heap.size < w3.heap.size:=by have:=HB23.out.size; omega
 obtain ⟨o0,o1,o2,o3,o4,o5,o6,o7,o8,o9⟩:=HC3.out.ord
 clear hB3 cW
 cases b1
 ·go_wp2
  go_ret
  exact ⟨rfl,HB3.out⟩
 go_wp2_with fail
 refine (cO.out _).mono ?_
 rintro e w4 ⟨rfl,hB4⟩
 have HB4:Hid (Below w.heap.size w w4):=HB3.out.trans (hB4.mono (by omega))
 have HC4:=hid (HC3.out.below hB4 hs3)
 have hs4:w.heap.size < w4.heap.size:=by have:=hB4.size; omega
 obtain ⟨y0,y1,y2,y3,y4,y5,y6⟩:=HC4.out.years
 clear hB4 o0 o1 o2 o3 o4 o5 o6 o7 o8 o9
 cases b2
 ·go_wp2
  go_ret
  exact ⟨rfl,HB4.out⟩
 go_wp2_with fail
 refine (cY.out _).mono ?_
 rintro e w5 ⟨rfl,hB5⟩
 have HB5:Hid (Below w.heap.size w w5):=HB4.out.trans (hB5.mono (by omega))
 have HC5:=hid (HC4.out.below hB5 hs4)
 have hs5:w.heap.size < w5.heap.size:=by have:=hB5.size; omega
 obtain ⟨t0,t1,t2,t3,t4⟩:=HC5.out.tail
 clear hB5 y0 y1 y2 y3 y4 y5 y6
 cases b3
 ·go_wp2
  go_ret
  exact ⟨rfl,HB5.out⟩
 go_wp2_with fail
 refine (cN.out _).mono ?_
 rintro e w6 ⟨⟨s,rfl,hsn⟩,hB6⟩
 have HB6:Hid (Below w.heap.size w w6):=HB5.out.trans (hB6.mono (by omega))
 have HC6:=hid (HC5.out.below hB6 hs5)
 obtain ⟨u0,u1,u2,u3,u4⟩:=HC6.out.tail
 clear hB6 t0 t1 t2 t3 t4
 cases b4
 ·go_wp2
  go_ret
  exact ⟨rfl,HB6.out⟩
 by_cases h1:1≤c.step
 ·obtain rfl:true=b5:=by rw [←Hb5.out,decide_eq_true h1]
  clear Hb5
  go_wp2_with fail
  refine (cM.out _).mono ?_
  rintro e w' ⟨rfl,rfl⟩
  go_wp2
  go_ret
  exact ⟨rfl,HB6.out⟩
 ·obtain rfl:false=b5:=by rw [←Hb5.out,decide_eq_false h1]
  clear Hb5
  go_wp2
  go_ret
  exact ⟨rfl,HB6.out⟩
end
section
open Go.RowKit
def shq (s:Nat→Int):Value:= .agg #[.int .i64 (s 0), .int .i64 (s 1), .int .i64 (s 2), .int .i64 (s 3), .int .i64 (s 4), .int .i64 (s 5), .int .i64 (s 6), .int .i64 (s 7), .int .i64 (s 8), .int .i64 (s 9)]
def nthN (oin:Int) (oback:Bool) (s:Nat→Int):Int:=if oin=1 then (if oback then s 7 else s 6) else (if oback then s 9 else s 8)
def nthB (oin:Int) (oback:Bool) (od:Nat→Nat) (s:Nat→Int):Bool:=if oin=0 then true else hasB (od (s 5).toNat) (nthN oin oback s)
abbrev ShS (W:World) (b:Nat) (s:Nat→Int):Prop:=ShC W b (s 0) (s 1) (s 2) (s 3) (s 4) (s 5) (s 6) (s 7) (s 8) (s 9)
abbrev ya0 (s:Nat→Int):List Value:= [.int .i64 (s 0), .int .i64 (s 1), .int .i64 (s 2), .int .i64 (s 3), .int .i64 (s 4), .int .i64 (s 5), .int .i64 (s 6), .int .i64 (s 7), .int .i64 (s 8), .int .i64 (s 9)]
def shF (n:Int) (i:Nat):Int:=match i with
 | 0=>n | 1=>fY n | 2=>fMo n | 3=>fD n | 4=>lenI (fY n) (fMo n) - fD n+1 | 5=>(n % 7+3) % 7+1 | 6=>(fD n - 1) / 7+1 | 7=>(lenI (fY n) (fMo n) - fD n) / 7+1 | 8=>(fOr n - 1) / 7+1 | _=>(365+yaI (fY n) - fOr n) / 7+1
theorem yaZ (n:Int):shq (shF n)=shN n:=rfl
theorem ygs (n:Int):1≤shF n 5∧shF n 5≤7:=by show 1≤(n % 7+3) % 7+1∧(n % 7+3) % 7+1≤7; omega
theorem shF_yr {n:Int} (h0:0≤n) (h1:n < 146097):0≤shF n 1∧shF n 1 < 100000:=by
 have:=yas h0 h1
 show 0≤fY n∧fY n < 100000
 omega
end
section
open Go.RowKit
def cutM (m:Nat) (t:Int):Nat:=m &&& yaY 0 t 1
theorem yb7 {m:Nat} (t:Int) (hm:m < 18446744073709551616):cutM m t < 18446744073709551616:=ya7 (b:=yaY 0 t 1) hm
theorem ydA (m:Nat) (t:Int) (k:Nat):(cutM m t).testBit k= (m.testBit k && (decide (k < 64) && decide ((k:Int)≤t))):=by
 rw [cutM,Nat.testBit_and,yaY,yaN]
 congr 2
 rw [ycG,Bool.eq_iff_iff]
 simp only [decide_eq_true_eq]
 omega
theorem yiW (hs ms ss:Nat) (w:World) (hh:hs < 18446744073709551616) (hm:ms < 18446744073709551616) (hss:ss < 18446744073709551616) :
  Calls Tryz.prog 107 #[.int .u64 hs, .int .u64 ms, .int .u64 ss] w fun e w'=>e= .returned (.tuple #[.int .u64 (cutM hs 23), .int .u64 (cutM ms 59), .int .u64 (cutM ss 59)])∧w=w':=by
 have e1:=hid (yat hh (yan (ycG 0 23 1)))
 have e2:=hid (yat hm (yan (ycG 0 59 1)))
 have e3:=hid (yat hss (yan (ycG 0 59 1)))
 have H1:=hid (ybJ 0 23 1 w (by omega) (by omega))
 have H2:=hid (ybJ 0 59 1 w (by omega) (by omega))
 go_enter Tryz.func107,Tryz.ntmps107
 go_wp2_with fail
 refine H2.out.mono ?_
 rintro e w' ⟨rfl,rfl⟩
 go_wp2_with fail
 refine H1.out.mono ?_
 rintro e w' ⟨rfl,rfl⟩
 go_wp2
 refine bodyPost_ret (v:= .tuple #[.int .u64 (cutM hs 23), .int .u64 (cutM ms 59), .int .u64 (cutM ss 59)]) ?_ rfl ⟨rfl,rfl⟩
 simp [results,Tryz.results107,go_sem]
 exact ⟨e1.out,e2.out,e3.out⟩
end
section
open Go.RowKit
theorem yew (p:Nat→Bool) (k:Nat) (hk:p k=true):∀N,k < N→∃bs,sel p N=sel p k ++ (k:Int) :: bs
 | 0,h=>by omega
 | N+1,h=>by
   by_cases e:k=N
   ·subst e; exact ⟨[],ybB hk⟩
   ·obtain ⟨bs,hb⟩:=yew p k hk N (by omega)
    by_cases hp:p N=true
    ·exact ⟨bs ++ [(N:Int)],by rw [ybB hp,hb]; simp⟩
    ·exact ⟨bs,by rw [ycH (by simpa using hp),hb]⟩
theorem yfH {p:Nat→Bool} {n:Nat} (h:∀i,i < n→p i=false):sel p n= []:=by
 cases e:sel p n with
 | nil=>rfl
 | cons x xs=>
   have hx:x∈sel p n:=by rw [e]; simp
   obtain ⟨k,hk,hp,_⟩:=sel_mem.mp hx
   rw [h k hk] at hp; cases hp
def ycE (n:Int):List Int→Int
 | []=>-1
 | x :: xs=>if n < x then x else ycE n xs
theorem ye5 (n:Int):∀l:List Int,(∀x∈l,¬n < x)→ycE n l= -1
 | [],_=>rfl
 | x :: xs,h=>by rw [ycE,if_neg (h x (by simp)),ye5 n xs (fun y hy=>h y (by simp [hy]))]
theorem yhZ (n y:Int) (bs:List Int) (hy:n < y):∀l:List Int,(∀x∈l,¬n < x)→ycE n (l ++ y :: bs)=y
 | [],_=>by simp [ycE,hy]
 | x :: xs,h=>by
   rw [List.cons_append,ycE,if_neg (h x (by simp)),yhZ n y bs hy xs (fun z hz=>h z (by simp [hz]))]
theorem want_no {m:Nat} (n:Int) (hm:m < 18446744073709551616) (h:ybh m n=0):ycE n (sel m.testBit 64)= -1:=by
 refine ye5 n _ (fun x hx hlt=>?_)
 obtain ⟨k,hk,hp,rfl⟩:=sel_mem.mp hx
 have:=ydi n k hm
 rw [h,hp] at this
 simp at this; omega
theorem want_yes {m:Nat} (n:Int) (hm:m < 18446744073709551616) (h:ybh m n≠0):ycE n (sel m.testBit 64)= (lsb (ybh m n):Int):=by
 obtain ⟨h1,h2,h3⟩:=yeh h (aboveM_lt hm)
 obtain ⟨k,hk⟩:∃k,lsb (ybh m n)=k:=⟨_,rfl⟩
 rw [hk] at h1 h2 h3⊢
 rw [ydi n k hm] at h2
 simp only [Bool.and_eq_true,decide_eq_true_eq] at h2
 obtain ⟨bs,hb⟩:=yew m.testBit k h2.2 64 h1
 rw [hb]
 refine yhZ n k bs h2.1 _ (fun x hx hlt=>?_)
 obtain ⟨j,hj,hp,rfl⟩:=sel_mem.mp hx
 have:=h3 j hj
 rw [ydi n j hm,hp] at this
 simp at this; omega
theorem first_no {m:Nat} (h:m=0):sel m.testBit 64= []:=yfH (fun i _=>by subst h; simp)
theorem first_yes {m:Nat} (hm:m < 18446744073709551616) (h:m≠0):∃bs,sel m.testBit 64= (lsb m:Int) :: bs:=by
 obtain ⟨h1,h2,h3⟩:=yeh h hm
 obtain ⟨bs,hb⟩:=yew m.testBit (lsb m) h2 64 h1
 rw [yfH h3] at hb
 exact ⟨bs,hb⟩
end
section
open Go.RowKit Go.ChangeShapes Go.WideShapes
inductive Leaf where
 | int (k:IntKind)
 | bool
def Leaf.ok:Leaf→Value→Prop
 | .int k,v=>∃n,v= .int k n∧(Lit.int k n).wf=true
 | .bool,v=>∃b,v= .bool b
def oks:List Leaf→List Value→Prop
 | [],[]=>True
 | k :: ks,v :: vs=>k.ok v∧oks ks vs
 | _,_=>False
theorem ydP:∀{ks ls:List Leaf} {cs ds:List Value},oks ks cs→oks ls ds→oks (ks ++ ls) (cs ++ ds)
 | [],_,[],_,_,h=>h
 | k :: ks,ls,v :: vs,ds,h,h'=>⟨h.1,ydP h.2 h'⟩
 | [],_,_ :: _,_,h,_=>h.elim
 | _ :: _,_,[],_,h,_=>h.elim
def yeM (P:Program) (g:TypeId→Option (List Leaf)):List Field→Nat→Option (List Leaf)
 | [],_=>some []
 | f :: fs,o=>(g f.type).bind fun l=>if f.offset=o∧l.length=P.cellsOf f.type then (yeM P g fs (o+l.length)).map (l ++ ·) else none
def yeN (P:Program):Nat→TypeId→Option (List Leaf)
 | 0,_=>none
 | m+1,t=>
   match P.underlying t with
   | some (.int k)=>some [.int k]
   | some .bool=>some [.bool]
   | some (.struct fs)=>(yeM P (yeN P m) fs.toList 0).bind fun l=>if l.length=P.cellsOf t then some l else none
   | some (.array n e)=>(yeN P m e).bind fun l=>if l.length=P.cellsOf e∧n * P.cellsOf e=P.cellsOf t then some (List.replicate n l).flatten else none
   | _=>none
section
variable {H:Type} {enc:TypeId × Value→H} {P:Program} {w:World} {base:Nat} {spare:Nat→Bool} {held:Bool}
theorem yjj {g:TypeId→Option (List Leaf)} {n:Nat} {cs:List Value}
  (hg:∀t ks c (x:DataW H × List MemPlace),g t=some ks→DataW.trod enc P w base spare held n t c=some x→oks ks c) :
  ∀(fs:List Field) (o:Nat) (ks:List Leaf),yeM P g fs o=some ks→
   (∀f∈fs,∃x:DataW H × List MemPlace,DataW.trod enc P w base spare held n f.type ((cs.drop f.offset).take (P.cellsOf f.type))=some x)→cs.length=o+ks.length→oks ks (cs.drop o):=by
 intro fs
 induction fs with
 | nil=>
   intro o ks h _ hl
   simp [yeM] at h
   subst h
   rw [List.drop_of_length_le (by simp at hl; omega)]
   trivial
 | cons f fs ih=>
   intro o ks h hx hl
   simp only [yeM,Option.bind_eq_some_iff] at h
   obtain ⟨l,hgl,h⟩:=h
   split at h
   ·rename_i hc
    obtain ⟨ho,hlen⟩:=hc
    simp only [Option.map_eq_some_iff] at h
    obtain ⟨r,hr,rfl⟩:=h
    obtain ⟨x,hx1⟩:=hx f (by simp)
    have h1:=hg _ _ _ _ hgl hx1
    rw [ho,←hlen] at h1
    have h2:=ih (o+l.length) r hr (fun f hf=>hx f (by simp [hf])) (by simp at hl; omega)
    have:=ydP h1 h2
    rw [←List.drop_drop] at this
    rwa [List.take_append_drop] at this
   ·cases h
theorem oks_rep (l:List Leaf) (cs:List Value):∀(n:Nat),cs.length=n * l.length→(∀i,i < n→oks l ((cs.drop (i * l.length)).take l.length))→oks (List.replicate n l).flatten cs:=by
 intro n
 induction n generalizing cs with
 | zero=>intro h _; simp at h; subst h; trivial
 | succ n ih=>
   intro h hx
   rw [List.replicate_succ,List.flatten_cons]
   have h0:=hx 0 (by omega)
   simp only [Nat.zero_mul,List.drop_zero] at h0
   have h1:=ih (cs.drop l.length) (by rw [List.length_drop,h,Nat.succ_mul]; omega) (fun i hi=>by
    have:=hx (i+1) (by omega)
    rw [List.drop_drop]
    rwa [Nat.succ_mul,Nat.add_comm] at this)
   have:=ydP h0 h1
   rwa [List.take_append_drop] at this
theorem yeL:∀(m:Nat) {t:TypeId} {ks:List Leaf} {fuel:Nat} {cs:List Value} {x:DataW H × List MemPlace},yeN P m t=some ks→DataW.trod enc P w base spare held fuel t cs=some x→oks ks cs
 | 0,_,_,_,_,_,h,_=>by simp [yeN] at h
 | m+1,t,ks,fuel,cs,x,h,hx=>by
   unfold yeN at h
   split at h
   ·rename_i k ht
    obtain ⟨n,rfl,_,hw⟩:=DataW.trod_int ht hx
    cases h
    exact ⟨⟨n,rfl,hw⟩,trivial⟩
   ·rename_i ht
    obtain ⟨b,rfl,_⟩:=DataW.trod_bool ht hx
    cases h
    exact ⟨⟨b,rfl⟩,trivial⟩
   ·rename_i fs ht
    obtain ⟨xs,n,rfl,_,hlen,hxl,hf⟩:=DataW.trod_struct ht hx
    simp only [Option.bind_eq_some_iff] at h
    obtain ⟨l,hl,h⟩:=h
    split at h
    ·rename_i hc
     cases h
     have:=yjj (cs:=cs) (enc:=enc) (P:=P) (w:=w) (base:=base) (spare:=spare) (held:=held) (n:=n) (fun t ks c x h1 h2=>yeL m h1 h2) fs.toList 0 ks hl (fun f hff=>by
      obtain ⟨i,hi,rfl⟩:=List.getElem_of_mem hff
      have h3:=hf i fs.toList[i] (by simp at hi⊢)
      have hi':i < xs.length:=by rw [hxl]; simpa using hi
      rw [List.getElem?_eq_getElem hi'] at h3
      exact ⟨_,h3⟩) (by omega)
     simpa using this
    ·cases h
   ·rename_i n e ht
    obtain ⟨xs,m',rfl,_,hlen,hxl,hf⟩:=DataW.trod_array ht hx
    simp only [Option.bind_eq_some_iff] at h
    obtain ⟨l,hl,h⟩:=h
    split at h
    ·rename_i hc
     cases h
     refine oks_rep l cs n (by rw [hlen,←hc.2,hc.1]) (fun i hi=>?_)
     have h3:=hf i hi
     rw [List.getElem?_eq_getElem (by omega)] at h3
     rw [hc.1]
     exact yeL m hl h3
    ·cases h
   ·cases h
theorem flat_get {n s:Nat} {C:Nat→List Value} (hC:∀i,i < n→(C i).length=s):((List.range n).flatMap C).length=n * s∧
  ∀i r,i < n→r < s→((List.range n).flatMap C)[i * s+r]? = (C i)[r]?:=by
 induction n with
 | zero=>exact ⟨by simp,fun i r hi=>by omega⟩
 | succ n ih=>
   obtain ⟨h1,h2⟩:=ih (fun i hi=>hC i (by omega))
   rw [List.range_succ,List.flatMap_append]
   refine ⟨by simp [h1,hC n (by omega),Nat.succ_mul],fun i r hi hr=>?_⟩
   by_cases hin:i < n
   ·rw [List.getElem?_append_left,h2 i r hin hr]
    rw [h1]
    calc i * s+r < i * s+s:=by omega
     _ = (i+1) * s:=by rw [Nat.succ_mul]
     _≤n * s:=Nat.mul_le_mul_right _ hin
   ·obtain rfl:i=n:=by omega
    rw [List.getElem?_append_right (by rw [h1]; omega),h1,Nat.add_sub_cancel_left]
    simp
theorem open_flat {t e:TypeId} {fuel m:Nat} {ks:List Leaf} {v:Value} {x:DataW H × List MemPlace} (ht:P.underlying t=some (.slice e)) (hk:yeN P m e=some ks) (hkl:ks.length=P.cellsOf e) (hpos:0 < ks.length)
  (h:DataW.trod enc P w base spare held fuel t [v]=some x) :
  ∃(a:Option Addr) (n cap:Nat) (cells:List Value),v= .slice a n cap∧n≤cap∧cap≤maxLen∧cells.length=n * ks.length∧Sl w a cells∧(a=none→cap=0)∧∀i,i < n→oks ks ((cells.drop (i * ks.length)).take ks.length):=by
 rcases Go.Deep.open_slice ht h with ⟨h1,_⟩ | ⟨a,len,cap,mm,nn,D,Pl,h1,hb,hl,hm,hmm,rfl,hx⟩
 ·simp at h1; subst h1
  exact ⟨none,0,0,[],rfl,zG _,by unfold maxLen; omega,by simp, .inl rfl,fun _=>rfl,fun i hi=>by omega⟩
 ·simp at h1; subst h1
  have hlm:len≤mm:=by rw [hmm]; split <;> omega
  obtain ⟨C,hC⟩:=Go.Deep.choose_lt (α:=List Value) (p:=fun i c=>w.cells? base (a.add (i * P.cellsOf e)) (P.cellsOf e)=some c∧DataW.trod enc P w base spare held nn e c=some (D i,Pl i)) (fun i hi=>hx i hi)
  have hCl:∀i,i < len→(C i).length=ks.length:=fun i hi=>by rw [hkl]; exact (World.cells?_some (hC i (by omega)).1).2.1
  obtain ⟨hfl,hfg⟩:=flat_get hCl
  refine ⟨some a,len,cap,(List.range len).flatMap C,rfl,hl,hm,hfl,?_,fun h=>(by cases h),?_⟩
  ·rcases Nat.eq_zero_or_pos len with h0 | h0
   ·subst h0; exact .inl rfl
   ·obtain ⟨_,_,hc0⟩:=World.cells?_some (hC 0 (by omega)).1
    have hc00:=hc0 0 (by omega)
    rw [List.getElem?_eq_getElem (by rw [hCl 0 h0]; omega)] at hc00
    have hsp:(a.add (0 * P.cellsOf e)).add 0=a:=by simp [Addr.add]
    rw [hsp] at hc00
    have hspot:=World.cell?_spot hc00
    obtain ⟨b,off,spot⟩:=a
    simp at hspot
    subst hspot
    refine .inr ⟨b,off,rfl,World.block_lt_of_cell? w _ hc00,fun j hj=>?_⟩
    rw [hfl] at hj
    have hi:j / ks.length < len:=Nat.div_lt_of_lt_mul (by rwa [Nat.mul_comm] at hj)
    have hr:j % ks.length < ks.length:=Nat.mod_lt _ hpos
    have hj2:j / ks.length * ks.length+j % ks.length=j:=by rw [Nat.mul_comm]; exact Nat.div_add_mod _ _
    have h1:=hfg _ _ hi hr
    rw [hj2] at h1
    obtain ⟨_,_,hc⟩:=World.cells?_some (hC _ (by omega:j / ks.length < mm)).1
    have h2:=hc (j % ks.length) (by omega)
    rw [Addr.add_lit,Addr.add_lit,←hkl,Nat.add_assoc,hj2,←h1,List.getElem?_eq_getElem (by rw [hfl]; exact hj)] at h2
    exact h2
  ·intro i hi
   have e:(((List.range len).flatMap C).drop (i * ks.length)).take ks.length=C i:=by
    apply List.ext_getElem?
    intro r
    by_cases hr:r < ks.length
    ·rw [List.getElem?_take_of_lt hr,List.getElem?_drop,hfg i r hi hr]
    ·rw [List.getElem?_eq_none (by rw [List.length_take]; omega),List.getElem?_eq_none (by rw [hCl i hi]; omega)]
   rw [e]
   exact yeL m hk (hC i (by omega)).2
end
theorem wf_i64 {n:Int} (h:(Lit.int .i64 n).wf=true):-9223372036854775808≤n∧n≤9223372036854775807:=by
 have h1:IntKind.i64.min= -9223372036854775808:=by decide
 have h2:=h
 simp [Lit.wf,h1] at h2
 exact h2
theorem ybO {n:Int} (h:(Lit.int .u64 n).wf=true):∃m:Nat,n= (m:Int)∧m < 18446744073709551616:=by
 have h1:IntKind.u64.min=0:=by decide
 have h3:IntKind.u64.max=18446744073709551615:=by decide
 have h2:=h
 simp [Lit.wf,h1,h3] at h2
 exact ⟨n.toNat,by omega,by omega⟩
theorem wf_u8 {n:Int} (h:(Lit.int .u8 n).wf=true):∃m:Nat,n= (m:Int)∧m < 256:=by
 have h1:IntKind.u8.min=0:=by decide
 have h3:IntKind.u8.max=255:=by decide
 have h2:=h
 simp [Lit.wf,h1,h3] at h2
 exact ⟨n.toNat,by omega,by omega⟩
def u64s (l:List Nat):List Value:=l.map fun (n:Nat)=>Value.int .u64 (n:Int)
end
section
open Go.RowKit
theorem yer (l:List Nat):(u64s l).length=l.length:=by simp [u64s]
theorem Sl.atU64 {w:World} {a:Option Addr} {l:List Nat} (h:Sl w a (u64s l)) {k:Nat} (hk:k < l.length) :
  ∃b off,a=some ⟨b,off,none⟩∧b < w.heap.size∧∀j (h:j < l.length),w.cell? ⟨b,off+j,none⟩=some (.int .u64 l[j]):=by
 obtain ⟨b,off,rfl,hlt,hc⟩:=Sl.at h (k:=k) (by rw [yer]; exact hk)
 refine ⟨b,off,rfl,hlt,fun j hj=>?_⟩
 rw [hc j (by rw [yer]; exact hj)]
 simp [u64s]
def ye2 (m:Nat) (l:List Nat):Nat:=l.foldl (fun x y=>x &&& y) m
def andM (l:List Nat):Nat:=if l.length=0 then 0 else ye2 18446744073709551615 l
theorem foldM_lt {m:Nat} (hm:m < 18446744073709551616):∀l:List Nat,ye2 m l < 18446744073709551616:=by
 intro l
 induction l generalizing m with
 | nil=>exact hm
 | cons x xs ih=>exact ih (ya7 (b:=x) hm)
theorem yjr (m:Nat) (l:List Nat) (k:Nat) (hk:k < l.length):ye2 m (l.take k) &&& l[k]=ye2 m (l.take (k+1)):=by
 rw [List.take_add_one,List.getElem?_eq_getElem hk,ye2,ye2,List.foldl_append]; rfl
set_option maxHeartbeats 800000 in
theorem MAll_any (a:Option Addr) (cap:Nat) (l:List Nat) (w:World) (hl:l.length≤9223372036854775807) (hs:Sl w a (u64s l)) (hb:∀x∈l,x < 18446744073709551616) :
  Calls Tryz.prog 149 #[.slice a l.length cap] w fun e w'=>e= .returned (.func (.func 169) #[] #[.pointer (some ⟨w.heap.size,0,none⟩)])∧
   w'.cell? ⟨w.heap.size,0,none⟩=some (.int .u64 (andM l))∧Below w.heap.size w w'∧w.heap.size < w'.heap.size:=by
 go_enter Tryz.func149,Tryz.ntmps149
 by_cases h0:l.length=0
 ·have hr:Hid (andM l=0):=if_pos h0
  go_wp2
  go_loopw [5,11] (fun _ i wr=>i= .int .i64 0∧wr=w.alloc (.cells #[.int .u64 0] 24)) (fun _ _ _=>0)
  case atStart=>exact ⟨rfl,rfl⟩
  case round=>
   obtain ⟨rfl,rfl⟩:=hrel
   go_wp2
   go_ret
   refine ⟨rfl,?_,yaa (Below.refl _ _) (zG _),by simp [go_sem]⟩
   rw [hr.out]; simp [go_sem]
 ·have hr:Hid (andM l=ye2 18446744073709551615 l):=if_neg h0
  go_wp2
  go_loopw [5,11] (fun _ i wr=>∃k:Nat,i= .int .i64 k∧k≤l.length∧wr.cell? ⟨w.heap.size,0,none⟩=some (.int .u64 (ye2 18446744073709551615 (l.take k)))∧wr.frozen? ⟨w.heap.size,0,none⟩=false∧Below w.heap.size w wr∧w.heap.size < wr.heap.size) (fun _ i _=>l.length - (intOf i).toNat)
  case atStart=>exact ⟨0,rfl,by omega,by simp [go_sem,ye2],by simp [go_sem],yaa (Below.refl _ _) (zG _),by simp [go_sem]⟩
  case round=>
   obtain ⟨k,rfl,hk,hbox,hfz,hB,hlt⟩:=hrel
   by_cases hkl:k < l.length
   ·obtain ⟨b,off,rfl,hbk,hc⟩:=hs.atU64 hkl
    have e1:=(hB.cell (p:=⟨b,off+k,none⟩) hbk).trans (hc k hkl)
    have hf:=hid (yjr 18446744073709551615 l k hkl)
    have hM:=foldM_lt (m:=18446744073709551615) (by omega) (l.take k)
    have hx:=hb l[k] (by simp)
    obtain ⟨x,hxe⟩:∃x,l[k]=x:=⟨_,rfl⟩
    obtain ⟨M,hMe⟩:∃M,ye2 18446744073709551615 (l.take k)=M:=⟨_,rfl⟩
    rw [hxe] at e1 hf hx
    rw [hMe] at hf hbox hM
    have hand:=hid (yat hM hx)
    have hne:b≠w.heap.size:=by omega
    clear hs hc hxe hMe hb
    go_wp2
    exact ⟨⟨k+1,by go_num,by omega,by rw [←hf.out,hand.out]; simp [go_sem,hbox],by simp [go_sem,hfz],yab hB (zG _),by simpa [go_sem] using hlt⟩,by simp [intOf]; omega⟩
   ·have hke:l.take k=l:=List.take_of_length_le (by omega)
    rw [hke] at hbox
    have Hke:Hid (k=l.length):=by show k=l.length; omega
    clear hke hb hs
    go_wp2
    go_ret
    exact ⟨rfl,by rw [hr.out]; exact hbox,hB,hlt⟩
end
section
open Go.RowKit
abbrev WF (r:Option Nat):Fence:={fn:=fun _=>True,depth:=none,alive:=false,round:=r}
theorem wf_calls {r:Option Nat} {n:Nat} {P:Program} {f:FuncId} {args:Array Value} {w:World} {R:Ending→World→Prop}:CallsIn (WF r) n P f args w R↔Calls P f args w R:=callsIn_wide (n:=n)
def CallV (P:Program) (y:Value) (args:Array Value) (W:World) (R:Ending→World→Prop):Prop:=
 (∃f cap,y= .func (.func f) #[] cap∧(∀args w,(callFunc f args).run P w= .ok (.enter f args) w)∧Calls P f (args ++ cap) W R)∨
 (∃l fn tmps assign body,y= .func (.yield l) #[] #[]∧(Instr.yield l args).run P W= .ok (.round l fn tmps assign body) W∧∀n,RoundIn (WF none) n P l fn tmps assign body W R)
theorem CallV.mono {P:Program} {y:Value} {args:Array Value} {W:World} {R R':Ending→World→Prop} (h:CallV P y args W R) (hr:∀e w',R e w'→R' e w'):CallV P y args W R':=by
 rcases h with ⟨f,cap,h1,h2,h3⟩ | ⟨l,fn,tmps,assign,body,h1,h2,h3⟩
 ·exact .inl ⟨f,cap,h1,h2,h3.mono hr⟩
 ·exact .inr ⟨l,fn,tmps,assign,body,h1,h2,fun n=>(h3 n).mono hr⟩
theorem callv {r:Option Nat} {n:Nat} {P:Program} {ops:Array Oper} {rest:List Oper} {o:Oper} {a:Act} {Q:Exit→Act→World→Prop} {W:World} (s x:Operand) (t:TypeId)
  (hgd:o.guard=none) (ho:o.op= .call {callee:= .value s,args:=#[x],argTypes:=#[t]}) {y u:Value} (hs:a.eval s=y) (hx:a.eval x=u) {R:Ending→World→Prop}
  (h:CallV P y #[u] W R) (hK:∀e W',R e W'→∃v,e= .returned v∧wpListIn (WF r) n P ops Q rest (a.put o.dst v) W') :
  wpListIn (WF r) n P ops Q (o :: rest) a W:=by
 refine wpListIn_plain hgd fun K hK'=>?_
 unfold Oper.wpIn
 refine ⟨fun _ _=>trivial,?_⟩
 rw [Oper.semAt_plain (WF r) _ _ (by rw [ho]; intro c hc; cases hc)]
 rcases h with ⟨f,cap,rfl,he,hc⟩ | ⟨l,fn,tmps,assign,body,rfl,hy,hc⟩
 ·simp [execOp,ho,resolve,invoke,hs,hx,he,Deferred.ofValue]
  rw [Oper.uponIn_enter]
  refine ⟨fun h=>(by cases h),wf_calls.mpr ((show Calls P f (#[u] ++ cap) W R from hc).mono fun e w' hr=>?_)⟩
  obtain ⟨v,rfl,hw⟩:=hK e w' hr
  exact hK' _ _ hw
 ·simp [execOp,ho,resolve,invoke,hs,hx,hy,Deferred.ofValue]
  rw [Oper.uponIn_round]
  refine ⟨fun h=>(by cases h),RoundIn.mono (hc _) fun e w' hr=>?_⟩
  obtain ⟨v,rfl,hw⟩:=hK e w' hr
  exact hK' _ _ hw
structure Eff (O:Nat→Prop) (W W':World):Prop where
 os:W'.os=W.os
 tape:W'.tape=W.tape
 output:W'.output=W.output
 size:W.heap.size≤W'.heap.size
 block:∀k,k < W.heap.size→¬O k→W'.heap[k]? =W.heap[k]?
theorem Eff.refl (O:Nat→Prop) (W:World):Eff O W W:=⟨rfl,rfl,rfl,zG _,fun _ _ _=>rfl⟩
theorem Eff.trans {O O':Nat→Prop} {A B C:World} (h:Eff O A B) (k:Eff O' B C) (hO:∀b,O' b→O b∨A.heap.size≤b):Eff O A C:=
 ⟨k.os.trans h.os,k.tape.trans h.tape,k.output.trans h.output,zI h.size k.size,fun i hi hn=>
  (k.block i (zH hi h.size) (fun ho=>by rcases hO i ho with h1 | h1; exact hn h1; omega)).trans (h.block i hi hn)⟩
theorem Eff.cell {O:Nat→Prop} {W W':World} (h:Eff O W W') {p:Addr} (hp:p.block < W.heap.size) (hn:¬O p.block):W'.cell? p=W.cell? p:=World.cell?_of_block (w:=W) (h.block p.block hp hn)
theorem Eff.of_below {O:Nat→Prop} {W W':World} (h:Below W.heap.size W W'):Eff O W W':=⟨h.os,h.tape,h.output,h.size,fun k hk _=>h.block k hk⟩
theorem Eff.below {O:Nat→Prop} {W W':World} {B:Nat} (h:Eff O W W') (hO:∀b,O b→B≤b) (hB:B≤W.heap.size):Below B W W':=
 ⟨h.os,h.tape,h.output,h.size,fun k hk=>h.block k (by omega) (fun ho=>by have:=hO k ho; omega)⟩
structure Client (P:Program) (y:Value) (xs:List Int) (J Jx:Nat→(Nat→Prop)→World→Prop):Prop where
 stab:∀k O W W',J k O W→W.heap.size≤W'.heap.size→(∀b,O b→W'.heap[b]? =W.heap[b]?)→J k O W'
 stabx:∀k O W W',Jx k O W→W.heap.size≤W'.heap.size→(∀b,O b→W'.heap[b]? =W.heap[b]?)→Jx k O W'
 lt:∀k O W,J k O W→∀b,O b→b < W.heap.size
 ltx:∀k O W,Jx k O W→∀b,O b→b < W.heap.size
 call:∀k O W,(hk:k < xs.length)→J k O W→CallV P y #[.int .i64 xs[k]] W fun e W'=>∃O':Nat→Prop,(∀b,O b→O' b)∧(∀b,O' b→O b∨W.heap.size≤b)∧Eff O W W'∧
  ((e= .returned (.bool true)∧J (k+1) O' W')∨(e= .returned (.bool false)∧Jx (k+1) O' W'))
def Told (xs:List Int) (J Jx:Nat→(Nat→Prop)→World→Prop) (O:Nat→Prop) (W:World) (W':World):Prop:=
 ∃O':Nat→Prop,(∀b,O b→O' b)∧(∀b,O' b→O b∨W.heap.size≤b)∧Eff O W W'∧(J xs.length O' W'∨∃k,1≤k∧k≤xs.length∧Jx k O' W')
end
section
open Go.RowKit
theorem ybn (p:Nat→Bool):∀n,(sel p n).Pairwise (·< ·)
 | 0=>by simp [yh8]
 | n+1=>by
   by_cases h:p n=true
   ·rw [ybB h,List.pairwise_append]
    refine ⟨ybn p n,by simp,fun x hx y hy=>?_⟩
    obtain ⟨k,hk,_,rfl⟩:=sel_mem.mp hx
    obtain rfl:y= (n:Int):=by simpa using hy
    omega
   ·rw [ycH (by simpa using h)]; exact ybn p n
theorem ye4 (n:Int) (r:List Int):∀l:List Int,(∀x∈l,¬n < x)→ycE n (l ++ r)=ycE n r
 | [],_=>rfl
 | x :: xs,h=>by rw [List.cons_append,ycE,if_neg (h x (by simp)),ye4 n r xs (fun z hz=>h z (by simp [hz]))]
theorem yi4 {l:List Int} (h:l.Pairwise (·< ·)) (k:Nat) (hk:k < l.length):ycE l[k] l=if hn:k+1 < l.length then l[k+1] else -1:=by
 have h1:ycE l[k] l=ycE l[k] (l.drop (k+1)):=by
  have gen:∀x,(∀y∈l.take (k+1),¬x < y)→ycE x l=ycE x (l.drop (k+1)):=fun x hx=>by
   have:=ye4 x (l.drop (k+1)) (l.take (k+1)) hx
   rwa [List.take_append_drop] at this
  refine gen _ (fun x hx=>?_)
  obtain ⟨j,hj,rfl⟩:=List.mem_take_iff_getElem.mp hx
  have hj':j≤k:=by omega
  rcases Nat.lt_or_ge j k with hjk | hjk
  ·have:=List.pairwise_iff_getElem.mp h j k (by omega) hk hjk; omega
  ·obtain rfl:j=k:=by omega
   omega
 rw [h1]
 by_cases hn:k+1 < l.length
 ·rw [dif_pos hn,List.drop_eq_getElem_cons hn,ycE,if_pos (List.pairwise_iff_getElem.mp h k (k+1) hk hn (by omega))]
 ·rw [dif_neg hn,List.drop_of_length_le (by omega)]; rfl
theorem yi9 {p:Nat→Bool} {n:Nat} (k:Nat) (hk:k < (sel p n).length):0≤(sel p n)[k]:=by
 obtain ⟨j,_,_,e⟩:=sel_mem.mp (List.getElem_mem hk)
 omega
theorem next_at {m:Nat} (hm:m < 18446744073709551616) (k:Nat) (hk:k < (sel m.testBit 64).length) :
  ybf (ybh m (sel m.testBit 64)[k])=decide (k+1 < (sel m.testBit 64).length)∧ybS (ybh m (sel m.testBit 64)[k])= (sel m.testBit 64).getD (k+1) 0:=by
 have hw:=yi4 (ybn m.testBit 64) k hk
 by_cases ha:ybh m (sel m.testBit 64)[k]=0
 ·rw [want_no _ hm ha] at hw
  have hn:¬k+1 < (sel m.testBit 64).length:=fun hn=>by
   rw [dif_pos hn] at hw
   have:=yi9 (k+1) hn
   omega
  rw [ha]
  refine ⟨by simp [ybf,hn],?_⟩
  rw [List.getD_eq_getElem?_getD,List.getElem?_eq_none (by omega)]; rfl
 ·rw [want_yes _ hm ha] at hw
  have hn:k+1 < (sel m.testBit 64).length:=Decidable.byContradiction fun hn=>by
   rw [dif_neg hn] at hw; omega
  rw [dif_pos hn] at hw
  refine ⟨by simp [ybf,hn,ha],?_⟩
  rw [ybS,if_neg ha,hw,List.getD_eq_getElem?_getD,List.getElem?_eq_getElem hn]; rfl
theorem least_at {m:Nat} (hm:m < 18446744073709551616):ybf m=decide (0 < (sel m.testBit 64).length)∧ybS m= (sel m.testBit 64).getD 0 0:=by
 by_cases h0:m=0
 ·rw [first_no h0]; simp [ybf,ybS,h0]
 ·obtain ⟨bs,hb⟩:=first_yes hm h0
  rw [hb]; simp [ybf,ybS,h0]
attribute [local go_sem] Oper.semAt_some
theorem Tab.eff {O:Nat→Prop} {W W':World} (h:Tab W) (hE:Eff O W W') (hn:¬O 0):Tab W':=
 ⟨zH h.1 hE.size,fun i hi=>(hE.cell (p:=⟨0,i,none⟩) h.1 hn).trans (h.2 i hi)⟩
def twOf:Value→Nat
 | .bool true=>1
 | _=>0
theorem yd3 {p:Nat→Bool} (k:Nat) (hk:k < (sel p 64).length):0≤(sel p 64)[k]∧(sel p 64)[k]≤63:=by
 obtain ⟨j,hj,_,e⟩:=sel_mem.mp (List.getElem_mem hk)
 omega
theorem sel_less {p:Nat→Bool} (k:Nat) (hj:k < (sel p 64).length) (hk:k+1 < (sel p 64).length):(sel p 64)[k] < (sel p 64)[k+1]:=
 List.pairwise_iff_getElem.mp (ybn p 64) k (k+1) (by omega) hk (by omega)
end
end Go.Proofs.YtkpgfmonhfnhdaaGreatDoor
