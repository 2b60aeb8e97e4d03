/-
  clause.May and feriaref13.May: whether a clause may be.
  span.Held, span.In, clause.Span and feriaref09.Held.
  What wide.All, wide.Bounds and feriaref04.List compute.
  What wide.Of and feriaref04.Of compute: the set of a list.
  What feriaref04.Of computes: the set of a list.
-/
import Derived.Test.YthimhfmnikfgaaaGreatDoorQae53b6
import Derived.Test.YthimhfmnikfgaaaGreatDoorQe4afb5
import Derived.Test.YthimhfmnikfgaaaGreatDoorQ5be90c
import Derived.BigRegion
namespace Go.Proofs.YthimhfmnikfgaaaGreatDoor
set_option linter.unusedVariables false
section
open Go.RowKit
def mask7B (m:Nat→Nat):Bool:=bitsB (m 0) 0 59 && (bitsB (m 1) 0 59 && (bitsB (m 2) 0 23 && (bitsB (m 3) 1 12 && (bitsB (m 4) 1 31 && (bitsB (m 5) 1 31 && bitsB (m 6) 1 7)))))
def mayC (c:Cl):Bool:=mask7B c.m && (ordB c.oin c.oback c.od && (eqW (inW c.ys) c.ys && (unB c.unit && (decide (1≤c.step) && winB c.anchor))))
theorem within_mask (m:Nat→Nat):withinB [(m 0,fullM 0),(m 1,fullM 1),(m 2,fullM 2),(m 3,fullM 3),(m 4,fullM 4),(m 5,fullM 5),(m 6,fullM 6)]=mask7B m:=by
 have e:∀x lo hi,(lessM x (spanM lo hi 1) == 0)=bitsB x lo hi:=fun x lo hi=>by
  rw [Bool.eq_iff_iff,beq_iff_eq,less_span]
 have f0:fullM 0=spanM 0 59 1:=rfl
 have f1:fullM 1=spanM 0 59 1:=rfl
 have f2:fullM 2=spanM 0 23 1:=rfl
 have f3:fullM 3=spanM 1 12 1:=rfl
 have f4:fullM 4=spanM 1 31 1:=rfl
 have f5:fullM 5=spanM 1 31 1:=rfl
 have f6:fullM 6=spanM 1 7 1:=rfl
 simp only [withinB,List.all_cons,List.all_nil,Bool.and_true,mask7B,f0,f1,f2,f3,f4,f5,f6,e]
abbrev nameL:List Value:= [.string {data:=#[83,69,67,79,78,68,76,89]}, .string {data:=#[77,73,78,85,84,69,76,89]}, .string {data:=#[72,79,85,82,76,89]}, .string {data:=#[68,65,73,76,89]}, .string {data:=#[87,69,69,75,76,89]}, .string {data:=#[77,79,78,84,72,76,89]}, .string {data:=#[89,69,65,82,76,89]}]
theorem Names_any (w:World):Calls Tryz.prog 142 #[] w fun e w'=>e= .returned (.agg nameL.toArray)∧Below w.heap.size w w':=by
 go_enter Tryz.func142,Tryz.ntmps142
 go_wp2
 refine bodyPost_ret (results_cell_mid rfl _ _ w.heap.size 0 _ _ rfl (range_new w _ _) Tryz.underlying221 rfl (by kernel_rfl)) rfl ⟨rfl,below_new (Below.refl _ _) (zG _)⟩
theorem infoStr:(Tryz.prog.info? 9).map (fun i=>(i.zero,i.size,i.bytes))=some (some (.string {data:=#[]}),1,16):=by kernel_rfl
theorem run_index_names (V:Value) (hV:V= .agg nameL.toArray) (W:World):(Instr.index 221 V (.int .i64 0)).run Tryz.prog W= .ok (.string {data:=#[83,69,67,79,78,68,76,89]}) W∧(Instr.index 221 V (.int .i64 1)).run Tryz.prog W= .ok (.string {data:=#[77,73,78,85,84,69,76,89]}) W∧(Instr.index 221 V (.int .i64 2)).run Tryz.prog W= .ok (.string {data:=#[72,79,85,82,76,89]}) W∧(Instr.index 221 V (.int .i64 3)).run Tryz.prog W= .ok (.string {data:=#[68,65,73,76,89]}) W∧(Instr.index 221 V (.int .i64 4)).run Tryz.prog W= .ok (.string {data:=#[87,69,69,75,76,89]}) W∧(Instr.index 221 V (.int .i64 5)).run Tryz.prog W= .ok (.string {data:=#[77,79,78,84,72,76,89]}) W∧(Instr.index 221 V (.int .i64 6)).run Tryz.prog W= .ok (.string {data:=#[89,69,65,82,76,89]}) W:=by
 obtain ⟨i0,hi0,hz0,hz1,hz2⟩:=info_parts infoStr
 rw [hV]
 refine ⟨?_,?_,?_,?_,?_,?_,?_⟩ <;> simp [Instr.index,go_sem,part,sizeOf,typeInfo,hi0,hz1]
set_option maxRecDepth 100000 in
theorem Name_any (u:Int) (w:World):Calls Tryz.prog 79 #[.int .i64 u] w fun e w'=>(∃s:ByteArray,e= .returned (.string s)∧(s.toList == [])= !unB u)∧Below w.heap.size w w':=by
 obtain ⟨V,hV⟩:∃V:Value,V= .agg nameL.toArray:=⟨_,rfl⟩
 have c1:Hid (∀W,Calls Tryz.prog 142 #[] W fun e w'=>e= .returned V∧Below W.heap.size W w'):=fun W=>by rw [hV]; exact Names_any W
 have hix:=hid (fun W=>run_index_names V hV W)
 clear hV
 rcases unB_cases u with ⟨e,h0,h1⟩ | ⟨e,h⟩
 ·rw [e]
  have hcase:u=0∨u=1∨u=2∨u=3∨u=4∨u=5∨u=6:=by omega
  clear e h0 h1
  rcases hcase with rfl | rfl | rfl | rfl | rfl | rfl | rfl
  all_goals
   go_enter Tryz.func79,Tryz.ntmps79
   go_wp2_with fail
   refine (c1.out _).mono ?_
   rintro e w1 ⟨rfl,hB1⟩
   have HB1:=hid hB1
   obtain ⟨i0,i1,i2,i3,i4,i5,i6⟩:=hix.out w1
   clear hB1
   go_wp2
   go_ret
   exact ⟨⟨_,rfl,by kernel_rfl⟩,HB1.out⟩
 ·rw [e]
  clear e
  rcases h with h | h
  ·go_enter Tryz.func79,Tryz.ntmps79
   go_wp2
   go_ret
   exact ⟨⟨_,rfl,by kernel_rfl⟩,Below.refl _ _⟩
  ·have h0:¬u < 0:=by omega
   have h7:7≤u:=by omega
   go_enter Tryz.func79,Tryz.ntmps79
   go_wp2
   go_ret
   exact ⟨⟨_,rfl,by kernel_rfl⟩,Below.refl _ _⟩
def ClB (W:World) (b:Nat) (c:Cl):Prop:=W.rangeAt b 0 (clList c)
theorem ClB.below {W W':World} {b B:Nat} {c:Cl} (h:ClB W b c) (hb:Below B W W') (hB:b < B):ClB W' b c:=fun j v hv=>(hb.cell (p:=⟨b,0+j,none⟩) hB).trans (h j v hv)
theorem clB_new (w:World) (c:Cl) (t:TypeId):ClB (w.alloc (.cells (clList c).toArray t)) w.heap.size c:=range_new w _ _
theorem ClB.at {W:World} {b:Nat} {c:Cl} (h:ClB W b c) (j:Nat) {v:Value} (hv:(clList c)[j]? =some v):W.cell? ⟨b,j,none⟩=some v:=by
 have:=h j v hv
 rwa [Nat.zero_add] at this
theorem ClB.masks {W:World} {b:Nat} {c:Cl} (h:ClB W b c):W.cell? ⟨b,0,none⟩=some (.int .u64 (c.m 0:Nat))∧W.cell? ⟨b,1,none⟩=some (.int .u64 (c.m 1:Nat))∧W.cell? ⟨b,2,none⟩=some (.int .u64 (c.m 2:Nat))∧
  W.cell? ⟨b,3,none⟩=some (.int .u64 (c.m 3:Nat))∧W.cell? ⟨b,4,none⟩=some (.int .u64 (c.m 4:Nat))∧W.cell? ⟨b,5,none⟩=some (.int .u64 (c.m 5:Nat))∧W.cell? ⟨b,6,none⟩=some (.int .u64 (c.m 6:Nat)):=
 ⟨h.at 0 rfl,h.at 1 rfl,h.at 2 rfl,h.at 3 rfl,h.at 4 rfl,h.at 5 rfl,h.at 6 rfl⟩
theorem ClB.ord {W:World} {b:Nat} {c:Cl} (h:ClB W b c):W.cell? ⟨b,8,none⟩=some (.int .i64 c.oin)∧W.cell? ⟨b,9,none⟩=some (.bool c.oback)∧W.cell? ⟨b,10,none⟩=some (.int .u64 (c.od 0:Nat))∧W.cell? ⟨b,11,none⟩=some (.int .u64 (c.od 1:Nat))∧
  W.cell? ⟨b,12,none⟩=some (.int .u64 (c.od 2:Nat))∧W.cell? ⟨b,13,none⟩=some (.int .u64 (c.od 3:Nat))∧W.cell? ⟨b,14,none⟩=some (.int .u64 (c.od 4:Nat))∧W.cell? ⟨b,15,none⟩=some (.int .u64 (c.od 5:Nat))∧
  W.cell? ⟨b,16,none⟩=some (.int .u64 (c.od 6:Nat))∧W.cell? ⟨b,17,none⟩=some (.int .u64 (c.od 7:Nat)):=
 ⟨h.at 8 rfl,h.at 9 rfl,h.at 10 rfl,h.at 11 rfl,h.at 12 rfl,h.at 13 rfl,h.at 14 rfl,h.at 15 rfl,h.at 16 rfl,h.at 17 rfl⟩
theorem ClB.years {W:World} {b:Nat} {c:Cl} (h:ClB W b c):W.cell? ⟨b,18,none⟩=some (.int .u64 (c.ys 0:Nat))∧W.cell? ⟨b,19,none⟩=some (.int .u64 (c.ys 1:Nat))∧W.cell? ⟨b,20,none⟩=some (.int .u64 (c.ys 2:Nat))∧W.cell? ⟨b,21,none⟩=some (.int .u64 (c.ys 3:Nat))∧
  W.cell? ⟨b,22,none⟩=some (.int .u64 (c.ys 4:Nat))∧W.cell? ⟨b,23,none⟩=some (.int .u64 (c.ys 5:Nat))∧W.cell? ⟨b,24,none⟩=some (.int .u64 (c.ys 6:Nat)):=
 ⟨h.at 18 rfl,h.at 19 rfl,h.at 20 rfl,h.at 21 rfl,h.at 22 rfl,h.at 23 rfl,h.at 24 rfl⟩
theorem ClB.tail {W:World} {b:Nat} {c:Cl} (h:ClB W b c):W.cell? ⟨b,25,none⟩=some (.int .i64 c.unit)∧W.cell? ⟨b,26,none⟩=some (.int .i64 c.step)∧W.cell? ⟨b,27,none⟩=some (.int .i64 c.anchor)∧W.cell? ⟨b,28,none⟩=some (.int .i64 c.fr)∧W.cell? ⟨b,29,none⟩=some (.int .i64 c.un):=
 ⟨h.at 25 rfl,h.at 26 rfl,h.at 27 rfl,h.at 28 rfl,h.at 29 rfl⟩
theorem sl_range {W:World} {b:Nat} {cs:List Value} (h:W.rangeAt b 0 cs) (hb:b < W.heap.size):Sl W (some ⟨b,0,none⟩) cs:= .inr ⟨b,0,rfl,hb,fun j hj=>h j _ (List.getElem?_eq_getElem hj)⟩
attribute [local go_sem ↓] storeAt_cl
attribute [local go_sem] run_storeClS
abbrev zL:List Value:= [.int .u64 0, .int .u64 0, .int .u64 0, .int .u64 0, .int .u64 0, .int .u64 0, .int .u64 0, .bool false, .int .i64 0, .bool false, .int .u64 0, .int .u64 0, .int .u64 0, .int .u64 0, .int .u64 0, .int .u64 0, .int .u64 0, .int .u64 0, .int .u64 0, .int .u64 0, .int .u64 0, .int .u64 0, .int .u64 0, .int .u64 0, .int .u64 0, .int .i64 0, .int .i64 0, .int .i64 0, .int .i64 0, .int .i64 0]
set_option maxRecDepth 100000 in
set_option maxHeartbeats 3200000 in
theorem CMayCl_any (c:Cl) (w:World) (hc:c.Ok):Calls Tryz.prog 26 #[clv c] w fun e w'=>e= .returned (.bool (mayC c))∧Below w.heap.size w w':=by
 have c0:=hid (fun W=>Full_any W)
 obtain ⟨F,hF⟩:∃F,fullCl=F:=⟨_,rfl⟩
 have HF:Hid (∀i,F.m i=fullM i):=fun i=>by rw [←hF]; rfl
 rw [hF] at c0
 clear hF
 have hC:=hid (clB_new w c 35)
 have hB0:Hid (Below w.heap.size w (w.alloc (.cells (clList c).toArray 35))):=below_new (Below.refl _ _) (zG _)
 have cO:=hid (fun W=>COrdinal_any c.oin c.oback c.od W hc.oin hc.od)
 have cY:=hid (fun W=>WMay_any c.ys W hc.ys)
 have cN:=hid (fun W=>Name_any c.unit W)
 have cM:=hid (fun W=>MIn_any c.anchor W)
 have hres:Hid (mayC c= (mask7B c.m && (ordB c.oin c.oback c.od && (eqW (inW c.ys) c.ys && (unB c.unit && (decide (1≤c.step) && winB c.anchor)))))):=rfl
 rw [hres.out]
 obtain ⟨b1,hb1⟩:∃b,mask7B c.m=b:=⟨_,rfl⟩
 obtain ⟨b2,hb2⟩:∃b,ordB c.oin c.oback c.od=b:=⟨_,rfl⟩
 obtain ⟨b3,hb3⟩:∃b,eqW (inW c.ys) c.ys=b:=⟨_,rfl⟩
 obtain ⟨b4,hb4⟩:∃b,unB c.unit=b:=⟨_,rfl⟩
 obtain ⟨b6,hb6⟩:∃b,winB c.anchor=b:=⟨_,rfl⟩
 obtain ⟨b5,hb5⟩:∃b,decide (1≤c.step)=b:=⟨_,rfl⟩
 rw [hb1]
 have Hb1:=hid hb1
 rw [hb2] at cO⊢
 rw [hb3] at cY⊢
 rw [hb4] at cN⊢
 rw [hb6] at cM⊢
 rw [hb5]
 have Hb5:=hid hb5
 clear hb1 hb2 hb3 hb4 hb5 hb6 hres
 go_enter Tryz.func26,Tryz.ntmps26
 go_wp2_with fail
 refine (c0.out _).mono ?_
 rintro e w1 ⟨rfl,hB1⟩
 have hC1:=hC.out.below hB1 (by simp)
 have HB1:Hid (Below w.heap.size w w1):=hB0.out.trans (hB1.mono (by simp))
 have hs1:w.heap.size < w1.heap.size:=by have:=hB1.size; simp at this; omega
 clear hB1
 have hth:(w1.alloc (.cells zL.toArray 35)).there w1.heap.size 0 30:=there_new w1 _ _
 have hF2:ClB (putCl (w1.alloc (.cells zL.toArray 35)) w1.heap.size (clList F)) w1.heap.size F:=putCl_range _ rfl hth
 have hBa:Below w1.heap.size w1 (putCl (w1.alloc (.cells zL.toArray 35)) w1.heap.size (clList F)):=putCl_below (below_new (Below.refl _ _) (zG _)) (zG _) _
 have hCa:=hC1.below hBa hs1
 obtain ⟨r0,r1,r2,r3,r4,r5,r6⟩:=hCa.masks
 obtain ⟨s0,s1,s2,s3,s4,s5,s6⟩:=hF2.masks
 have HBa:=hid hBa
 have HCa:=hid hCa
 obtain ⟨W2,hW2⟩:∃W2,putCl (w1.alloc (.cells zL.toArray 35)) w1.heap.size (clList F)=W2:=⟨_,rfl⟩
 have HW2:=hid hW2
 rw [hW2] at HBa HCa
 have HB2:Hid (Below w.heap.size w W2):=HB1.out.trans (HBa.out.mono (by omega))
 have hs2:w.heap.size < W2.heap.size:=by have:=HBa.out.size; omega
 have hm:=hc.m
 have cW:Hid (Calls Tryz.prog 76 #[.slice (some ⟨W2.heap.size,0,none⟩) 7 7] (W2.alloc (.cells #[.int .u64 (c.m 0:Nat), .int .u64 (F.m 0:Nat), .int .u64 (c.m 1:Nat), .int .u64 (F.m 1:Nat), .int .u64 (c.m 2:Nat), .int .u64 (F.m 2:Nat), .int .u64 (c.m 3:Nat), .int .u64 (F.m 3:Nat),
   .int .u64 (c.m 4:Nat), .int .u64 (F.m 4:Nat), .int .u64 (c.m 5:Nat), .int .u64 (F.m 5:Nat), .int .u64 (c.m 6:Nat), .int .u64 (F.m 6:Nat)] 141)) fun e w'=>e= .returned (.bool (mask7B c.m))∧Below (W2.heap.size+1) (W2.alloc (.cells #[.int .u64 (c.m 0:Nat), .int .u64 (F.m 0:Nat), .int .u64 (c.m 1:Nat), .int .u64 (F.m 1:Nat), .int .u64 (c.m 2:Nat), .int .u64 (F.m 2:Nat), .int .u64 (c.m 3:Nat), .int .u64 (F.m 3:Nat),
   .int .u64 (c.m 4:Nat), .int .u64 (F.m 4:Nat), .int .u64 (c.m 5:Nat), .int .u64 (F.m 5:Nat), .int .u64 (c.m 6:Nat), .int .u64 (F.m 6:Nat)] 141)) w'):=by
  have h:=Within2_any (some ⟨W2.heap.size,0,none⟩) 7 [(c.m 0,F.m 0),(c.m 1,F.m 1),(c.m 2,F.m 2),(c.m 3,F.m 3),(c.m 4,F.m 4),(c.m 5,F.m 5),(c.m 6,F.m 6)]
   (W2.alloc (.cells #[.int .u64 (c.m 0:Nat), .int .u64 (F.m 0:Nat), .int .u64 (c.m 1:Nat), .int .u64 (F.m 1:Nat), .int .u64 (c.m 2:Nat), .int .u64 (F.m 2:Nat), .int .u64 (c.m 3:Nat), .int .u64 (F.m 3:Nat),
     .int .u64 (c.m 4:Nat), .int .u64 (F.m 4:Nat), .int .u64 (c.m 5:Nat), .int .u64 (F.m 5:Nat), .int .u64 (c.m 6:Nat), .int .u64 (F.m 6:Nat)] 141)) (by simp) (sl_range (range_new W2 _ _) (by simp)) (by
     have hf:∀i,F.m i < 18446744073709551616:=fun i=>by rw [HF.out i]; unfold fullM; repeat (first | exact mk_lt _ | split)
     intro p hp
     simp only [List.mem_cons,List.not_mem_nil,or_false] at hp
     rcases hp with rfl | rfl | rfl | rfl | rfl | rfl | rfl <;> exact ⟨hm _ (by omega),hf _⟩)
  rw [HF.out 0,HF.out 1,HF.out 2,HF.out 3,HF.out 4,HF.out 5,HF.out 6,within_mask,World.size_alloc] at h
  rw [HF.out 0,HF.out 1,HF.out 2,HF.out 3,HF.out 4,HF.out 5,HF.out 6]
  exact h
 rw [Hb1.out] at cW
 clear hF2 hBa hCa hC1 hW2 hm
 go_wp2_with fail
 rw [HW2.out]
 clear r0 r1 r2 r3 r4 r5 r6 s0 s1 s2 s3 s4 s5 s6 hth
 refine cW.out.mono ?_
 rintro e w3 ⟨rfl,hB3⟩
 have HB23:Hid (Below W2.heap.size W2 w3):=(below_new (Below.refl _ _) (zG _)).trans (hB3.mono (by omega))
 have HB3:Hid (Below w.heap.size w w3):=HB2.out.trans (HB23.out.mono (by omega))
 have HC3:=hid (HCa.out.below HB23.out hs2)
 have hs3:w.heap.size < w3.heap.size:=by have:=HB23.out.size; omega
 obtain ⟨o0,o1,o2,o3,o4,o5,o6,o7,o8,o9⟩:=HC3.out.ord
 clear hB3 cW
 cases b1
 ·go_wp2
  go_ret
  exact ⟨rfl,HB3.out⟩
 go_wp2_with fail
 refine (cO.out _).mono ?_
 rintro e w4 ⟨rfl,hB4⟩
 have HB4:Hid (Below w.heap.size w w4):=HB3.out.trans (hB4.mono (by omega))
 have HC4:=hid (HC3.out.below hB4 hs3)
 have hs4:w.heap.size < w4.heap.size:=by have:=hB4.size; omega
 obtain ⟨y0,y1,y2,y3,y4,y5,y6⟩:=HC4.out.years
 clear hB4 o0 o1 o2 o3 o4 o5 o6 o7 o8 o9
 cases b2
 ·go_wp2
  go_ret
  exact ⟨rfl,HB4.out⟩
 go_wp2_with fail
 refine (cY.out _).mono ?_
 rintro e w5 ⟨rfl,hB5⟩
 have HB5:Hid (Below w.heap.size w w5):=HB4.out.trans (hB5.mono (by omega))
 have HC5:=hid (HC4.out.below hB5 hs4)
 have hs5:w.heap.size < w5.heap.size:=by have:=hB5.size; omega
 obtain ⟨t0,t1,t2,t3,t4⟩:=HC5.out.tail
 clear hB5 y0 y1 y2 y3 y4 y5 y6
 cases b3
 ·go_wp2
  go_ret
  exact ⟨rfl,HB5.out⟩
 go_wp2_with fail
 refine (cN.out _).mono ?_
 rintro e w6 ⟨⟨s,rfl,hsn⟩,hB6⟩
 have HB6:Hid (Below w.heap.size w w6):=HB5.out.trans (hB6.mono (by omega))
 have HC6:=hid (HC5.out.below hB6 hs5)
 obtain ⟨u0,u1,u2,u3,u4⟩:=HC6.out.tail
 clear hB6 t0 t1 t2 t3 t4
 cases b4
 ·go_wp2
  go_ret
  exact ⟨rfl,HB6.out⟩
 by_cases h1:1≤c.step
 ·obtain rfl:true=b5:=by rw [←Hb5.out,decide_eq_true h1]
  clear Hb5
  go_wp2_with fail
  refine (cM.out _).mono ?_
  rintro e w' ⟨rfl,rfl⟩
  go_wp2
  go_ret
  exact ⟨rfl,HB6.out⟩
 ·obtain rfl:false=b5:=by rw [←Hb5.out,decide_eq_false h1]
  clear Hb5
  go_wp2
  go_ret
  exact ⟨rfl,HB6.out⟩
end
section
open Go.RowKit
def heldB (f u:Int):Bool:=decide (max f 0≤min u 12622780799)
def heldF (f u:Int):Int:=if heldB f u then max f 0 else 0
def heldU (f u:Int):Int:=if heldB f u then min u 12622780799 else -1
abbrev spv (f u:Int):Value:= .agg #[.int .i64 f, .int .i64 u]
theorem held_cases (f u:Int):(heldF f u=max f 0∧heldU f u=min u 12622780799∧max f 0≤min u 12622780799)∨(heldF f u=0∧heldU f u= -1∧¬max f 0≤min u 12622780799):=by
 unfold heldF heldU heldB
 by_cases h:max f 0≤min u 12622780799
 ·left; rw [decide_eq_true h]; exact ⟨rfl,rfl,h⟩
 ·right; rw [decide_eq_false h]; exact ⟨rfl,rfl,h⟩
theorem infoSp:(Tryz.prog.info? 99).map (·.size)=some 2:=by kernel_rfl
theorem SNone_any (w:World):Calls Tryz.prog 156 #[] w fun e w'=>e= .returned (spv 0 (-1))∧Below w.heap.size w w':=by
 go_enter Tryz.func156,Tryz.ntmps156
 go_wp2
 refine bodyPost_ret (results_cell_mid rfl _ _ w.heap.size 0 _ _ rfl (range_new w _ _) Tryz.underlying99 rfl infoSp) rfl ⟨rfl,below_new (Below.refl _ _) (zG _)⟩
theorem range_new2 (w:World) (x:Obj) (l:List Value) (t:TypeId):((w.alloc x).alloc (.cells l.toArray t)).rangeAt (w.heap.size+1) 0 l:=by
 have h:=range_new (w.alloc x) l t
 rwa [World.size_alloc] at h
theorem range_two {W:World} {b:Nat} {x y u0 u1:Value} (h0:W.cell? ⟨b,0,none⟩=some u0) (h1:W.cell? ⟨b,1,none⟩=some u1):((W.setCell ⟨b,0,none⟩ x).setCell ⟨b,1,none⟩ y).rangeAt b 0 [x,y]:=fun j v hv=>by
 have hne:(⟨b,1,none⟩:Addr)≠⟨b,0,none⟩:=by intro e; injection e with _ e _; cases e
 match j with
 | 0=>
   have e:x=v:=by simpa using hv
   rw [←e,World.cell?_setCell_other _ _ _ _ hne]
   exact World.cell?_setCell_same _ _ _ h0
 | 1=>
   have e:y=v:=by simpa using hv
   rw [←e]
   exact World.cell?_setCell_same _ _ _ (by rw [World.cell?_setCell_other _ _ _ _ hne.symm]; exact h1)
 | n+2=>simp at hv
theorem ret_sp {a b c d:Int} (h:a=c) (k:b=d):Ending.returned (spv a b)= .returned (spv c d):=by rw [h,k]
set_option maxHeartbeats 1600000 in
theorem SHeld_any (f u:Int) (w:World):Calls Tryz.prog 104 #[spv f u] w fun e w'=>e= .returned (spv (heldF f u) (heldU f u))∧Below w.heap.size w w':=by
 have c0:=hid (fun W=>SNone_any W)
 have h1:f < 0∨f=0∨0 < f:=by omega
 have h2:u < 12622780799∨u=12622780799∨12622780799 < u:=by omega
 rcases held_cases f u with ⟨e1,e2,h3⟩ | ⟨e1,e2,h3⟩
 ·rw [e1,e2]
  clear e1 e2
  rcases h1 with h1 | rfl | h1 <;> rcases h2 with h2 | rfl | h2
  all_goals
   go_enter Tryz.func104,Tryz.ntmps104
   go_wp2
   exact bodyPost_ret (results_cell_mid rfl _ _ (w.heap.size+1) 0 _ _ rfl (range_new2 w _ _ _) Tryz.underlying99 rfl infoSp) rfl ⟨ret_sp (by omega) (by omega),below_new (below_new (Below.refl _ _) (zG _)) (by simp)⟩
 ·rw [e1,e2]
  clear e1 e2
  rcases h1 with h1 | rfl | h1 <;> rcases h2 with h2 | rfl | h2
  all_goals try (exfalso; omega)
  all_goals
   first
    | (have h4:u < 0:=(by omega); clear h3)
    | (have h4:u < f:=(by omega); clear h3)
    | (have h4:12622780799 < f:=(by omega); clear h3)
   go_enter Tryz.func104,Tryz.ntmps104
   go_wp2_with fail
   refine (c0.out _).mono ?_
   rintro e w1 ⟨rfl,hB1⟩
   have c1:=(hB1.cell (p:=⟨w.heap.size+1,0,none⟩) (by simp)).trans (show _ =some (.int .i64 0) by simp [go_sem])
   have c2:=(hB1.cell (p:=⟨w.heap.size+1,1,none⟩) (by simp)).trans (show _ =some (.int .i64 0) by simp [go_sem])
   have f1:=(hB1.frozen (p:=⟨w.heap.size+1,0,none⟩) (by simp)).trans (show _ =false by simp [go_sem])
   have f2:=(hB1.frozen (p:=⟨w.heap.size+1,1,none⟩) (by simp)).trans (show _ =false by simp [go_sem])
   have HB1:Hid (Below w.heap.size w w1):=(below_new (below_new (Below.refl _ _) (zG _)) (by simp)).trans (hB1.mono (by simp only [World.size_alloc]; omega))
   clear hB1
   go_wp2
   exact bodyPost_ret (results_cell_mid rfl _ _ (w.heap.size+1) 0 _ _ rfl (range_two c1 c2) Tryz.underlying99 rfl infoSp) rfl ⟨rfl,below_set (below_set HB1.out (by omega)) (by omega)⟩
theorem infoS9:(Tryz.prog.info? 37).map (·.size)=some 2:=by kernel_rfl
set_option maxHeartbeats 1600000 in
theorem RHeld9_any (f u:Int) (w:World):Calls Tryz.prog 39 #[spv f u] w fun e w'=>e= .returned (spv (heldF f u) (heldU f u))∧Below w.heap.size w w':=by
 have h1:f < 0∨0≤f:=by omega
 have h2:u≤12622780799∨12622780799 < u:=by omega
 rcases held_cases f u with ⟨e1,e2,h3⟩ | ⟨e1,e2,h3⟩
 all_goals
  rw [e1,e2]
  clear e1 e2
  rcases h1 with h1 | h1 <;> rcases h2 with h2 | h2
  all_goals try (exfalso; omega)
  all_goals
   first
    | (have h4:u < 0:=(by omega); clear h3)
    | (have h4:12622780799 < f:=(by omega); clear h3)
    | (have h4:u < f:=(by omega); clear h3)
    | (have h4:0≤u:=(by omega); clear h3; have h5:f < 0:=(by omega))
    | (have h4:f≤u:=(by omega); have h5:f≤12622780799:=(by omega); clear h3)
    | clear h3
   go_enter Tryz.func39,Tryz.ntmps39
   go_wp2
   exact bodyPost_ret (results_cell_mid rfl _ _ (w.heap.size+1) 0 _ _ rfl (range_new2 w _ _ _) Tryz.underlying37 rfl infoS9) rfl ⟨ret_sp (by omega) (by omega),below_new (below_new (Below.refl _ _) (zG _)) (by simp)⟩
end
section
open Go.RowKit
attribute [local go_sem] Oper.semAt_some
set_option maxHeartbeats 1600000 in
theorem WList_any (s:Nat→Nat) (w:World) (hs:∀i,i < 7→s i < 18446744073709551616) :
  Calls Tryz.prog 83 #[wv s] w fun e w'=>∃v,e= .returned v∧w'.ownsRow w.heap.size 3 1 v (wsel s).length (ints (wsel s))∧Below w.heap.size w w':=by
 have c1:=hid (fun n W=>RHasW_any s n W hs)
 have hB0:Below w.heap.size w (w.alloc (.cells #[.int .u64 (s 0:Nat), .int .u64 (s 1:Nat), .int .u64 (s 2:Nat), .int .u64 (s 3:Nat), .int .u64 (s 4:Nat), .int .u64 (s 5:Nat), .int .u64 (s 6:Nat)] 33)):=below_new (Below.refl _ _) (zG _)
 have HS0:Hid (BoxS w s (w.alloc (.cells #[.int .u64 (s 0:Nat), .int .u64 (s 1:Nat), .int .u64 (s 2:Nat), .int .u64 (s 3:Nat), .int .u64 (s 4:Nat), .int .u64 (s 5:Nat), .int .u64 (s 6:Nat)] 33))):=by
  obtain ⟨r0,r1,r2,r3,r4,r5,r6⟩:=(wcells_new w s 33).all
  exact ⟨r0,r1,r2,r3,r4,r5,r6,hB0,by simp [go_sem]⟩
 clear hB0 hs
 go_enter Tryz.func83,Tryz.ntmps83
 go_wp2
 go_loopw [3,4] (fun v i wr=>∃(n m cap:Nat) (a:Option Addr),i= .int .i64 n∧Hid (n≤400)∧v= .slice a m cap∧Hid (m= (sel (bitW s) n).length∧m≤n)∧Hid (wr.ownsRow (w.heap.size+1) 3 1 (.slice a m cap) m (ints (sel (bitW s) n)))∧Hid (BoxS w s wr)) (fun _ i _=>(400 - intOf i).toNat)
 case atStart=>exact ⟨0,0,0,none,rfl,by show (0:Nat)≤400; omega,rfl,⟨rfl,zG _⟩,World.ownsRow_nil _ _ _ _,HS0.out⟩
 case round=>
  obtain ⟨n,m,cap,a,rfl,hn,rfl,hme,hown,hbx⟩:=hrel
  obtain ⟨z0,z1,z2,z3,z4,z5,z6,hB,hlt0⟩:=hbx.out
  have HB:=hid hB
  clear hB
  by_cases hlt:(n:Int) < 400
  ·have H2:Hid (Calls Tryz.prog 30 #[wv s, .int .i64 n] wr fun e w'=>e= .returned (.bool (bitW s n))∧Below wr.heap.size wr w'):=by
    have:=c1.out n wr
    have e:hasW s (n:Int)=bitW s n:=by simp [hasW,mayB]; omega
    rw [e] at this; exact this
   by_cases hb:bitW s n=true
   ·have Hy:=hid (sel_yes hb)
    rw [hb] at H2
    clear hb
    go_wp2_with fail
    refine H2.out.mono ?_
    rintro e w1 ⟨rfl,hb1⟩
    have hown1:=owns_below hown.out hb1 (zG _)
    have hbx1:=hid (hbx.out.keep hb1)
    have hm:m≤400:=by have:=hme.out.2; have:=hn.out; omega
    have Hb1:=hid hb1
    have hs1:=hb1.size
    clear hb1 z0 z1 z2 z3 z4 z5 z6
    go_wp2_with (at_builtin; refine app1 eInt (.tmp 12) (.tmp 14) rfl rfl rfl rfl rfl hown1 rfl (by omega) (by omega) (by omega) ?_)
    intro a' cap' w' hown2 hg2 hb2 hf2
    rw [←ints_one,←ints_append,←Hy.out] at hown2
    have hbx2:Hid (BoxS w s w'):=by
     obtain ⟨h0,h1,h2,h3,h4,h5,h6,h7,h8⟩:=hbx1.out
     exact ⟨(hb2.cell (p:=⟨w.heap.size,0,none⟩) (by simp)).trans h0,(hb2.cell (p:=⟨w.heap.size,1,none⟩) (by simp)).trans h1,(hb2.cell (p:=⟨w.heap.size,2,none⟩) (by simp)).trans h2,(hb2.cell (p:=⟨w.heap.size,3,none⟩) (by simp)).trans h3,
      (hb2.cell (p:=⟨w.heap.size,4,none⟩) (by simp)).trans h4,(hb2.cell (p:=⟨w.heap.size,5,none⟩) (by simp)).trans h5,(hb2.cell (p:=⟨w.heap.size,6,none⟩) (by simp)).trans h6,h7.trans (hb2.mono (by omega)),zH h8 hb2.size⟩
    have Hown2:=hid hown2
    clear hown2 hg2 hb2 hf2 hown1
    go_wp2
    exact ⟨⟨n+1,m+1,cap',a',by go_num,by show n+1≤400; omega,rfl,⟨by rw [Hy.out,List.length_append,←hme.out.1]; rfl,by have:=hme.out.2; omega⟩,Hown2,hbx2⟩,by simp [intOf]; omega⟩
   ·have hb':bitW s n=false:=by simpa using hb
    have Hy:=hid (sel_no hb')
    rw [hb'] at H2
    clear hb hb'
    go_wp2_with fail
    refine H2.out.mono ?_
    rintro e w1 ⟨rfl,hb1⟩
    have hown1:=hid (owns_below hown.out hb1 (zG _))
    have hbx1:=hid (hbx.out.keep hb1)
    clear hb1 z0 z1 z2 z3 z4 z5 z6
    go_wp2
    exact ⟨⟨n+1,m,cap,a,by go_num,by show n+1≤400; omega,rfl,⟨by rw [Hy.out]; exact hme.out.1,by have:=hme.out.2; omega⟩,by rw [Hy.out]; exact hown1,hbx1⟩,by simp [intOf]; omega⟩
  ·have hnn:n=400:=by have:=hn.out; omega
   have hown':=hown.out
   have hm':=hme.out.1
   rw [hnn] at hown' hm'
   have Hown:=hid hown'
   have Hm:=hid hm'
   clear hnn hown' hm'
   go_wp2
   go_ret
   exact ⟨_,rfl,by have:=Hm.out; rw [show (wsel s).length=m from Hm.out.symm]; exact owns_base Hown.out (by omega),HB.out⟩
end
section
open Go.RowKit
def inWB (l:List Int) (i k:Nat):Bool:=decide (((64 * i+k:Nat):Int)∈l) && decide (64 * i+k < 400)
def wof (l:List Int) (i:Nat):Nat:=mk (inWB l i)
end
section
open Go.RowKit
def inL (l:List Int) (j:Nat):Bool:=decide ((j:Int)∈l) && decide (j < 400)
theorem inL_in (l:List Int) (n j:Nat) (h:n < 400):inL (l ++ [(n:Int)]) j=if j=n then true else inL l j:=by
 rw [inL,inL,Bool.eq_iff_iff]
 split
 ·simp; omega
 ·rename_i h
  simp only [Bool.and_eq_true,decide_eq_true_eq,List.mem_append,List.mem_singleton]
  constructor
  ·rintro ⟨h1 | h1,h2⟩
   ·exact ⟨h1,h2⟩
   ·omega
  ·rintro ⟨h1,h2⟩; exact ⟨.inl h1,h2⟩
theorem inL_out (l:List Int) (x:Int) (h:mayB x=false) (j:Nat):inL (l ++ [x]) j=inL l j:=by
 simp only [mayB,Bool.and_eq_false_iff,decide_eq_false_iff_not] at h
 rw [inL,inL,Bool.eq_iff_iff]
 simp only [Bool.and_eq_true,decide_eq_true_eq,List.mem_append,List.mem_singleton]
 constructor
 ·rintro ⟨h1 | h1,h2⟩
  ·exact ⟨h1,h2⟩
  ·omega
 ·rintro ⟨h1,h2⟩; exact ⟨.inl h1,h2⟩
def InC (W:World) (b:Nat) (l:List Int):Prop:=∀j,j < 448→W.cell? ⟨b,j,none⟩=some (.bool (inL l j))
theorem zc120:Tryz.zeroCells149=Array.replicate 448 (.bool false):=by kernel_rfl
theorem inC_new (w:World):InC (w.alloc (.cells Tryz.zeroCells149 149)) w.heap.size []:=fun j hj=>by
 rw [zc120]
 simp [go_sem,hj,inL]
theorem InC.below {W W':World} {b B:Nat} {l:List Int} (h:InC W b l) (hb:Below B W W') (hB:b < B):InC W' b l:=fun j hj=>(hb.cell (p:=⟨b,j,none⟩) hB).trans (h j hj)
def wpre (l:List Int) (i n:Nat) (j:Nat):Nat:=if j=i then upM (inWB l i) n else if j < i then wof l j else 0
set_option maxRecDepth 100000 in
set_option maxHeartbeats 3200000 in
theorem ROfW_any (a:Option Addr) (cap:Nat) (l:List Int) (w:World) (hl:l.length≤9223372036854775807) (hs:Sl w a (ints l)) :
  Calls Tryz.prog 31 #[.slice a l.length cap] w fun e w'=>e= .returned (wv (wof l))∧Below w.heap.size w w':=by
 have Hs:=hid hs
 clear hs
 obtain ⟨W0,hW0⟩:∃W0,(w.alloc (.cells #[.int .u64 0, .int .u64 0, .int .u64 0, .int .u64 0, .int .u64 0, .int .u64 0, .int .u64 0] 33)).alloc (.cells Tryz.zeroCells149 149)=W0:=⟨_,rfl⟩
 have q1:W0.heap.size=w.heap.size+2:=by rw [←hW0]; simp
 have q2:Below w.heap.size w W0:=by rw [←hW0]; exact below_new (below_new (Below.refl _ _) (zG _)) (by simp)
 have q3:InC W0 (w.heap.size+1) []:=by
  rw [←hW0]
  have:=inC_new (w.alloc (.cells #[.int .u64 0, .int .u64 0, .int .u64 0, .int .u64 0, .int .u64 0, .int .u64 0, .int .u64 0] 33))
  rwa [World.size_alloc] at this
 have q4:WFree W0 (w.heap.size+1):=fun i=>by rw [←hW0,zc120]; simp [go_sem]
 have q5:WCells W0 w.heap.size (fun _=>0):=by
  rw [←hW0]
  refine WCells.below (W:=w.alloc (.cells #[.int .u64 0, .int .u64 0, .int .u64 0, .int .u64 0, .int .u64 0, .int .u64 0, .int .u64 0] 33)) (fun i hi=>?_) (below_new (Below.refl _ _) (zG _)) (by simp)
  rcases seven hi with rfl | rfl | rfl | rfl | rfl | rfl | rfl <;> simp [go_sem]
 have q6:WFree W0 w.heap.size:=by
  rw [←hW0]
  refine WFree.below (W:=w.alloc (.cells #[.int .u64 0, .int .u64 0, .int .u64 0, .int .u64 0, .int .u64 0, .int .u64 0, .int .u64 0] 33)) (fun i=>by simp [go_sem]) (below_new (Below.refl _ _) (zG _)) (by simp)
 have HW0:=hid hW0
 have HQ:=hid (And.intro q2 (And.intro q3 (And.intro q4 (And.intro q5 q6))))
 clear hW0 q2 q3 q4 q5 q6
 go_enter Tryz.func31,Tryz.ntmps31
 go_wp2_with fail
 rw [HW0.out]
 go_loopw [4] (fun i wr=>∃k:Nat,i= .int .i64 k∧k≤l.length∧wr.heap.size=w.heap.size+2∧Hid (InC wr (w.heap.size+1) (l.take k)∧WFree wr (w.heap.size+1)∧WCells wr w.heap.size (fun _=>0)∧WFree wr w.heap.size∧Below w.heap.size w wr)) (fun i _=>l.length - (intOf i).toNat)
 case atStart=>exact ⟨0,rfl,by omega,q1,HQ.out.2.1,HQ.out.2.2.1,HQ.out.2.2.2.1,HQ.out.2.2.2.2,HQ.out.1⟩
 case round=>
  obtain ⟨k,rfl,hk,hsz,HI⟩:=hrel
  by_cases hlt:k < l.length
  ·obtain ⟨b,off,rfl,hb,hc⟩:=Hs.out.atInt hlt
   have e1:=(HI.out.2.2.2.2.cell (p:=⟨b,off+k,none⟩) hb).trans (hc k hlt)
   have ht:=hid (take_snoc l k hlt)
   obtain ⟨x,hx⟩:∃x,l[k]=x:=⟨_,rfl⟩
   rw [hx] at e1 ht
   clear hc hx
   by_cases hm:mayB x=true
   ·rw [mayB] at hm
    simp at hm
    obtain ⟨n,rfl⟩:∃n:Nat,x=n:=⟨x.toNat,by omega⟩
    have hn:n < 400:=by omega
    have hnI:(n:Int) < 400:=by omega
    have hn448:n < 448:=by omega
    have e2:=HI.out.1 n hn448
    have e3:=HI.out.2.1 n
    have done:InC (wr.setCell ⟨w.heap.size+1,n,none⟩ (.bool true)) (w.heap.size+1) (l.take (k+1))∧WFree (wr.setCell ⟨w.heap.size+1,n,none⟩ (.bool true)) (w.heap.size+1)∧WCells (wr.setCell ⟨w.heap.size+1,n,none⟩ (.bool true)) w.heap.size (fun _=>0)∧
      WFree (wr.setCell ⟨w.heap.size+1,n,none⟩ (.bool true)) w.heap.size∧Below w.heap.size w (wr.setCell ⟨w.heap.size+1,n,none⟩ (.bool true)):=by
     obtain ⟨d1,d2,d3,d4,d5⟩:=HI.out
     refine ⟨fun j hj=>?_,d2.set _ _,fun j hj=>(World.cell?_of_block (w:=wr) (a:=⟨w.heap.size,j,none⟩) (Below.heap_setCell _ _ _ _ (by simp))).trans (d3 j hj),d4.set _ _,below_set d5 (by omega)⟩
     rw [ht.out,inL_in _ _ _ hn]
     by_cases e:j=n
     ·subst e; simp [go_sem,d1 j hj]
     ·simp [go_sem,d1 j hj,e]
    have Done:=hid done
    clear done hm hn hn448
    go_wp2
    obtain ⟨d1,d2,d3,d4,d5⟩:=Done.out
    exact ⟨⟨k+1,by go_num,by omega,by simpa [go_sem] using hsz,d1,d2,d3,d4,d5⟩,by simp [intOf]; omega⟩
   ·have hm':mayB x=false:=by simpa using hm
    have he:=hid (fun j=>inL_out (l.take k) x hm' j)
    have hI':Hid (InC wr (w.heap.size+1) (l.take (k+1))):=fun j hj=>by rw [ht.out,he.out]; exact HI.out.1 j hj
    by_cases h0:0≤x
    ·have h1:¬x < 400:=by simp [mayB] at hm'; omega
     clear hm hm'
     go_wp2
     exact ⟨⟨k+1,by go_num,by omega,hsz,hI'.out,HI.out.2⟩,by simp [intOf]; omega⟩
    ·clear hm hm'
     go_wp2
     exact ⟨⟨k+1,by go_num,by omega,hsz,hI'.out,HI.out.2⟩,by simp [intOf]; omega⟩
  ·have hke:l.take k=l:=List.take_of_length_le (by omega)
   have hin:Hid (InC wr (w.heap.size+1) l):=by rw [←hke]; exact HI.out.1
   obtain ⟨W2,hW2⟩:∃W2,wr.alloc (.cells #[.int .u64 0, .int .u64 0, .int .u64 0, .int .u64 0, .int .u64 0, .int .u64 0, .int .u64 0] 33)=W2:=⟨_,rfl⟩
   have b2:Below wr.heap.size wr W2:=by rw [←hW2]; exact below_new (Below.refl _ _) (zG _)
   have p1:Hid (InC W2 (w.heap.size+1) l):=hin.out.below b2 (by omega)
   have p2:Hid (WCells W2 w.heap.size (fun _=>0)):=HI.out.2.2.1.below b2 (by omega)
   have p3:Hid (WFree W2 w.heap.size):=HI.out.2.2.2.1.below b2 (by omega)
   have p4:Hid (WCells W2 (w.heap.size+2) (fun _=>0)):=by
    show WCells _ _ _
    rw [←hW2,←hsz]
    intro i hi
    rcases seven hi with rfl | rfl | rfl | rfl | rfl | rfl | rfl <;> simp [go_sem]
   have p5:Hid (WFree W2 (w.heap.size+2)):=fun i=>by rw [←hW2,←hsz]; simp [go_sem]
   have p6:Hid (Below w.heap.size w W2):=HI.out.2.2.2.2.trans (b2.mono (by omega))
   have HW2:=hid hW2
   clear hke hin b2 hW2
   go_wp2_with fail
   rw [HW2.out]
   go_loopw [6,7] (fun i _ wq=>∃n:Nat,i= .int .i64 n∧n≤7∧Hid (WCells wq (w.heap.size+2) (fun j=>if j < n then wof l j else 0)∧WFree wq (w.heap.size+2)∧InC wq (w.heap.size+1) l∧WCells wq w.heap.size (fun _=>0)∧WFree wq w.heap.size∧Below w.heap.size w wq)) (fun i _ _=>7 - (intOf i).toNat)
   case atStart=>exact ⟨0,rfl,by omega,p4.out.congr (fun j hj=>by simp),p5.out,p1.out,p2.out,p3.out,p6.out⟩
   case round=>
    obtain ⟨n,rfl,hn,HJ⟩:=hrel
    by_cases hn7:n < 7
    ·go_wp2_with fail
     go_loopw [7] (fun v wq=>∃m:Nat,m≤64∧v= .int .i64 ((m:Int) - 1)∧Hid (WCells wq (w.heap.size+2) (wpre l n m)∧WFree wq (w.heap.size+2)∧InC wq (w.heap.size+1) l∧WCells wq w.heap.size (fun _=>0)∧WFree wq w.heap.size∧Below w.heap.size w wq)) (fun v _=>(intOf v+1).toNat)
     case atStart=>exact ⟨64,by omega,by simp,HJ.out.1.congr (fun j hj=>by unfold wpre; rw [upM_64]; split <;> (try split) <;> first | rfl | omega),HJ.out.2⟩
     case round=>
      clear HJ
      obtain ⟨m,hm,rfl,HJ⟩:=hrel
      cases m with
      | zero=>
        have h0:Hid (∀W,WCells W (w.heap.size+2) (wpre l n 0)→WCells W (w.heap.size+2) (fun j=>if j < n+1 then wof l j else 0)):=fun W h=>h.congr (fun j hj=>by
         unfold wpre
         rw [upM_0]
         by_cases e:j=n
         ·subst e; simp [wof]
         ·have:(j < n+1)= (j < n):=by simp; omega
          simp [e,this])
        go_wp2
        exact ⟨⟨n+1,by go_num,by omega,h0.out _ HJ.out.1,HJ.out.2⟩,by simp [intOf]; omega⟩
      | succ m=>
        have hm64:m < 64:=by omega
        have hst:=hid (upM_step (inWB l n) m hm64)
        have hh:=upM_half (inWB l n) m
        have e1:((m+1:Nat):Int) - 1= (m:Int):=by omega
        rw [e1]
        have c1:wr.cell? ⟨w.heap.size+2,n,none⟩=some (.int .u64 (upM (inWB l n) (m+1):Nat)):=by have:=HJ.out.1 n hn7; simpa [wpre] using this
        have c2:=HJ.out.2.1 n
        have c3:=HJ.out.2.2.1 (64 * n+m) (by omega)
        have hbit:inL l (64 * n+m)=inWB l n m:=rfl
        rw [hbit] at c3
        obtain ⟨M,hM⟩:∃M,upM (inWB l n) (m+1)=M:=⟨_,rfl⟩
        rw [hM] at hst hh c1
        have hM2:2 * M < 18446744073709551616:=by omega
        have hup:=upM_lt (inWB l n) m
        have done:∀(v:Nat) (W':World),v=upM (inWB l n) m→WCells W' (w.heap.size+2) (fun j=>if j=n then v else wpre l n (m+1) j)→WCells W' (w.heap.size+2) (wpre l n m):=fun v W' hv h=>h.congr (fun j hj=>by
         by_cases e:j=n
         ·subst e; simp [wpre,hv]
         ·simp [wpre,e])
        have Done:=hid done
        have s0:Hid (∀(W:World) (g:Nat→Nat) (v:Nat),WCells W (w.heap.size+2) g∧WFree W (w.heap.size+2)∧InC W (w.heap.size+1) l∧WCells W w.heap.size (fun _=>0)∧WFree W w.heap.size∧Below w.heap.size w W→
          WCells (W.setCell ⟨w.heap.size+2,n,none⟩ (.int .u64 v)) (w.heap.size+2) (fun j=>if j=n then v else g j)∧WFree (W.setCell ⟨w.heap.size+2,n,none⟩ (.int .u64 v)) (w.heap.size+2)∧InC (W.setCell ⟨w.heap.size+2,n,none⟩ (.int .u64 v)) (w.heap.size+1) l∧
          WCells (W.setCell ⟨w.heap.size+2,n,none⟩ (.int .u64 v)) w.heap.size (fun _=>0)∧WFree (W.setCell ⟨w.heap.size+2,n,none⟩ (.int .u64 v)) w.heap.size∧Below w.heap.size w (W.setCell ⟨w.heap.size+2,n,none⟩ (.int .u64 v))):=fun W g v ⟨d1,d2,d3,d4,d5,d6⟩=>
         ⟨d1.set hn7,d2.set _ _,fun j hj=>(World.cell?_of_block (w:=W) (a:=⟨w.heap.size+1,j,none⟩) (Below.heap_setCell _ _ _ _ (by simp))).trans (d3 j hj),fun j hj=>(World.cell?_of_block (w:=W) (a:=⟨w.heap.size,j,none⟩) (Below.heap_setCell _ _ _ _ (by simp))).trans (d4 j hj),d5.set _ _,below_set d6 (by omega)⟩
        have e2:Hid ((2 * (M:Int))= ((2 * M:Nat):Int)):=by show _ = _; simp
        have e3:Hid ((2 * (M:Int)+1)= ((2 * M+1:Nat):Int)):=by show _ = _; simp
        obtain ⟨bt,hbt⟩:∃b,inWB l n m=b:=⟨_,rfl⟩
        rw [hbt] at c3 hst
        clear done hM hbit hbt e1
        cases bt
        ·have hv:Hid (2 * M=upM (inWB l n) m):=by show _ = _; rw [hst.out]; simp
         go_wp2
         rw [e2.out]
         obtain ⟨d1,d2⟩:=s0.out wr _ (2 * M) HJ.out
         exact ⟨⟨m,by omega,rfl,Done.out _ _ hv.out d1,d2⟩,by simp [intOf]⟩
        ·have hv:Hid (2 * M+1=upM (inWB l n) m):=by show _ = _; rw [hst.out]; simp
         rw [hst.out] at hup
         simp only [if_true] at hup
         go_wp2
         rw [e3.out,e2.out]
         obtain ⟨d1,d2⟩:=s0.out _ _ (2 * M+1) (s0.out wr _ (2 * M) HJ.out)
         exact ⟨⟨m,by omega,rfl,Done.out _ _ hv.out (d1.congr (fun j hj=>by by_cases e:j=n <;> simp [e])),d2⟩,by simp [intOf]⟩
    ·obtain rfl:n=7:=by omega
     have hc':WCells wr (w.heap.size+2) (wof l):=HJ.out.1.congr (fun j hj=>by simp [hj])
     obtain ⟨_,d1,d2,d3,d4,d5⟩:=HJ.out
     obtain ⟨r0,r1,r2,r3,r4,r5,r6⟩:=hc'.all
     obtain ⟨z0,z1,z2,z3,z4,z5,z6⟩:=d3.all
     have f0:=d4 0
     have f1:=d4 1
     have f2:=d4 2
     have f3:=d4 3
     have f4:=d4 4
     have f5:=d4 5
     have f6:=d4 6
     have D5:=hid d5
     clear hc' d1 d2 d3 d4 d5 HJ
     go_wp2
     refine bodyPost_ret (v:=wv (wof l)) (by simp [results,Tryz.results31,go_sem,z0,z1,z2,z3,z4,z5,z6]) rfl ⟨rfl,?_⟩
     exact below_set (below_set (below_set (below_set (below_set (below_set (below_set D5.out (zG _)) (zG _)) (zG _)) (zG _)) (zG _)) (zG _)) (zG _)
end
end Go.Proofs.YthimhfmnikfgaaaGreatDoor
