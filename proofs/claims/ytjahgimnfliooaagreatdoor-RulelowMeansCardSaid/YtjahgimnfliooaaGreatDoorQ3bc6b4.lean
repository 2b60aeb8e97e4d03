/-
  clause.May and feriaref13.May: whether a clause may be.
  Rules in memory; the N of a rule's weekdays; what is great.
  rule.which, rule.Plain, unit.Name, rule.head.
  rule.head.
  rule.parts' functions; rule.days.
  rule.weeks.
-/
import Derived.Test.YtjahgimnfliooaaGreatDoorQb17bbc
import Derived.Test.YtjahgimnfliooaaGreatDoorQ8ac385
import Derived.Test.YtjahgimnfliooaaGreatDoorQe977ed
set_option maxRecDepth 100000
set_option maxHeartbeats 25600000
namespace Go.Proofs.YtjahgimnfliooaaGreatDoor
set_option linter.unusedVariables false
section
open Go.RowKit
def ydH (m:Nat→Nat):Bool:=yba (m 0) 0 59 && (yba (m 1) 0 59 && (yba (m 2) 0 23 && (yba (m 3) 1 12 && (yba (m 4) 1 31 && (yba (m 5) 1 31 && yba (m 6) 1 7)))))
def mayC (c:Cl):Bool:=ydH c.m && (ordB c.oin c.oback c.od && (eqW (inW c.ys) c.ys && (unB c.unit && (decide (1≤c.step) && winB c.anchor))))
theorem yhN (m:Nat→Nat):yb5 [(m 0,ybY 0),(m 1,ybY 1),(m 2,ybY 2),(m 3,ybY 3),(m 4,ybY 4),(m 5,ybY 5),(m 6,ybY 6)]=ydH m:=by
 have e:∀x lo hi,(ygk x (ybc lo hi 1) == 0)=yba x lo hi:=fun x lo hi=>by
  rw [zze,beq_iff_eq,yhc]
 have f0:ybY 0=ybc 0 59 1:=rfl
 have f1:ybY 1=ybc 0 59 1:=rfl
 have f2:ybY 2=ybc 0 23 1:=rfl
 have f3:ybY 3=ybc 1 12 1:=rfl
 have f4:ybY 4=ybc 1 31 1:=rfl
 have f5:ybY 5=ybc 1 31 1:=rfl
 have f6:ybY 6=ybc 1 7 1:=rfl
 simp only [yb5,List.all_cons,List.all_nil,Bool.and_true,ydH,f0,f1,f2,f3,f4,f5,f6,e]
abbrev nameL:List Value:= [.string {data:=#[83,69,67,79,78,68,76,89]}, .string {data:=#[77,73,78,85,84,69,76,89]}, .string {data:=#[72,79,85,82,76,89]}, .string {data:=#[68,65,73,76,89]}, .string {data:=#[87,69,69,75,76,89]}, .string {data:=#[77,79,78,84,72,76,89]}, .string {data:=#[89,69,65,82,76,89]}]
theorem Names_any (w:World):Calls Tryz.prog 79 #[] w fun e w'=>e= .returned (.agg nameL.toArray)∧Below w.heap.size w w':=by
 go_enter Tryz.func79,Tryz.ntmps79
 go_wp2
 refine bodyPost_ret (yad rfl _ _ w.heap.size 0 _ _ rfl (yau w _ _) Tryz.underlying126 rfl (by kernel_rfl)) rfl ⟨rfl,yaa (Below.refl _ _) (zG _)⟩
theorem infoStr:(Tryz.prog.info? 9).map (fun i=>(i.zero,i.size,i.bytes))=some (some (.string {data:=#[]}),1,16):=by kernel_rfl
theorem yeX (V:Value) (hV:V= .agg nameL.toArray) (W:World):(Instr.index 126 V (.int .i64 0)).run Tryz.prog W= .ok (.string {data:=#[83,69,67,79,78,68,76,89]}) W∧(Instr.index 126 V (.int .i64 1)).run Tryz.prog W= .ok (.string {data:=#[77,73,78,85,84,69,76,89]}) W∧(Instr.index 126 V (.int .i64 2)).run Tryz.prog W= .ok (.string {data:=#[72,79,85,82,76,89]}) W∧(Instr.index 126 V (.int .i64 3)).run Tryz.prog W= .ok (.string {data:=#[68,65,73,76,89]}) W∧(Instr.index 126 V (.int .i64 4)).run Tryz.prog W= .ok (.string {data:=#[87,69,69,75,76,89]}) W∧(Instr.index 126 V (.int .i64 5)).run Tryz.prog W= .ok (.string {data:=#[77,79,78,84,72,76,89]}) W∧(Instr.index 126 V (.int .i64 6)).run Tryz.prog W= .ok (.string {data:=#[89,69,65,82,76,89]}) W:=by
 obtain ⟨i0,hi0,hz0,hz1,hz2⟩:=info_parts infoStr
 rw [hV]
 refine ⟨?_,?_,?_,?_,?_,?_,?_⟩ <;> simp [Instr.index,go_sem,part,sizeOf,typeInfo,hi0,hz1]
theorem yjq (u:Int) (w:World):Calls Tryz.prog 37 #[.int .i64 u] w fun e w'=>(∃s:ByteArray,e= .returned (.string s)∧(s.toList == [])= !unB u)∧Below w.heap.size w w':=by
 obtain ⟨V,hV⟩:∃V:Value,V= .agg nameL.toArray:=⟨_,rfl⟩
 have c1:Hid (∀W,Calls Tryz.prog 79 #[] W fun e w'=>e= .returned V∧Below W.heap.size W w'):=fun W=>by rw [hV]; exact Names_any W
 have hix:=hid (fun W=>yeX V hV W)
 clear hV
 rcases ydA u with ⟨e,h0,h1⟩ | ⟨e,h⟩
 ·rw [e]
  have hcase:u=0∨u=1∨u=2∨u=3∨u=4∨u=5∨u=6:=by omega
  clear e h0 h1
  rcases hcase with rfl | rfl | rfl | rfl | rfl | rfl | rfl
  all_goals
   go_enter Tryz.func37,Tryz.ntmps37
   go_wp2_with fail
   refine (c1.out _).mono ?_
   rintro e w1 ⟨rfl,hB1⟩
   have HB1:=hid hB1
   obtain ⟨i0,i1,i2,i3,i4,i5,i6⟩:=hix.out w1
   clear hB1
   go_wp2
   go_ret
   exact ⟨⟨_,rfl,by kernel_rfl⟩,HB1.out⟩
 ·rw [e]
  clear e
  rcases h with h | h
  ·go_enter Tryz.func37,Tryz.ntmps37
   go_wp2
   go_ret
   exact ⟨⟨_,rfl,by kernel_rfl⟩,Below.refl _ _⟩
  ·have h0:¬u < 0:=by omega
   have h7:7≤u:=by omega
   go_enter Tryz.func37,Tryz.ntmps37
   go_wp2
   go_ret
   exact ⟨⟨_,rfl,by kernel_rfl⟩,Below.refl _ _⟩
def ClB (W:World) (b:Nat) (c:Cl):Prop:=W.rangeAt b 0 (yac c)
theorem ClB.below {W W':World} {b B:Nat} {c:Cl} (h:ClB W b c) (hb:Below B W W') (hB:b < B):ClB W' b c:=fun j v hv=>(hb.cell (p:=⟨b,0+j,none⟩) hB).trans (h j v hv)
theorem yb7 (w:World) (c:Cl) (t:TypeId):ClB (w.alloc (.cells (yac c).toArray t)) w.heap.size c:=yau w _ _
theorem ClB.at {W:World} {b:Nat} {c:Cl} (h:ClB W b c) (j:Nat) {v:Value} (hv:(yac c)[j]? =some v):W.cell? ⟨b,j,none⟩=some v:=by
 have:=h j v hv
 rwa [zzn] at this
theorem ClB.masks {W:World} {b:Nat} {c:Cl} (h:ClB W b c):W.cell? ⟨b,0,none⟩=some (.int .u64 (c.m 0:Nat))∧W.cell? ⟨b,1,none⟩=some (.int .u64 (c.m 1:Nat))∧W.cell? ⟨b,2,none⟩=some (.int .u64 (c.m 2:Nat))∧
  W.cell? ⟨b,3,none⟩=some (.int .u64 (c.m 3:Nat))∧W.cell? ⟨b,4,none⟩=some (.int .u64 (c.m 4:Nat))∧W.cell? ⟨b,5,none⟩=some (.int .u64 (c.m 5:Nat))∧W.cell? ⟨b,6,none⟩=some (.int .u64 (c.m 6:Nat)):=
 ⟨h.at 0 rfl,h.at 1 rfl,h.at 2 rfl,h.at 3 rfl,h.at 4 rfl,h.at 5 rfl,h.at 6 rfl⟩
theorem ClB.ord {W:World} {b:Nat} {c:Cl} (h:ClB W b c):W.cell? ⟨b,8,none⟩=some (.int .i64 c.oin)∧W.cell? ⟨b,9,none⟩=some (.bool c.oback)∧W.cell? ⟨b,10,none⟩=some (.int .u64 (c.od 0:Nat))∧W.cell? ⟨b,11,none⟩=some (.int .u64 (c.od 1:Nat))∧
  W.cell? ⟨b,12,none⟩=some (.int .u64 (c.od 2:Nat))∧W.cell? ⟨b,13,none⟩=some (.int .u64 (c.od 3:Nat))∧W.cell? ⟨b,14,none⟩=some (.int .u64 (c.od 4:Nat))∧W.cell? ⟨b,15,none⟩=some (.int .u64 (c.od 5:Nat))∧
  W.cell? ⟨b,16,none⟩=some (.int .u64 (c.od 6:Nat))∧W.cell? ⟨b,17,none⟩=some (.int .u64 (c.od 7:Nat)):=
 ⟨h.at 8 rfl,h.at 9 rfl,h.at 10 rfl,h.at 11 rfl,h.at 12 rfl,h.at 13 rfl,h.at 14 rfl,h.at 15 rfl,h.at 16 rfl,h.at 17 rfl⟩
theorem ClB.years {W:World} {b:Nat} {c:Cl} (h:ClB W b c):W.cell? ⟨b,18,none⟩=some (.int .u64 (c.ys 0:Nat))∧W.cell? ⟨b,19,none⟩=some (.int .u64 (c.ys 1:Nat))∧W.cell? ⟨b,20,none⟩=some (.int .u64 (c.ys 2:Nat))∧W.cell? ⟨b,21,none⟩=some (.int .u64 (c.ys 3:Nat))∧
  W.cell? ⟨b,22,none⟩=some (.int .u64 (c.ys 4:Nat))∧W.cell? ⟨b,23,none⟩=some (.int .u64 (c.ys 5:Nat))∧W.cell? ⟨b,24,none⟩=some (.int .u64 (c.ys 6:Nat)):=
 ⟨h.at 18 rfl,h.at 19 rfl,h.at 20 rfl,h.at 21 rfl,h.at 22 rfl,h.at 23 rfl,h.at 24 rfl⟩
theorem ClB.tail {W:World} {b:Nat} {c:Cl} (h:ClB W b c):W.cell? ⟨b,25,none⟩=some (.int .i64 c.unit)∧W.cell? ⟨b,26,none⟩=some (.int .i64 c.step)∧W.cell? ⟨b,27,none⟩=some (.int .i64 c.anchor)∧W.cell? ⟨b,28,none⟩=some (.int .i64 c.fr)∧W.cell? ⟨b,29,none⟩=some (.int .i64 c.un):=
 ⟨h.at 25 rfl,h.at 26 rfl,h.at 27 rfl,h.at 28 rfl,h.at 29 rfl⟩
theorem ybZ {W:World} {b:Nat} {cs:List Value} (h:W.rangeAt b 0 cs) (hb:b < W.heap.size):Sl W (some ⟨b,0,none⟩) cs:= .inr ⟨b,0,rfl,hb,fun j hj=>h j _ (zzp hj)⟩
attribute [local go_sem ↓] yaK
attribute [local go_sem] yaA
abbrev zL:List Value:= [.int .u64 0, .int .u64 0, .int .u64 0, .int .u64 0, .int .u64 0, .int .u64 0, .int .u64 0, .bool false, .int .i64 0, .bool false, .int .u64 0, .int .u64 0, .int .u64 0, .int .u64 0, .int .u64 0, .int .u64 0, .int .u64 0, .int .u64 0, .int .u64 0, .int .u64 0, .int .u64 0, .int .u64 0, .int .u64 0, .int .u64 0, .int .u64 0, .int .i64 0, .int .i64 0, .int .i64 0, .int .i64 0, .int .i64 0]
theorem ycm (c:Cl) (w:World) (hc:c.Ok):Calls Tryz.prog 12 #[clv c] w fun e w'=>e= .returned (.bool (mayC c))∧Below w.heap.size w w':=by
 have c0:=hid (fun W=>ybr W)
 obtain ⟨F,hF⟩:∃F,fullCl=F:=⟨_,rfl⟩
 have HF:Hid (∀i,F.m i=ybY i):=fun i=>by rw [←hF]; rfl
 rw [hF] at c0
 clear hF
 have hC:=hid (yb7 w c 34)
 have hB0:Hid (Below w.heap.size w (w.alloc (.cells (yac c).toArray 34))):=yaa (Below.refl _ _) (zG _)
 have cO:=hid (fun W=>yhI c.oin c.oback c.od W hc.oin hc.od)
 have cY:=hid (fun W=>WMay_any c.ys W hc.ys)
 have cN:=hid (fun W=>yjq c.unit W)
 have cM:=hid (fun W=>yft c.anchor W)
 have hres:Hid (mayC c= (ydH c.m && (ordB c.oin c.oback c.od && (eqW (inW c.ys) c.ys && (unB c.unit && (decide (1≤c.step) && winB c.anchor)))))):=rfl
 rw [hres.out]
 obtain ⟨b1,hb1⟩:∃b,ydH c.m=b:=⟨_,rfl⟩
 obtain ⟨b2,hb2⟩:∃b,ordB c.oin c.oback c.od=b:=⟨_,rfl⟩
 obtain ⟨b3,hb3⟩:∃b,eqW (inW c.ys) c.ys=b:=⟨_,rfl⟩
 obtain ⟨b4,hb4⟩:∃b,unB c.unit=b:=⟨_,rfl⟩
 obtain ⟨b6,hb6⟩:∃b,winB c.anchor=b:=⟨_,rfl⟩
 obtain ⟨b5,hb5⟩:∃b,decide (1≤c.step)=b:=⟨_,rfl⟩
 rw [hb1]
 have Hb1:=hid hb1
 rw [hb2] at cO⊢
 rw [hb3] at cY⊢
 rw [hb4] at cN⊢
 rw [hb6] at cM⊢
 rw [hb5]
 have Hb5:=hid hb5
 clear hb1 hb2 hb3 hb4 hb5 hb6 hres
 go_enter Tryz.func12,Tryz.ntmps12
 go_wp2_with fail
 refine (c0.out _).mono ?_
 rintro e w1 ⟨rfl,hB1⟩
 have hC1:=hC.out.below hB1 (by simp)
 have HB1:Hid (Below w.heap.size w w1):=hB0.out.trans (hB1.mono (by simp))
 have hs1:w.heap.size < w1.heap.size:=by have:=hB1.size; simp at this; omega
 clear hB1
 have hth:(w1.alloc (.cells zL.toArray 34)).there w1.heap.size 0 30:=yat w1 _ _
 have hF2:ClB (yas (w1.alloc (.cells zL.toArray 34)) w1.heap.size (yac F)) w1.heap.size F:=yak _ rfl hth
 have hBa:Below w1.heap.size w1 (yas (w1.alloc (.cells zL.toArray 34)) w1.heap.size (yac F)):=yaj (yaa (Below.refl _ _) (zG _)) (zG _) _
 have hCa:=hC1.below hBa hs1
 obtain ⟨r0,r1,r2,r3,r4,r5,r6⟩:=hCa.masks
 obtain ⟨s0,s1,s2,s3,s4,s5,s6⟩:=hF2.masks
 have HBa:=hid hBa
 have HCa:=hid hCa
 obtain ⟨W2,hW2⟩:∃W2,yas (w1.alloc (.cells zL.toArray 34)) w1.heap.size (yac F)=W2:=⟨_,rfl⟩
 have HW2:=hid hW2
 rw [hW2] at HBa HCa
 have HB2:Hid (Below w.heap.size w W2):=HB1.out.trans (HBa.out.mono (by omega))
 have hs2:w.heap.size < W2.heap.size:=by have:=HBa.out.size; omega
 have hm:=hc.m
 have cW:Hid (Calls Tryz.prog 34 #[.slice (some ⟨W2.heap.size,0,none⟩) 7 7] (W2.alloc (.cells #[.int .u64 (c.m 0:Nat), .int .u64 (F.m 0:Nat), .int .u64 (c.m 1:Nat), .int .u64 (F.m 1:Nat), .int .u64 (c.m 2:Nat), .int .u64 (F.m 2:Nat), .int .u64 (c.m 3:Nat), .int .u64 (F.m 3:Nat),
   .int .u64 (c.m 4:Nat), .int .u64 (F.m 4:Nat), .int .u64 (c.m 5:Nat), .int .u64 (F.m 5:Nat), .int .u64 (c.m 6:Nat), .int .u64 (F.m 6:Nat)] 75)) fun e w'=>e= .returned (.bool (ydH c.m))∧Below (W2.heap.size+1) (W2.alloc (.cells #[.int .u64 (c.m 0:Nat), .int .u64 (F.m 0:Nat), .int .u64 (c.m 1:Nat), .int .u64 (F.m 1:Nat), .int .u64 (c.m 2:Nat), .int .u64 (F.m 2:Nat), .int .u64 (c.m 3:Nat), .int .u64 (F.m 3:Nat),
   .int .u64 (c.m 4:Nat), .int .u64 (F.m 4:Nat), .int .u64 (c.m 5:Nat), .int .u64 (F.m 5:Nat), .int .u64 (c.m 6:Nat), .int .u64 (F.m 6:Nat)] 75)) w'):=by
  have h:=yij (some ⟨W2.heap.size,0,none⟩) 7 [(c.m 0,F.m 0),(c.m 1,F.m 1),(c.m 2,F.m 2),(c.m 3,F.m 3),(c.m 4,F.m 4),(c.m 5,F.m 5),(c.m 6,F.m 6)]
   (W2.alloc (.cells #[.int .u64 (c.m 0:Nat), .int .u64 (F.m 0:Nat), .int .u64 (c.m 1:Nat), .int .u64 (F.m 1:Nat), .int .u64 (c.m 2:Nat), .int .u64 (F.m 2:Nat), .int .u64 (c.m 3:Nat), .int .u64 (F.m 3:Nat),
     .int .u64 (c.m 4:Nat), .int .u64 (F.m 4:Nat), .int .u64 (c.m 5:Nat), .int .u64 (F.m 5:Nat), .int .u64 (c.m 6:Nat), .int .u64 (F.m 6:Nat)] 75)) (by simp) (ybZ (yau W2 _ _) (by simp)) (by
     have hf:∀i,F.m i < 18446744073709551616:=fun i=>by rw [HF.out i]; unfold ybY; repeat (first | exact yaP _ | split)
     intro p hp
     simp only [List.mem_cons,List.not_mem_nil,or_false] at hp
     rcases hp with rfl | rfl | rfl | rfl | rfl | rfl | rfl <;> exact ⟨hm _ (by omega),hf _⟩)
  rw [HF.out 0,HF.out 1,HF.out 2,HF.out 3,HF.out 4,HF.out 5,HF.out 6,yhN,zzN] at h
  rw [HF.out 0,HF.out 1,HF.out 2,HF.out 3,HF.out 4,HF.out 5,HF.out 6]
  exact h
 rw [Hb1.out] at cW
 clear hF2 hBa hCa hC1 hW2 hm
 go_wp2_with fail
 rw [HW2.out]
 clear r0 r1 r2 r3 r4 r5 r6 s0 s1 s2 s3 s4 s5 s6 hth
 refine cW.out.mono ?_
 rintro e w3 ⟨rfl,hB3⟩
 have HB23:Hid (Below W2.heap.size W2 w3):=(yaa (Below.refl _ _) (zG _)).trans (hB3.mono (by omega))
 have HB3:Hid (Below w.heap.size w w3):=HB2.out.trans (HB23.out.mono (by omega))
 have HC3:=hid (HCa.out.below HB23.out hs2)
 have hs3:w.heap.size < w3.heap.size:=by have:=HB23.out.size; omega
 obtain ⟨o0,o1,o2,o3,o4,o5,o6,o7,o8,o9⟩:=HC3.out.ord
 clear hB3 cW
 cases b1
 ·go_wp2
  go_ret
  exact ⟨rfl,HB3.out⟩
 go_wp2_with fail
 refine (cO.out _).mono ?_
 rintro e w4 ⟨rfl,hB4⟩
 have HB4:Hid (Below w.heap.size w w4):=HB3.out.trans (hB4.mono (by omega))
 have HC4:=hid (HC3.out.below hB4 hs3)
 have hs4:w.heap.size < w4.heap.size:=by have:=hB4.size; omega
 obtain ⟨y0,y1,y2,y3,y4,y5,y6⟩:=HC4.out.years
 clear hB4 o0 o1 o2 o3 o4 o5 o6 o7 o8 o9
 cases b2
 ·go_wp2
  go_ret
  exact ⟨rfl,HB4.out⟩
 go_wp2_with fail
 refine (cY.out _).mono ?_
 rintro e w5 ⟨rfl,hB5⟩
 have HB5:Hid (Below w.heap.size w w5):=HB4.out.trans (hB5.mono (by omega))
 have HC5:=hid (HC4.out.below hB5 hs4)
 have hs5:w.heap.size < w5.heap.size:=by have:=hB5.size; omega
 obtain ⟨t0,t1,t2,t3,t4⟩:=HC5.out.tail
 clear hB5 y0 y1 y2 y3 y4 y5 y6
 cases b3
 ·go_wp2
  go_ret
  exact ⟨rfl,HB5.out⟩
 go_wp2_with fail
 refine (cN.out _).mono ?_
 rintro e w6 ⟨⟨s,rfl,hsn⟩,hB6⟩
 have HB6:Hid (Below w.heap.size w w6):=HB5.out.trans (hB6.mono (by omega))
 have HC6:=hid (HC5.out.below hB6 hs5)
 obtain ⟨u0,u1,u2,u3,u4⟩:=HC6.out.tail
 clear hB6 t0 t1 t2 t3 t4
 cases b4
 ·go_wp2
  go_ret
  exact ⟨rfl,HB6.out⟩
 by_cases h1:1≤c.step
 ·obtain rfl:true=b5:=by rw [←Hb5.out,zzZ h1]
  clear Hb5
  go_wp2_with fail
  refine (cM.out _).mono ?_
  rintro e w' ⟨rfl,rfl⟩
  go_wp2
  go_ret
  exact ⟨rfl,HB6.out⟩
 ·obtain rfl:false=b5:=by rw [←Hb5.out,zzd h1]
  clear Hb5
  go_wp2
  go_ret
  exact ⟨rfl,HB6.out⟩
end
section
open Go.RowKit
structure Ru where
 st:Int
 fq:Int
 iv:Int
 co:Int
 un:Int
 l5:List Int
 a5:Option Addr
 c5:Nat
 l6:List Int
 a6:Option Addr
 c6:Nat
 l7:List (Int × Int)
 a7:Option Addr
 c7:Nat
 l8:List Int
 a8:Option Addr
 c8:Nat
 l9:List Int
 a9:Option Addr
 c9:Nat
 lx:List Int
 ax:Option Addr
 cx:Nat
abbrev yai (r:Ru):List Value:= [.int .i64 r.st, .int .i64 r.fq, .int .i64 r.iv, .int .i64 r.co, .int .i64 r.un, .slice r.a5 r.l5.length r.c5, .slice r.a6 r.l6.length r.c6, .slice r.a7 r.l7.length r.c7, .slice r.a8 r.l8.length r.c8, .slice r.a9 r.l9.length r.c9, .slice r.ax r.lx.length r.cx]
abbrev ruv (r:Ru):Value:= .agg (yai r).toArray
structure RuS (W:World) (r:Ru):Prop where
 s5:Sl W r.a5 (ints r.l5)
 s6:Sl W r.a6 (ints r.l6)
 s7:Sl W r.a7 (nths r.l7)
 s8:Sl W r.a8 (ints r.l8)
 s9:Sl W r.a9 (ints r.l9)
 sx:Sl W r.ax (ints r.lx)
theorem RuS.below {W W':World} {r:Ru} (h:RuS W r) (hb:Below W.heap.size W W'):RuS W' r:=
 ⟨h.s5.below hb,h.s6.below hb,h.s7.below hb,h.s8.below hb,h.s9.below hb,h.sx.below hb⟩
structure Ru.Sm (r:Ru) (m:Nat):Prop where
 n5:r.l5.length≤m
 n6:r.l6.length≤m
 n7:r.l7.length≤m
 n8:r.l8.length≤m
 n9:r.l9.length≤m
 nx:r.lx.length≤m
def yfi (r:Ru):Bool:=decide (600 < r.l5.length+r.l6.length+r.l7.length+r.l8.length+r.l9.length+r.lx.length)
theorem great_sm {r:Ru} (h:yfi r=false):r.Sm 600:=by
 rw [yfi,decide_eq_false_iff_not] at h
 exact ⟨by omega,by omega,by omega,by omega,by omega,by omega⟩
theorem yio (r:Ru) (w:World) (hm:r.Sm 281474976710656):Calls Tryz.prog 6 #[ruv r] w fun e w'=>e= .returned (.bool (yfi r))∧Below w.heap.size w w':=by
 obtain ⟨n5,n6,n7,n8,n9,nx⟩:=hm
 have HB:Hid (Below w.heap.size w (w.alloc (.cells (yai r).toArray 25))):=yaa (Below.refl _ _) (zG _)
 have hd:Hid (yfi r=decide ((600:Int) < (r.l5.length:Int)+r.l6.length+r.l7.length+r.l8.length+r.l9.length+r.lx.length)):=by
  show _ = _
  rw [yfi,decide_eq_decide]; omega
 rw [hd.out]
 clear hd
 go_enter Tryz.func6,Tryz.ntmps6
 go_wp2
 go_ret
 exact ⟨rfl,HB.out⟩
abbrev nsL (r:Ru):List Int:=r.l7.map (·.1)
theorem yi2 (l:List (Int × Int)) (k:Nat) (h:k < l.length):ints ((l.map (·.1)).take (k+1))=ints ((l.map (·.1)).take k) ++ [.int .i64 l[k].1]:=by
 rw [yam (l.map (·.1)) k (by rw [List.length_map]; exact h),ydq,List.getElem_map]; rfl
theorem Ns_any (a:Option Addr) (cap:Nat) (l:List (Int × Int)) (w:World) (hl:l.length≤1000000) (hs:Sl w a (nths l)) :
  Calls Tryz.prog 123 #[.slice a l.length cap] w fun e w'=>∃v,e= .returned v∧w'.ownsRow w.heap.size 3 1 v l.length (ints (l.map (·.1)))∧Below w.heap.size w w':=by
 have Hs:=hid hs
 have hlI:(l.length:Int)≤1000000:=by omega
 have Hsn:=hid (yi2 l)
 have Hln:Hid ((l.map (·.1)).length=l.length):=List.length_map _
 obtain ⟨m,hm⟩:∃m,l.map (·.1)=m:=⟨_,rfl⟩
 rw [hm] at Hsn Hln⊢
 clear hs hm
 go_enter Tryz.func123,Tryz.ntmps123
 go_wp2
 go_loopw [3,4] (fun v i wr=>∃(k cp:Nat) (ad:Option Addr),i= .int .i64 k∧k≤l.length∧v= .slice ad k cp∧wr.ownsRow w.heap.size 3 1 (.slice ad k cp) k (ints (m.take k))∧Below w.heap.size w wr) (fun _ i _=>l.length - (intOf i).toNat)
 case atStart=>exact ⟨0,0,none,rfl,by omega,rfl,World.ownsRow_nil _ _ _ _,Below.refl _ _⟩
 case round=>
  obtain ⟨k,cp,ad,rfl,hk,rfl,hown,hB⟩:=hrel
  by_cases hlt:k < l.length
  ·obtain ⟨b,off,rfl,hb,hc⟩:=Hs.out.atNth hlt
   have e1:=(hB.cell (p:=⟨b,off+k * 2,none⟩) hb).trans (hc k hlt).1
   have ht:=hid (Hsn.out k hlt)
   have hsz:=hB.size
   obtain ⟨y,hy⟩:∃y,l[k]=y:=⟨_,rfl⟩
   rw [hy] at e1 ht
   clear hc hy
   go_wp2_with (at_builtin; refine app1 eInt (.tmp 11) (.tmp 17) rfl rfl rfl rfl rfl hown rfl (by omega) (by omega) hsz ?_)
   intro a' cap' w' hown2 hg2 hb2 hf2
   have hB2:=hB.trans hb2
   rw [←ht.out] at hown2
   go_wp2
   exact ⟨⟨k+1,cap',a',by go_num,by omega,rfl,hown2,hB2⟩,by simp [intOf]; omega⟩
  ·have hke:k=l.length:=by omega
   have Hke:=hid hke
   clear hke
   go_wp2
   go_ret
   refine ⟨_,rfl,?_,hB⟩
   have h:=hown
   rw [Hke.out,←Hln.out,List.take_length,Hln.out] at h
   rw [Hke.out]
   exact h
end
section
open Go.RowKit
theorem yfp (r:Ru) (w:World) (hr:RuS w r) (hm:r.l7.length≤1000000) :
  Calls Tryz.prog 120 #[ruv r] w fun e w'=>∃v,e= .returned v∧w'.ownsRow w.heap.size 3 1 v r.l7.length (ints (nsL r))∧Below w.heap.size w w':=by
 have Hs:=hid hr.s7
 have hlI:(r.l7.length:Int)≤1000000:=by omega
 have HB0:Below w.heap.size w (w.alloc (.cells (yai r).toArray 25)):=yaa (Below.refl _ _) (zG _)
 have Hsn:=hid (yi2 r.l7)
 have Hln:Hid ((nsL r).length=r.l7.length):=List.length_map _
 obtain ⟨m,hmm⟩:∃m,nsL r=m:=⟨_,rfl⟩
 rw [show r.l7.map (·.1)=nsL r from rfl] at Hsn
 rw [hmm] at Hsn Hln⊢
 have HB:=hid HB0
 clear hmm hr HB0
 go_enter Tryz.func120,Tryz.ntmps120
 go_wp2
 go_loopw [3,9] (fun v i wr=>∃(k cp:Nat) (ad:Option Addr),i= .int .i64 k∧k≤r.l7.length∧v= .slice ad k cp∧wr.ownsRow w.heap.size 3 1 (.slice ad k cp) k (ints (m.take k))∧Below w.heap.size w wr) (fun _ i _=>r.l7.length - (intOf i).toNat)
 case atStart=>exact ⟨0,0,none,rfl,by omega,rfl,World.ownsRow_nil _ _ _ _,HB.out⟩
 case round=>
  obtain ⟨k,cp,ad,rfl,hk,rfl,hown,hB⟩:=hrel
  by_cases hlt:k < r.l7.length
  ·obtain ⟨b,off,ha7,hb,hc⟩:=Hs.out.atNth hlt
   have e1:=(hB.cell (p:=⟨b,off+k * 2,none⟩) hb).trans (hc k hlt).1
   have e2:=(hB.cell (p:=⟨b,off+k * 2+1,none⟩) hb).trans (hc k hlt).2
   have ht:=hid (Hsn.out k hlt)
   have hsz:=hB.size
   obtain ⟨y,hy⟩:∃y,r.l7[k]=y:=⟨_,rfl⟩
   rw [hy] at e1 e2 ht
   rw [ha7]
   have hown':=yii wr (.cells #[.int .i64 y.1, .int .i64 y.2] 72) hown
   have hn:=yaa (o:= .cells #[.int .i64 y.1, .int .i64 y.2] 72) hB hsz
   have hsz':w.heap.size≤(wr.alloc (.cells #[.int .i64 y.1, .int .i64 y.2] 72)).heap.size:=hn.size
   clear hc hy
   go_wp2_with (at_builtin; refine app1 eInt (.tmp 13) (.tmp 16) rfl rfl rfl rfl (by simp only [zzN]) hown' rfl (by omega) (by omega) hsz' ?_)
   intro a' cap' w' hown2 hg2 hb2 hf2
   have hB2:=hn.trans hb2
   rw [←ht.out] at hown2
   go_wp2
   exact ⟨⟨k+1,cap',a',by go_num,by omega,rfl,hown2,hB2⟩,by simp [intOf]; omega⟩
  ·have hke:k=r.l7.length:=by omega
   have Hke:=hid hke
   clear hke
   go_wp2
   go_ret
   refine ⟨_,rfl,?_,hB⟩
   have h:=hown
   rw [Hke.out,←Hln.out,List.take_length,Hln.out] at h
   rw [Hke.out]
   exact h
theorem yhD (r:Ru) (w:World) (hr:RuS w r) (hm:r.l7.length≤1000000) :
  Calls Tryz.prog 70 #[ruv r] w fun e w'=>e= .returned (.bool (!outB 0 0 (nsL r)))∧Below w.heap.size w w':=by
 have hB0:Below w.heap.size w (w.alloc (.cells (yai r).toArray 25)):=yaa (Below.refl _ _) (zG _)
 have c1:=hid (yfp r _ (hr.below hB0) hm)
 have c2:=hid (fun a cap W hl hs=>ycv a cap (nsL r) 0 0 W hl hs)
 have Hln:Hid ((nsL r).length=r.l7.length):=List.length_map _
 have HB0:=hid hB0
 have Hm:=hid hm
 obtain ⟨m,hmm⟩:∃m,nsL r=m:=⟨_,rfl⟩
 rw [hmm] at c1 c2 Hln⊢
 clear hmm hr hB0 hm
 go_enter Tryz.func70,Tryz.ntmps70
 go_wp2_with fail
 refine c1.out.mono ?_
 rintro e w1 ⟨v,rfl,hown,hB1⟩
 obtain ⟨a,cap,rfl,hsl,-⟩:=ya6 hown
 have HB1:=hid (HB0.out.trans (hB1.mono HB0.out.size))
 have Hsl:=hid hsl
 clear hown hB1 hsl
 rw [←Hln.out]
 go_wp2_with fail
 refine (c2.out a cap w1 (by have:=Hln.out; have:=Hm.out; omega) Hsl.out).mono ?_
 rintro e w2 ⟨rfl,hB2⟩
 have HB2:=hid (HB1.out.trans (hB2.mono HB1.out.size))
 clear hB2
 go_wp2
 go_ret
 exact ⟨rfl,HB2.out⟩
end
section
open Go.RowKit
def RuB (W:World) (b:Nat) (r:Ru):Prop:=W.rangeAt b 0 (yai r)
theorem RuB.below {W W':World} {b B:Nat} {r:Ru} (h:RuB W b r) (hb:Below B W W') (hB:b < B):RuB W' b r:=fun j v hv=>(hb.cell (p:=⟨b,0+j,none⟩) hB).trans (h j v hv)
theorem yaJ (w:World) (r:Ru) (t:TypeId):RuB (w.alloc (.cells (yai r).toArray t)) w.heap.size r:=yau w _ _
theorem RuB.at {W:World} {b:Nat} {r:Ru} (h:RuB W b r) (j:Nat) {v:Value} (hv:(yai r)[j]? =some v):W.cell? ⟨b,j,none⟩=some v:=by
 have:=h j v hv
 rwa [zzn] at this
theorem RuB.nums {W:World} {b:Nat} {r:Ru} (h:RuB W b r):W.cell? ⟨b,0,none⟩=some (.int .i64 r.st)∧W.cell? ⟨b,1,none⟩=some (.int .i64 r.fq)∧W.cell? ⟨b,2,none⟩=some (.int .i64 r.iv)∧W.cell? ⟨b,3,none⟩=some (.int .i64 r.co)∧W.cell? ⟨b,4,none⟩=some (.int .i64 r.un):=
 ⟨h.at 0 rfl,h.at 1 rfl,h.at 2 rfl,h.at 3 rfl,h.at 4 rfl⟩
theorem RuB.lists {W:World} {b:Nat} {r:Ru} (h:RuB W b r):W.cell? ⟨b,5,none⟩=some (.slice r.a5 r.l5.length r.c5)∧W.cell? ⟨b,6,none⟩=some (.slice r.a6 r.l6.length r.c6)∧W.cell? ⟨b,7,none⟩=some (.slice r.a7 r.l7.length r.c7)∧
  W.cell? ⟨b,8,none⟩=some (.slice r.a8 r.l8.length r.c8)∧W.cell? ⟨b,9,none⟩=some (.slice r.a9 r.l9.length r.c9)∧W.cell? ⟨b,10,none⟩=some (.slice r.ax r.lx.length r.cx):=
 ⟨h.at 5 rfl,h.at 6 rfl,h.at 7 rfl,h.at 8 rfl,h.at 9 rfl,h.at 10 rfl⟩
def yde (r:Ru):Int:=
 if winB r.st=false then 4 else if unB r.fq=false then 4 else if r.iv < 1 then 4 else if 1000000000000000 < r.iv then 4 else if r.co < 0 then 4 else if 1000000000000000 < r.co then 4 else
 if r.un= -1 then 0 else if winB r.un=false then 4 else if 0 < r.co then 12 else 0
theorem Head_any (r:Ru) (w:World):Calls Tryz.prog 160 #[ruv r] w fun e w'=>e= .returned (.int .i64 (yde r))∧Below w.heap.size w w':=by
 have cI:=hid (fun W=>yft r.st W)
 have cU:=hid (fun W=>yft r.un W)
 have cN:=hid (fun W=>yjq r.fq W)
 have HB0:Hid (Below w.heap.size w (w.alloc (.cells (yai r).toArray 25))):=yaa (Below.refl _ _) (zG _)
 have HR0:=hid (yaJ w r 25)
 have Hs0:Hid (w.heap.size < (w.alloc (.cells (yai r).toArray 25)).heap.size):=by show _ < _; simp
 rw [yde]
 obtain ⟨i,hi⟩:∃q,winB r.st=q:=⟨_,rfl⟩
 obtain ⟨u,hu⟩:∃q,unB r.fq=q:=⟨_,rfl⟩
 obtain ⟨j,hj⟩:∃q,winB r.un=q:=⟨_,rfl⟩
 rw [hi] at cI⊢
 rw [hu] at cN⊢
 rw [hj] at cU⊢
 clear hi hu hj
 cases i
 ·rw [if_pos rfl]
  have HB1:=HB0
  clear HB0
  go_enter Tryz.func160,Tryz.ntmps160
  go_wp2_with fail
  refine (cI.out _).mono ?_
  rintro e w1 ⟨rfl,rfl⟩
  go_wp2
  go_ret
  exact ⟨rfl,HB1.out⟩
 rw [if_neg (by simp)]
 cases u
 ·rw [if_pos rfl]
  go_enter Tryz.func160,Tryz.ntmps160
  go_wp2_with fail
  refine (cI.out _).mono ?_
  rintro e w1 ⟨rfl,rfl⟩
  go_wp2_with fail
  refine (cN.out _).mono ?_
  rintro e w1 ⟨⟨s,rfl,hs⟩,hB1⟩
  have HB1:=hid (HB0.out.trans (hB1.mono (Nat.le_of_lt Hs0.out)))
  obtain ⟨k0,k1,k2,k3,k4⟩:=(HR0.out.below hB1 Hs0.out).nums
  clear hB1
  go_wp2
  go_ret
  exact ⟨rfl,HB1.out⟩
 rw [if_neg (by simp)]
 by_cases h0:r.iv < 1
 ·rw [if_pos h0]
  go_enter Tryz.func160,Tryz.ntmps160
  go_wp2_with fail
  refine (cI.out _).mono ?_
  rintro e w1 ⟨rfl,rfl⟩
  go_wp2_with fail
  refine (cN.out _).mono ?_
  rintro e w1 ⟨⟨s,rfl,hs⟩,hB1⟩
  have HB1:=hid (HB0.out.trans (hB1.mono (Nat.le_of_lt Hs0.out)))
  obtain ⟨k0,k1,k2,k3,k4⟩:=(HR0.out.below hB1 Hs0.out).nums
  clear hB1
  go_wp2
  go_ret
  exact ⟨rfl,HB1.out⟩
 rw [if_neg h0]
 by_cases h1:1000000000000000 < r.iv
 ·rw [if_pos h1]
  go_enter Tryz.func160,Tryz.ntmps160
  go_wp2_with fail
  refine (cI.out _).mono ?_
  rintro e w1 ⟨rfl,rfl⟩
  go_wp2_with fail
  refine (cN.out _).mono ?_
  rintro e w1 ⟨⟨s,rfl,hs⟩,hB1⟩
  have HB1:=hid (HB0.out.trans (hB1.mono (Nat.le_of_lt Hs0.out)))
  obtain ⟨k0,k1,k2,k3,k4⟩:=(HR0.out.below hB1 Hs0.out).nums
  clear hB1
  go_wp2
  go_ret
  exact ⟨rfl,HB1.out⟩
 rw [if_neg h1]
 by_cases h2:r.co < 0
 ·rw [if_pos h2]
  go_enter Tryz.func160,Tryz.ntmps160
  go_wp2_with fail
  refine (cI.out _).mono ?_
  rintro e w1 ⟨rfl,rfl⟩
  go_wp2_with fail
  refine (cN.out _).mono ?_
  rintro e w1 ⟨⟨s,rfl,hs⟩,hB1⟩
  have HB1:=hid (HB0.out.trans (hB1.mono (Nat.le_of_lt Hs0.out)))
  obtain ⟨k0,k1,k2,k3,k4⟩:=(HR0.out.below hB1 Hs0.out).nums
  clear hB1
  go_wp2
  go_ret
  exact ⟨rfl,HB1.out⟩
 rw [if_neg h2]
 by_cases h3:1000000000000000 < r.co
 ·rw [if_pos h3]
  go_enter Tryz.func160,Tryz.ntmps160
  go_wp2_with fail
  refine (cI.out _).mono ?_
  rintro e w1 ⟨rfl,rfl⟩
  go_wp2_with fail
  refine (cN.out _).mono ?_
  rintro e w1 ⟨⟨s,rfl,hs⟩,hB1⟩
  have HB1:=hid (HB0.out.trans (hB1.mono (Nat.le_of_lt Hs0.out)))
  obtain ⟨k0,k1,k2,k3,k4⟩:=(HR0.out.below hB1 Hs0.out).nums
  clear hB1
  go_wp2
  go_ret
  exact ⟨rfl,HB1.out⟩
 rw [if_neg h3]
 by_cases h4:r.un= -1
 ·rw [if_pos h4]
  have hb:(r.un != -1)=false:=by simp [h4]
  clear h4
  go_enter Tryz.func160,Tryz.ntmps160
  go_wp2_with fail
  refine (cI.out _).mono ?_
  rintro e w1 ⟨rfl,rfl⟩
  go_wp2_with fail
  refine (cN.out _).mono ?_
  rintro e w1 ⟨⟨s,rfl,hs⟩,hB1⟩
  have HB1:=hid (HB0.out.trans (hB1.mono (Nat.le_of_lt Hs0.out)))
  obtain ⟨k0,k1,k2,k3,k4⟩:=(HR0.out.below hB1 Hs0.out).nums
  clear hB1
  go_wp2
  go_ret
  exact ⟨rfl,HB1.out⟩
 rw [if_neg h4]
 have hb:(r.un != -1)=true:=by simp [h4]
 clear h4
 cases j
 ·rw [if_pos rfl]
  go_enter Tryz.func160,Tryz.ntmps160
  go_wp2_with fail
  refine (cI.out _).mono ?_
  rintro e w1 ⟨rfl,rfl⟩
  go_wp2_with fail
  refine (cN.out _).mono ?_
  rintro e w1 ⟨⟨s,rfl,hs⟩,hB1⟩
  have HB1:=hid (HB0.out.trans (hB1.mono (Nat.le_of_lt Hs0.out)))
  obtain ⟨k0,k1,k2,k3,k4⟩:=(HR0.out.below hB1 Hs0.out).nums
  clear hB1
  go_wp2_with fail
  refine (cU.out _).mono ?_
  rintro e w2 ⟨rfl,rfl⟩
  go_wp2
  go_ret
  exact ⟨rfl,HB1.out⟩
 rw [if_neg (by simp)]
 by_cases h5:0 < r.co
 ·rw [if_pos h5]
  go_enter Tryz.func160,Tryz.ntmps160
  go_wp2_with fail
  refine (cI.out _).mono ?_
  rintro e w1 ⟨rfl,rfl⟩
  go_wp2_with fail
  refine (cN.out _).mono ?_
  rintro e w1 ⟨⟨s,rfl,hs⟩,hB1⟩
  have HB1:=hid (HB0.out.trans (hB1.mono (Nat.le_of_lt Hs0.out)))
  obtain ⟨k0,k1,k2,k3,k4⟩:=(HR0.out.below hB1 Hs0.out).nums
  clear hB1
  go_wp2_with fail
  refine (cU.out _).mono ?_
  rintro e w2 ⟨rfl,rfl⟩
  go_wp2
  go_ret
  exact ⟨rfl,HB1.out⟩
 ·rw [if_neg h5]
  go_enter Tryz.func160,Tryz.ntmps160
  go_wp2_with fail
  refine (cI.out _).mono ?_
  rintro e w1 ⟨rfl,rfl⟩
  go_wp2_with fail
  refine (cN.out _).mono ?_
  rintro e w1 ⟨⟨s,rfl,hs⟩,hB1⟩
  have HB1:=hid (HB0.out.trans (hB1.mono (Nat.le_of_lt Hs0.out)))
  obtain ⟨k0,k1,k2,k3,k4⟩:=(HR0.out.below hB1 Hs0.out).nums
  clear hB1
  go_wp2_with fail
  refine (cU.out _).mono ?_
  rintro e w2 ⟨rfl,rfl⟩
  go_wp2
  go_ret
  exact ⟨rfl,HB1.out⟩
end
section
open Go.RowKit
theorem Part1_any (r:Ru) (w:World) (hr:RuS w r) (hm:r.Sm 1000000):Calls Tryz.prog 161 #[ruv r] w fun e w'=>e= .returned (.int .i64 (yaS 1 12 r.l5))∧Below w.heap.size w w':=by
 have hB0:Below w.heap.size w (w.alloc (.cells (yai r).toArray 25)):=yaa (Below.refl _ _) (zG _)
 have c1:=hid (ycl r.a5 r.c5 r.l5 1 12 _ (by have:=hm.n5; omega) (hr.below hB0).s5)
 have HB0:=hid hB0
 clear hB0 hr hm
 go_enter Tryz.func161,Tryz.ntmps161
 go_wp2_with fail
 refine c1.out.mono ?_
 rintro e w1 ⟨rfl,hB1⟩
 have HB1:=hid (HB0.out.trans (hB1.mono HB0.out.size))
 clear hB1
 go_wp2
 go_ret
 exact ⟨rfl,HB1.out⟩
theorem Part2_any (r:Ru) (w:World) (hr:RuS w r) (hm:r.Sm 1000000):Calls Tryz.prog 165 #[ruv r] w fun e w'=>e= .returned (.int .i64 (yaS 0 23 r.l8))∧Below w.heap.size w w':=by
 have hB0:Below w.heap.size w (w.alloc (.cells (yai r).toArray 25)):=yaa (Below.refl _ _) (zG _)
 have c1:=hid (ycl r.a8 r.c8 r.l8 0 23 _ (by have:=hm.n8; omega) (hr.below hB0).s8)
 have HB0:=hid hB0
 clear hB0 hr hm
 go_enter Tryz.func165,Tryz.ntmps165
 go_wp2_with fail
 refine c1.out.mono ?_
 rintro e w1 ⟨rfl,hB1⟩
 have HB1:=hid (HB0.out.trans (hB1.mono HB0.out.size))
 clear hB1
 go_wp2
 go_ret
 exact ⟨rfl,HB1.out⟩
theorem Part3_any (r:Ru) (w:World) (hr:RuS w r) (hm:r.Sm 1000000):Calls Tryz.prog 166 #[ruv r] w fun e w'=>e= .returned (.int .i64 (yaS 0 59 r.l9))∧Below w.heap.size w w':=by
 have hB0:Below w.heap.size w (w.alloc (.cells (yai r).toArray 25)):=yaa (Below.refl _ _) (zG _)
 have c1:=hid (ycl r.a9 r.c9 r.l9 0 59 _ (by have:=hm.n9; omega) (hr.below hB0).s9)
 have HB0:=hid hB0
 clear hB0 hr hm
 go_enter Tryz.func166,Tryz.ntmps166
 go_wp2_with fail
 refine c1.out.mono ?_
 rintro e w1 ⟨rfl,hB1⟩
 have HB1:=hid (HB0.out.trans (hB1.mono HB0.out.size))
 clear hB1
 go_wp2
 go_ret
 exact ⟨rfl,HB1.out⟩
theorem Part4_any (r:Ru) (w:World) (hr:RuS w r) (hm:r.Sm 1000000):Calls Tryz.prog 167 #[ruv r] w fun e w'=>e= .returned (.int .i64 (yaS 0 59 r.lx))∧Below w.heap.size w w':=by
 have hB0:Below w.heap.size w (w.alloc (.cells (yai r).toArray 25)):=yaa (Below.refl _ _) (zG _)
 have c1:=hid (ycl r.ax r.cx r.lx 0 59 _ (by have:=hm.nx; omega) (hr.below hB0).sx)
 have HB0:=hid hB0
 clear hB0 hr hm
 go_enter Tryz.func167,Tryz.ntmps167
 go_wp2_with fail
 refine c1.out.mono ?_
 rintro e w1 ⟨rfl,hB1⟩
 have HB1:=hid (HB0.out.trans (hB1.mono HB0.out.size))
 clear hB1
 go_wp2
 go_ret
 exact ⟨rfl,HB1.out⟩
def yeb (r:Ru):Int:=
 if yaS (-31) 31 r.l6=0 then (if r.l6.any (fun n=>n == 0)=true then 4 else if 0 < r.l6.length∧r.fq=4 then 12 else if mixB r.l6=true then 12 else 0) else yaS (-31) 31 r.l6
theorem ykr (r:Ru) (w:World) (hr:RuS w r) (hm:r.Sm 1000000):Calls Tryz.prog 163 #[ruv r] w fun e w'=>e= .returned (.int .i64 (yeb r))∧Below w.heap.size w w':=by
 have hB0:Below w.heap.size w (w.alloc (.cells (yai r).toArray 25)):=yaa (Below.refl _ _) (zG _)
 have c1:=hid (ycl r.a6 r.c6 r.l6 (-31) 31 _ (by have:=hm.n6; omega) (hr.below hB0).s6)
 have c2:=hid (fun W hs=>yiB r.a6 r.c6 r.l6 0 W (by have:=hm.n6; omega) hs)
 have c3:=hid (fun W hs=>yhF r.a6 r.c6 r.l6 W (by have:=hm.n6; omega) hs)
 have HB0:=hid hB0
 have HR0:=hid (yaJ w r 25)
 have Hs0:Hid (w.heap.size < (w.alloc (.cells (yai r).toArray 25)).heap.size):=by show _ < _; simp
 have H6:=hid (hr.below hB0).s6
 rw [yeb]
 obtain ⟨E,hE⟩:∃q,yaS (-31) 31 r.l6=q:=⟨_,rfl⟩
 obtain ⟨p,hp⟩:∃q,r.l6.any (fun n=>n == 0)=q:=⟨_,rfl⟩
 obtain ⟨m,hmx⟩:∃q,mixB r.l6=q:=⟨_,rfl⟩
 rw [hE] at c1⊢
 rw [hp] at c2⊢
 rw [hmx] at c3⊢
 clear hE hp hmx hr hm hB0
 by_cases hE0:E=0
 rotate_left
 ·rw [if_neg hE0]
  have hb:(E != 0)=true:=by simp [hE0]
  clear hE0
  go_enter Tryz.func163,Tryz.ntmps163
  go_wp2_with fail
  refine c1.out.mono ?_
  rintro e w1 ⟨rfl,hB1⟩
  have HB1:=hid (HB0.out.trans (hB1.mono HB0.out.size))
  clear hB1
  go_wp2
  go_ret
  exact ⟨rfl,HB1.out⟩
 subst hE0
 rw [if_pos rfl]
 cases p
 rotate_left
 ·rw [if_pos rfl]
  go_enter Tryz.func163,Tryz.ntmps163
  go_wp2_with fail
  refine c1.out.mono ?_
  rintro e w1 ⟨rfl,hB1⟩
  have HB1:=hid (HB0.out.trans (hB1.mono HB0.out.size))
  have HR1:=hid (HR0.out.below hB1 Hs0.out)
  have H61:=hid (H6.out.below hB1)
  obtain ⟨k5,k6,k7,k8,k9,kx⟩:=HR1.out.lists
  clear hB1
  go_wp2_with fail
  refine (c2.out _ H61.out).mono ?_
  rintro e w2 ⟨rfl,rfl⟩
  go_wp2
  go_ret
  exact ⟨rfl,HB1.out⟩
 rw [if_neg (by simp)]
 by_cases h0:0 < r.l6.length
 ·have h0I:(0:Int) < r.l6.length:=by omega
  by_cases h4:r.fq=4
  ·rw [if_pos ⟨h0,h4⟩]
   have hb4:(r.fq == 4)=true:=by simp [h4]
   clear h0 h4
   go_enter Tryz.func163,Tryz.ntmps163
   go_wp2_with fail
   refine c1.out.mono ?_
   rintro e w1 ⟨rfl,hB1⟩
   have HB1:=hid (HB0.out.trans (hB1.mono HB0.out.size))
   have HR1:=hid (HR0.out.below hB1 Hs0.out)
   have H61:=hid (H6.out.below hB1)
   obtain ⟨k5,k6,k7,k8,k9,kx⟩:=HR1.out.lists
   obtain ⟨k0,k1,k2,k3,k4⟩:=HR1.out.nums
   clear hB1
   go_wp2_with fail
   refine (c2.out _ H61.out).mono ?_
   rintro e w2 ⟨rfl,rfl⟩
   go_wp2
   go_ret
   exact ⟨rfl,HB1.out⟩
  ·rw [if_neg (fun h=>h4 h.2)]
   have hb4:(r.fq == 4)=false:=by simp [h4]
   clear h0 h4
   go_enter Tryz.func163,Tryz.ntmps163
   go_wp2_with fail
   refine c1.out.mono ?_
   rintro e w1 ⟨rfl,hB1⟩
   have HB1:=hid (HB0.out.trans (hB1.mono HB0.out.size))
   have HR1:=hid (HR0.out.below hB1 Hs0.out)
   have H61:=hid (H6.out.below hB1)
   obtain ⟨k5,k6,k7,k8,k9,kx⟩:=HR1.out.lists
   obtain ⟨k0,k1,k2,k3,k4⟩:=HR1.out.nums
   clear hB1
   go_wp2_with fail
   refine (c2.out _ H61.out).mono ?_
   rintro e w2 ⟨rfl,rfl⟩
   go_wp2_with fail
   refine (c3.out _ H61.out).mono ?_
   rintro e w2 ⟨rfl,rfl⟩
   cases m
   ·go_wp2
    go_ret
    exact ⟨rfl,HB1.out⟩
   ·go_wp2
    go_ret
    exact ⟨rfl,HB1.out⟩
 ·have h0I:¬(0:Int) < r.l6.length:=by omega
  rw [if_neg (fun h=>h0 h.1)]
  clear h0
  go_enter Tryz.func163,Tryz.ntmps163
  go_wp2_with fail
  refine c1.out.mono ?_
  rintro e w1 ⟨rfl,hB1⟩
  have HB1:=hid (HB0.out.trans (hB1.mono HB0.out.size))
  have HR1:=hid (HR0.out.below hB1 Hs0.out)
  have H61:=hid (H6.out.below hB1)
  obtain ⟨k5,k6,k7,k8,k9,kx⟩:=HR1.out.lists
  obtain ⟨k0,k1,k2,k3,k4⟩:=HR1.out.nums
  clear hB1
  go_wp2_with fail
  refine (c2.out _ H61.out).mono ?_
  rintro e w2 ⟨rfl,rfl⟩
  go_wp2_with fail
  refine (c3.out _ H61.out).mono ?_
  rintro e w2 ⟨rfl,rfl⟩
  cases m
  ·go_wp2
   go_ret
   exact ⟨rfl,HB1.out⟩
  ·go_wp2
   go_ret
   exact ⟨rfl,HB1.out⟩
end
section
open Go.RowKit
def yfE (o d m z f5 f6 n q:Bool):Int:=bif o || d then 4 else bif m || (z && (!f5 && !f6)) then 12 else bif (f5 || n) && q then 4 else 0
def ybJ (r:Ru):Int:=if 64 < r.l7.length then 5 else yfE (outB (-53) 53 (nsL r)) (r.l7.any dayP) (mixB (nsL r)) (outB 0 0 (nsL r)) (r.fq == 5) (r.fq == 6) (decide (0 < r.l5.length)) (outB (-5) 5 (nsL r))
theorem RuB.all {W:World} {b:Nat} {r:Ru} (h:RuB W b r):(W.cell? ⟨b,0,none⟩=some (.int .i64 r.st)∧W.cell? ⟨b,1,none⟩=some (.int .i64 r.fq)∧W.cell? ⟨b,2,none⟩=some (.int .i64 r.iv)∧W.cell? ⟨b,3,none⟩=some (.int .i64 r.co)∧W.cell? ⟨b,4,none⟩=some (.int .i64 r.un))∧
  W.cell? ⟨b,5,none⟩=some (.slice r.a5 r.l5.length r.c5)∧W.cell? ⟨b,6,none⟩=some (.slice r.a6 r.l6.length r.c6)∧W.cell? ⟨b,7,none⟩=some (.slice r.a7 r.l7.length r.c7)∧
  W.cell? ⟨b,8,none⟩=some (.slice r.a8 r.l8.length r.c8)∧W.cell? ⟨b,9,none⟩=some (.slice r.a9 r.l9.length r.c9)∧W.cell? ⟨b,10,none⟩=some (.slice r.ax r.lx.length r.cx):=⟨h.nums,h.lists⟩
structure WkS (w:World) (r:Ru) (a:Option Addr) (W:World):Prop where
 b:RuB W w.heap.size r
 s:RuS W r
 n:Sl W a (ints (nsL r))
 be:Below w.heap.size w W
 l:w.heap.size < W.heap.size
theorem WkS.keep {w W W':World} {r:Ru} {a:Option Addr} (h:WkS w r a W) (hb:Below W.heap.size W W'):WkS w r a W':=
 ⟨h.b.below hb h.l,h.s.below hb,h.n.below hb,h.be.trans (hb.mono (Nat.le_of_lt h.l)),zH h.l hb.size⟩
theorem yim (r:Ru) (w:World) (hr:RuS w r) (hm:r.Sm 1000000):Calls Tryz.prog 164 #[ruv r] w fun e w'=>e= .returned (.int .i64 (ybJ r))∧Below w.heap.size w w':=by
 have hB0:Below w.heap.size w (w.alloc (.cells (yai r).toArray 25)):=yaa (Below.refl _ _) (zG _)
 by_cases h64:64 < r.l7.length
 ·rw [ybJ,if_pos h64]
  have hI:(64:Int) < r.l7.length:=by omega
  have HB0:=hid hB0
  clear hB0 hr hm h64
  go_enter Tryz.func164,Tryz.ntmps164
  go_wp2
  go_ret
  exact ⟨rfl,HB0.out⟩
 have hI:¬(64:Int) < r.l7.length:=by omega
 have Hln:Hid ((nsL r).length=r.l7.length):=List.length_map _
 have c1:=hid (yfp r _ (hr.below hB0) hm.n7)
 have hSt:∀a W,Below (w.alloc (.cells (yai r).toArray 25)).heap.size (w.alloc (.cells (yai r).toArray 25)) W→Sl W a (ints (nsL r))→WkS w r a W:=fun a W hb hs=>
  ⟨(yaJ w r _).below hb (by simp),(hr.below hB0).below hb,hs,hB0.trans (hb.mono (by simp)),zH (by simp) hb.size⟩
 have HSt:=hid hSt
 have kA:=hid (fun a cap W (h:WkS w r a W)=>yax (by have h':=ycv a cap (nsL r) (-53) 53 W (by have:=hm.n7; have:=Hln.out; omega) h.n; rw [Hln.out] at h'; exact h') (fun _=>h.keep))
 have kB:=hid (fun a cap W (h:WkS w r a W)=>yax (by have h':=ycv a cap (nsL r) (-5) 5 W (by have:=hm.n7; have:=Hln.out; omega) h.n; rw [Hln.out] at h'; exact h') (fun _=>h.keep))
 have kM:Hid (∀a cap W,WkS w r a W→Calls Tryz.prog 184 #[.slice a r.l7.length cap] W fun e w'=>e= .returned (.bool (mixB (nsL r)))∧W=w'):=fun a cap W h=>by have h':=yhF a cap (nsL r) W (by have:=hm.n7; have:=Hln.out; omega) h.n; rw [Hln.out] at h'; exact h'
 have kC:=hid (fun a W (h:WkS w r a W)=>yax (yiA r.a7 r.c7 r.l7 W (by have:=hm.n7; omega) h.s.s7) (fun _=>h.keep))
 have kP:=hid (fun a W (h:WkS w r a W)=>yax (yhD r W h.s hm.n7) (fun _=>h.keep))
 rw [ybJ,if_neg h64]
 obtain ⟨n5,hn5⟩:∃q,decide (0 < r.l5.length)=q:=⟨_,rfl⟩
 obtain ⟨f5,hf5⟩:∃q,(r.fq == 5)=q:=⟨_,rfl⟩
 obtain ⟨f6,hf6⟩:∃q,(r.fq == 6)=q:=⟨_,rfl⟩
 have hf5':(r.fq != 5)= !f5:=by rw [bne,hf5]
 have hf6':(r.fq != 6)= !f6:=by rw [bne,hf6]
 have hn5':decide ((0:Int) < r.l5.length)=n5:=by rw [←hn5,decide_eq_decide]; omega
 obtain ⟨o,ho⟩:∃q,outB (-53) 53 (nsL r)=q:=⟨_,rfl⟩
 obtain ⟨d,hd⟩:∃q,r.l7.any dayP=q:=⟨_,rfl⟩
 obtain ⟨m,hmx⟩:∃q,mixB (nsL r)=q:=⟨_,rfl⟩
 obtain ⟨z,hz⟩:∃q,outB 0 0 (nsL r)=q:=⟨_,rfl⟩
 obtain ⟨q,hq⟩:∃q,outB (-5) 5 (nsL r)=q:=⟨_,rfl⟩
 rw [hn5,hf5,hf6,ho,hd,hmx,hz,hq]
 rw [ho] at kA
 rw [hd] at kC
 rw [hmx] at kM
 rw [hz] at kP
 rw [hq] at kB
 clear hr hm h64 hB0 hSt hn5 hf6 ho hd hmx hz hq
 go_enter Tryz.func164,Tryz.ntmps164
 go_wp2_with fail
 refine c1.out.mono ?_
 rintro e w1 ⟨v,rfl,hown,hB1⟩
 obtain ⟨a,cap,rfl,hsl,-⟩:=ya6 hown
 have hS:=HSt.out a w1 hB1 hsl
 clear hown hB1 hsl
 obtain ⟨⟨k0,k1,k2,k3,k4⟩,k5,k6,k7,k8,k9,kx⟩:=hS.b.all
 go_wp2_with fail
 refine (kA.out a cap w1 hS).mono ?_
 rintro e w2 ⟨rfl,hS2⟩
 clear k0 k1 k2 k3 k4 k5 k6 k7 k8 k9 kx
 obtain ⟨⟨k0,k1,k2,k3,k4⟩,k5,k6,k7,k8,k9,kx⟩:=hS2.b.all
 cases o
 rotate_left
 ·go_wp2
  go_ret
  exact ⟨rfl,hS2.be⟩
 go_wp2_with fail
 refine (kC.out a w2 hS2).mono ?_
 rintro e w3 ⟨rfl,hS3⟩
 clear k0 k1 k2 k3 k4 k5 k6 k7 k8 k9 kx
 obtain ⟨⟨k0,k1,k2,k3,k4⟩,k5,k6,k7,k8,k9,kx⟩:=hS3.b.all
 cases d
 rotate_left
 ·go_wp2
  go_ret
  exact ⟨rfl,hS3.be⟩
 go_wp2_with fail
 refine (kM.out a cap w3 hS3).mono ?_
 rintro e w4 ⟨rfl,rfl⟩
 cases m
 rotate_left
 ·go_wp2
  go_ret
  exact ⟨rfl,hS3.be⟩
 go_wp2_with fail
 refine (kP.out a w3 hS3).mono ?_
 rintro e w4 ⟨rfl,hS4⟩
 clear k0 k1 k2 k3 k4 k5 k6 k7 k8 k9 kx
 obtain ⟨⟨k0,k1,k2,k3,k4⟩,k5,k6,k7,k8,k9,kx⟩:=hS4.b.all
 cases z <;> cases f5 <;> cases f6 <;> cases n5
 all_goals
  simp only [Bool.not_true,Bool.not_false] at hf5' hf6'
  simp only [zzY,decide_eq_false_iff_not] at hn5'
  first
   | (go_wp2; go_ret; exact ⟨rfl,hS4.be⟩)
   | (go_wp2_with fail
      refine (kB.out a cap w4 hS4).mono ?_
      rintro e w5 ⟨rfl,hS5⟩
      cases q
      ·go_wp2
       go_ret
       exact ⟨rfl,hS5.be⟩
      ·go_wp2
       go_ret
       exact ⟨rfl,hS5.be⟩)
end
end Go.Proofs.YtjahgimnfliooaaGreatDoor
