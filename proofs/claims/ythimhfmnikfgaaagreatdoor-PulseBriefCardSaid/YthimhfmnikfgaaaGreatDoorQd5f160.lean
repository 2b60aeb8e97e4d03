/-
  lap.Laps' function on a day of the span of a clause that may not be.
-/
import Derived.Test.YthimhfmnikfgaaaGreatDoorQ62a20e
namespace Go.Proofs.YthimhfmnikfgaaaGreatDoor
open Go.RowKit
set_option linter.unusedVariables false
set_option maxRecDepth 100000 in
set_option maxHeartbeats 3200000 in
theorem LapFnN_any (n F U:Int) (b7 b5 b6 b3 b4 b1:Nat) (w:World) (hlo:F≤n) (hhi:n≤U)
  (l7:b7 < w.heap.size) (l5:b5 < w.heap.size) (l6:b6 < w.heap.size) (l3:b3 < w.heap.size) (k3:w.cell? ⟨b3,0,none⟩=some (.func (.func 191) #[] #[]))
  (k7:w.cell? ⟨b7,0,none⟩=some (.bool true)) (k5:w.cell? ⟨b5,0,none⟩=some (.int .i64 F)) (k6:w.cell? ⟨b6,0,none⟩=some (.int .i64 U)) :
  Calls Tryz.prog 166 #[shN n, .pointer (some ⟨b7,0,none⟩), .pointer (some ⟨b5,0,none⟩), .pointer (some ⟨b6,0,none⟩), .pointer (some ⟨b3,0,none⟩), .pointer (some ⟨b4,0,none⟩), .pointer (some ⟨b1,0,none⟩)] w fun e w'=>e= .returned (stv false 0 0 0)∧Below w.heap.size w w':=by
 have hn0:shF n 0=n:=rfl
 have HC:=hid (fun W=>CD1_any n W)
 rw [←shq_shF] at HC⊢
 obtain ⟨s,hs⟩:∃s,shF n=s:=⟨_,rfl⟩
 rw [hs] at hn0 HC⊢
 clear hs
 rw [shq] at HC⊢
 obtain rfl:s 0=n:=hn0
 have hB0:Below w.heap.size w ((w.alloc (.cells (shList s).toArray 124)).alloc (.cells #[.bool false, .int .i64 0, .int .i64 0, .int .i64 0] 244)):=below_new (below_new (Below.refl _ _) (zG _)) (by simp)
 have hF0:Four ((w.alloc (.cells (shList s).toArray 124)).alloc (.cells #[.bool false, .int .i64 0, .int .i64 0, .int .i64 0] 244)) (w.heap.size+1) (.bool false) (.int .i64 0) (.int .i64 0) (.int .i64 0):=by
  have h:=four_new (w.alloc (.cells (shList s).toArray 124)) (.bool false) (.int .i64 0) (.int .i64 0) (.int .i64 0) 244
  rw [World.size_alloc] at h
  exact h
 have m7:=(hB0.cell (p:=⟨b7,0,none⟩) l7).trans k7
 have m5:=(hB0.cell (p:=⟨b5,0,none⟩) l5).trans k5
 have m6:=(hB0.cell (p:=⟨b6,0,none⟩) l6).trans k6
 have m3:=(hB0.cell (p:=⟨b3,0,none⟩) l3).trans k3
 have HB0:=hid hB0
 have HF0:=hid hF0
 clear hB0 hF0 k7 k5 k6 l7 l5 l6 k3 l3
 have h1:¬s 0 < F:=by omega
 have h2:¬U < s 0:=by omega
 go_enter Tryz.func166,Tryz.ntmps166
 go_wp2_with fail
 refine (HC.out _).mono ?_
 rintro e w1 ⟨rfl,hB1⟩
 have HB1:Hid (Below w.heap.size w w1):=HB0.out.trans (hB1.mono (by simp only [World.size_alloc]; omega))
 have HF1:=hid (HF0.out.below hB1 (by simp only [World.size_alloc]; omega))
 clear hB1 m7 m5 m6 m3 HC HF0 HB0
 obtain ⟨⟨a0,a1,a2,a3⟩,f0,f1,f2,f3⟩:=HF1.out
 go_wp2
 exact bodyPost_ret (results_cell_mid rfl _ _ (w.heap.size+1) 0 _ _ rfl (HF1.out.put _ _ _ _) Tryz.underlying244 rfl infoSt) rfl ⟨rfl,below_set (below_set (below_set (below_set HB1.out (by omega)) (by omega)) (by omega)) (by omega)⟩
end Go.Proofs.YthimhfmnikfgaaaGreatDoor
