/-
  ferialaw45.BoundLaps answers true.
-/
import Derived.Test.YtndfckpcbiecnaaLapAll
import Derived.Test.YtndfckpcbiecnaaBoundAll
namespace Go.Proofs.Ytndfckpcbiecnaa
open Go.RowKit
set_option linter.unusedVariables false

theorem per_pos {c : Cl} (h : perB c = true) : 0 ≤ perI c := by
  have hm : mayC c = true := by
    rw [perB, Bool.and_eq_true] at h
    exact h.1
  obtain ⟨-, hs, -, -⟩ := may_ord hm
  rw [perI, if_pos h]
  split
  · omega
  · split
    · exact Int.ediv_nonneg (by omega) (Int.natCast_nonneg _)
    · split
      · omega
      · split <;> omega
theorem own_ok {c : Cl} (h : c.Ok) : (ownCl c).Ok := ⟨full_ok.m, full_ok.od, full_ok.ys, full_ok.oin, h.unit, h.step, h.anchor, full_ok.fr, full_ok.un⟩
/-- two equal states -/
theorem cellsSt : Try.prog.cellsOf 98 = 4 := by kernel_rfl
theorem keySt : Try.prog.keyTypeAt 3 98 = true := by kernel_rfl
theorem formSt (a : Bool) (f u p : Int) : (stv a f u p).formed Try.prog 98 = true := by
  unfold Value.formed; simp only [Try.underlying98, cellsSt]; rfl
theorem lits_st (d : Nat) (a : Bool) (f u p : Int) (hf : i64B f) (hu : i64B u) (hp : i64B p) : Try.prog.keyLits (d + 2) 98 [.bool a, .int .i64 f, .int .i64 u, .int .i64 p] = some [.bool a, .int .i64 f, .int .i64 u, .int .i64 p] := by
  unfold Program.keyLits
  simp only [Try.underlying98]
  simp [cellsSt, cellsI, cellsI64, cellsBl, lits_i, lits_l, lits_b, hf, hu, hp]
def eqlStS (a b : Value) : Sem Value := binOp .eql 98 a b
theorem eql_stS (a b : Value) : binOp .eql 98 a b = eqlStS a b := rfl
attribute [local go_sem ↓] loadAt_cl storeAt_cl eql_stS
attribute [local go_sem] run_storeClS
theorem eqIn_st (a : Bool) (f u p : Int) (hf : i64B f) (hu : i64B u) (hp : i64B p) (w : World) : (Op.equalIn 10000 98 (stv a f u p) (stv a f u p)).run Try.prog w = .ok true w := by
  obtain ⟨r, hr, hi⟩ := run_equalIn_deep 9997 3 98 keySt w 3 3 _ _ _ _ (formSt a f u p) (formSt a f u p) (lits_st 1 a f u p hf hu hp) (lits_st 1 a f u p hf hu hp)
  obtain rfl : r = true := hi.mpr rfl
  exact hr
theorem eql_st (a : Bool) (f u p : Int) (hf : i64B f) (hu : i64B u) (hp : i64B p) (w : World) : (binOp .eql 98 (stv a f u p) (stv a f u p)).run Try.prog w = .ok (.bool true) w := by
  rw [run_eql_struct, eqIn_st a f u p hf hu hp w]; rfl
theorem eqlSt_run (a : Bool) (f u p : Int) (hf : i64B f) (hu : i64B u) (hp : i64B p) (w : World) : (eqlStS (stv a f u p) (stv a f u p)).run Try.prog w = .ok (.bool true) w := eql_st a f u p hf hu hp w
theorem phase_in (c : Cl) (n : Int) (hc : c.Ok) : i64B (phaseC c n) := by
  rw [phaseC]
  split
  · rename_i h
    have := hc.step
    unfold i64B at this ⊢
    have h1 := Int.emod_nonneg (whichI c.unit c.anchor - 86400 * n / sizeU c.unit) (b := c.step) (by omega)
    have h2 := Int.emod_lt_of_pos (whichI c.unit c.anchor - 86400 * n / sizeU c.unit) (b := c.step) (by omega)
    omega
  · exact ⟨by decide, by decide⟩
abbrev LdG (W : World) (b : Nat) (c : Cl) : Prop := (loadClS (.pointer (some ⟨b, 0, none⟩))).run Try.prog W = .ok (clv c) W
abbrev BdS (w : World) (C : Cl) (s r : Nat → Int) (b8 b9 b11 : Nat) (W : World) : Prop :=
  LdG W b8 C ∧ (ShS W b9 s ∧ ShS W b11 r) ∧ ClB W b8 C ∧ Below w.heap.size w W ∧ b8 < W.heap.size ∧ b9 < W.heap.size ∧ b11 < W.heap.size ∧ w.heap.size ≤ W.heap.size
theorem BdS.keep {w W W' : World} {C : Cl} {s r : Nat → Int} {b8 b9 b11 : Nat} (h : BdS w C s r b8 b9 b11 W) (hb : Below W.heap.size W W') : BdS w C s r b8 b9 b11 W' := by
  obtain ⟨_, ⟨h1, h2⟩, h3, h4, l8, l9, l11, hw⟩ := h
  have hs := hb.size
  have k := h3.below hb l8
  exact ⟨k.ld, ⟨h1.below hb l9, h2.below hb l11⟩, k, h4.trans (hb.mono hw), by omega, by omega, by omega, by omega⟩
set_option maxRecDepth 100000 in
set_option maxHeartbeats 12800000 in
theorem BoundLaps_walk (c : Cl) (d : Int) (w : World) (hc : c.Ok) (hd : 0 ≤ d ∧ d ≤ 4294967295) : Calls Try.prog 14 #[clv c, .int .u32 d] w fun e w' => e = .returned (.bool true) ∧ Below w.heap.size w w' := by
  obtain ⟨hd0, hd1⟩ := hd
  have cP := hid (fun W => CPeriod_any c W hc)
  have cV := hid (fun W => Lives45_any W)
  have hpos := fun (h : perB c = true) => per_pos h
  have l0 := (clB_new w c 28).ld
  have HC0 := hid ((clB_new w c 28))
  have HB0 : Hid (Below w.heap.size w (w.alloc (.cells (clList c).toArray 28))) := below_new (Below.refl _ _) (Nat.le_refl _)
  by_cases hpb : perB c = true
  rotate_left
  · have hpf : perB c = false := by simpa using hpb
    rw [hpf] at cP
    clear hpb hpf hpos hc
    go_enter Try.func14, Try.ntmps14
    go_wp2_with fail
    refine (cP.out _).mono ?_
    rintro e w1 ⟨rfl, hB1⟩
    have HB1 := hid (HB0.out.trans (hB1.mono (by simp only [World.size_alloc]; omega)))
    clear hB1
    go_wp2_with fail
    refine (cV.out _).mono ?_
    rintro e w2 ⟨rfl, hB2⟩
    have HB2 := hid (HB1.out.trans (hB2.mono HB1.out.size))
    clear hB2
    go_wp2
    go_ret
    exact ⟨rfl, HB2.out⟩
  have hp0 := hpos hpb
  by_cases hu4 : 4 < c.unit
  · rw [hpb] at cP
    clear hpb hpos hc
    go_enter Try.func14, Try.ntmps14
    go_wp2_with fail
    refine (cP.out _).mono ?_
    rintro e w1 ⟨rfl, hB1⟩
    have HB1 := hid (HB0.out.trans (hB1.mono (by simp only [World.size_alloc]; omega)))
    have HC1 := hid (HC0.out.below hB1 (by simp only [World.size_alloc]; omega))
    have Hs1 : Hid (w.heap.size < w1.heap.size) := by have := hB1.size; simp only [World.size_alloc] at this; show _ < _; omega
    have u10 := HC1.out.tail.1
    clear hB1 l0
    go_wp2_with fail
    refine (cV.out _).mono ?_
    rintro e w2 ⟨rfl, hB2⟩
    have HB2 := hid (HB1.out.trans (hB2.mono HB1.out.size))
    clear hB2
    go_wp2
    go_ret
    exact ⟨rfl, HB2.out⟩
  by_cases hpl : 146096 < perI c
  · rw [hpb] at cP
    clear hpb hpos hc
    obtain ⟨P, hP⟩ : ∃ P, perI c = P := ⟨_, rfl⟩
    rw [hP] at cP hp0 hpl
    clear hP
    go_enter Try.func14, Try.ntmps14
    go_wp2_with fail
    refine (cP.out _).mono ?_
    rintro e w1 ⟨rfl, hB1⟩
    have HB1 := hid (HB0.out.trans (hB1.mono (by simp only [World.size_alloc]; omega)))
    have HC1 := hid (HC0.out.below hB1 (by simp only [World.size_alloc]; omega))
    have Hs1 : Hid (w.heap.size < w1.heap.size) := by have := hB1.size; simp only [World.size_alloc] at this; show _ < _; omega
    have u10 := HC1.out.tail.1
    clear hB1 l0
    go_wp2_with fail
    refine (cV.out _).mono ?_
    rintro e w2 ⟨rfl, hB2⟩
    have HB2 := hid (HB1.out.trans (hB2.mono HB1.out.size))
    clear hB2
    go_wp2
    go_ret
    exact ⟨rfl, HB2.out⟩
  have hk0 : 0 ≤ d % 146097 := Int.emod_nonneg _ (by omega)
  have hk1 : d % 146097 < 146097 := Int.emod_lt_of_pos _ (by omega)
  by_cases hkl : 146096 < d % 146097 + perI c
  · rw [hpb] at cP
    clear hpb hpos hc
    obtain ⟨P, hP⟩ : ∃ P, perI c = P := ⟨_, rfl⟩
    rw [hP] at cP hp0 hpl hkl
    clear hP
    go_enter Try.func14, Try.ntmps14
    go_wp2_with fail
    refine (cP.out _).mono ?_
    rintro e w1 ⟨rfl, hB1⟩
    have HB1 := hid (HB0.out.trans (hB1.mono (by simp only [World.size_alloc]; omega)))
    have HC1 := hid (HC0.out.below hB1 (by simp only [World.size_alloc]; omega))
    have Hs1 : Hid (w.heap.size < w1.heap.size) := by have := hB1.size; simp only [World.size_alloc] at this; show _ < _; omega
    have u10 := HC1.out.tail.1
    clear hB1 l0
    go_wp2_with fail
    refine (cV.out _).mono ?_
    rintro e w2 ⟨rfl, hB2⟩
    have HB2 := hid (HB1.out.trans (hB2.mono HB1.out.size))
    clear hB2
    go_wp2
    go_ret
    exact ⟨rfl, HB2.out⟩
  have hm : mayC c = true := by
    have h := hpb
    rw [perB, Bool.and_eq_true] at h
    exact h.1
  have hst := state_law (k := d % 146097) hpb (by omega) hk0 hp0 (by omega)
  have cO1 := hid (fun W => LapOn_any (ownCl c) (d % 146097) W (own_ok hc) (own_may hm) rfl rfl hk0 (by omega))
  have cO2 := hid (fun W => LapOn_any (ownCl c) (d % 146097 + perI c) W (own_ok hc) (own_may hm) rfl rfl (by omega) (by omega))
  rw [← hst] at cO2
  have cS1 := hid (fun W => Shape_any (d % 146097) W hk0 hk1)
  have cS2 := hid (fun W => Shape_any (d % 146097 + perI c) W (by omega) (by omega))
  obtain ⟨a, f, u, p, hsv, hf, hu, hp⟩ : ∃ a f u p, stateV (ownCl c) (d % 146097) = stv a f u p ∧ i64B f ∧ i64B u ∧ i64B p := by
    rw [stateV]; split
    · exact ⟨_, _, _, _, rfl, ⟨by decide, by decide⟩, ⟨by decide, by decide⟩, phase_in _ _ (own_ok hc)⟩
    · exact ⟨_, _, _, _, rfl, ⟨by decide, by decide⟩, ⟨by decide, by decide⟩, ⟨by decide, by decide⟩⟩
  rw [hsv] at cO1 cO2
  have cE := hid (fun W => eqlSt_run a f u p hf hu hp W)
  rw [← shq_shF] at cS1 cS2 cO1 cO2
  obtain ⟨s, hs⟩ : ∃ s, shF (d % 146097) = s := ⟨_, rfl⟩
  obtain ⟨r, hr⟩ : ∃ s, shF (d % 146097 + perI c) = s := ⟨_, rfl⟩
  rw [hs] at cS1 cO1
  rw [hr] at cS2 cO2
  rw [shq] at cS1 cS2 cO1 cO2
  rw [hpb] at cP
  clear hs hr hsv hst hm hpb hpos hc hf hu hp
  obtain ⟨P, hP⟩ : ∃ P, perI c = P := ⟨_, rfl⟩
  rw [hP] at cP cS2 hp0 hpl hkl
  clear hP
  have cF := hid (fun W => RFull_any W)
  obtain ⟨F, hF⟩ : ∃ F, fullCl = F := ⟨_, rfl⟩
  rw [hF] at cF
  have hown : Hid (ownCl c = { F with unit := c.unit, step := c.step, anchor := c.anchor }) := by subst hF; rfl
  obtain ⟨C, hC⟩ : ∃ C, ownCl c = C := ⟨_, rfl⟩
  rw [hC] at cO1 cO2 hown
  clear hF hC
  go_enter Try.func14, Try.ntmps14
  go_wp2_with fail
  refine (cP.out _).mono ?_
  rintro e w1 ⟨rfl, hB1⟩
  have HB1 := hid (HB0.out.trans (hB1.mono (by simp only [World.size_alloc]; omega)))
  have HC1 := hid (HC0.out.below hB1 (by simp only [World.size_alloc]; omega))
  have Hs1 : Hid (w.heap.size < w1.heap.size) := by have := hB1.size; simp only [World.size_alloc] at this; show _ < _; omega
  have u10 := HC1.out.tail.1
  clear hB1 l0
  go_wp2_with fail
  refine (cF.out _).mono ?_
  rintro e w2 ⟨rfl, hB2⟩
  have HB2 : Hid (Below w.heap.size w w2) := HB1.out.trans (hB2.mono HB1.out.size)
  have HC2 := hid (HC1.out.below hB2 Hs1.out)
  have Hs2 : Hid (w.heap.size < w2.heap.size) := Nat.lt_of_lt_of_le Hs1.out hB2.size
  clear hB2 u10
  have hne : ¬ w.heap.size = w2.heap.size := by have := Hs2.out; omega
  have hne' : ¬ w2.heap.size = w.heap.size := by have := Hs2.out; omega
  have hth : (w2.alloc (.cells zL.toArray 28)).there w2.heap.size 0 30 := there_new w2 zL.toArray 28
  obtain ⟨t25, t26, t27, -, -⟩ := (HC2.out.below (putCl_below (below_new (o := .cells zL.toArray 28) (Below.refl w2.heap.size w2) (Nat.le_refl _)) (Nat.le_refl _) (clList F)) Hs2.out).tail
  have hCF : ClB (putCl (w2.alloc (.cells zL.toArray 28)) w2.heap.size (clList F)) w2.heap.size F := putCl_range _ rfl hth
  have htF : (putCl (w2.alloc (.cells zL.toArray 28)) w2.heap.size (clList F)).there w2.heap.size 0 30 := World.there_setCells hth _ _ _
  have q1 := hCF.at 25 rfl
  have q2 := hCF.at 26 rfl
  have q3 := hCF.at 27 rfl
  have f1 := there_fz htF 25 (by omega)
  have f2 := there_fz htF 26 (by omega)
  have f3 := there_fz htF 27 (by omega)
  have hsz : (putCl (w2.alloc (.cells zL.toArray 28)) w2.heap.size (clList F)).heap.size = w2.heap.size + 1 := by rw [putCl_eq, size_setCells, World.size_alloc]
  have hB3 : Below w.heap.size w (putCl (w2.alloc (.cells zL.toArray 28)) w2.heap.size (clList F)) := putCl_below (below_new HB2.out HB2.out.size) HB2.out.size _
  have HX : Hid (ClB ((((putCl (w2.alloc (.cells zL.toArray 28)) w2.heap.size (clList F)).setCell ⟨w2.heap.size, 25, none⟩ (.int .i64 c.unit)).setCell ⟨w2.heap.size, 26, none⟩ (.int .i64 c.step)).setCell ⟨w2.heap.size, 27, none⟩ (.int .i64 c.anchor)) w2.heap.size C ∧
      Below w.heap.size w ((((putCl (w2.alloc (.cells zL.toArray 28)) w2.heap.size (clList F)).setCell ⟨w2.heap.size, 25, none⟩ (.int .i64 c.unit)).setCell ⟨w2.heap.size, 26, none⟩ (.int .i64 c.step)).setCell ⟨w2.heap.size, 27, none⟩ (.int .i64 c.anchor)) ∧
      ((((putCl (w2.alloc (.cells zL.toArray 28)) w2.heap.size (clList F)).setCell ⟨w2.heap.size, 25, none⟩ (.int .i64 c.unit)).setCell ⟨w2.heap.size, 26, none⟩ (.int .i64 c.step)).setCell ⟨w2.heap.size, 27, none⟩ (.int .i64 c.anchor)).heap.size = w2.heap.size + 1) := by
    have hw := HB2.out.size
    refine ⟨?_, below_set (below_set (below_set hB3 hw) hw) hw, by rw [World.size_setCell, World.size_setCell, World.size_setCell]; exact hsz⟩
    rw [hown.out]
    exact ((hCF.setOne (i := 25) (c' := { F with unit := c.unit }) (by omega) rfl).setOne (i := 26) (c' := { F with unit := c.unit, step := c.step }) (by omega) rfl).setOne (i := 27) (by omega) rfl
  clear hCF htF hB3 hsz
  go_wp2_with fail
  refine (cS1.out _).mono ?_
  rintro e w3 ⟨rfl, hB3⟩
  clear t25 t26 t27 q1 q2 q3 f1 f2 f3 hth
  have HC3 := hid (HX.out.1.below hB3 (by rw [HX.out.2.2]; omega))
  have HB3 := hid (HX.out.2.1.trans (hB3.mono HX.out.2.1.size))
  have Hs3 : Hid (w2.heap.size < w3.heap.size ∧ w.heap.size ≤ w2.heap.size) := ⟨by have := hB3.size; rw [HX.out.2.2] at this; omega, HB2.out.size⟩
  clear hB3 HX
  have hn4 := below_new (o := .cells #[.int .i64 (s 0), .int .i64 (s 1), .int .i64 (s 2), .int .i64 (s 3), .int .i64 (s 4), .int .i64 (s 5), .int .i64 (s 6), .int .i64 (s 7), .int .i64 (s 8), .int .i64 (s 9)] 60) (Below.refl w3.heap.size w3) (Nat.le_refl _)
  have HC4 := hid (HC3.out.below hn4 Hs3.out.1)
  have HB4 := hid (HB3.out.trans (hn4.mono HB3.out.size))
  have HQ4 : Hid (ShS (w3.alloc (.cells #[.int .i64 (s 0), .int .i64 (s 1), .int .i64 (s 2), .int .i64 (s 3), .int .i64 (s 4), .int .i64 (s 5), .int .i64 (s 6), .int .i64 (s 7), .int .i64 (s 8), .int .i64 (s 9)] 60)) w3.heap.size s) := shC_new w3 _ _ _ _ _ _ _ _ _ _ _
  clear hn4
  go_wp2_with fail
  refine (cS2.out _).mono ?_
  rintro e w5 ⟨rfl, hB5⟩
  have HC5 := hid (HC4.out.below hB5 (by have := Hs3.out.1; simp only [World.size_alloc]; omega))
  have HB5 := hid (HB4.out.trans (hB5.mono (by have := Hs3.out; simp only [World.size_alloc]; omega)))
  have HQ5 := hid (HQ4.out.below hB5 (by simp only [World.size_alloc]; omega))
  have Hs5 : Hid (w3.heap.size < w5.heap.size) := by have := hB5.size; simp only [World.size_alloc] at this; show _ < _; omega
  clear hB5
  have hn6 := below_new (o := .cells #[.int .i64 (r 0), .int .i64 (r 1), .int .i64 (r 2), .int .i64 (r 3), .int .i64 (r 4), .int .i64 (r 5), .int .i64 (r 6), .int .i64 (r 7), .int .i64 (r 8), .int .i64 (r 9)] 60) (Below.refl w5.heap.size w5) (Nat.le_refl _)
  have HS0 : Hid (BdS w C s r w2.heap.size w3.heap.size w5.heap.size (w5.alloc (.cells #[.int .i64 (r 0), .int .i64 (r 1), .int .i64 (r 2), .int .i64 (r 3), .int .i64 (r 4), .int .i64 (r 5), .int .i64 (r 6), .int .i64 (r 7), .int .i64 (r 8), .int .i64 (r 9)] 60)).drew) := by
    have h1 := Hs3.out
    have h2 := Hs5.out
    have h3 := HC5.out.below hn6 (by omega)
    have h : BdS w C s r w2.heap.size w3.heap.size w5.heap.size (w5.alloc (.cells #[.int .i64 (r 0), .int .i64 (r 1), .int .i64 (r 2), .int .i64 (r 3), .int .i64 (r 4), .int .i64 (r 5), .int .i64 (r 6), .int .i64 (r 7), .int .i64 (r 8), .int .i64 (r 9)] 60)) :=
      ⟨h3.ld, ⟨HQ5.out.below hn6 h2, shC_new w5 _ _ _ _ _ _ _ _ _ _ _⟩, h3, HB5.out.trans (hn6.mono HB5.out.size), by simp only [World.size_alloc]; omega, by simp only [World.size_alloc]; omega, by simp only [World.size_alloc]; omega, by simp only [World.size_alloc]; omega⟩
    exact h.keep (Below.refl _ _).drew
  clear hn6
  obtain ⟨b8, hb8⟩ : ∃ b, w2.heap.size = b := ⟨_, rfl⟩
  obtain ⟨b9, hb9⟩ : ∃ b, w3.heap.size = b := ⟨_, rfl⟩
  rw [hb8, hb9] at HS0
  rw [hb8, hb9]
  clear hb8 hb9 HC5 HC4 HC3 HC2 HC1 HC0 HQ4 HQ5 hown
  have kA := hid (fun W (h : BdS w C s r b8 b9 w5.heap.size W) => keep_of' (cO1.out W) (fun _ => h.keep))
  have kB := hid (fun W (h : BdS w C s r b8 b9 w5.heap.size W) => keep_of' (cO2.out W) (fun _ => h.keep))
  have kL := hid (fun W (h : BdS w C s r b8 b9 w5.heap.size W) => keep_of' (cV.out W) (fun _ => h.keep))
  go_wp2_with fail
  refine wp_region_held_drew (S := fun w' => BdS w C s r b8 b9 w5.heap.size w') (by kernel_rfl) HS0.out (fun hHeld => ?_)
  refine wpAnyH_take (i := 0) (v := ?_) rfl (by kernel_rfl) (by kernel_rfl) (by kernel_rfl) (fun _ _ _ h => h) (Or.inl ⟨by rfl, ?_⟩) (by assumption) ?_
  rotate_left
  · intro w hSw; (try dsimp only [RMS] at hSw); go_simp; (try with_reducible rfl)
  (try simp only [Act.put, List.getElem_toArray, List.getElem_cons_zero, List.setIfInBounds_toArray, List.set_cons_zero, List.set_cons_succ])
  refine wpAnyH_take (i := 1) (v := ?_) rfl (by kernel_rfl) (by kernel_rfl) (by kernel_rfl) (fun _ _ _ h => h) (Or.inl ⟨by rfl, ?_⟩) (by assumption) ?_
  rotate_left
  · intro w hSw; (try dsimp only [RMS] at hSw); go_simp; (try with_reducible rfl)
  (try simp only [Act.put, List.getElem_toArray, List.getElem_cons_succ, List.getElem_cons_zero, List.setIfInBounds_toArray, List.set_cons_zero, List.set_cons_succ])
  refine wpAnyH_take (i := 2) (v := ?_) rfl (by kernel_rfl) (by kernel_rfl) (by kernel_rfl) (fun _ _ _ h => h) (Or.inl ⟨by rfl, ?_⟩) (by assumption) ?_
  rotate_left
  · intro w hSw; (try dsimp only [RMS] at hSw); go_simp; (try with_reducible rfl)
  (try simp only [Act.put, List.getElem_toArray, List.getElem_cons_succ, List.getElem_cons_zero, List.setIfInBounds_toArray, List.set_cons_zero, List.set_cons_succ])
  refine wpAnyH_take (i := 3) (v := ?_) rfl (by kernel_rfl) (by kernel_rfl) (by kernel_rfl) (fun _ _ _ h => h) (Or.inl ⟨by rfl, ?_⟩) (by assumption) ?_
  rotate_left
  · intro w hSw; (try dsimp only [RMS] at hSw); go_simp; (try with_reducible rfl)
  (try simp only [Act.put, List.getElem_toArray, List.getElem_cons_succ, List.getElem_cons_zero, List.setIfInBounds_toArray, List.set_cons_zero, List.set_cons_succ])
  refine wpAnyH_take (i := 4) (v := ?_) rfl (by kernel_rfl) (by kernel_rfl) (by kernel_rfl) (fun _ _ _ h => h) (Or.inl ⟨by rfl, ?_⟩) (by assumption) ?_
  rotate_left
  · intro w hSw; (try dsimp only [RMS] at hSw); go_simp; (try with_reducible rfl)
  (try simp only [Act.put, List.getElem_toArray, List.getElem_cons_succ, List.getElem_cons_zero, List.setIfInBounds_toArray, List.set_cons_zero, List.set_cons_succ])
  refine wpAnyH_take (i := 5) (v := ?_) rfl (by kernel_rfl) (by kernel_rfl) (by kernel_rfl) (fun _ _ _ h => h) (Or.inl ⟨by rfl, ?_⟩) (by assumption) ?_
  rotate_left
  · intro w hSw; (try dsimp only [RMS] at hSw); go_simp; (try with_reducible rfl)
  (try simp only [Act.put, List.getElem_toArray, List.getElem_cons_succ, List.getElem_cons_zero, List.setIfInBounds_toArray, List.set_cons_zero, List.set_cons_succ])
  refine wpAnyH_take (i := 6) (v := ?_) rfl (by kernel_rfl) (by kernel_rfl) (by kernel_rfl) (fun _ _ _ h => h) (Or.inl ⟨by rfl, ?_⟩) (by assumption) ?_
  rotate_left
  · intro w hSw; (try dsimp only [RMS] at hSw); go_simp; (try with_reducible rfl)
  (try simp only [Act.put, List.getElem_toArray, List.getElem_cons_succ, List.getElem_cons_zero, List.setIfInBounds_toArray, List.set_cons_zero, List.set_cons_succ])
  refine wpAnyH_take (i := 8) (v := ?_) rfl (by kernel_rfl) (by kernel_rfl) (by kernel_rfl) (fun _ _ _ h => h) (Or.inl ⟨by rfl, ?_⟩) (by assumption) ?_
  rotate_left
  · intro w hSw; (try dsimp only [RMS] at hSw); go_simp; (try with_reducible rfl)
  (try simp only [Act.put, List.getElem_toArray, List.getElem_cons_succ, List.getElem_cons_zero, List.setIfInBounds_toArray, List.set_cons_zero, List.set_cons_succ])
  refine wpAnyH_take (i := 9) (v := ?_) rfl (by kernel_rfl) (by kernel_rfl) (by kernel_rfl) (fun _ _ _ h => h) (Or.inl ⟨by rfl, ?_⟩) (by assumption) ?_
  rotate_left
  · intro w hSw; (try dsimp only [RMS] at hSw); go_simp; (try with_reducible rfl)
  (try simp only [Act.put, List.getElem_toArray, List.getElem_cons_succ, List.getElem_cons_zero, List.setIfInBounds_toArray, List.set_cons_zero, List.set_cons_succ])
  refine wpAnyH_ready (rs := [7]) (by kernel_rfl) (by simp) ?_
  refine AllReadyH.cons rfl (fun K hK => ?_) AllReadyH.nil
  go_simp
  refine (kA.out _ (by assumption)).mono ?_; rintro e wr ⟨rfl, hS⟩
  (try go_wp2_with fail)
  refine hK.out _ _ (by assumption) (fun hHeld => ?_)
  clear hK K
  (try simp only [Act.put, List.getElem_toArray, List.getElem_cons_succ, List.getElem_cons_zero, List.setIfInBounds_toArray, List.set_cons_zero, List.set_cons_succ])
  refine wpAnyH_ready (rs := [10]) (by kernel_rfl) (by simp) ?_
  refine AllReadyH.cons rfl (fun K hK => ?_) AllReadyH.nil
  go_simp
  refine (kB.out _ (by assumption)).mono ?_; rintro e wr ⟨rfl, hS⟩
  (try go_wp2_with fail)
  refine hK.out _ _ (by assumption) (fun hHeld => ?_)
  clear hK K
  (try simp only [Act.put, List.getElem_toArray, List.getElem_cons_succ, List.getElem_cons_zero, List.setIfInBounds_toArray, List.set_cons_zero, List.set_cons_succ])
  refine wpAnyH_take (i := 11) (v := ?_) rfl (by kernel_rfl) (by kernel_rfl) (by kernel_rfl) (fun _ _ _ h => h) (Or.inl ⟨by rfl, ?_⟩) (by assumption) ?_
  rotate_left
  · intro w hSw; (try dsimp only [RMS] at hSw); go_simp; rw [cE.out, Result.andThen_ok]
  (try simp only [Act.put, List.getElem_toArray, List.getElem_cons_succ, List.getElem_cons_zero, List.setIfInBounds_toArray, List.set_cons_zero, List.set_cons_succ])
  refine wpAnyH_take (i := 12) (v := ?_) rfl (by kernel_rfl) (by kernel_rfl) (by kernel_rfl) (fun _ _ _ h => h) (Or.inl ⟨by rfl, ?_⟩) (by assumption) ?_
  rotate_left
  · intro w hSw; (try dsimp only [RMS] at hSw); go_simp; (try with_reducible rfl)
  (try simp only [Act.put, List.getElem_toArray, List.getElem_cons_succ, List.getElem_cons_zero, List.setIfInBounds_toArray, List.set_cons_zero, List.set_cons_succ])
  refine wpAnyH_take (i := 13) (v := ?_) rfl (by kernel_rfl) (by kernel_rfl) (by kernel_rfl) (fun _ _ _ h => h) (Or.inl ⟨by rfl, ?_⟩) (by assumption) ?_
  rotate_left
  · intro w hSw; (try dsimp only [RMS] at hSw); go_simp; (try with_reducible rfl)
  (try simp only [Act.put, List.getElem_toArray, List.getElem_cons_succ, List.getElem_cons_zero, List.setIfInBounds_toArray, List.set_cons_zero, List.set_cons_succ])
  refine wpAnyH_ready (rs := [14]) (by kernel_rfl) (by simp) ?_
  refine AllReadyH.cons rfl (fun K hK => ?_) AllReadyH.nil
  go_simp
  refine (kL.out _ (by assumption)).mono ?_; rintro e wr ⟨rfl, hS⟩
  (try go_wp2_with fail)
  refine hK.out _ _ (by assumption) (fun hHeld => ?_)
  clear hK K
  (try simp only [Act.put, List.getElem_toArray, List.getElem_cons_succ, List.getElem_cons_zero, List.setIfInBounds_toArray, List.set_cons_zero, List.set_cons_succ])
  refine wpAnyH_take (i := 15) (v := ?_) rfl (by kernel_rfl) (by kernel_rfl) (by kernel_rfl) (fun _ _ _ h => h) (Or.inl ⟨by rfl, ?_⟩) (by assumption) ?_
  rotate_left
  · intro w hSw; (try dsimp only [RMS] at hSw); go_simp; (try with_reducible rfl)
  (try simp only [Act.put, List.getElem_toArray, List.getElem_cons_succ, List.getElem_cons_zero, List.setIfInBounds_toArray, List.set_cons_zero, List.set_cons_succ])
  refine wpAnyH_take (i := 16) (v := ?_) rfl (by kernel_rfl) (by kernel_rfl) (by kernel_rfl) (fun _ _ _ h => h) (Or.inl ⟨by rfl, ?_⟩) (by assumption) ?_
  rotate_left
  · intro w hSw; (try dsimp only [RMS] at hSw); go_simp; (try with_reducible rfl)
  (try simp only [Act.put, List.getElem_toArray, List.getElem_cons_succ, List.getElem_cons_zero, List.setIfInBounds_toArray, List.set_cons_zero, List.set_cons_succ])
  refine wpAnyH_done (by kernel_rfl) ?_ _
  have HV := hid ‹BdS w C s r b8 b9 w5.heap.size _›
  go_wp2
  go_ret
  exact ⟨rfl, HV.out.2.2.2.1⟩
end Go.Proofs.Ytndfckpcbiecnaa
