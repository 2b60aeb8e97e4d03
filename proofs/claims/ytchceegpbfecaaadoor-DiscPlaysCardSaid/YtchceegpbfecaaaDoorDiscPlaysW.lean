/-
  ferialaw15.DiscPlays answers true for every list, calls and second.
-/
import Derived.Test.YtchceegpbfecaaaDoorDiscPlaysLaw
import Derived.Test.YtchceegpbfecaaaDoorOpenDeeds
import Derived.Test.YtchceegpbfecaaaDoorInts
import Derived.Deep.RegionHeld3
import Derived.BigRegion
import Derived.Deep.Cut
namespace Go.Proofs.YtchceegpbfecaaaDoor
open Go.RowKit
set_option linter.unusedVariables false
attribute [local go_sem] zvalw znew

theorem dps_cell {w : World} {a : Option Addr} {ds : List De} (h : Sl w a (des ds)) {k : Nat} (hk : k < ds.length) :
    ∃ b off, a = some ⟨b, off, none⟩ ∧ b < w.heap.size ∧ w.cell? ⟨b, off + k * 4, none⟩ = some (.int .i64 ds[k].kind) ∧ w.cell? ⟨b, off + k * 4 + 1, none⟩ = some (.slice ds[k].a ds[k].l.length ds[k].ca) ∧
      w.cell? ⟨b, off + k * 4 + 2, none⟩ = some (.slice ds[k].b ds[k].m.length ds[k].cb) ∧ w.cell? ⟨b, off + k * 4 + 3, none⟩ = some (.bool ds[k].two) := by
  have hl := des_length ds
  obtain ⟨b, off, rfl, hlt, hc⟩ := Sl.at h (k := 4 * k) (by omega)
  have hg : ∀ (ds : List De) (k : Nat) (hk : k < ds.length) (r : Nat), r < 4 → (des ds)[4 * k + r]? = (deList ds[k])[r]? := by
    intro ds
    induction ds with
    | nil => intro k hk; simp at hk
    | cons d ds ih =>
      intro k hk r hr
      rw [des, List.flatMap_cons, ← des]
      cases k with
      | zero => rw [List.getElem?_append_left (by show _ < 4; omega)]; simp
      | succ k =>
        rw [List.getElem?_append_right (by show 4 ≤ _; omega), show 4 * (k + 1) + r - (deList d).length = 4 * k + r by show 4 * (k + 1) + r - 4 = _; omega, ih k (by simpa using hk) r hr]
        simp
  have key : ∀ r v, r < 4 → (deList ds[k])[r]? = some v → w.cell? ⟨b, off + k * 4 + r, none⟩ = some v := fun r v hr hv => by
    have h1 := hg ds k hk r hr
    rw [hv] at h1
    obtain ⟨h2, h3⟩ := List.getElem?_eq_some_iff.1 h1
    have := hc (4 * k + r) h2
    rw [h3] at this
    rw [show off + k * 4 + r = off + (4 * k + r) by omega]; exact this
  exact ⟨b, off, rfl, hlt, key 0 _ (by omega) rfl, key 1 _ (by omega) rfl, key 2 _ (by omega) rfl, key 3 _ (by omega) rfl⟩
/-- the state ahead of a call -/
structure PlS (W0 : World) (base bd : Nat) (q : Nat → Bool) (v : Value) (W : World) : Prop where
  disc : DiscAt W bd q
  own : W.ownsRow base 3 1 v (secL q).length (ints (secL q))
  be : Below W0.heap.size W0 W
  b0 : W0.heap.size ≤ bd
  b1 : bd < base
  b2 : base ≤ W.heap.size
theorem PlS.below {W0 : World} {base bd : Nat} {q : Nat → Bool} {v : Value} {W W' : World} (h : PlS W0 base bd q v W) (hB : Below W.heap.size W W') : PlS W0 base bd q v W' :=
  ⟨h.disc.below hB h.disc.lt, owns_below h.own hB (Nat.le_refl _), h.be.trans (hB.mono h.be.size), h.b0, h.b1, Nat.le_trans h.b2 hB.size⟩
/-- the same, with another list -/
def PmS (W0 : World) (base bd : Nat) (q : Nat → Bool) (v v2 : Value) (n2 : Nat) (xs2 : List Value) (W : World) : Prop := PlS W0 base bd q v W ∧ W.ownsRow base 3 1 v2 n2 xs2
theorem PmS.below {W0 : World} {base bd n2 : Nat} {q : Nat → Bool} {v v2 : Value} {xs2 : List Value} {W W' : World} (h : PmS W0 base bd q v v2 n2 xs2 W) (hB : Below W.heap.size W W') : PmS W0 base bd q v v2 n2 xs2 W' :=
  ⟨h.1.below hB, owns_below h.2 hB (Nat.le_refl _)⟩
set_option maxRecDepth 100000 in
set_option maxHeartbeats 6400000 in
theorem DiscPlays_walk (a : Option Addr) (cap : Nat) (l : List Int) (a2 : Option Addr) (cap2 : Nat) (ds : List De) (s : Int) (w : World) (hl : l.length ≤ 9223372036854775807) (hs : Sl w a (ints l)) (hl2 : ds.length ≤ 9223372036854775807) (hs2 : Sl w a2 (des ds)) (hd : ∀ d ∈ ds, DeS w d)
    (hsr : -9223372036854775808 ≤ s ∧ s ≤ 9223372036854775807) (hT : Tab w) :
    Calls Tryd.prog 3 #[.slice a l.length cap, .slice a2 ds.length cap2, .int .i64 s] w fun e w' => e = .returned (.bool true) ∧ Below w.heap.size w w' := by
  have cL := hid (fun W (h : Below w.heap.size w W) => lives15_any W (hT.later h))
  by_cases h1 : 300 < l.length
  · have qL := hid (cL.out w (Below.refl _ _))
    clear hs hs2 hd hT
    go_enter Tryd.func3, Tryd.ntmps3
    go_wp2_with fail
    refine qL.out.mono ?_
    rintro e w1 ⟨rfl, hB⟩
    have HB := hid hB
    clear hB
    go_wp2
    go_ret
    exact ⟨rfl, HB.out⟩
  by_cases h2 : 12 < ds.length
  · have qL := hid (cL.out w (Below.refl _ _))
    clear hs hs2 hd hT
    go_enter Tryd.func3, Tryd.ntmps3
    go_wp2_with fail
    refine qL.out.mono ?_
    rintro e w1 ⟨rfl, hB⟩
    have HB := hid hB
    clear hB
    go_wp2
    go_ret
    exact ⟨rfl, HB.out⟩
  have HT := hid hT
  have Hs2 := hid hs2
  have Hd := hid hd
  have c1 := hid (DOf_any a cap l w hl hs)
  have c2 := hid (fun W (hB : Below w.heap.size w W) => own_ret (ROf15_any a cap l W hl (hs.below hB)))
  clear hs hs2 hd hT
  go_enter Tryd.func3, Tryd.ntmps3
  go_wp2_with fail
  refine c1.out.mono ?_
  rintro e w1 ⟨rfl, hD1, hB1⟩
  have q2 := hid (c2.out w1 hB1)
  have HB1 := hid hB1
  have HD1 := hid hD1
  clear hB1 hD1
  go_wp2_with fail
  refine q2.out.mono ?_
  rintro e w2 ⟨ax, nx, cx, rfl, hnx, -, ho, hB2⟩
  obtain rfl := hnx.out
  have HP : Hid (PlS w w1.heap.size w.heap.size (memD l) (.slice ax (secL (memD l)).length cx) w2) := by
    exact ⟨HD1.out.below hB2 (Nat.lt_of_lt_of_le HD1.out.lt (Nat.le_refl _)), ho, HB1.out.trans (hB2.mono HB1.out.size), Nat.le_refl _, HD1.out.lt, hB2.size⟩
  obtain ⟨bd, hbd⟩ : ∃ b, w.heap.size = b := ⟨_, rfl⟩
  obtain ⟨base, hbase⟩ : ∃ b, w1.heap.size = b := ⟨_, rfl⟩
  have Hbd := hid hbd
  rw [hbase, hbd] at HP
  clear hB2 ho hnx q2 c1 c2 HB1 HD1 hbase
  rw [hbd]
  clear hbd
  go_wp2_with fail
  go_loopw [8, 9] (fun xv iv wr => ∃ (k : Nat) (q : Nat → Bool) (ax : Option Addr) (nx cx : Nat), iv = .int .i64 k ∧ k ≤ ds.length ∧ xv = .slice ax nx cx ∧ Hid (nx = (secL q).length ∧ PlS w base bd q xv wr)) (fun _ iv _ => ds.length - (intOf iv).toNat)
  case atStart => exact ⟨0, memD l, ax, _, cx, rfl, Nat.zero_le _, rfl, rfl, HP.out⟩
  case round =>
    clear HP
    obtain ⟨k, q, ax, nx, cx, rfl, hk, rfl, HP⟩ := hrel
    by_cases hkl : k < ds.length
    rotate_left
    · obtain rfl : k = ds.length := by omega
      have qL := hid (cL.out wr HP.out.2.be)
      clear hkl hk
      go_wp2_with fail
      refine qL.out.mono ?_
      rintro e w9 ⟨rfl, hB⟩
      have HB9 := hid (HP.out.2.be.trans (hB.mono HP.out.2.be.size))
      clear hB
      go_wp2
      go_ret
      exact ⟨rfl, HB9.out⟩
    obtain ⟨g, off, rfl, lg, e0, e1, e2, e3⟩ := dps_cell Hs2.out hkl
    have hdS := Hd.out _ (List.getElem_mem hkl)
    obtain ⟨d, hde⟩ : ∃ d, ds[k] = d := ⟨_, rfl⟩
    rw [hde] at e0 e1 e2 e3 hdS
    have HdS := hid hdS
    have hbe := HP.out.2.be
    have k0 := (hbe.cell (p := ⟨g, off + k * 4, none⟩) lg).trans e0
    have k1 := (hbe.cell (p := ⟨g, off + k * 4 + 1, none⟩) lg).trans e1
    have k2 := (hbe.cell (p := ⟨g, off + k * 4 + 2, none⟩) lg).trans e2
    have k3 := (hbe.cell (p := ⟨g, off + k * 4 + 3, none⟩) lg).trans e3
    have Hlg := hid lg
    have hkI : (k : Int) < ds.length := by omega
    have hk12 : (k : Int) < 12 := by omega
    have hk40 : k * 4 < 48 := by omega
    have E0 := hid (And.intro e0 (And.intro e1 (And.intro e2 e3)))
    clear e0 e1 e2 e3 hdS hbe lg hde
    by_cases hla : 300 < d.l.length
    · have qL := hid (cL.out wr HP.out.2.be)
      have d1 : decide ((300 : Int) < d.l.length) = true := decide_eq_true (by omega)
      clear hla
      go_wp2_with fail
      refine qL.out.mono ?_
      rintro e w9 ⟨rfl, hB⟩
      have HB9 := hid (HP.out.2.be.trans (hB.mono HP.out.2.be.size))
      clear hB
      go_wp2
      go_ret
      exact ⟨rfl, HB9.out⟩
    by_cases hlb : 300 < d.m.length
    · have qL := hid (cL.out wr HP.out.2.be)
      have d1 : decide ((300 : Int) < d.l.length) = false := decide_eq_false (by omega)
      have d2 : decide ((300 : Int) < d.m.length) = true := decide_eq_true (by omega)
      clear hla hlb
      go_wp2_with fail
      refine qL.out.mono ?_
      rintro e w9 ⟨rfl, hB⟩
      have HB9 := hid (HP.out.2.be.trans (hB.mono HP.out.2.be.size))
      clear hB
      go_wp2
      go_ret
      exact ⟨rfl, HB9.out⟩
    have d1 : decide ((300 : Int) < d.l.length) = false := decide_eq_false (by omega)
    have d2 : decide ((300 : Int) < d.m.length) = false := decide_eq_false (by omega)
    have hx0 := HP.out.2.own
    have hxl : nx ≤ 86400 := by rw [HP.out.1]; exact secL_len q
    have Hla := hid (show d.l.length ≤ 300 by omega)
    have Hlb := hid (show d.m.length ≤ 300 by omega)
    have Hxs := hid (owns_sl hx0)
    have Hxn := hid (owns_none hx0)
    have Hx0 := hid hx0
    have HZ := hid HP.out.2.b2
    have Hnx := hid HP.out.1
    have Hnl : Hid ((ints (secL q)).length = nx * 1) := by show _ = _; rw [ints_length, HP.out.1, Nat.mul_one]
    clear hla hlb hx0
    go_wp2_with (at_builtin; refine appN eInt (.tmp 53) (.tmp 54) rfl rfl rfl rfl (World.ownsRow_nil _ base _ _) Hnl.out Hxs.out Hxn.out (ints_oneCell _ _) (by omega) (by omega) HZ.out ?_)
    intro a3 cap3 w3 hown3 hg3 hb3 hf3
    have hB3 : Below wr.heap.size wr w3 := ⟨hg3.os, hg3.tape, hg3.output, hg3.size, fun b hb => hg3.block b hb (fun e => nomatch e)⟩
    have HP3 := hid (HP.out.2.below hB3)
    have Hall := hid hown3
    have kk1 := (hB3.cell (p := ⟨g, off + k * 4 + 1, none⟩) (World.block_lt_of_cell? _ _ k1)).trans k1
    have kk2 := (hB3.cell (p := ⟨g, off + k * 4 + 2, none⟩) (World.block_lt_of_cell? _ _ k2)).trans k2
    have kk3 := (hB3.cell (p := ⟨g, off + k * 4 + 3, none⟩) (World.block_lt_of_cell? _ _ k3)).trans k3
    have kk0 := (hB3.cell (p := ⟨g, off + k * 4, none⟩) (World.block_lt_of_cell? _ _ k0)).trans k0
    have Hg : Hid (g < w.heap.size) := Hlg.out
    have Hapa : Hid (∀ g off, d.a = some ⟨g, off, none⟩ → d.l ≠ [] → g ≠ bd) := fun g off e hne h => by
      rcases HdS.out.sa with h0 | ⟨b, o, e2, hb, -⟩
      · exact hne (by cases hl : d.l with | nil => rfl | cons x m => rw [hl] at h0; cases h0)
      · rw [e] at e2; cases e2; have := HP.out.2.b0; omega
    clear k0 k1 k2 k3 hown3 hg3 hb3 hf3 hB3
    by_cases hk0 : d.kind = 0
    · as_aux_lemma =>
        have hd0 : (d.kind == 0) = true := by simpa using hk0
        have qP := hid (DPutL_any bd q d.a d.ca d.l w3 (by have := Hla.out; omega) (HdS.out.sa.below HP3.out.be) (fun h g off e => Hapa.out g off e h) HP3.out.disc)
        obtain ⟨Q, hQ⟩ : ∃ Q, (fun k => q k || memD d.l k) = Q := ⟨_, rfl⟩
        rw [hQ] at qP
        have hdl : d.l.length ≤ 300 := Hla.out
        go_wp2_with fail
        refine qP.out.mono ?_
        rintro e w4 ⟨⟨np, rfl, hnp⟩, hD4, hE4⟩
        have hBe4 : Below w.heap.size w w4 := HP3.out.be.trans (hE4.below (by rintro b rfl; exact HP3.out.b0) HP3.out.be.size)
        have m1 := (hBe4.cell (p := ⟨g, off + k * 4 + 1, none⟩) Hlg.out).trans E0.out.2.1
        have Hall4 := hid (owns_agree Hall.out (fun b hb => hE4.block b (owns_lt Hall.out hb).2 (fun e => by have := (owns_lt Hall.out hb).1; have := HP3.out.b1; omega)))
        have Hsl4 := hid (HdS.out.sa.below hBe4)
        have Hna := hid HdS.out.na
        have Hnl2 : Hid ((ints d.l).length = d.l.length * 1) := by show _ = _; rw [ints_length, Nat.mul_one]
        have Hz4 : Hid (base ≤ w4.heap.size) := Nat.le_trans HP3.out.b2 hE4.size
        have Hnp := hid hnp
        have HD4 := hid hD4
        have HBe4 := hid hBe4
        clear hBe4 hE4 hD4 hnp kk0 kk1 kk2 kk3 qP
        go_wp2_with (at_builtin; refine appN eInt (.tmp 75) (.tmp 80) rfl rfl rfl rfl Hall4.out Hnl2.out Hsl4.out Hna.out (ints_oneCell _ _) (by omega) (by omega) Hz4.out ?_)
        intro a5 cap5 w5 hown5 hg5 hb5 hf5
        have hlen : (secL q ++ d.l).length = nx + d.l.length := by rw [List.length_append, Hnx.out]
        have hBe5 : Below w.heap.size w w5 := HBe4.out.trans (hb5.mono (by have := HP3.out.b0; have := HP3.out.b1; omega))
        have q6 := own_ret (ROf15_any a5 cap5 (secL q ++ d.l) w5 (by omega) (by rw [ints_append]; exact owns_sl hown5))
        rw [hlen, sec_put, hQ] at q6
        obtain ⟨Ln, hLn⟩ : ∃ L, secL Q = L := ⟨_, rfl⟩
        rw [hLn] at q6
        have HLn := hid hLn
        have q6 := hid q6
        have HD5 := hid (HD4.out.below hb5 HP3.out.b1)
        have HBe5 := hid hBe5
        have Hz5 : Hid (base ≤ w5.heap.size) := Nat.le_trans Hz4.out hb5.size
        clear hlen hBe5 hown5 hg5 hb5 hf5 hLn hQ m1
        go_wp2_with fail
        refine q6.out.mono ?_
        rintro e w6 ⟨axn, n6, cxn, rfl, hn6, -, ho6, hB6⟩
        obtain rfl := hn6.out
        have HPn : Hid (PlS w base bd Q (.slice axn Ln.length cxn) w6) := ⟨HD5.out.below hB6 HD5.out.lt, by rw [HLn.out]; exact owns_base ho6 Hz5.out, HBe5.out.trans (hB6.mono HBe5.out.size), HP3.out.b0, HP3.out.b1, Nat.le_trans Hz5.out hB6.size⟩
        have hnp : (np : Int) = (Ln.length : Int) - (nx : Int) := by have := Hnp.out; rw [HLn.out, ← Hnx.out] at this; omega
        have hne : ((np : Int) != (Ln.length : Int) - (nx : Int)) = false := by rw [hnp]; simp
        clear hnp ho6 hB6 hn6 q6
        have hLl : Ln.length ≤ 86400 := by rw [← HLn.out]; exact secL_len _
        have qT := hid (Told_any (some bd) Q w6 (HT.out.later HPn.out.be) HPn.out.disc)
        rw [HLn.out] at qT
        go_wp2_with fail
        refine qT.out.mono ?_
        rintro e wt ⟨⟨v, rfl, ho⟩, hBt⟩
        obtain ⟨at', ct, rfl, hst, -⟩ := owns_form ho
        have HPt := hid (HPn.out.below hBt)
        have qI := hid (Ints_any at' axn ct cxn Ln Ln wt (by omega) (by omega) hst (by have := owns_sl HPt.out.own; rw [HLn.out] at this; exact this))
        rw [decide_eq_true rfl] at qI
        clear hBt ho hst qT
        go_wp2_with fail
        refine qI.out.mono ?_
        rintro e wi ⟨rfl, hBi⟩
        have HPi := hid (HPt.out.below hBi)
        have qN := hid (DLenO_any (some bd) Q wi HPi.out.disc)
        rw [HLn.out] at qN
        clear hBi qI
        go_wp2_with fail
        refine qN.out.mono ?_
        rintro e wj ⟨rfl, rfl⟩
        have qH := hid (DHasO_any (some bd) Q s wi HPi.out.disc)
        have qR := hid (RHas15_any axn cxn Ln s wi (by omega) (by have := owns_sl HPi.out.own; rw [HLn.out] at this; exact this))
        rw [← HLn.out, has_sec, HLn.out] at qR
        obtain ⟨hb, hhb⟩ : ∃ b, (dsecB s && Q s.toNat) = b := ⟨_, rfl⟩
        rw [hhb] at qH qR
        clear hhb qN
        go_wp2_with fail
        refine qH.out.mono ?_
        rintro e wj ⟨rfl, rfl⟩
        go_wp2_with fail
        refine qR.out.mono ?_
        rintro e wj ⟨rfl, rfl⟩
        cases hb
        all_goals
          go_wp2
          exact ⟨⟨k + 1, Q, axn, _, cxn, by go_num, by omega, rfl, (congrArg List.length HLn.out).symm, HPi.out⟩, by simp [intOf]; omega⟩
    by_cases hk1 : d.kind = 1
    · as_aux_lemma =>
        have hd0 : (d.kind == 0) = false := by rw [hk1]; rfl
        have hd1 : (d.kind == 1) = true := by rw [hk1]; rfl
        have hdl : d.l.length ≤ 300 := Hla.out
        have Hsl3 := hid (HdS.out.sa.below HP3.out.be)
        have Hna := hid HdS.out.na
        have Hnl2 : Hid ((ints d.l).length = d.l.length * 1) := by show _ = _; rw [ints_length, Nat.mul_one]
        have Hz3 := hid HP3.out.b2
        clear hk1 kk2 kk3
        go_wp2_with (at_builtin; refine appN eInt (.tmp 91) (.tmp 96) rfl rfl rfl rfl Hall.out Hnl2.out Hsl3.out Hna.out (ints_oneCell _ _) (by omega) (by omega) Hz3.out ?_)
        intro a5 cap5 w5 hown5 hg5 hb5 hf5
        have hlen : (secL q ++ d.l).length = nx + d.l.length := by rw [List.length_append, Hnx.out]
        have hBe5 : Below w.heap.size w w5 := HP3.out.be.trans (hb5.mono (by have := HP3.out.b0; have := HP3.out.b1; omega))
        have Hown5 := hid hown5
        have HD5 := hid (HP3.out.disc.below hb5 HP3.out.b1)
        have HBe5 := hid hBe5
        have Hlen := hid hlen
        have Hz5 : Hid (base ≤ w5.heap.size) := Nat.le_trans HP3.out.b2 hb5.size
        cases ht2 : d.two
        rotate_left
        · have m3 : w5.cell? ⟨g, off + k * 4 + 3, none⟩ = some (.bool d.two) := (hBe5.cell (p := ⟨g, off + k * 4 + 3, none⟩) Hlg.out).trans E0.out.2.2.2
          have m1 : w5.cell? ⟨g, off + k * 4 + 1, none⟩ = some (.slice d.a d.l.length d.ca) := (hBe5.cell (p := ⟨g, off + k * 4 + 1, none⟩) Hlg.out).trans E0.out.2.1
          rw [ht2] at m3
          clear hlen hBe5 hown5 hg5 hb5 hf5 kk0 kk1
          go_upto_region 26 with fail
          have hS5 : Below w.heap.size w w5.drew := HBe5.out.drew
          have hD5 : DiscAt w5.drew bd q := HD5.out.below (Below.refl _ _).drew HD5.out.lt
          have hO5 := owns_below Hown5.out (Below.refl w5.heap.size w5).drew (Nat.le_refl _)
          have hz5 : base ≤ w5.drew.heap.size := Hz5.out
          have hbb := And.intro HP3.out.b0 HP3.out.b1
          have Hbb := hid hbb
          refine wp_region_held_drew (S := Below w.heap.size w) (by kernel_rfl) hS5 (fun hHeld => ?_)
          refine wpAnyH_take (i := 0) (v := ?_) rfl (by kernel_rfl) (by kernel_rfl) (by kernel_rfl) (fun _ _ _ h => h) (Or.inl ⟨by rfl, ?_⟩) (by assumption) ?_
          rotate_left
          · intro w' hSw; have z1 := (Below.cell (p := ⟨g, off + k * 4 + 1, none⟩) hSw Hlg.out).trans E0.out.2.1; have z2 := (Below.cell (p := ⟨g, off + k * 4 + 2, none⟩) hSw Hlg.out).trans E0.out.2.2.1; go_simp; (try with_reducible rfl)
          (try simp only [Act.put, List.getElem_toArray, List.getElem_cons_zero, List.setIfInBounds_toArray, List.set_cons_zero, List.set_cons_succ])
          refine wpAnyH_take (i := 1) (v := ?_) rfl (by kernel_rfl) (by kernel_rfl) (by kernel_rfl) (fun _ _ _ h => h) (Or.inl ⟨by rfl, ?_⟩) (by assumption) ?_
          rotate_left
          · intro w' hSw; have z1 := (Below.cell (p := ⟨g, off + k * 4 + 1, none⟩) hSw Hlg.out).trans E0.out.2.1; have z2 := (Below.cell (p := ⟨g, off + k * 4 + 2, none⟩) hSw Hlg.out).trans E0.out.2.2.1; go_simp; (try with_reducible rfl)
          (try simp only [Act.put, List.getElem_toArray, List.getElem_cons_succ, List.getElem_cons_zero, List.setIfInBounds_toArray, List.set_cons_zero, List.set_cons_succ])
          refine wpAnyH_take (i := 2) (v := ?_) rfl (by kernel_rfl) (by kernel_rfl) (by kernel_rfl) (fun _ _ _ h => h) (Or.inl ⟨by rfl, ?_⟩) (by assumption) ?_
          rotate_left
          · intro w' hSw; have z1 := (Below.cell (p := ⟨g, off + k * 4 + 1, none⟩) hSw Hlg.out).trans E0.out.2.1; have z2 := (Below.cell (p := ⟨g, off + k * 4 + 2, none⟩) hSw Hlg.out).trans E0.out.2.2.1; go_simp; (try with_reducible rfl)
          (try simp only [Act.put, List.getElem_toArray, List.getElem_cons_succ, List.getElem_cons_zero, List.setIfInBounds_toArray, List.set_cons_zero, List.set_cons_succ])
          refine wpAnyH_take (i := 3) (v := ?_) rfl (by kernel_rfl) (by kernel_rfl) (by kernel_rfl) (fun _ _ _ h => h) (Or.inl ⟨by rfl, ?_⟩) (by assumption) ?_
          rotate_left
          · intro w' hSw; have z1 := (Below.cell (p := ⟨g, off + k * 4 + 1, none⟩) hSw Hlg.out).trans E0.out.2.1; have z2 := (Below.cell (p := ⟨g, off + k * 4 + 2, none⟩) hSw Hlg.out).trans E0.out.2.2.1; go_simp; (try with_reducible rfl)
          (try simp only [Act.put, List.getElem_toArray, List.getElem_cons_succ, List.getElem_cons_zero, List.setIfInBounds_toArray, List.set_cons_zero, List.set_cons_succ])
          refine wpAnyH_take (i := 4) (v := ?_) rfl (by kernel_rfl) (by kernel_rfl) (by kernel_rfl) (fun _ _ _ h => h) (Or.inl ⟨by rfl, ?_⟩) (by assumption) ?_
          rotate_left
          · intro w' hSw; have z1 := (Below.cell (p := ⟨g, off + k * 4 + 1, none⟩) hSw Hlg.out).trans E0.out.2.1; have z2 := (Below.cell (p := ⟨g, off + k * 4 + 2, none⟩) hSw Hlg.out).trans E0.out.2.2.1; go_simp; (try with_reducible rfl)
          (try simp only [Act.put, List.getElem_toArray, List.getElem_cons_succ, List.getElem_cons_zero, List.setIfInBounds_toArray, List.set_cons_zero, List.set_cons_succ])
          refine wpAnyH_take (i := 5) (v := ?_) rfl (by kernel_rfl) (by kernel_rfl) (by kernel_rfl) (fun _ _ _ h => h) (Or.inl ⟨by rfl, ?_⟩) (by assumption) ?_
          rotate_left
          · intro w' hSw; have z1 := (Below.cell (p := ⟨g, off + k * 4 + 1, none⟩) hSw Hlg.out).trans E0.out.2.1; have z2 := (Below.cell (p := ⟨g, off + k * 4 + 2, none⟩) hSw Hlg.out).trans E0.out.2.2.1; go_simp; (try with_reducible rfl)
          (try simp only [Act.put, List.getElem_toArray, List.getElem_cons_succ, List.getElem_cons_zero, List.setIfInBounds_toArray, List.set_cons_zero, List.set_cons_succ])
          refine wpAnyH_take (i := 7) (v := ?_) rfl (by kernel_rfl) (by kernel_rfl) (by kernel_rfl) (fun _ _ _ h => h) (Or.inl ⟨by rfl, ?_⟩) (by assumption) ?_
          rotate_left
          · intro w' hSw; have z1 := (Below.cell (p := ⟨g, off + k * 4 + 1, none⟩) hSw Hlg.out).trans E0.out.2.1; have z2 := (Below.cell (p := ⟨g, off + k * 4 + 2, none⟩) hSw Hlg.out).trans E0.out.2.2.1; go_simp; (try with_reducible rfl)
          (try simp only [Act.put, List.getElem_toArray, List.getElem_cons_succ, List.getElem_cons_zero, List.setIfInBounds_toArray, List.set_cons_zero, List.set_cons_succ])
          refine wpAnyH_take (i := 8) (v := ?_) rfl (by kernel_rfl) (by kernel_rfl) (by kernel_rfl) (fun _ _ _ h => h) (Or.inl ⟨by rfl, ?_⟩) (by assumption) ?_
          rotate_left
          · intro w' hSw; have z1 := (Below.cell (p := ⟨g, off + k * 4 + 1, none⟩) hSw Hlg.out).trans E0.out.2.1; have z2 := (Below.cell (p := ⟨g, off + k * 4 + 2, none⟩) hSw Hlg.out).trans E0.out.2.2.1; go_simp; (try with_reducible rfl)
          (try simp only [Act.put, List.getElem_toArray, List.getElem_cons_succ, List.getElem_cons_zero, List.setIfInBounds_toArray, List.set_cons_zero, List.set_cons_succ])
          refine wpAnyH_take (i := 9) (v := ?_) rfl (by kernel_rfl) (by kernel_rfl) (by kernel_rfl) (fun _ _ _ h => h) (Or.inl ⟨by rfl, ?_⟩) (by assumption) ?_
          rotate_left
          · intro w' hSw; have z1 := (Below.cell (p := ⟨g, off + k * 4 + 1, none⟩) hSw Hlg.out).trans E0.out.2.1; have z2 := (Below.cell (p := ⟨g, off + k * 4 + 2, none⟩) hSw Hlg.out).trans E0.out.2.2.1; go_simp; (try with_reducible rfl)
          (try simp only [Act.put, List.getElem_toArray, List.getElem_cons_succ, List.getElem_cons_zero, List.setIfInBounds_toArray, List.set_cons_zero, List.set_cons_succ])
          refine wpAnyH_take (i := 10) (v := ?_) rfl (by kernel_rfl) (by kernel_rfl) (by kernel_rfl) (fun _ _ _ h => h) (Or.inl ⟨by rfl, ?_⟩) (by assumption) ?_
          rotate_left
          · intro w' hSw; have z1 := (Below.cell (p := ⟨g, off + k * 4 + 1, none⟩) hSw Hlg.out).trans E0.out.2.1; have z2 := (Below.cell (p := ⟨g, off + k * 4 + 2, none⟩) hSw Hlg.out).trans E0.out.2.2.1; go_simp; (try with_reducible rfl)
          (try simp only [Act.put, List.getElem_toArray, List.getElem_cons_succ, List.getElem_cons_zero, List.setIfInBounds_toArray, List.set_cons_zero, List.set_cons_succ])
          refine wpAnyH_take (i := 11) (v := ?_) rfl (by kernel_rfl) (by kernel_rfl) (by kernel_rfl) (fun _ _ _ h => h) (Or.inl ⟨by rfl, ?_⟩) (by assumption) ?_
          rotate_left
          · intro w' hSw; have z1 := (Below.cell (p := ⟨g, off + k * 4 + 1, none⟩) hSw Hlg.out).trans E0.out.2.1; have z2 := (Below.cell (p := ⟨g, off + k * 4 + 2, none⟩) hSw Hlg.out).trans E0.out.2.2.1; go_simp; (try with_reducible rfl)
          (try simp only [Act.put, List.getElem_toArray, List.getElem_cons_succ, List.getElem_cons_zero, List.setIfInBounds_toArray, List.set_cons_zero, List.set_cons_succ])
          refine wpAnyH_ready (rs := [6]) (by kernel_rfl) (by simp) ?_
          refine AllReadyH.cons rfl (fun K hK => ?_) AllReadyH.nil
          go_simp
          refine (DOf_any d.a d.ca d.l _ (by omega) (HdS.out.sa.below hS5)).mono ?_
          rintro e w6 ⟨rfl, hD6, hB6⟩
          have hS6 := hS5.trans (hB6.mono hS5.size)
          have hDb6 := hD5.below hB6 hD5.lt
          have hO6 := owns_below hO5 hB6 (Nat.le_refl _)
          have hz6 : base ≤ w6.heap.size := Nat.le_trans hz5 hB6.size
          have hc6 : bd < w5.drew.heap.size := by omega
          obtain ⟨ca, hca⟩ : ∃ b, w5.drew.heap.size = b := ⟨_, rfl⟩
          rw [hca] at hD6 hc6
          try rw [hca]
          (try go_wp2_with fail)
          refine hK.out _ _ hS6 (fun hHeld => ?_)
          clear hK K
          (try simp only [Act.put, List.getElem_toArray, List.getElem_cons_succ, List.getElem_cons_zero, List.setIfInBounds_toArray, List.set_cons_zero, List.set_cons_succ])
          refine wpAnyH_ready (rs := [12]) (by kernel_rfl) (by simp) ?_
          refine AllReadyH.cons rfl (fun K hK => ?_) AllReadyH.nil
          go_simp
          refine (DOf_any d.b d.cb d.m _ (by have := Hlb.out; omega) (HdS.out.sb.below hS6)).mono ?_
          rintro e w7 ⟨rfl, hD7, hB7⟩
          have hS7 := hS6.trans (hB7.mono hS6.size)
          have hDb7 := hDb6.below hB7 hDb6.lt
          have hO7 := owns_below hO6 hB7 (Nat.le_refl _)
          have hz7 : base ≤ w7.heap.size := Nat.le_trans hz6 hB7.size
          have hD67 := hD6.below hB7 hD6.lt
          have hc7 : bd < w6.heap.size := by omega
          obtain ⟨cb, hcb⟩ : ∃ b, w6.heap.size = b := ⟨_, rfl⟩
          rw [hcb] at hD7 hc7
          try rw [hcb]
          (try go_wp2_with fail)
          refine hK.out _ _ hS7 (fun hHeld => ?_)
          clear hK K
          (try simp only [Act.put, List.getElem_toArray, List.getElem_cons_succ, List.getElem_cons_zero, List.setIfInBounds_toArray, List.set_cons_zero, List.set_cons_succ])
          refine wpAnyH_ready (rs := [13]) (by kernel_rfl) (by simp) ?_
          refine AllReadyH.cons rfl (fun K hK => ?_) AllReadyH.nil
          go_simp
          (try go_wp2_with fail)
          obtain ⟨Wa, hWa⟩ : ∃ W, w7.alloc (.cells #[.pointer (some ⟨ca, 0, none⟩), .pointer (some ⟨cb, 0, none⟩), .pointer none] 25) = W := ⟨_, rfl⟩
          have hbWa : Below w7.heap.size w7 Wa := by rw [← hWa]; exact below_new (Below.refl _ _) (Nat.le_refl _)
          have hslWa : Sl Wa (some ⟨w7.heap.size, 0, none⟩) (dps [(some ca, memD d.l), (some cb, memD d.m), (none, fun _ => false)]) := by
            refine .inr ⟨w7.heap.size, 0, rfl, by rw [← hWa]; simp, fun j hj => ?_⟩
            rw [← hWa]
            have : j = 0 ∨ j = 1 ∨ j = 2 := by simp [dps] at hj; omega
            rcases this with rfl | rfl | rfl <;> simp [go_sem, dps, dptr]
          have hS8 := hS7.trans (hbWa.mono hS7.size)
          have hO8 := owns_below hO7 hbWa (Nat.le_refl _)
          rw [hWa]
          refine hK.out _ _ hS8 (fun hHeld => ?_)
          clear hK K
          (try simp only [Act.put, List.getElem_toArray, List.getElem_cons_succ, List.getElem_cons_zero, List.setIfInBounds_toArray, List.set_cons_zero, List.set_cons_succ])
          refine wpAnyH_ready (rs := [14]) (by kernel_rfl) (by simp) ?_
          refine AllReadyH.cons rfl (fun K hK => ?_) AllReadyH.nil
          go_simp
          have hne8 : w7.heap.size ≠ bd := by omega
          refine (DJoinL_any bd q (some ⟨w7.heap.size, 0, none⟩) 3 [(some ca, memD d.l), (some cb, memD d.m), (none, fun _ => false)] Wa (by simp) hslWa (fun _ g off e => by cases e; exact hne8) (hDb7.below hbWa hDb7.lt) (fun x hx => by
            rcases List.mem_cons.1 hx with rfl | hx
            · exact ⟨hD67.below hbWa hD67.lt, fun c hc => by cases hc; omega⟩
            · rcases List.mem_cons.1 hx with rfl | hx
              · exact ⟨hD7.below hbWa hD7.lt, fun c hc => by cases hc; omega⟩
              · rw [List.mem_singleton] at hx; subst hx
                exact ⟨fun _ _ => rfl, fun c hc => by cases hc⟩)).mono ?_
          rintro e w9 ⟨⟨v9, rfl⟩, hD9, hE9⟩
          have hbe9 : Below w.heap.size w w9 := hS8.trans (hE9.below (by rintro b rfl; exact hbb.1) hS8.size)
          have hO9 := owns_agree hO8 (fun b hb => hE9.block b (owns_lt hO8 hb).2 (fun e => by have := (owns_lt hO8 hb).1; omega))
          have hz9 : base ≤ w9.heap.size := Nat.le_trans (Nat.le_trans hz7 hbWa.size) hE9.size
          (try go_wp2_with fail)
          refine hK.out _ _ hbe9 (fun hHeld => ?_)
          clear hK K
          (try simp only [Act.put, List.getElem_toArray, List.getElem_cons_succ, List.getElem_cons_zero, List.setIfInBounds_toArray, List.set_cons_zero, List.set_cons_succ])
          refine wpAnyH_done (by kernel_rfl) ?_ _
          have HD9 := hid hD9
          have HBE9 := hid hbe9
          have HO9 := hid hO9
          have HZ9 := hid hz9
          have m29 : w9.cell? ⟨g, off + k * 4 + 2, none⟩ = some (.slice d.b d.m.length d.cb) := (hbe9.cell (p := ⟨g, off + k * 4 + 2, none⟩) Hlg.out).trans E0.out.2.2.1
          have HslB := hid (HdS.out.sb.below hbe9)
          have HnaB := hid HdS.out.nb
          have Hnl3 : Hid ((ints d.m).length = d.m.length * 1) := by show _ = _; rw [ints_length, Nat.mul_one]
          have hml : d.m.length ≤ 300 := Hlb.out
          have hHx := Hlen.out
          clear hD9 hbe9 hO9 hz9 hHeld hE9 hS8 hO8 hslWa hbWa hWa hD67 hD7 hD6 hDb6 hDb7 hS7 hO7 hS6 hO6 hD5 hO5 hS5 hB6 hB7 hca hcb hz5 hz6 hz7 hbb hHx
          go_wp2_with (at_builtin; refine appN eInt (.tmp 118) (.tmp 123) rfl rfl rfl rfl HO9.out Hnl3.out HslB.out HnaB.out (ints_oneCell _ _) (by omega) (by omega) HZ9.out ?_)
          intro a10 cap10 w10 hown10 hg10 hb10 hf10
          have hBe10 : Below w.heap.size w w10 := HBE9.out.trans (hb10.mono (by have := Hbb.out; omega))
          have HD10 := hid (HD9.out.below hb10 Hbb.out.2)
          have HZ10 : Hid (base ≤ w10.heap.size) := Nat.le_trans HZ9.out hb10.size
          have hlen2 : (secL q ++ d.l ++ d.m).length = nx + d.l.length + d.m.length := by rw [List.length_append, Hlen.out]
          have q11 := own_ret (ROf15_any a10 cap10 (secL q ++ d.l ++ d.m) w10 (by omega) (by rw [ints_append, ints_append, List.append_assoc]; exact owns_sl hown10))
          rw [hlen2, sec_join2] at q11
          obtain ⟨Q2, hQ2⟩ : ∃ Q : Nat → Bool, (fun k => q k || [((some 0 : Option Nat), memD d.l), (some 0, memD d.m), (none, fun _ => false)].any fun d => d.2 k) = Q := ⟨_, rfl⟩
          rw [hQ2] at q11
          obtain ⟨L4, hL4⟩ : ∃ L, secL Q2 = L := ⟨_, rfl⟩
          rw [hL4] at q11
          have HL4 := hid hL4
          have HQ2 := hid hQ2
          have HBE10 := hid hBe10
          have Q11 := hid q11
          clear hown10 hg10 hb10 hf10 hBe10 hlen2 q11 hL4 hQ2 m29
          go_wp2_with fail
          refine Q11.out.mono ?_
          rintro e w11 ⟨ax4, n11, cx4, rfl, hn11, -, ho11, hB11⟩
          obtain rfl := hn11.out
          have HPn : Hid (PlS w base bd Q2 (.slice ax4 L4.length cx4) w11) := by
            refine ⟨DiscAt.congr (HD10.out.below hB11 HD10.out.lt) (fun k _ => by rw [← HQ2.out]; simp), ?_, HBE10.out.trans (hB11.mono HBE10.out.size), Hbb.out.1, Hbb.out.2, Nat.le_trans HZ10.out hB11.size⟩
            rw [HL4.out]; exact owns_base ho11 HZ10.out
          clear hn11 ho11 hB11 Q11
          have hLl : L4.length ≤ 86400 := by rw [← HL4.out]; exact secL_len _
          have qT := hid (Told_any (some bd) Q2 w11 (HT.out.later HPn.out.be) HPn.out.disc)
          rw [HL4.out] at qT
          go_wp2_with fail
          refine qT.out.mono ?_
          rintro e wt ⟨⟨v, rfl, ho⟩, hBt⟩
          obtain ⟨at', ct, rfl, hst, -⟩ := owns_form ho
          have HPt := hid (HPn.out.below hBt)
          have qI := hid (Ints_any at' ax4 ct cx4 L4 L4 wt (by omega) (by omega) hst (by have := owns_sl HPt.out.own; rw [HL4.out] at this; exact this))
          rw [decide_eq_true rfl] at qI
          clear hBt ho hst qT
          go_wp2_with fail
          refine qI.out.mono ?_
          rintro e wi ⟨rfl, hBi⟩
          have HPi := hid (HPt.out.below hBi)
          have qN := hid (DLenO_any (some bd) Q2 wi HPi.out.disc)
          rw [HL4.out] at qN
          clear hBi qI
          go_wp2_with fail
          refine qN.out.mono ?_
          rintro e wj ⟨rfl, rfl⟩
          have qH := hid (DHasO_any (some bd) Q2 s wi HPi.out.disc)
          have qR := hid (RHas15_any ax4 cx4 L4 s wi (by omega) (by have := owns_sl HPi.out.own; rw [HL4.out] at this; exact this))
          rw [← HL4.out, has_sec, HL4.out] at qR
          obtain ⟨hb, hhb⟩ : ∃ b, (dsecB s && Q2 s.toNat) = b := ⟨_, rfl⟩
          rw [hhb] at qH qR
          clear hhb qN
          go_wp2_with fail
          refine qH.out.mono ?_
          rintro e wj ⟨rfl, rfl⟩
          go_wp2_with fail
          refine qR.out.mono ?_
          rintro e wj ⟨rfl, rfl⟩
          cases hb
          all_goals
            go_wp2
            exact ⟨⟨k + 1, Q2, ax4, _, cx4, by go_num, by omega, rfl, (congrArg List.length HL4.out).symm, HPi.out⟩, by simp [intOf]; omega⟩

        have m3 : w5.cell? ⟨g, off + k * 4 + 3, none⟩ = some (.bool d.two) := (hBe5.cell (p := ⟨g, off + k * 4 + 3, none⟩) Hlg.out).trans E0.out.2.2.2
        have m1 : w5.cell? ⟨g, off + k * 4 + 1, none⟩ = some (.slice d.a d.l.length d.ca) := (hBe5.cell (p := ⟨g, off + k * 4 + 1, none⟩) Hlg.out).trans E0.out.2.1
        rw [ht2] at m3
        have qD := hid (DOf_any d.a d.ca d.l w5 (by omega) (HdS.out.sa.below hBe5))
        clear hlen hBe5 hown5 hg5 hb5 hf5 kk0 kk1
        go_wp2_with fail
        refine qD.out.mono ?_
        rintro e w6 ⟨rfl, hD6, hB6⟩
        have HD6 := hid (HD5.out.below hB6 HD5.out.lt)
        have HO6 := hid (owns_below Hown5.out hB6 (Nat.le_refl _))
        have HBe6 := hid (HBe5.out.trans (hB6.mono HBe5.out.size))
        have hne6 : w5.heap.size ≠ bd := by have := HD5.out.lt; omega
        have hz6 : base ≤ w6.heap.size := Nat.le_trans Hz5.out hB6.size
        have qJ := DJoin1_any bd w5.heap.size q (memD d.l) w6 HD6.out hD6 hne6
        obtain ⟨W1, hW1⟩ : ∃ W, w6.alloc (.cells #[.pointer (some ⟨w5.heap.size, 0, none⟩)] 25) = W := ⟨_, rfl⟩
        rw [hW1] at qJ
        have HW1 := hid hW1
        have HJ := hid qJ
        have Hz6 := hid hz6
        clear hW1 qJ hD6 hB6 hne6 m3 m1 qD hz6
        go_wp2_with fail
        rw [HW1.out]
        refine HJ.out.mono ?_
        rintro e w7 ⟨⟨v7, rfl⟩, hD7, hE7⟩
        have HBe7 := hid (HBe6.out.trans (hE7.below (by rintro b rfl; exact HP3.out.b0) HBe6.out.size))
        have HO7 := hid (owns_agree HO6.out (fun b hb => hE7.block b (owns_lt HO6.out hb).2 (fun e => by have := (owns_lt HO6.out hb).1; have := HP3.out.b1; omega)))
        have HD7 := hid hD7
        have Hz7 : Hid (base ≤ w7.heap.size) := Nat.le_trans Hz6.out hE7.size
        obtain ⟨Q, hQ⟩ : ∃ Q : Nat → Bool, (fun k => q k || memD d.l k) = Q := ⟨_, rfl⟩
        rw [hQ] at HD7
        have q8 := own_ret (ROf15_any a5 cap5 (secL q ++ d.l) w7 (by have := Hlen.out; omega) (by rw [ints_append]; exact owns_sl HO7.out))
        rw [Hlen.out, sec_put, hQ] at q8
        obtain ⟨Ln, hLn⟩ : ∃ L, secL Q = L := ⟨_, rfl⟩
        rw [hLn] at q8
        have HLn := hid hLn
        have Q8 := hid q8
        clear hD7 hE7 hQ hLn q8 HJ
        go_wp2_with fail
        refine Q8.out.mono ?_
        rintro e w8 ⟨axn, n8, cxn, rfl, hn8, -, ho8, hB8⟩
        obtain rfl := hn8.out
        have HPn : Hid (PlS w base bd Q (.slice axn Ln.length cxn) w8) := ⟨HD7.out.below hB8 HD7.out.lt, by rw [HLn.out]; exact owns_base ho8 Hz7.out, HBe7.out.trans (hB8.mono HBe7.out.size), HP3.out.b0, HP3.out.b1, Nat.le_trans Hz7.out hB8.size⟩
        clear ho8 hB8 hn8 Q8
        have hLl : Ln.length ≤ 86400 := by rw [← HLn.out]; exact secL_len _
        have qT := hid (Told_any (some bd) Q w8 (HT.out.later HPn.out.be) HPn.out.disc)
        rw [HLn.out] at qT
        go_wp2_with fail
        refine qT.out.mono ?_
        rintro e wt ⟨⟨v, rfl, ho⟩, hBt⟩
        obtain ⟨at', ct, rfl, hst, -⟩ := owns_form ho
        have HPt := hid (HPn.out.below hBt)
        have qI := hid (Ints_any at' axn ct cxn Ln Ln wt (by omega) (by omega) hst (by have := owns_sl HPt.out.own; rw [HLn.out] at this; exact this))
        rw [decide_eq_true rfl] at qI
        clear hBt ho hst qT
        go_wp2_with fail
        refine qI.out.mono ?_
        rintro e wi ⟨rfl, hBi⟩
        have HPi := hid (HPt.out.below hBi)
        have qN := hid (DLenO_any (some bd) Q wi HPi.out.disc)
        rw [HLn.out] at qN
        clear hBi qI
        go_wp2_with fail
        refine qN.out.mono ?_
        rintro e wj ⟨rfl, rfl⟩
        have qH := hid (DHasO_any (some bd) Q s wi HPi.out.disc)
        have qR := hid (RHas15_any axn cxn Ln s wi (by omega) (by have := owns_sl HPi.out.own; rw [HLn.out] at this; exact this))
        rw [← HLn.out, has_sec, HLn.out] at qR
        obtain ⟨hb, hhb⟩ : ∃ b, (dsecB s && Q s.toNat) = b := ⟨_, rfl⟩
        rw [hhb] at qH qR
        clear hhb qN
        go_wp2_with fail
        refine qH.out.mono ?_
        rintro e wj ⟨rfl, rfl⟩
        go_wp2_with fail
        refine qR.out.mono ?_
        rintro e wj ⟨rfl, rfl⟩
        cases hb
        all_goals
          go_wp2
          exact ⟨⟨k + 1, Q, axn, _, cxn, by go_num, by omega, rfl, (congrArg List.length HLn.out).symm, HPi.out⟩, by simp [intOf]; omega⟩
    by_cases hk2 : d.kind = 2
    · as_aux_lemma =>
        have hd0 : (d.kind == 0) = false := by rw [hk2]; rfl
        have hd1 : (d.kind == 1) = false := by rw [hk2]; rfl
        have hd2 : (d.kind == 2) = true := by rw [hk2]; rfl
        have hdl : d.l.length ≤ 300 := Hla.out
        have q4 := hid (own_ret (ROf15_any d.a d.ca d.l w3 (by omega) (HdS.out.sa.below HP3.out.be)))
        obtain ⟨L2, hL2⟩ : ∃ L, secL (memD d.l) = L := ⟨_, rfl⟩
        rw [hL2] at q4
        have HL2 := hid hL2
        have hl2b : L2.length ≤ 86400 := by rw [← hL2]; exact secL_len _
        clear hL2 hk2
        go_wp2_with fail
        refine q4.out.mono ?_
        rintro e w4 ⟨a4, n4, c4, rfl, hn4, hs4, -, hB4⟩
        obtain rfl := hn4.out
        have HP4 := hid (HP3.out.below hB4)
        have qB := hid (own_ret (RBoth15_any ax a4 cx c4 (secL q) L2 w4 (by have := secL_len q; omega) (owns_sl HP4.out.own) (by omega) hs4))
        rw [← Hnx.out, ← HL2.out, both_sec] at qB
        obtain ⟨Q, hQ⟩ : ∃ Q : Nat → Bool, (fun k => q k && memD d.l k) = Q := ⟨_, rfl⟩
        rw [hQ, HL2.out] at qB
        obtain ⟨Ln, hLn⟩ : ∃ L, secL Q = L := ⟨_, rfl⟩
        rw [hLn] at qB
        have HLn := hid hLn
        have HQ := hid hQ
        have m3 : w4.cell? ⟨g, off + k * 4 + 3, none⟩ = some (.bool d.two) := (HP4.out.be.cell (p := ⟨g, off + k * 4 + 3, none⟩) Hlg.out).trans E0.out.2.2.2
        have m1 : w4.cell? ⟨g, off + k * 4 + 1, none⟩ = some (.slice d.a d.l.length d.ca) := (HP4.out.be.cell (p := ⟨g, off + k * 4 + 1, none⟩) Hlg.out).trans E0.out.2.1
        clear kk0 kk1 kk2 kk3 hn4 hs4 hB4 q4 hLn hQ
        go_wp2_with fail
        refine qB.out.mono ?_
        rintro e w5 ⟨axn, n5, cxn, rfl, hn5, -, ho5, hB5⟩
        obtain rfl := hn5.out
        have HP5 := hid (HP4.out.below hB5)
        have HO5 := hid ho5
        have m35 := (hB5.cell (p := ⟨g, off + k * 4 + 3, none⟩) (World.block_lt_of_cell? _ _ m3)).trans m3
        have m15 := (hB5.cell (p := ⟨g, off + k * 4 + 1, none⟩) (World.block_lt_of_cell? _ _ m1)).trans m1
        have qD := hid (DOf_any d.a d.ca d.l w5 (by omega) (HdS.out.sa.below HP5.out.be))
        have HO5b : Hid (base ≤ w4.heap.size) := HP4.out.b2
        clear m3 m1 hn5 ho5 hB5 qB
        cases ht2 : d.two
        rotate_left
        · rw [ht2] at m35
          clear m15 qD
          go_upto_region 33 with fail
          have hS5 : Below w.heap.size w w5.drew := HP5.out.be.drew
          have hP5 : PlS w base bd q (.slice ax nx cx) w5.drew := HP5.out.below (Below.refl _ _).drew
          have hO5 := owns_below (owns_base HO5.out HO5b.out) (Below.refl w5.heap.size w5).drew (Nat.le_refl _)
          refine wp_region_held_drew (S := Below w.heap.size w) (by kernel_rfl) hS5 (fun hHeld => ?_)
          refine wpAnyH_take (i := 0) (v := ?_) rfl (by kernel_rfl) (by kernel_rfl) (by kernel_rfl) (fun _ _ _ h => h) (Or.inl ⟨by rfl, ?_⟩) (by assumption) ?_
          rotate_left
          · intro w' hSw; have z1 := (Below.cell (p := ⟨g, off + k * 4 + 1, none⟩) hSw Hlg.out).trans E0.out.2.1; have z2 := (Below.cell (p := ⟨g, off + k * 4 + 2, none⟩) hSw Hlg.out).trans E0.out.2.2.1; go_simp; (try with_reducible rfl)
          (try simp only [Act.put, List.getElem_toArray, List.getElem_cons_zero, List.setIfInBounds_toArray, List.set_cons_zero, List.set_cons_succ])
          refine wpAnyH_take (i := 1) (v := ?_) rfl (by kernel_rfl) (by kernel_rfl) (by kernel_rfl) (fun _ _ _ h => h) (Or.inl ⟨by rfl, ?_⟩) (by assumption) ?_
          rotate_left
          · intro w' hSw; have z1 := (Below.cell (p := ⟨g, off + k * 4 + 1, none⟩) hSw Hlg.out).trans E0.out.2.1; have z2 := (Below.cell (p := ⟨g, off + k * 4 + 2, none⟩) hSw Hlg.out).trans E0.out.2.2.1; go_simp; (try with_reducible rfl)
          (try simp only [Act.put, List.getElem_toArray, List.getElem_cons_succ, List.getElem_cons_zero, List.setIfInBounds_toArray, List.set_cons_zero, List.set_cons_succ])
          refine wpAnyH_take (i := 2) (v := ?_) rfl (by kernel_rfl) (by kernel_rfl) (by kernel_rfl) (fun _ _ _ h => h) (Or.inl ⟨by rfl, ?_⟩) (by assumption) ?_
          rotate_left
          · intro w' hSw; have z1 := (Below.cell (p := ⟨g, off + k * 4 + 1, none⟩) hSw Hlg.out).trans E0.out.2.1; have z2 := (Below.cell (p := ⟨g, off + k * 4 + 2, none⟩) hSw Hlg.out).trans E0.out.2.2.1; go_simp; (try with_reducible rfl)
          (try simp only [Act.put, List.getElem_toArray, List.getElem_cons_succ, List.getElem_cons_zero, List.setIfInBounds_toArray, List.set_cons_zero, List.set_cons_succ])
          refine wpAnyH_take (i := 3) (v := ?_) rfl (by kernel_rfl) (by kernel_rfl) (by kernel_rfl) (fun _ _ _ h => h) (Or.inl ⟨by rfl, ?_⟩) (by assumption) ?_
          rotate_left
          · intro w' hSw; have z1 := (Below.cell (p := ⟨g, off + k * 4 + 1, none⟩) hSw Hlg.out).trans E0.out.2.1; have z2 := (Below.cell (p := ⟨g, off + k * 4 + 2, none⟩) hSw Hlg.out).trans E0.out.2.2.1; go_simp; (try with_reducible rfl)
          (try simp only [Act.put, List.getElem_toArray, List.getElem_cons_succ, List.getElem_cons_zero, List.setIfInBounds_toArray, List.set_cons_zero, List.set_cons_succ])
          refine wpAnyH_take (i := 4) (v := ?_) rfl (by kernel_rfl) (by kernel_rfl) (by kernel_rfl) (fun _ _ _ h => h) (Or.inl ⟨by rfl, ?_⟩) (by assumption) ?_
          rotate_left
          · intro w' hSw; have z1 := (Below.cell (p := ⟨g, off + k * 4 + 1, none⟩) hSw Hlg.out).trans E0.out.2.1; have z2 := (Below.cell (p := ⟨g, off + k * 4 + 2, none⟩) hSw Hlg.out).trans E0.out.2.2.1; go_simp; (try with_reducible rfl)
          (try simp only [Act.put, List.getElem_toArray, List.getElem_cons_succ, List.getElem_cons_zero, List.setIfInBounds_toArray, List.set_cons_zero, List.set_cons_succ])
          refine wpAnyH_take (i := 5) (v := ?_) rfl (by kernel_rfl) (by kernel_rfl) (by kernel_rfl) (fun _ _ _ h => h) (Or.inl ⟨by rfl, ?_⟩) (by assumption) ?_
          rotate_left
          · intro w' hSw; have z1 := (Below.cell (p := ⟨g, off + k * 4 + 1, none⟩) hSw Hlg.out).trans E0.out.2.1; have z2 := (Below.cell (p := ⟨g, off + k * 4 + 2, none⟩) hSw Hlg.out).trans E0.out.2.2.1; go_simp; (try with_reducible rfl)
          (try simp only [Act.put, List.getElem_toArray, List.getElem_cons_succ, List.getElem_cons_zero, List.setIfInBounds_toArray, List.set_cons_zero, List.set_cons_succ])
          refine wpAnyH_take (i := 7) (v := ?_) rfl (by kernel_rfl) (by kernel_rfl) (by kernel_rfl) (fun _ _ _ h => h) (Or.inl ⟨by rfl, ?_⟩) (by assumption) ?_
          rotate_left
          · intro w' hSw; have z1 := (Below.cell (p := ⟨g, off + k * 4 + 1, none⟩) hSw Hlg.out).trans E0.out.2.1; have z2 := (Below.cell (p := ⟨g, off + k * 4 + 2, none⟩) hSw Hlg.out).trans E0.out.2.2.1; go_simp; (try with_reducible rfl)
          (try simp only [Act.put, List.getElem_toArray, List.getElem_cons_succ, List.getElem_cons_zero, List.setIfInBounds_toArray, List.set_cons_zero, List.set_cons_succ])
          refine wpAnyH_take (i := 8) (v := ?_) rfl (by kernel_rfl) (by kernel_rfl) (by kernel_rfl) (fun _ _ _ h => h) (Or.inl ⟨by rfl, ?_⟩) (by assumption) ?_
          rotate_left
          · intro w' hSw; have z1 := (Below.cell (p := ⟨g, off + k * 4 + 1, none⟩) hSw Hlg.out).trans E0.out.2.1; have z2 := (Below.cell (p := ⟨g, off + k * 4 + 2, none⟩) hSw Hlg.out).trans E0.out.2.2.1; go_simp; (try with_reducible rfl)
          (try simp only [Act.put, List.getElem_toArray, List.getElem_cons_succ, List.getElem_cons_zero, List.setIfInBounds_toArray, List.set_cons_zero, List.set_cons_succ])
          refine wpAnyH_take (i := 9) (v := ?_) rfl (by kernel_rfl) (by kernel_rfl) (by kernel_rfl) (fun _ _ _ h => h) (Or.inl ⟨by rfl, ?_⟩) (by assumption) ?_
          rotate_left
          · intro w' hSw; have z1 := (Below.cell (p := ⟨g, off + k * 4 + 1, none⟩) hSw Hlg.out).trans E0.out.2.1; have z2 := (Below.cell (p := ⟨g, off + k * 4 + 2, none⟩) hSw Hlg.out).trans E0.out.2.2.1; go_simp; (try with_reducible rfl)
          (try simp only [Act.put, List.getElem_toArray, List.getElem_cons_succ, List.getElem_cons_zero, List.setIfInBounds_toArray, List.set_cons_zero, List.set_cons_succ])
          refine wpAnyH_take (i := 10) (v := ?_) rfl (by kernel_rfl) (by kernel_rfl) (by kernel_rfl) (fun _ _ _ h => h) (Or.inl ⟨by rfl, ?_⟩) (by assumption) ?_
          rotate_left
          · intro w' hSw; have z1 := (Below.cell (p := ⟨g, off + k * 4 + 1, none⟩) hSw Hlg.out).trans E0.out.2.1; have z2 := (Below.cell (p := ⟨g, off + k * 4 + 2, none⟩) hSw Hlg.out).trans E0.out.2.2.1; go_simp; (try with_reducible rfl)
          (try simp only [Act.put, List.getElem_toArray, List.getElem_cons_succ, List.getElem_cons_zero, List.setIfInBounds_toArray, List.set_cons_zero, List.set_cons_succ])
          refine wpAnyH_take (i := 11) (v := ?_) rfl (by kernel_rfl) (by kernel_rfl) (by kernel_rfl) (fun _ _ _ h => h) (Or.inl ⟨by rfl, ?_⟩) (by assumption) ?_
          rotate_left
          · intro w' hSw; have z1 := (Below.cell (p := ⟨g, off + k * 4 + 1, none⟩) hSw Hlg.out).trans E0.out.2.1; have z2 := (Below.cell (p := ⟨g, off + k * 4 + 2, none⟩) hSw Hlg.out).trans E0.out.2.2.1; go_simp; (try with_reducible rfl)
          (try simp only [Act.put, List.getElem_toArray, List.getElem_cons_succ, List.getElem_cons_zero, List.setIfInBounds_toArray, List.set_cons_zero, List.set_cons_succ])
          refine wpAnyH_ready (rs := [6]) (by kernel_rfl) (by simp) ?_
          refine AllReadyH.cons rfl (fun K hK => ?_) AllReadyH.nil
          go_simp
          refine (DOf_any d.a d.ca d.l _ (by omega) (HdS.out.sa.below hS5)).mono ?_
          rintro e w6 ⟨rfl, hD6, hB6⟩
          have hP6 := hP5.below hB6
          have hO6 := owns_below hO5 hB6 (Nat.le_refl _)
          have hc6 : bd < w5.drew.heap.size := by have := hP5.b1; have := hP5.b2; omega
          obtain ⟨ca, hca⟩ : ∃ b, w5.drew.heap.size = b := ⟨_, rfl⟩
          rw [hca] at hD6 hc6
          try rw [hca]
          (try go_wp2_with fail)
          refine hK.out _ _ hP6.be (fun hHeld => ?_)
          clear hK K
          (try simp only [Act.put, List.getElem_toArray, List.getElem_cons_succ, List.getElem_cons_zero, List.setIfInBounds_toArray, List.set_cons_zero, List.set_cons_succ])
          refine wpAnyH_ready (rs := [12]) (by kernel_rfl) (by simp) ?_
          refine AllReadyH.cons rfl (fun K hK => ?_) AllReadyH.nil
          go_simp
          refine (DOf_any d.b d.cb d.m _ (by have := Hlb.out; omega) (HdS.out.sb.below hP6.be)).mono ?_
          rintro e w7 ⟨rfl, hD7, hB7⟩
          have hP7 := hP6.below hB7
          have hO7 := owns_below hO6 hB7 (Nat.le_refl _)
          have hD67 := hD6.below hB7 hD6.lt
          have hc7 : bd < w6.heap.size := by have := hP6.b1; have := hP6.b2; omega
          obtain ⟨cb, hcb⟩ : ∃ b, w6.heap.size = b := ⟨_, rfl⟩
          rw [hcb] at hD7 hc7
          try rw [hcb]
          (try go_wp2_with fail)
          refine hK.out _ _ hP7.be (fun hHeld => ?_)
          clear hK K
          (try simp only [Act.put, List.getElem_toArray, List.getElem_cons_succ, List.getElem_cons_zero, List.setIfInBounds_toArray, List.set_cons_zero, List.set_cons_succ])
          refine wpAnyH_ready (rs := [13]) (by kernel_rfl) (by simp) ?_
          refine AllReadyH.cons rfl (fun K hK => ?_) AllReadyH.nil
          go_simp
          (try go_wp2_with fail)
          obtain ⟨Wa, hWa⟩ : ∃ W, w7.alloc (.cells #[.pointer (some ⟨ca, 0, none⟩), .pointer (some ⟨cb, 0, none⟩)] 25) = W := ⟨_, rfl⟩
          have hbWa : Below w7.heap.size w7 Wa := by rw [← hWa]; exact below_new (Below.refl _ _) (Nat.le_refl _)
          have hslWa : Sl Wa (some ⟨w7.heap.size, 0, none⟩) (dps [(some ca, memD d.l), (some cb, memD d.m)]) := by
            refine .inr ⟨w7.heap.size, 0, rfl, by rw [← hWa]; simp, fun j hj => ?_⟩
            rw [← hWa]
            have : j = 0 ∨ j = 1 := by simp [dps] at hj; omega
            rcases this with rfl | rfl <;> simp [go_sem, dps, dptr]
          have hP8 := hP7.below hbWa
          have hO8 := owns_below hO7 hbWa (Nat.le_refl _)
          rw [hWa]
          refine hK.out _ _ hP8.be (fun hHeld => ?_)
          clear hK K
          (try simp only [Act.put, List.getElem_toArray, List.getElem_cons_succ, List.getElem_cons_zero, List.setIfInBounds_toArray, List.set_cons_zero, List.set_cons_succ])
          refine wpAnyH_ready (rs := [14]) (by kernel_rfl) (by simp) ?_
          refine AllReadyH.cons rfl (fun K hK => ?_) AllReadyH.nil
          go_simp
          have hne8 : w7.heap.size ≠ bd := by have := hP7.b1; have := hP7.b2; omega
          refine (DKeepL_any bd q (some ⟨w7.heap.size, 0, none⟩) 2 [(some ca, memD d.l), (some cb, memD d.m)] Wa (by simp) hslWa (fun _ g off e => by cases e; exact hne8) hP8.disc (fun x hx => by
            rcases List.mem_cons.1 hx with rfl | hx
            · exact ⟨hD67.below hbWa hD67.lt, fun c hc => by cases hc; omega⟩
            · rw [List.mem_singleton] at hx; subst hx
              exact ⟨hD7.below hbWa hD7.lt, fun c hc => by cases hc; omega⟩)).mono ?_
          rintro e w9 ⟨⟨v9, rfl⟩, hD9, hE9⟩
          have hbe9 : Below w.heap.size w w9 := hP8.be.trans (hE9.below (by rintro b rfl; exact hP8.b0) hP8.be.size)
          have hO9 := owns_agree hO8 (fun b hb => hE9.block b (owns_lt hO8 hb).2 (fun e => by have := (owns_lt hO8 hb).1; have := hP8.b1; omega))
          have hz9 : base ≤ w9.heap.size := Nat.le_trans hP8.b2 hE9.size
          (try go_wp2_with fail)
          refine hK.out _ _ hbe9 (fun hHeld => ?_)
          clear hK K
          (try simp only [Act.put, List.getElem_toArray, List.getElem_cons_succ, List.getElem_cons_zero, List.setIfInBounds_toArray, List.set_cons_zero, List.set_cons_succ])
          refine wpAnyH_done (by kernel_rfl) ?_ _
          have HD9 := hid hD9
          have HBE9 := hid hbe9
          have HO9 := hid hO9
          have HZ9 := hid hz9
          have m29 : w9.cell? ⟨g, off + k * 4 + 2, none⟩ = some (.slice d.b d.m.length d.cb) := (hbe9.cell (p := ⟨g, off + k * 4 + 2, none⟩) Hlg.out).trans E0.out.2.2.1
          have q10 := hid (own_ret (ROf15_any d.b d.cb d.m w9 (by have := Hlb.out; omega) (HdS.out.sb.below hbe9)))
          obtain ⟨L3, hL3⟩ : ∃ L, secL (memD d.m) = L := ⟨_, rfl⟩
          rw [hL3] at q10
          have HL3 := hid hL3
          have hl3b : L3.length ≤ 86400 := by rw [← hL3]; exact secL_len _
          have hlnb : Ln.length ≤ 86400 := by rw [← HLn.out]; exact secL_len _
          clear hL3 hD9 hbe9 hO9 hz9 hHeld hE9 hP8 hO8 hslWa hbWa hWa hD67 hD7 hD6 hP7 hO7 hP6 hO6 hP5 hO5 hS5 hB6 hB7 hca hcb
          go_wp2_with fail
          refine q10.out.mono ?_
          rintro e w10 ⟨a10, n10, c10, rfl, hn10, hs10, -, hB10⟩
          obtain rfl := hn10.out
          have hO10 := owns_below HO9.out hB10 (Nat.le_refl _)
          have qB2 := hid (own_ret (RBoth15_any axn a10 cxn c10 Ln L3 w10 (by omega) (owns_sl hO10) (by omega) hs10))
          rw [← HLn.out, ← HL3.out, both_sec] at qB2
          obtain ⟨Q2, hQ2⟩ : ∃ Q2 : Nat → Bool, (fun k => Q k && memD d.m k) = Q2 := ⟨_, rfl⟩
          rw [hQ2, HLn.out, HL3.out] at qB2
          obtain ⟨L4, hL4⟩ : ∃ L, secL Q2 = L := ⟨_, rfl⟩
          rw [hL4] at qB2
          have HL4 := hid hL4
          have HQ2 := hid hQ2
          have HBE10 := hid (HBE9.out.trans (hB10.mono HBE9.out.size))
          have HD10 := hid (HD9.out.below hB10 HD9.out.lt)
          have HZ10 : Hid (base ≤ w10.heap.size) := Nat.le_trans HZ9.out hB10.size
          clear hn10 hs10 hB10 hO10 q10 hL4 hQ2
          go_wp2_with fail
          refine qB2.out.mono ?_
          rintro e w11 ⟨ax4, n11, cx4, rfl, hn11, -, ho11, hB11⟩
          obtain rfl := hn11.out
          have HPn : Hid (PlS w base bd Q2 (.slice ax4 L4.length cx4) w11) := by
            refine ⟨DiscAt.congr (HD10.out.below hB11 HD10.out.lt) (fun k _ => by rw [← HQ2.out, ← HQ.out]; simp [Bool.and_assoc]), ?_, HBE10.out.trans (hB11.mono HBE10.out.size), HP5.out.b0, HP5.out.b1, Nat.le_trans HZ10.out hB11.size⟩
            rw [HL4.out]; exact owns_base ho11 HZ10.out
          clear hn11 ho11 hB11 qB2
          have hLl : L4.length ≤ 86400 := by rw [← HL4.out]; exact secL_len _
          have qT := hid (Told_any (some bd) Q2 w11 (HT.out.later HPn.out.be) HPn.out.disc)
          rw [HL4.out] at qT
          go_wp2_with fail
          refine qT.out.mono ?_
          rintro e wt ⟨⟨v, rfl, ho⟩, hBt⟩
          obtain ⟨at', ct, rfl, hst, -⟩ := owns_form ho
          have HPt := hid (HPn.out.below hBt)
          have qI := hid (Ints_any at' ax4 ct cx4 L4 L4 wt (by omega) (by omega) hst (by have := owns_sl HPt.out.own; rw [HL4.out] at this; exact this))
          rw [decide_eq_true rfl] at qI
          clear hBt ho hst qT
          go_wp2_with fail
          refine qI.out.mono ?_
          rintro e wi ⟨rfl, hBi⟩
          have HPi := hid (HPt.out.below hBi)
          have qN := hid (DLenO_any (some bd) Q2 wi HPi.out.disc)
          rw [HL4.out] at qN
          clear hBi qI
          go_wp2_with fail
          refine qN.out.mono ?_
          rintro e wj ⟨rfl, rfl⟩
          have qH := hid (DHasO_any (some bd) Q2 s wi HPi.out.disc)
          have qR := hid (RHas15_any ax4 cx4 L4 s wi (by omega) (by have := owns_sl HPi.out.own; rw [HL4.out] at this; exact this))
          rw [← HL4.out, has_sec, HL4.out] at qR
          obtain ⟨hb, hhb⟩ : ∃ b, (dsecB s && Q2 s.toNat) = b := ⟨_, rfl⟩
          rw [hhb] at qH qR
          clear hhb qN
          go_wp2_with fail
          refine qH.out.mono ?_
          rintro e wj ⟨rfl, rfl⟩
          go_wp2_with fail
          refine qR.out.mono ?_
          rintro e wj ⟨rfl, rfl⟩
          cases hb
          all_goals
            go_wp2
            exact ⟨⟨k + 1, Q2, ax4, _, cx4, by go_num, by omega, rfl, (congrArg List.length HL4.out).symm, HPi.out⟩, by simp [intOf]; omega⟩

        rw [ht2] at m35
        go_wp2_with fail
        refine qD.out.mono ?_
        rintro e w6 ⟨rfl, hD6, hB6⟩
        have HP6 := hid (HP5.out.below hB6)
        have HO6 := hid (owns_base (owns_below HO5.out hB6 (Nat.le_refl _)) HO5b.out)
        have hc5 : bd < w5.heap.size := by have := HP5.out.b1; have := HP5.out.b2; omega
        obtain ⟨cb, hcb⟩ : ∃ b, w5.heap.size = b := ⟨_, rfl⟩
        rw [hcb] at hD6 hc5
        obtain ⟨Wa, hWa⟩ : ∃ W, w6.alloc (.cells #[.pointer (some ⟨cb, 0, none⟩)] 25) = W := ⟨_, rfl⟩
        have hbWa : Below w6.heap.size w6 Wa := by rw [← hWa]; exact below_new (Below.refl _ _) (Nat.le_refl _)
        have hslWa : Sl Wa (some ⟨w6.heap.size, 0, none⟩) (dps [(some cb, memD d.l)]) := by
          refine .inr ⟨w6.heap.size, 0, rfl, by rw [← hWa]; simp, fun j hj => ?_⟩
          have : j = 0 := by simp [dps] at hj; omega
          subst this
          rw [← hWa]; simp [go_sem, dps, dptr]
        have HWa := hid hWa
        have qK := hid (DKeepL_any bd q (some ⟨w6.heap.size, 0, none⟩) 1 [(some cb, memD d.l)] Wa (by simp) hslWa (fun _ g off e => by cases e; have := HP6.out.b1; have := HP6.out.b2; omega) (HP6.out.disc.below hbWa HP6.out.disc.lt) (fun x hx => by
          rw [List.mem_singleton] at hx; subst hx
          exact ⟨DiscAt.below hD6 hbWa hD6.lt, fun c hc => by cases hc; omega⟩))
        have HbWa := hid hbWa
        have Hcb := hid hcb
        clear hWa hbWa hslWa hD6 hB6 hcb m35 m15 qD
        go_wp2_with fail
        rw [Hcb.out, HWa.out]
        refine qK.out.mono ?_
        rintro e w7 ⟨⟨v7, rfl⟩, hD7, hE7⟩
        have HPn : Hid (PlS w base bd Q (.slice axn Ln.length cxn) w7) := by
          have b3 := HP6.out.be.trans (HbWa.out.mono HP6.out.be.size)
          have o3 := owns_below HO6.out HbWa.out (Nat.le_refl _)
          refine ⟨DiscAt.congr hD7 (fun k _ => by rw [← HQ.out]; simp), ?_, b3.trans ((hE7.below (by rintro b rfl; exact HP3.out.b0) b3.size)), HP3.out.b0, HP3.out.b1, Nat.le_trans HP6.out.b2 (Nat.le_trans HbWa.out.size hE7.size)⟩
          rw [HLn.out]
          exact owns_agree o3 (fun b hb => hE7.block b (owns_lt o3 hb).2 (fun e => by have := (owns_lt o3 hb).1; have := HP3.out.b1; omega))
        clear hD7 hE7 qK
        have hLl : Ln.length ≤ 86400 := by rw [← HLn.out]; exact secL_len _
        have qT := hid (Told_any (some bd) Q w7 (HT.out.later HPn.out.be) HPn.out.disc)
        rw [HLn.out] at qT
        go_wp2_with fail
        refine qT.out.mono ?_
        rintro e wt ⟨⟨v, rfl, ho⟩, hBt⟩
        obtain ⟨at', ct, rfl, hst, -⟩ := owns_form ho
        have HPt := hid (HPn.out.below hBt)
        have qI := hid (Ints_any at' axn ct cxn Ln Ln wt (by omega) (by omega) hst (by have := owns_sl HPt.out.own; rw [HLn.out] at this; exact this))
        rw [decide_eq_true rfl] at qI
        clear hBt ho hst qT
        go_wp2_with fail
        refine qI.out.mono ?_
        rintro e wi ⟨rfl, hBi⟩
        have HPi := hid (HPt.out.below hBi)
        have qN := hid (DLenO_any (some bd) Q wi HPi.out.disc)
        rw [HLn.out] at qN
        clear hBi qI
        go_wp2_with fail
        refine qN.out.mono ?_
        rintro e wj ⟨rfl, rfl⟩
        have qH := hid (DHasO_any (some bd) Q s wi HPi.out.disc)
        have qR := hid (RHas15_any axn cxn Ln s wi (by omega) (by have := owns_sl HPi.out.own; rw [HLn.out] at this; exact this))
        rw [← HLn.out, has_sec, HLn.out] at qR
        obtain ⟨hb, hhb⟩ : ∃ b, (dsecB s && Q s.toNat) = b := ⟨_, rfl⟩
        rw [hhb] at qH qR
        clear hhb qN
        go_wp2_with fail
        refine qH.out.mono ?_
        rintro e wj ⟨rfl, rfl⟩
        go_wp2_with fail
        refine qR.out.mono ?_
        rintro e wj ⟨rfl, rfl⟩
        cases hb
        all_goals
          go_wp2
          exact ⟨⟨k + 1, Q, axn, _, cxn, by go_num, by omega, rfl, (congrArg List.length HLn.out).symm, HPi.out⟩, by simp [intOf]; omega⟩
    as_aux_lemma =>
      have hd0 : (d.kind == 0) = false := by simpa using hk0
      have hd1 : (d.kind == 1) = false := by simpa using hk1
      have hd2 : (d.kind == 2) = false := by simpa using hk2
      obtain ⟨Wa, hWa⟩ : ∃ W, w3.alloc (.cells #[.pointer none] 25) = W := ⟨_, rfl⟩
      have hbWa : Below w3.heap.size w3 Wa := by rw [← hWa]; exact below_new (Below.refl _ _) (Nat.le_refl _)
      have hslWa : Sl Wa (some ⟨w3.heap.size, 0, none⟩) (dps [(none, fun _ => false)]) := by
        refine .inr ⟨w3.heap.size, 0, rfl, by rw [← hWa]; simp, fun j hj => ?_⟩
        have : j = 0 := by simp [dps] at hj; omega
        subst this
        rw [← hWa]; simp [go_sem, dps, dptr]
      have HWa := hid hWa
      have qK := hid (DKeepL_any bd q (some ⟨w3.heap.size, 0, none⟩) 1 [(none, fun _ => false)] Wa (by simp) hslWa (fun _ g off e => by cases e; have := HP3.out.b1; have := HP3.out.b2; omega) (HP3.out.disc.below hbWa HP3.out.disc.lt) (fun x hx => by
        rw [List.mem_singleton] at hx; subst hx
        exact ⟨fun _ _ => rfl, fun c hc => by cases hc⟩))
      obtain ⟨Q, hQ⟩ : ∃ Q : Nat → Bool, (fun k => q k && [((none : Option Nat), fun (_ : Nat) => false)].all fun d => d.2 k) = Q := ⟨_, rfl⟩
      rw [hQ] at qK
      have HLn : Hid (secL Q = []) := by show _ = _; rw [← hQ, ← sec_none]; exact secL_congr fun k _ => by simp
      have HbWa := hid hbWa
      clear hWa hbWa hslWa hQ kk1 kk2 kk3
      go_wp2_with fail
      rw [HWa.out]
      refine qK.out.mono ?_
      rintro e w4 ⟨⟨v4, rfl⟩, hD4, hE4⟩
      have HPn : Hid (PlS w base bd Q (.slice none 0 0) w4) := by
        have b3 := HP3.out.be.trans (HbWa.out.mono HP3.out.be.size)
        refine ⟨hD4, ?_, b3.trans ((hE4.below (by rintro b rfl; exact HP3.out.b0) b3.size)), HP3.out.b0, HP3.out.b1, Nat.le_trans HP3.out.b2 (Nat.le_trans HbWa.out.size hE4.size)⟩
        rw [HLn.out]; exact World.ownsRow_nil _ _ _ _
      clear hD4 hE4 qK
      have hLl : ([] : List Int).length ≤ 86400 := by rw [← HLn.out]; exact secL_len _
      have qT := hid (Told_any (some bd) Q w4 (HT.out.later HPn.out.be) HPn.out.disc)
      rw [HLn.out] at qT
      go_wp2_with fail
      refine qT.out.mono ?_
      rintro e wt ⟨⟨v, rfl, ho⟩, hBt⟩
      obtain ⟨at', ct, rfl, hst, -⟩ := owns_form ho
      have HPt := hid (HPn.out.below hBt)
      have qI := hid (Ints_any at' none ct 0 ([] : List Int) ([] : List Int) wt (by omega) (by omega) hst (by have := owns_sl HPt.out.own; rw [HLn.out] at this; exact this))
      rw [decide_eq_true rfl] at qI
      clear hBt ho hst qT
      go_wp2_with fail
      refine qI.out.mono ?_
      rintro e wi ⟨rfl, hBi⟩
      have HPi := hid (HPt.out.below hBi)
      have qN := hid (DLenO_any (some bd) Q wi HPi.out.disc)
      rw [HLn.out] at qN
      clear hBi qI
      go_wp2_with fail
      refine qN.out.mono ?_
      rintro e wj ⟨rfl, rfl⟩
      have qH := hid (DHasO_any (some bd) Q s wi HPi.out.disc)
      have qR := hid (RHas15_any none 0 ([] : List Int) s wi (by omega) (by have := owns_sl HPi.out.own; rw [HLn.out] at this; exact this))
      rw [← HLn.out, has_sec, HLn.out] at qR
      obtain ⟨hb, hhb⟩ : ∃ b, (dsecB s && Q s.toNat) = b := ⟨_, rfl⟩
      rw [hhb] at qH qR
      clear hhb qN
      go_wp2_with fail
      refine qH.out.mono ?_
      rintro e wj ⟨rfl, rfl⟩
      go_wp2_with fail
      refine qR.out.mono ?_
      rintro e wj ⟨rfl, rfl⟩
      cases hb
      all_goals
        go_wp2
        exact ⟨⟨k + 1, Q, none, _, 0, by go_num, by omega, rfl, (congrArg List.length HLn.out).symm, HPi.out⟩, by simp [intOf]; omega⟩
end Go.Proofs.YtchceegpbfecaaaDoor
