/-
  ferialaw14.DayNext answers true.
-/
import Derived.Test.YtndfckpcbiecnaaDayMoreWalk
import Derived.Test.YtndfckpcbiecnaaDayActiveWalk
namespace Go.Proofs.Ytndfckpcbiecnaa
open Go.RowKit
set_option linter.unusedVariables false

/-! ### shapes that are the same -/
theorem cellsSh : Try.prog.cellsOf 60 = 10 := by kernel_rfl
theorem keySh : Try.prog.keyTypeAt 3 60 = true := by kernel_rfl
theorem formSh (s : Nat → Int) : (shq s).formed Try.prog 60 = true := by
  unfold Value.formed; simp only [Try.underlying60, cellsSh]; rfl
theorem lits_sh (d : Nat) (s : Nat → Int) (h : ∀ i, i64B (s i)) : Try.prog.keyLits (d + 2) 60 (shList s) = some [.int .i64 (s 0), .int .i64 (s 1), .int .i64 (s 2), .int .i64 (s 3), .int .i64 (s 4), .int .i64 (s 5), .int .i64 (s 6), .int .i64 (s 7), .int .i64 (s 8), .int .i64 (s 9)] := by
  unfold Program.keyLits
  simp only [Try.underlying60]
  simp [cellsI, cellsSh, lits_i, h]
def eqlShS (a b : Value) : Sem Value := binOp .eql 60 a b
theorem eql_shS (a b : Value) : binOp .eql 60 a b = eqlShS a b := rfl
def neqShS (a b : Value) : Sem Value := binOp .neq 60 a b
theorem neq_shS (a b : Value) : binOp .neq 60 a b = neqShS a b := rfl
theorem eqIn_sh (s : Nat → Int) (w : World) (h : ∀ i, i64B (s i)) : (Op.equalIn 10000 60 (shq s) (shq s)).run Try.prog w = .ok true w := by
  obtain ⟨r, hr, hi⟩ := run_equalIn_deep 9997 3 60 keySh w 3 3 _ _ _ _ (formSh s) (formSh s) (lits_sh 1 s h) (lits_sh 1 s h)
  have e : r = true := hi.2 rfl
  rw [e] at hr
  exact hr
theorem eqlSh_run (s : Nat → Int) (w : World) (h : ∀ i, i64B (s i)) : (eqlShS (shq s) (shq s)).run Try.prog w = .ok (.bool true) w := by
  rw [eqlShS, shq, run_eql_struct]
  have := eqIn_sh s w h
  rw [shq] at this
  rw [this]; rfl
theorem neqSh_run (s : Nat → Int) (w : World) (h : ∀ i, i64B (s i)) : (neqShS (shq s) (shq s)).run Try.prog w = .ok (.bool false) w := by
  rw [neqShS, shq, run_neq_struct]
  have := eqIn_sh s w h
  rw [shq] at this
  rw [this]; rfl
theorem shF_bnd {n : Int} (h0 : 0 ≤ n) (h1 : n < 146097) (i : Nat) : i64B (shF n i) := by
  obtain ⟨y0, y1, m0, m1, d0, d1⟩ := fDate_year h0 h1
  obtain ⟨-, g2, g3⟩ := fOr_ms h0 h1
  obtain ⟨l0, l1⟩ := lenI_bd (fY n) (fMo n)
  have lp := leapI_bd (fY n)
  unfold i64B
  match i with
  | 0 => show _ ≤ n ∧ n ≤ _; omega
  | 1 => show _ ≤ fY n ∧ fY n ≤ _; omega
  | 2 => show _ ≤ fMo n ∧ fMo n ≤ _; omega
  | 3 => show _ ≤ fD n ∧ fD n ≤ _; omega
  | 4 => show _ ≤ lenI (fY n) (fMo n) - fD n + 1 ∧ lenI (fY n) (fMo n) - fD n + 1 ≤ _; omega
  | 5 => show _ ≤ (n % 7 + 3) % 7 + 1 ∧ (n % 7 + 3) % 7 + 1 ≤ _; omega
  | 6 => show _ ≤ (fD n - 1) / 7 + 1 ∧ (fD n - 1) / 7 + 1 ≤ _; omega
  | 7 => show _ ≤ (lenI (fY n) (fMo n) - fD n) / 7 + 1 ∧ (lenI (fY n) (fMo n) - fD n) / 7 + 1 ≤ _; omega
  | 8 => show _ ≤ (fOr n - 1) / 7 + 1 ∧ (fOr n - 1) / 7 + 1 ≤ _; omega
  | _ + 9 => show _ ≤ (365 + leapI (fY n) - fOr n) / 7 + 1 ∧ (365 + leapI (fY n) - fOr n) / 7 + 1 ≤ _; omega

/-! ### the plain law -/
theorem next_none {l : List Cl} {f d : Int} {b : Bool} (hf : 0 ≤ f) (h : daysT l f 146096 = []) (hL : LastIs l d b) : b = false ∨ (b = true ∧ d < f) := by
  rcases hL with ⟨rfl, h0, h1, h2, -⟩ | ⟨rfl, -, -⟩
  · refine .inr ⟨rfl, ?_⟩
    apply Classical.byContradiction
    intro hd
    have : d ∈ daysT l f 146096 := daysT_mem.2 ⟨⟨by omega, by omega⟩, h2⟩
    rw [h] at this; cases this
  · exact .inl rfl
theorem next_some {l : List Cl} {f d n : Int} {b : Bool} {r : List Int} (h : daysT l f 146096 = n :: r) (hL : LastIs l d b) :
    f ≤ n ∧ n ≤ 146096 ∧ actB l n = true ∧ n ≤ d ∧ ∀ k, f ≤ k → k < n → actB l k = false := by
  have hm : n ∈ daysT l f 146096 := by rw [h]; simp
  obtain ⟨⟨h1, h2⟩, h3⟩ := daysT_mem.1 hm
  refine ⟨h1, h2, h3, ?_, fun k hk1 hk2 => ?_⟩
  · rcases hL with ⟨rfl, g0, g1, g2, g3⟩ | ⟨rfl, -, g3⟩
    · apply Classical.byContradiction
      intro hd
      rw [g3 n (by omega)] at h3; cases h3
    · rw [g3 n] at h3; cases h3
  · rw [← Bool.not_eq_true]
    intro hk
    have hkm : k ∈ daysT l f 146096 := daysT_mem.2 ⟨⟨hk1, by omega⟩, hk⟩
    have hp := daysT_pair l f 146096
    rw [h] at hkm hp
    rw [List.pairwise_cons] at hp
    rcases List.mem_cons.1 hkm with e | e
    · omega
    · have := hp.1 k e; omega
structure DnF (w : World) (l : List Cl) (a : Option Addr) (W : World) : Prop where
  sl : Sl W a (cls l)
  be : Below w.heap.size w W
theorem DnF.keep {w W W' : World} {l : List Cl} {a : Option Addr} (h : DnF w l a W) (hb : Below W.heap.size W W') : DnF w l a W' := ⟨h.sl.below hb, h.be.trans (hb.mono h.be.size)⟩
structure DnG (w : World) (l : List Cl) (a : Option Addr) (b : Nat) (s : Nat → Int) (W : World) : Prop where
  f : DnF w l a W
  sh : ShS W b s
  l : b < W.heap.size
theorem DnG.keep {w W W' : World} {l : List Cl} {a : Option Addr} {b : Nat} {s : Nat → Int} (h : DnG w l a b s W) (hb : Below W.heap.size W W') : DnG w l a b s W' := ⟨h.f.keep hb, h.sh.below hb h.l, Nat.lt_of_lt_of_le h.l hb.size⟩
abbrev DnP (w : World) (l : List Cl) (a : Option Addr) (b : Nat) (s : Nat → Int) (W : World) : Prop := ShS W b s ∧ DnG w l a b s W
theorem DnG.p {w W : World} {l : List Cl} {a : Option Addr} {b : Nat} {s : Nat → Int} (h : DnG w l a b s W) : DnP w l a b s W := ⟨h.sh, h⟩
attribute [local go_sem ↓] eql_shS neq_shS
set_option maxRecDepth 100000 in
set_option maxHeartbeats 6400000 in
theorem DayNext_walk (a : Option Addr) (cap : Nat) (l : List Cl) (x : Int) (st : Int) (w : World) (hl : l.length ≤ 9223372036854775807) (hlc : l.length ≤ cap) (hs : Sl w a (cls l)) (hok : ∀ c ∈ l, c.Ok) (hx : 0 ≤ x ∧ x ≤ 4294967295) (hst : 0 ≤ st ∧ st ≤ 255) :
    Calls Try.prog 13 #[.slice a l.length cap, .int .u32 x, .int .u8 st] w fun e w' => e = .returned (.bool true) ∧ Below w.heap.size w w' := by
  obtain ⟨hx0, hx1⟩ := hx
  obtain ⟨hs0, hs1⟩ := hst
  have cV := hid (fun W => Lives14_any W)
  have cF := hid (fun W => Few_any a cap l W hl)
  by_cases h8 : l.length ≤ 8
  rotate_left
  · rw [decide_eq_false h8] at cF
    clear hs hok h8
    go_enter Try.func13, Try.ntmps13
    go_wp2_with ((refine (cF.out _).mono ?_); rintro e w' ⟨rfl, rfl⟩)
    refine (cV.out _).mono ?_
    rintro e w1 ⟨rfl, hB1⟩
    have HB1 := hid hB1
    clear hB1
    go_wp2
    go_ret
    exact ⟨rfl, HB1.out⟩
  rw [decide_eq_true h8] at cF
  have hq0 : 0 ≤ x % 146097 := Int.emod_nonneg _ (by omega)
  have hq1 : x % 146097 < 146097 := Int.emod_lt_of_pos _ (by omega)
  have hr0 : 0 ≤ st % 20 := Int.emod_nonneg _ (by omega)
  have hr1 : st % 20 < 20 := Int.emod_lt_of_pos _ (by omega)
  have cL := hid (Last_any a cap l w hl hs hok)
  have cN := hid (fun f h0 h1 W (h : DnF w l a W) => DNext_any f a cap l W h0 h1 hl h.sl hok)
  have cS := hid (fun n h0 h1 W => RShape_any n W h0 h1)
  have cA := hid (fun n h0 h1 W (h : DnF w l a W) => RActive_any a cap l n W hl h.sl hok h0 h1)
  have HF0 : Hid (DnF w l a w) := ⟨hs, Below.refl _ _⟩
  have hwu := hid (show IntKind.i64.wrap (x.tmod 146097) = x % 146097 by rw [Int.tmod_eq_emod_of_nonneg hx0]; exact IntWalk.i64_in _ (by omega))
  clear hs hok h8
  go_enter Try.func13, Try.ntmps13
  go_wp2_with ((refine (cF.out _).mono ?_); rintro e w' ⟨rfl, rfl⟩)
  refine cL.out.mono ?_
  rintro e w1 ⟨⟨d, b, rfl, hL⟩, hB1⟩
  have HF1 := hid (HF0.out.keep hB1)
  have HL := hid hL
  clear hB1
  go_upto_region 5 with fail
  go_cut [38] from 29 to 38 (fun x38 wx => x38 = .bool false ∧ Hid (DnF w l a wx))
  case first =>
    rcases HL.out with ⟨rfl, d0, d1, hact, -⟩ | ⟨rfl, -, -⟩
    · have cS1 : Hid (∀ v, v = d → ∀ W, Calls Try.prog 35 #[.int .i64 v] W fun e w' => e = .returned (shN d) ∧ Below W.heap.size W w') := by
        rintro v rfl W; exact cS.out v d0 d1 W
      have cA1 := hid (fun W h => cA.out d d0 d1 W h)
      have hMz : actM l d ≠ 0 := by simpa only [actB, decide_eq_true_eq] using hact
      obtain ⟨M, hM⟩ : ∃ M, actM l d = M := ⟨_, rfl⟩
      rw [hM] at cA1 hMz
      have cb : ((M : Int) == 0) = false := by simpa using hMz
      clear hM hMz hact
      go_wp2_with fail
      all_goals
        refine (cS1.out _ (by omega) _).mono ?_
        rintro e w2 ⟨rfl, hB2⟩
        have HF2 := hid (HF1.out.keep hB2)
        clear hB2
        go_wp2_with fail
        refine (cA1.out _ HF2.out).mono ?_
        rintro e w3 ⟨rfl, hB3⟩
        have HF3 := hid (HF2.out.keep hB3)
        clear hB3
        go_wp2
        go_meet
        exact ⟨rfl, HF3⟩
    · go_wp2
      go_meet
      exact ⟨rfl, HF1⟩
  case rest =>
    obtain ⟨rfl, HF⟩ := hcut
    have hM0 := hid (fun n h => (show actM l n = 0 by have : actB l n = false := h; simpa only [actB, decide_eq_false_iff_not, ne_eq, Decidable.not_not] using this))
    have hz0 : ∀ W, (eqlShS (.agg #[.int .i64 0, .int .i64 0, .int .i64 0, .int .i64 0, .int .i64 0, .int .i64 0, .int .i64 0, .int .i64 0, .int .i64 0, .int .i64 0]) (.agg #[.int .i64 0, .int .i64 0, .int .i64 0, .int .i64 0, .int .i64 0, .int .i64 0, .int .i64 0, .int .i64 0, .int .i64 0, .int .i64 0])).run Try.prog W = .ok (.bool true) W := fun W => eqlSh_run (fun _ => 0) W (fun _ => ⟨by decide, by decide⟩)
    have Hz0 := hid hz0
    clear hz0
    go_upto_region 8 with fail
    go_wp2_with fail
    go_loopw [10, 11] (fun at_ i wr => ∃ (k : Nat) (f : Int), at_ = .int .i64 f ∧ i = .int .i64 k ∧ (k : Int) ≤ 20 ∧ 0 ≤ f ∧ f ≤ 146097 ∧ Hid (DnF w l a wr)) (fun _ i _ => 20 - (intOf i).toNat)
    case atStart => exact ⟨0, x % 146097, rfl, rfl, by omega, by omega, by omega, HF⟩
    case round =>
      obtain ⟨k, f, rfl, rfl, hk, hf0, hf1, HI⟩ := hrel
      by_cases hlt : (k : Int) < st % 20
      rotate_left
      · go_wp2_with fail
        refine (cV.out _).mono ?_
        rintro e w2 ⟨rfl, hB2⟩
        have HF2 := hid (HI.out.keep hB2)
        clear hB2
        go_wp2
        go_ret
        exact ⟨rfl, HF2.out.be⟩
      · have cN1 := hid (cN.out f hf0 hf1 _ HI.out)
        go_wp2_with fail
        refine cN1.out.mono ?_
        rintro e w2 ⟨hN, hB2⟩
        have HF2 := hid (HI.out.keep hB2)
        clear hB2 cN1
        rcases hN with ⟨hnil, rfl⟩ | ⟨n, r, hcons, rfl⟩
        · rw [shq]
          have hz0 := Hz0.out
          rcases next_none hf0 hnil HL.out with rfl | ⟨rfl, hdf⟩
          · clear hnil
            go_wp2_with fail
            refine (cV.out _).mono ?_
            rintro e w3 ⟨rfl, hB3⟩
            have HF3 := hid ((HF2.out.keep (below_new (Below.refl _ _) (Nat.le_refl _))).keep hB3)
            clear hB3
            go_wp2
            go_ret
            exact ⟨rfl, HF3.out.be⟩
          · clear hnil
            go_wp2_with fail
            refine (cV.out _).mono ?_
            rintro e w3 ⟨rfl, hB3⟩
            have HF3 := hid ((HF2.out.keep (below_new (Below.refl _ _) (Nat.le_refl _))).keep hB3)
            clear hB3
            go_wp2
            go_ret
            exact ⟨rfl, HF3.out.be⟩
        · obtain ⟨n0, n1, hact, hnd, hno⟩ := next_some hcons HL.out
          have hn0 : 0 ≤ n := by omega
          have hn1 : n < 146097 := by omega
          have hMl := actM_lt l n
          have hMz : actM l n ≠ 0 := by simpa only [actB, decide_eq_true_eq] using hact
          have cA1 := hid (fun W h => cA.out n hn0 hn1 W h)
          have cS1 : Hid (∀ v, v = n → ∀ W, Calls Try.prog 35 #[.int .i64 v] W fun e w' => e = .returned (shN n) ∧ Below W.heap.size W w') := by
            rintro v rfl W; exact cS.out v hn0 hn1 W
          have hne := hid (fun W => neqSh_run (shF n) W (shF_bnd hn0 hn1))
          have Hno := hid hno
          have hn : shF n 0 = n := rfl
          obtain ⟨M, hM⟩ : ∃ M, actM l n = M := ⟨_, rfl⟩
          rw [hM] at cA1 hMl hMz ⊢
          rw [← shq_shF] at cA1 cS1 ⊢
          obtain ⟨s, hs⟩ : ∃ s, shF n = s := ⟨_, rfl⟩
          rw [hs] at cA1 cS1 hne hn ⊢
          rw [shq] at cA1 cS1 hne ⊢
          have cb : ((M : Int) == 0) = false := by simpa using hMz
          have hnew := below_new (o := .cells (shList s).toArray 60) (Below.refl w2.heap.size w2) (Nat.le_refl _)
          have HG3 : Hid (DnG w l a w2.heap.size s (w2.alloc (.cells (shList s).toArray 60))) := ⟨HF2.out.keep hnew, shC_new w2 60 _ _ _ _ _ _ _ _ _ _, by simp⟩
          obtain ⟨W3, hW3⟩ : ∃ W, w2.alloc (.cells (shList s).toArray 60) = W := ⟨_, rfl⟩
          rw [hW3] at HG3
          have HW3 := hid hW3
          obtain rfl : n = s 0 := hn.symm
          obtain ⟨b12, hb12⟩ : ∃ b, w2.heap.size = b := ⟨_, rfl⟩
          rw [hb12] at HG3
          have Hb12 := hid hb12
          clear hn hs hM hMz hcons hact hno hnew hW3 hb12
          go_upto_region 12 with fail
          rw [HW3.out, Hb12.out]
          obtain ⟨q0, q1, q2, q3, q4, q5, q6, q7, q8, q9⟩ := HG3.out.sh
          go_upto_region 15 with fail
          have HP3 : Hid (DnP w l a b12 s W3.drew) := (HG3.out.keep (Below.refl _ _).drew).p
          have hA1 : Hid (∀ W, DnP w l a b12 s W → Calls Try.prog 50 #[.slice a l.length cap, .agg #[.int .i64 (s 0), .int .i64 (s 1), .int .i64 (s 2), .int .i64 (s 3), .int .i64 (s 4), .int .i64 (s 5), .int .i64 (s 6), .int .i64 (s 7), .int .i64 (s 8), .int .i64 (s 9)]] W fun e w' => e = .returned (.int .u64 (M : Nat)) ∧ DnP w l a b12 s w') := fun W h =>
            (cA1.out W h.2.f).mono fun e w' ⟨he, hb⟩ => ⟨he, (h.2.keep hb).p⟩
          have hS1 : Hid (∀ v, v = s 0 → ∀ W, DnP w l a b12 s W → Calls Try.prog 35 #[.int .i64 v] W fun e w' => e = .returned (.agg #[.int .i64 (s 0), .int .i64 (s 1), .int .i64 (s 2), .int .i64 (s 3), .int .i64 (s 4), .int .i64 (s 5), .int .i64 (s 6), .int .i64 (s 7), .int .i64 (s 8), .int .i64 (s 9)]) ∧ DnP w l a b12 s w') := fun v hv W h =>
            (cS1.out v hv W).mono fun e w' ⟨he, hb⟩ => ⟨he, (h.2.keep hb).p⟩
          have e1 : decide (s 0 < f) = false := decide_eq_false (by omega)
          have e2 : decide (d < s 0) = false := decide_eq_false (by omega)
          clear q0 q1 q2 q3 q4 q5 q6 q7 q8 q9
          refine wp_region_held_drew (S := fun w' => DnP w l a b12 s w') (by kernel_rfl) HP3.out (fun hHeld => ?_)
          refine wpAnyH_take (i := 0) (v := ?_) rfl (by kernel_rfl) (by kernel_rfl) (by kernel_rfl) (fun _ _ _ h => h) (Or.inl ⟨by rfl, ?_⟩) (by assumption) ?_
          rotate_left
          · intro w hSw; go_simp; (try with_reducible rfl)
          (try simp only [Act.put, List.getElem_toArray, List.getElem_cons_zero, List.setIfInBounds_toArray, List.set_cons_zero, List.set_cons_succ])
          refine wpAnyH_take (i := 1) (v := ?_) rfl (by kernel_rfl) (by kernel_rfl) (by kernel_rfl) (fun _ _ _ h => h) (Or.inl ⟨by rfl, ?_⟩) (by assumption) ?_
          rotate_left
          · intro w hSw; go_simp; (try with_reducible rfl)
          (try simp only [Act.put, List.getElem_toArray, List.getElem_cons_succ, List.getElem_cons_zero, List.setIfInBounds_toArray, List.set_cons_zero, List.set_cons_succ])
          refine wpAnyH_take (i := 2) (v := ?_) rfl (by kernel_rfl) (by kernel_rfl) (by kernel_rfl) (fun _ _ _ h => h) (Or.inl ⟨by rfl, ?_⟩) (by assumption) ?_
          rotate_left
          · intro w hSw; go_simp; (try with_reducible rfl)
          (try simp only [Act.put, List.getElem_toArray, List.getElem_cons_succ, List.getElem_cons_zero, List.setIfInBounds_toArray, List.set_cons_zero, List.set_cons_succ])
          refine wpAnyH_take (i := 3) (v := ?_) rfl (by kernel_rfl) (by kernel_rfl) (by kernel_rfl) (fun _ _ _ h => h) (Or.inl ⟨by rfl, ?_⟩) (by assumption) ?_
          rotate_left
          · intro w hSw; go_simp; (try with_reducible rfl)
          (try simp only [Act.put, List.getElem_toArray, List.getElem_cons_succ, List.getElem_cons_zero, List.setIfInBounds_toArray, List.set_cons_zero, List.set_cons_succ])
          refine wpAnyH_take (i := 4) (v := ?_) rfl (by kernel_rfl) (by kernel_rfl) (by kernel_rfl) (fun _ _ _ h => h) (Or.inl ⟨by rfl, ?_⟩) (by assumption) ?_
          rotate_left
          · intro w hSw; go_simp; (try with_reducible rfl)
          (try simp only [Act.put, List.getElem_toArray, List.getElem_cons_succ, List.getElem_cons_zero, List.setIfInBounds_toArray, List.set_cons_zero, List.set_cons_succ])
          refine wpAnyH_take (i := 5) (v := ?_) rfl (by kernel_rfl) (by kernel_rfl) (by kernel_rfl) (fun _ _ _ h => h) (Or.inl ⟨by rfl, ?_⟩) (by assumption) ?_
          rotate_left
          · intro w hSw; go_simp; (try with_reducible rfl)
          (try simp only [Act.put, List.getElem_toArray, List.getElem_cons_succ, List.getElem_cons_zero, List.setIfInBounds_toArray, List.set_cons_zero, List.set_cons_succ])
          refine wpAnyH_take (i := 6) (v := ?_) rfl (by kernel_rfl) (by kernel_rfl) (by kernel_rfl) (fun _ _ _ h => h) (Or.inl ⟨by rfl, ?_⟩) (by assumption) ?_
          rotate_left
          · intro w hSw; go_simp; (try with_reducible rfl)
          (try simp only [Act.put, List.getElem_toArray, List.getElem_cons_succ, List.getElem_cons_zero, List.setIfInBounds_toArray, List.set_cons_zero, List.set_cons_succ])
          refine wpAnyH_take (i := 7) (v := ?_) rfl (by kernel_rfl) (by kernel_rfl) (by kernel_rfl) (fun _ _ _ h => h) (Or.inl ⟨by rfl, ?_⟩) (by assumption) ?_
          rotate_left
          · intro w hSw; go_simp; (try with_reducible rfl)
          (try simp only [Act.put, List.getElem_toArray, List.getElem_cons_succ, List.getElem_cons_zero, List.setIfInBounds_toArray, List.set_cons_zero, List.set_cons_succ])
          refine wpAnyH_take (i := 8) (v := ?_) rfl (by kernel_rfl) (by kernel_rfl) (by kernel_rfl) (fun _ _ _ h => h) (Or.inl ⟨by rfl, ?_⟩) (by assumption) ?_
          rotate_left
          · intro w hSw; go_simp; (try with_reducible rfl)
          (try simp only [Act.put, List.getElem_toArray, List.getElem_cons_succ, List.getElem_cons_zero, List.setIfInBounds_toArray, List.set_cons_zero, List.set_cons_succ])
          refine wpAnyH_take (i := 9) (v := ?_) rfl (by kernel_rfl) (by kernel_rfl) (by kernel_rfl) (fun _ _ _ h => h) (Or.inl ⟨by rfl, ?_⟩) (by assumption) ?_
          rotate_left
          · intro w hSw; go_simp; (try with_reducible rfl)
          (try simp only [Act.put, List.getElem_toArray, List.getElem_cons_succ, List.getElem_cons_zero, List.setIfInBounds_toArray, List.set_cons_zero, List.set_cons_succ])
          refine wpAnyH_take (i := 10) (v := ?_) rfl (by kernel_rfl) (by kernel_rfl) (by kernel_rfl) (fun _ _ _ h => h) (Or.inl ⟨by rfl, ?_⟩) (by assumption) ?_
          rotate_left
          · intro w hSw; go_simp; (try with_reducible rfl)
          (try simp only [Act.put, List.getElem_toArray, List.getElem_cons_succ, List.getElem_cons_zero, List.setIfInBounds_toArray, List.set_cons_zero, List.set_cons_succ])
          refine wpAnyH_take (i := 11) (v := ?_) rfl (by kernel_rfl) (by kernel_rfl) (by kernel_rfl) (fun _ _ _ h => h) (Or.inl ⟨by rfl, ?_⟩) (by assumption) ?_
          rotate_left
          · intro w hSw; go_simp; (try with_reducible rfl)
          (try simp only [Act.put, List.getElem_toArray, List.getElem_cons_succ, List.getElem_cons_zero, List.setIfInBounds_toArray, List.set_cons_zero, List.set_cons_succ])
          refine wpAnyH_take (i := 12) (v := ?_) rfl (by kernel_rfl) (by kernel_rfl) (by kernel_rfl) (fun _ _ _ h => h) (Or.inl ⟨by rfl, ?_⟩) (by assumption) ?_
          rotate_left
          · intro w hSw; go_simp; (try with_reducible rfl)
          (try simp only [Act.put, List.getElem_toArray, List.getElem_cons_succ, List.getElem_cons_zero, List.setIfInBounds_toArray, List.set_cons_zero, List.set_cons_succ])
          refine wpAnyH_take (i := 13) (v := ?_) rfl (by kernel_rfl) (by kernel_rfl) (by kernel_rfl) (fun _ _ _ h => h) (Or.inl ⟨by rfl, ?_⟩) (by assumption) ?_
          rotate_left
          · intro w hSw; go_simp; (try with_reducible rfl)
          (try simp only [Act.put, List.getElem_toArray, List.getElem_cons_succ, List.getElem_cons_zero, List.setIfInBounds_toArray, List.set_cons_zero, List.set_cons_succ])
          refine wpAnyH_take (i := 14) (v := ?_) rfl (by kernel_rfl) (by kernel_rfl) (by kernel_rfl) (fun _ _ _ h => h) (Or.inl ⟨by rfl, ?_⟩) (by assumption) ?_
          rotate_left
          · intro w hSw; go_simp; (try with_reducible rfl)
          (try simp only [Act.put, List.getElem_toArray, List.getElem_cons_succ, List.getElem_cons_zero, List.setIfInBounds_toArray, List.set_cons_zero, List.set_cons_succ])
          refine wpAnyH_take (i := 15) (v := ?_) rfl (by kernel_rfl) (by kernel_rfl) (by kernel_rfl) (fun _ _ _ h => h) (Or.inl ⟨by rfl, ?_⟩) (by assumption) ?_
          rotate_left
          · intro w hSw; go_simp; (try with_reducible rfl)
          (try simp only [Act.put, List.getElem_toArray, List.getElem_cons_succ, List.getElem_cons_zero, List.setIfInBounds_toArray, List.set_cons_zero, List.set_cons_succ])
          refine wpAnyH_ready (rs := [16]) (by kernel_rfl) (by simp) ?_
          refine AllReadyH.cons rfl (fun K hK => ?_) AllReadyH.nil
          go_simp
          refine (hA1.out _ (by assumption)).mono ?_; rintro e w4 ⟨rfl, hS⟩
          (try go_wp2_with fail)
          refine hK.out _ _ (by assumption) (fun hHeld => ?_)
          clear hK K
          (try simp only [Act.put, List.getElem_toArray, List.getElem_cons_succ, List.getElem_cons_zero, List.setIfInBounds_toArray, List.set_cons_zero, List.set_cons_succ])
          refine wpAnyH_take (i := 17) (v := ?_) rfl (by kernel_rfl) (by kernel_rfl) (by kernel_rfl) (fun _ _ _ h => h) (Or.inl ⟨by rfl, ?_⟩) (by assumption) ?_
          rotate_left
          · intro w hSw; go_simp; (try with_reducible rfl)
          (try simp only [Act.put, List.getElem_toArray, List.getElem_cons_succ, List.getElem_cons_zero, List.setIfInBounds_toArray, List.set_cons_zero, List.set_cons_succ])
          refine wpAnyH_take (i := 18) (v := ?_) rfl (by kernel_rfl) (by kernel_rfl) (by kernel_rfl) (fun _ _ _ h => h) (Or.inl ⟨by rfl, ?_⟩) (by assumption) ?_
          rotate_left
          · intro w hSw; go_simp; (try with_reducible rfl)
          (try simp only [Act.put, List.getElem_toArray, List.getElem_cons_succ, List.getElem_cons_zero, List.setIfInBounds_toArray, List.set_cons_zero, List.set_cons_succ])
          refine wpAnyH_take (i := 19) (v := ?_) rfl (by kernel_rfl) (by kernel_rfl) (by kernel_rfl) (fun _ _ _ h => h) (Or.inl ⟨by rfl, ?_⟩) (by assumption) ?_
          rotate_left
          · intro w hSw; go_simp; (try with_reducible rfl)
          (try simp only [Act.put, List.getElem_toArray, List.getElem_cons_succ, List.getElem_cons_zero, List.setIfInBounds_toArray, List.set_cons_zero, List.set_cons_succ])
          refine wpAnyH_take (i := 20) (v := ?_) rfl (by kernel_rfl) (by kernel_rfl) (by kernel_rfl) (fun _ _ _ h => h) (Or.inl ⟨by rfl, ?_⟩) (by assumption) ?_
          rotate_left
          · intro w hSw; go_simp; (try with_reducible rfl)
          (try simp only [Act.put, List.getElem_toArray, List.getElem_cons_succ, List.getElem_cons_zero, List.setIfInBounds_toArray, List.set_cons_zero, List.set_cons_succ])
          refine wpAnyH_take (i := 21) (v := ?_) rfl (by kernel_rfl) (by kernel_rfl) (by kernel_rfl) (fun _ _ _ h => h) (Or.inl ⟨by rfl, ?_⟩) (by assumption) ?_
          rotate_left
          · intro w hSw; go_simp; (try with_reducible rfl)
          (try simp only [Act.put, List.getElem_toArray, List.getElem_cons_succ, List.getElem_cons_zero, List.setIfInBounds_toArray, List.set_cons_zero, List.set_cons_succ])
          refine wpAnyH_take (i := 22) (v := (.int .i64 (s 0))) rfl (by kernel_rfl) (by kernel_rfl) (by kernel_rfl) (fun _ _ _ h => h) (Or.inl ⟨by rfl, fun w hSw => ?_⟩) (by assumption) ?_
          · go_simp; (try (intro _; omega)); (try omega)
          (try simp only [Act.put, List.getElem_toArray, List.getElem_cons_succ, List.getElem_cons_zero, List.setIfInBounds_toArray, List.set_cons_zero, List.set_cons_succ])
          refine wpAnyH_take (i := 23) (v := (.int .i64 (s 0))) rfl (by kernel_rfl) (by kernel_rfl) (by kernel_rfl) (fun _ _ _ h => h) (Or.inl ⟨by rfl, fun w hSw => ?_⟩) (by assumption) ?_
          · go_simp; (try (intro _; omega)); (try omega)
          (try simp only [Act.put, List.getElem_toArray, List.getElem_cons_succ, List.getElem_cons_zero, List.setIfInBounds_toArray, List.set_cons_zero, List.set_cons_succ])
          refine wpAnyH_ready (rs := [24]) (by kernel_rfl) (by simp) ?_
          refine AllReadyH.cons rfl (fun K hK => ?_) AllReadyH.nil
          go_simp
          refine (hS1.out _ (by omega) _ (by assumption)).mono ?_; rintro e w5 ⟨rfl, hS⟩
          have hn5 := hne.out w5
          (try go_wp2_with fail)
          refine hK.out _ _ (by assumption) (fun hHeld => ?_)
          clear hK K
          (try simp only [Act.put, List.getElem_toArray, List.getElem_cons_succ, List.getElem_cons_zero, List.setIfInBounds_toArray, List.set_cons_zero, List.set_cons_succ])
          refine wpAnyH_take (i := 25) (v := ?_) rfl (by kernel_rfl) (by kernel_rfl) (by kernel_rfl) (fun _ _ _ h => h) (Or.inl ⟨by rfl, ?_⟩) (by assumption) ?_
          rotate_left
          · intro w hSw; go_simp; rw [hne.out, Result.andThen_ok]
          (try simp only [Act.put, List.getElem_toArray, List.getElem_cons_succ, List.getElem_cons_zero, List.setIfInBounds_toArray, List.set_cons_zero, List.set_cons_succ])
          refine wpAnyH_take (i := 26) (v := ?_) rfl (by kernel_rfl) (by kernel_rfl) (by kernel_rfl) (fun _ _ _ h => h) (Or.inl ⟨by rfl, ?_⟩) (by assumption) ?_
          rotate_left
          · intro w hSw; go_simp; (try with_reducible rfl)
          (try simp only [Act.put, List.getElem_toArray, List.getElem_cons_succ, List.getElem_cons_zero, List.setIfInBounds_toArray, List.set_cons_zero, List.set_cons_succ])
          refine wpAnyH_done (by kernel_rfl) ?_ _
          have HV := hid (‹DnP w l a b12 s _›).2
          have hf400 : Hid (0 ≤ f) := hf0
          go_upto_region 17 with fail
          go_wp2_with fail
          go_loopw [16] (fun y wr2 => ∃ q : Int, y = .int .i64 q ∧ f ≤ q ∧ q ≤ s 0 ∧ Hid (DnF w l a wr2)) (fun y _ => (s 0 - intOf y).toNat)
          case atStart => exact ⟨f, rfl, by omega, by omega, HV.out.f⟩
          case round =>
            obtain ⟨q, rfl, hq2, hq3, HQ⟩ := hrel
            by_cases g1 : q < s 0
            · by_cases g2 : q < f + 400
              · have cS2 := hid (fun W => cS.out q (by omega) (by omega) W)
                have cA2 := hid (fun W h => cA.out q (by omega) (by omega) W h)
                rw [hM0.out q (Hno.out q hq2 g1)] at cA2
                go_wp2_with fail
                refine (cS2.out _).mono ?_
                rintro e w6 ⟨rfl, hB6⟩
                have HQ6 := hid (HQ.out.keep hB6)
                clear hB6
                go_wp2_with fail
                refine (cA2.out _ HQ6.out).mono ?_
                rintro e w7 ⟨rfl, hB7⟩
                have HQ7 := hid (HQ6.out.keep hB7)
                clear hB7
                go_wp2
                exact ⟨⟨q + 1, rfl, by omega, by omega, HQ7⟩, by simp [intOf]; omega⟩
              · go_wp2
                exact ⟨⟨k + 1, s 0 + 1, rfl, by go_num, by omega, by omega, by omega, HQ⟩, by simp [intOf]; omega⟩
            · go_wp2
              exact ⟨⟨k + 1, s 0 + 1, rfl, by go_num, by omega, by omega, by omega, HQ⟩, by simp [intOf]; omega⟩
end Go.Proofs.Ytndfckpcbiecnaa
