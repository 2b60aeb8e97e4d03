/-
  The seconds of a disc, told and collected in a list: ferialaw15.Told.
  What feriaref02.Ints computes.
  ferialaw18.Same, and the chapter's example: ferialaw18.lives.
  ferialaw17.May: the document's answer for sets.
  roll.Steps: how many clauses of a set have a step below a day.
  What feriaref07.All computes: the seconds of three masks.
-/
import Derived.Test.YtcbanlgnanihhaaGreatDoorQ37adec
import Derived.Test.YtcbanlgnanihhaaGreatDoorQc8f422
import Derived.Test.YtcbanlgnanihhaaGreatDoorQ9f704e
import Derived.Test.YtcbanlgnanihhaaGreatDoorQa99f09
import Derived.Test.YtcbanlgnanihhaaGreatDoorQd03722
import Derived.Test.YtcbanlgnanihhaaGreatDoorQ470d80
import Derived.Test.YtcbanlgnanihhaaGreatDoorQc7067e
import Derived.Deep.RegionHeld3
import Derived.Deep.AppendLies
namespace Go.Proofs.YtcbanlgnanihhaaGreatDoor
open Go.RowKit
set_option linter.unusedVariables false

set_option maxRecDepth 100000 in
set_option maxHeartbeats 1600000 in
theorem DcAllNil_any (w : World) :
    Calls Tryz.prog 104 #[.pointer none] w fun e w' => e = .returned (.func (.func 150) #[] #[.pointer (some ⟨w.heap.size, 0, none⟩)]) ∧ DC w' w.heap.size (fun _ => 0) ∧ Below w.heap.size w w' ∧ w.heap.size < w'.heap.size := by
  obtain ⟨W1, hW1⟩ : ∃ W1, w.alloc (.cells Tryz.zeroCells93 93) = W1 := ⟨_, rfl⟩
  have q1 : DC W1 w.heap.size (fun _ => 0) := by rw [← hW1]; exact dc_new' w
  have q3 : Below w.heap.size w W1 := by rw [← hW1]; exact below_new (Below.refl _ _) (Nat.le_refl _)
  have q4 : W1.heap.size = w.heap.size + 1 := by rw [← hW1]; simp
  have Q := hid (And.intro q1 (And.intro q3 (show w.heap.size < W1.heap.size by omega)))
  have HW1 := hid hW1
  clear hW1 q1 q3 q4
  go_enter Tryz.func104, Tryz.ntmps104
  go_wp2_with fail
  try rw [HW1.out]
  try go_wp2
  go_ret
  exact ⟨rfl, Q.out⟩
theorem DcAllO_any (d : Option Nat) (q : Nat → Bool) (w : World) (h : DiscO w d q) :
    Calls Tryz.prog 104 #[dptr d] w fun e w' => e = .returned (.func (.func 150) #[] #[.pointer (some ⟨w.heap.size, 0, none⟩)]) ∧ Hid (∃ t, DC w' w.heap.size t ∧ (∀ i, i < 1350 → t i < 18446744073709551616) ∧ wupto t 1350 = secL q) ∧ Below w.heap.size w w' ∧ w.heap.size < w'.heap.size := by
  have key : ∀ t : Nat → Nat, (∀ k, k < 86400 → bitW t k = q k) → wupto t 1350 = secL q := fun t ht => by
    rw [wupto_sel, secL, show 64 * 1350 = 86400 from by decide]
    exact sel_congr fun k hk => ht k hk
  cases d with
  | none => exact (DcAllNil_any w).mono fun e w' ⟨h1, h2, h3, h4⟩ => ⟨h1, ⟨_, h2, fun i _ => by omega, key _ fun k hk => by rw [h k hk]; simp [bitW]⟩, h3, h4⟩
  | some b =>
    obtain ⟨f, g1, g2, g3, g4, g5⟩ := h
    exact (DcAll_any b f w g1 g5).mono fun e w' ⟨h1, h2, h3, h4⟩ => ⟨h1, ⟨_, h2, g3, key _ g4⟩, h3, h4⟩

set_option maxHeartbeats 800000 in
theorem CollTold_any : CollCall 105 86401 := by
  intro bg base k xs O W hk hl hJ
  obtain ⟨v, h1, h3, h4, h5, h8, g1, g3, g4⟩ := hJ
  obtain ⟨x, hx⟩ : ∃ x, xs[k] = x := ⟨_, rfl⟩
  have ht := hid (take_snoc xs k hk)
  rw [hx] at ht ⊢
  clear hx
  obtain ⟨a, cap, rfl, hs, hcap⟩ := owns_form h3
  have H3 := hid h3
  have G := hid (And.intro g1 (And.intro g3 g4))
  clear g1 g3 g4
  go_enter Tryz.func105, Tryz.ntmps105
  clear hs h3
  go_wp2_with (at_builtin; refine app1 eInt (.tmp 4) (.tmp 6) rfl rfl rfl rfl rfl H3.out rfl (by omega) (by omega) h8 ?_)
  intro a' cap' w' hown hg hb hf
  have e1 := grown_cell hg h1 (fun e => by have := owns_lt H3.out e; omega)
  have Hown := hid hown
  have Hf := hid hf
  have Hb := hid hb
  have Hg := hid hg
  have hfz : w'.frozen? ⟨bg, 0, none⟩ = false := (hb.frozen (p := ⟨bg, 0, none⟩) h5).trans h4
  clear hown hf hb hg h1 h4
  go_wp2
  obtain ⟨g1, g3, g4⟩ := G.out
  have hgr := Hg.out
  have hsz : W.heap.size ≤ w'.heap.size := hgr.size
  have hs2 : (w'.setCell ⟨bg, 0, none⟩ (.slice a' (k + 1) cap')).heap.size = w'.heap.size := by simp [go_sem]
  refine bodyPost_ret (v := .bool (decide ((k : Int) + 1 ≤ 86400))) (by simp [results, Tryz.results105, go_sem]) rfl ⟨fun b => O b ∨ (W.heap.size ≤ b ∧ b < w'.heap.size), fun b h => .inl h, fun b h => h.imp id (·.1), ?_, ?_, ?_⟩
  · refine ⟨hgr.os, hgr.tape, hgr.output, by omega, fun b hb hn => ?_⟩
    have hne : b ≠ bg := fun e => hn (e ▸ g1)
    rw [Below.heap_setCell _ _ _ _ hne]
    exact hgr.block b hb (fun e => hn (g3 b e.symm))
  · refine ⟨.slice a' (k + 1) cap', by simp [go_sem, e1], ?_, by simp [go_sem, hfz], h5, by omega, .inl g1, fun b hb => ?_, fun b hb => ?_⟩
    · rw [ht.out, ints_append, ints_one]; exact ownsRow_setCell_below Hown.out (by simpa using h5) _
    · rcases Hf.out b hb with h | h
      · exact .inl (g3 b h)
      · exact .inr ⟨h, (owns_lt Hown.out hb).2⟩
    · rcases hb with h | h
      · have := g4 b h; omega
      · omega
  · exact congrArg (fun b => Ending.returned (Value.bool b)) (decide_eq_decide.2 (by omega))

theorem secL_len (q : Nat → Bool) : (secL q).length ≤ 86400 := sel_len q 86400
set_option maxRecDepth 100000 in
set_option maxHeartbeats 1600000 in
/-- the seconds of a disc, or of none -/
theorem Told_any (d : Option Nat) (q : Nat → Bool) (w : World) (hT : Tab w) (h : DiscO w d q) :
    Calls Tryz.prog 52 #[dptr d] w fun e w' => (∃ v, e = .returned (.tuple #[v, .bool true]) ∧ w'.ownsRow w.heap.size 3 1 v (secL q).length (ints (secL q))) ∧ Below w.heap.size w w' := by
  have cA := hid (DcAllO_any d q w h)
  have HT := hid hT
  have hT0 := hT.1
  obtain ⟨v, hv⟩ : ∃ v, dptr d = v := ⟨_, rfl⟩
  rw [hv] at cA ⊢
  clear hv hT h
  go_enter Tryz.func52, Tryz.ntmps52
  go_wp2_with fail
  refine cA.out.mono ?_
  rintro e w1 ⟨rfl, ht, hB1, hl1⟩
  have hnil := fun W => run_eq_nilFunc (P := Tryz.prog) (t := 156) (f := .func 150) (a := #[]) (c := #[.pointer (some ⟨w.heap.size, 0, none⟩)]) (w := W) ⟨_, _, _, Tryz.underlying156⟩
  obtain ⟨W0, hW0⟩ : ∃ W0, w1.alloc (.cells #[.slice none 0 0] 58) = W0 := ⟨_, rfl⟩
  have hI : Hid (Calls Tryz.prog 150 #[.func (.func 105) #[] #[.pointer (some ⟨w1.heap.size, 0, none⟩)], .pointer (some ⟨w.heap.size, 0, none⟩)] W0 fun e W2 => (∃ v, e = .returned v) ∧
      ∃ a n cap, W2.cell? ⟨w1.heap.size, 0, none⟩ = some (.slice a n cap) ∧ W2.ownsRow w.heap.size 3 1 (.slice a n cap) (secL q).length (ints (secL q)) ∧ Below w.heap.size w W2) := by
    obtain ⟨t, t1, t2, t3⟩ := ht.out
    have q1 : W0.cell? ⟨w1.heap.size, 0, none⟩ = some (.slice none 0 0) := by rw [← hW0]; simp [go_sem]
    have q2 : W0.frozen? ⟨w1.heap.size, 0, none⟩ = false := by rw [← hW0]; simp [go_sem]
    have q3 : W0.heap.size = w1.heap.size + 1 := by rw [← hW0]; simp
    have q4 : Below w1.heap.size w1 W0 := by rw [← hW0]; exact below_new (Below.refl _ _) (Nat.le_refl _)
    have hB2 : Below w.heap.size w W0 := hB1.trans (q4.mono hB1.size)
    have hlen := secL_len q
    have hcl := (collk_client CollTold_any (Go.Proofs.enters_of Tryz.func105 (by kernel_rfl) rfl) w1.heap.size W0.heap.size (wupto t 1350) (by rw [t3]; omega) (by rw [t3]; omega)).two ⟨_, _, _, rfl⟩ (fun b => b = w1.heap.size) W0
    refine (DiscIter_any t w.heap.size _ _ _ (fun b => b = w1.heap.size) W0 t2 hcl ⟨_, q1, World.ownsRow_nil _ _ _ _, q2, by omega, Nat.le_refl _, rfl, fun b hb => (by cases hb), fun b hb => by omega⟩
      (by omega) (by omega) (t1.below q4 hl1) (HT.out.later hB2) (by omega)).mono ?_
    rintro e W2 ⟨he, O', hsub, hnew, hE, hend⟩
    refine ⟨he, ?_⟩
    have hJ : CollK w1.heap.size W0.heap.size (wupto t 1350) (wupto t 1350).length O' W2 := by
      rcases hend with h | ⟨_, _, _, h⟩
      · exact h
      · exact h.elim
    obtain ⟨v', k1, k2, k3, _⟩ := hJ
    obtain ⟨ag, cg, rfl, hs, _⟩ := owns_form k2
    rw [List.take_length, t3] at k2
    rw [t3] at k1
    exact ⟨_, _, _, k1, owns_base k2 (by omega), hB2.trans (hE.below (by rintro b h; have := hB1.size; omega) hB2.size)⟩
  have HW0 := hid hW0
  clear hW0 ht hB1 cA
  go_wp2_with fail
  rw [HW0.out]
  refine hI.out.mono ?_
  rintro e W2 ⟨⟨v, rfl⟩, a, n, cap, k1, k2, k3⟩
  have K := hid (And.intro k2 k3)
  clear k2 k3
  go_wp2
  go_ret2
  exact ⟨⟨_, rfl, K.out.1⟩, K.out.2⟩
end Go.Proofs.YtcbanlgnanihhaaGreatDoor
namespace Go.Proofs.YtcbanlgnanihhaaGreatDoor
open Go.RowKit
set_option linter.unusedVariables false

set_option maxHeartbeats 400000 in
theorem Ints_any (a b : Option Addr) (cn cm : Nat) (x y : List Int) (w : World)
   (hxl : x.length ≤ 9223372036854775807) (hyl : y.length ≤ 9223372036854775807)
   (hx : Sl w a (ints x)) (hy : Sl w b (ints y)) :
    Calls Tryz.prog 53 #[.slice a x.length cn, .slice b y.length cm] w fun e w' => e = .returned (.bool (decide (x = y))) ∧ Below w.heap.size w w' := by
  by_cases hnm : x.length = y.length
  · have hb' : ((x.length : Int) != (y.length : Int)) = false := by simp; omega
    have HH := hid hnm
    clear hnm
    go_enter Tryz.func53, Tryz.ntmps53
    go_wp2
    go_loopw [5] (fun i wr => ∃ k : Nat, i = .int .i64 k ∧ k ≤ x.length ∧ x.take k = y.take k ∧ Below w.heap.size w wr) (fun i _ => x.length - (intOf i).toNat)
    case atStart => exact ⟨0, rfl, by omega, rfl, Below.refl _ _⟩
    case round =>
      obtain ⟨k, rfl, hk, ht, hB⟩ := hrel
      by_cases hlt : k < x.length
      · obtain ⟨b1, o1, rfl, hb1, hc1⟩ := hx.atInt hlt
        have hy' : k < y.length := by rw [← HH.out]; exact hlt
        obtain ⟨b2, o2, rfl, hb2, hc2⟩ := hy.atInt hy'
        have e1 := (hB.cell (p := ⟨b1, o1 + k, none⟩) hb1).trans (hc1 k hlt)
        have e2 := (hB.cell (p := ⟨b2, o2 + k, none⟩) hb2).trans (hc2 k hy')
        have hT := hid ht
        clear hc1 hc2 ht hx hy
        go_wp2
        go_quiet (fail)
        go_wp2
        · have hne : (x[k] != y[k]) = true := by assumption
          go_ret
          refine ⟨ret_bool ?_, below_drewN hB _⟩
          symm
          rw [decide_eq_false_iff_not]
          intro e
          subst e
          simp at hne
        · have hne : (x[k] != y[k]) = false := by assumption
          refine ⟨⟨k + 1, by go_num, by omega, ?_, below_drewN hB _⟩, by simp [intOf]; omega⟩
          rw [take_snoc _ _ hlt, take_snoc _ _ hy', hT.out]
          simp at hne
          rw [hne]
      · have hT := hid ht
        clear ht hx hy
        have hge : x.length ≤ k := by omega
        go_wp2
        go_ret
        refine ⟨ret_bool ?_, hB⟩
        symm
        rw [decide_eq_true_eq]
        have := hT.out
        rwa [List.take_of_length_le hge, List.take_of_length_le (by rw [← HH.out]; exact hge)] at this
  · have hb' : ((x.length : Int) != (y.length : Int)) = true := by simp; omega
    have hf : decide (x = y) = false := by
      rw [decide_eq_false_iff_not]; intro e; subst e; exact hnm rfl
    rw [hf]
    clear hf
    go_enter Tryz.func53, Tryz.ntmps53
    go_wp2
    go_ret
    exact ⟨rfl, Below.refl _ _⟩

end Go.Proofs.YtcbanlgnanihhaaGreatDoor
namespace Go.Proofs.YtcbanlgnanihhaaGreatDoor
open Go.RowKit Go.Maps
set_option linter.unusedVariables false

set_option maxHeartbeats 1600000 in
theorem Same18_any (d : Option Nat) (q : Nat → Bool) (a : Option Addr) (cap : Nat) (L : List Int) (w : World) (hL : L.length ≤ 9223372036854775807) (hs : Sl w a (ints L)) (hT : Tab w) (h : DiscO w d q) :
    Calls Tryz.prog 27 #[dptr d, .slice a L.length cap] w fun e w' => e = .returned (.bool (decide (secL q = L))) ∧ Below w.heap.size w w' := by
  have cT := hid (Told_any d q w hT h)
  have Hs := hid hs
  have hlen := secL_len q
  obtain ⟨v, hv⟩ : ∃ v, dptr d = v := ⟨_, rfl⟩
  obtain ⟨Q, hQ⟩ : ∃ Q, secL q = Q := ⟨_, rfl⟩
  rw [hv] at cT ⊢
  rw [hQ] at cT hlen ⊢
  clear hv hQ hT h hs
  go_enter Tryz.func27, Tryz.ntmps27
  go_wp2_with fail
  refine cT.out.mono ?_
  rintro e w1 ⟨⟨v1, rfl, ho⟩, hB1⟩
  obtain ⟨a1, c1, rfl, hs1, -⟩ := owns_form ho
  have cI := hid (Ints_any a1 a c1 cap Q L w1 (by omega) hL hs1 (Hs.out.below hB1))
  have HB1 := hid hB1
  clear ho hs1 hB1
  go_wp2_with fail
  refine cI.out.mono ?_
  rintro e w2 ⟨rfl, hB2⟩
  have HB2 := hid (HB1.out.trans (hB2.mono HB1.out.size))
  clear hB2
  go_wp2
  go_ret
  exact ⟨rfl, HB2.out⟩

theorem whole_set {cs : List Cl} {n : Int} (h : ∀ c ∈ cs, c.fr = 0 ∧ c.un = 12622780799 ∧ (0 < sizeU c.unit → c.step ≤ 1)) (h0 : 0 ≤ n) (h1 : n < 146097) : wholeB cs n = true := by
  rw [wholeB, List.all_eq_true]
  intro i hi
  rw [List.mem_range] at hi
  rw [atC_get hi]
  obtain ⟨g1, g2, g3⟩ := h _ (List.getElem_mem hi)
  obtain ⟨c, hc⟩ : ∃ c, cs[i] = c := ⟨_, rfl⟩
  rw [hc] at g1 g2 g3 ⊢
  rw [Bool.or_eq_true, decide_eq_true_eq]
  cases hl : liveD c n
  · exact .inl rfl
  · refine .inr ⟨?_, ?_, ?_⟩
    · rw [sF, hl, if_pos rfl, stF, g1]; omega
    · rw [sU, hl, if_pos rfl, stU, g2]; omega
    · rw [sP, hl, if_pos rfl, phaseC, if_neg (fun h => by have := g3 h.2; omega)]
theorem live_full {n : Int} (h0 : 0 ≤ n) (h1 : n < 146097) : liveD fullCl n = true := by
  have h := full_has (t := 86400 * n) (by rw [winB, decide_eq_true_eq]; omega)
  rw [hasC, Bool.and_eq_true, Bool.and_eq_true, Bool.and_eq_true, Bool.and_eq_true, Bool.and_eq_true] at h
  obtain ⟨-, -, -, -, -, hd⟩ := h
  rw [show 86400 * n / 86400 = n by omega] at hd
  rw [liveD, okD, onD, may_full, hd]
  have e : heldB fullCl.fr fullCl.un = true := by decide
  have e1 : frD fullCl = 0 := by decide
  have e2 : unD fullCl = 146096 := by decide
  rw [e, e1, e2, decide_eq_true h0, decide_eq_true (by omega)]; rfl
theorem act_full {n : Int} (h0 : 0 ≤ n) (h1 : n < 146097) : actM [fullCl] n = 1 := by
  have e : actM [fullCl] n = mk fun i => decide (i = 0) := by
    rw [actM]
    congr 1
    funext i
    by_cases hi : i = 0
    · subst hi; show (decide (0 < 1) && liveD fullCl n) = _; rw [live_full h0 h1]; rfl
    · rw [decide_eq_false (show ¬ i < [fullCl].length by simp; omega), decide_eq_false hi]; rfl
  rw [e]; decide +kernel
theorem any_full {n : Int} (h0 : 0 ≤ n) (h1 : n < 146097) : anyQ (dayQ [fullCl] n) = true := by
  refine anyQ_true.2 ⟨0, by omega, ?_⟩
  rw [dayQ, List.any_cons, full_has (by rw [winB, decide_eq_true_eq]; omega)]; rfl
theorem dayS_full {f t : Int} (h0 : 0 ≤ f) (h1 : t < 146097) : dayS [fullCl] (daysL f t) = daysL f t := by
  rw [dayS, List.filter_eq_self]
  intro n hn
  have := daysL_mem.1 hn
  exact any_full (by omega) (by omega)
theorem fault_full : faultL [fullCl] = 0 := by
  rw [faultL, if_neg (by simp), if_pos (by simp [may_full])]
theorem full_okL : ∀ c ∈ [fullCl], c.Ok := fun c hc => by rw [List.mem_singleton.1 hc]; exact full_ok
/-- of the whole set one disc is made -/
def InvL (j : Nat) (ws : Nat → Bool) (m : Nat) : Prop := m = (if j = 0 then 0 else 1) ∧ ws = fun i => decide (0 < j) && decide (i = 1)
theorem invL_step {n : Int} (h0 : 0 ≤ n) (h1 : n < 146097) {j : Nat} {ws ws' : Nat → Bool} {m m' : Nat} (h : InvL j ws m) (hs : AtStep [fullCl] n ws m ws' m') : InvL (j + 1) ws' m' := by
  have hw : wholeB [fullCl] n = true := whole_set (fun c hc => by rw [List.mem_singleton.1 hc]; exact ⟨rfl, rfl, fun _ => by decide⟩) h0 h1
  obtain ⟨rfl, rfl⟩ := h
  rw [AtStep, act_full h0 h1, hw] at hs
  rcases hs with ⟨h, -⟩ | ⟨-, -, rfl, rfl⟩ | ⟨-, h, -⟩
  · omega
  · refine ⟨?_, ?_⟩
    · by_cases hj : j = 0
      · simp [hj]
      · have : 0 < j := by omega
        simp [hj, this]
    · funext i
      by_cases hi : i = 1
      · simp [hi]
      · simp [hi]
  · cases h
/-- a counter in a box -/
def CntF (b : Nat) : OwnF := fun k O _ W => W.cell? ⟨b, 0, none⟩ = some (.int .i64 (k : Nat)) ∧ W.frozen? ⟨b, 0, none⟩ = false ∧ O b ∧ ∀ x, O x → x < W.heap.size
theorem cntF_stab (b : Nat) (M : Blk) : StabF M (CntF b) := fun k O F F' W W' ⟨h1, h2, h3, h4⟩ hs hF hO =>
  ⟨(World.cell?_of_block (w := W) (a := ⟨b, 0, none⟩) (hO b (.inl h3))).trans h1, (World.frozen?_of_block (w := W) (a := ⟨b, 0, none⟩) (hO b (.inl h3))).trans h2, h3, fun x hx => by have := h4 x hx; omega⟩
theorem cntF_lt (b : Nat) : LtF (CntF b) := fun k O F W h => h.2.2.2
theorem lives18_enters (args : Array Value) (w : World) : (callFunc 39 args).run Tryz.prog w = .ok (.enter 39 args) w := by simp [go_sem]
set_option maxHeartbeats 1600000 in
theorem Lives181_any (s : Nat → Int) (d : Value) (b : Nat) (k : Nat) (O F : Blk) (W : World) (hk : k < 1000000) (h : CntF b k O F W) :
    Calls Tryz.prog 39 #[shq s, d, .pointer (some ⟨b, 0, none⟩)] W fun e W' => e = .returned (.bool true) ∧ CntF b (k + 1) O F W' ∧ Eff O W W' := by
  obtain ⟨h1, h2, h3, h4⟩ := h
  have hb := h4 b h3
  obtain ⟨W1, hW1⟩ : ∃ W1, W.alloc (.cells #[.int .i64 (s 0), .int .i64 (s 1), .int .i64 (s 2), .int .i64 (s 3), .int .i64 (s 4), .int .i64 (s 5), .int .i64 (s 6), .int .i64 (s 7), .int .i64 (s 8), .int .i64 (s 9)] 63) = W1 := ⟨_, rfl⟩
  have hB1 : Below W.heap.size W W1 := by rw [← hW1]; exact below_new (Below.refl _ _) (Nat.le_refl _)
  have k1 := (hB1.cell (p := ⟨b, 0, none⟩) hb).trans h1
  have k2 := (hB1.frozen (p := ⟨b, 0, none⟩) hb).trans h2
  have hfin : Hid (∀ W2, W2 = W1.setCell ⟨b, 0, none⟩ (.int .i64 ((k + 1 : Nat) : Int)) → CntF b (k + 1) O F W2 ∧ Eff O W W2) := by
    rintro W2 rfl
    exact ⟨⟨by simp [go_sem, k1], by simp [go_sem, k2], h3, fun x hx => by have := h4 x hx; have := hB1.size; simpa [go_sem] using (by omega : x < W1.heap.size)⟩, (Eff.of_below hB1).set h3 _ _⟩
  have HW1 := hid hW1
  clear hW1 hB1 h1 h2 h3 h4
  rw [shq]
  go_enter Tryz.func39, Tryz.ntmps39
  go_upto_region 1 with fail
  rw [HW1.out]
  go_wp2
  go_ret
  exact ⟨rfl, hfin.out _ (by rw [show ((k + 1 : Nat) : Int) = (k : Int) + 1 by omega])⟩
theorem lives18_client (b n : Nat) (hn : n < 1000000) {cs : List Cl} {M : Blk} {xs : List Int} (O0 : Blk) (W0 : World) :
    ClientH Tryz.prog (.func (.func 39) #[] #[.pointer (some ⟨b, 0, none⟩)]) n (VRoll cs M xs) M (CntF b) (fun _ _ _ _ => False) O0 W0 where
  form := ⟨_, _, _, rfl⟩
  stab := cntF_stab b M
  stabx := fun _ _ _ _ _ _ h => h.elim
  lt := cntF_lt b
  ltx := fun _ _ _ _ h => h.elim
  call := by
    rintro k O F W vs hk hJ hFO ⟨x, d, h1, h2, h3, rfl, -⟩ hG
    rw [← shq_shF]
    refine .inl ⟨_, _, rfl, lives18_enters, ?_⟩
    show Calls Tryz.prog 39 #[shq (shF x), .pointer (some ⟨d, 0, none⟩), .pointer (some ⟨b, 0, none⟩)] W _
    exact (Lives181_any (shF x) _ b k O F W (by omega) hJ).mono fun e W' ⟨e1, e2, e3⟩ => ⟨O, fun _ h => h, fun _ h => .inl h, e3, .inl ⟨e1, e2⟩⟩
theorem hul_full : bndF [fullCl] 0 = 0 ∧ bndU [fullCl] 9 = 9 := ⟨by decide, by decide⟩
theorem invL_bd {j : Nat} {ws : Nat → Bool} {m : Nat} (h : InvL j ws m) : m ≤ 1 := by rw [h.1]; split <;> omega
set_option maxRecDepth 100000 in
set_option maxHeartbeats 3200000 in
theorem Lives18_any (w : World) (hT : Tab w) : Calls Tryz.prog 11 #[] w fun e w' => e = .returned (.bool true) ∧ Below w.heap.size w w' := by
  have HT := hid hT
  have cW := hid (IWhole_any w)
  have cN := hid (fun (g : Nat) W (hB : Below w.heap.size w W) (ho : OwnR w W [fullCl] (.slice (some ⟨g, 0, none⟩) 1 1)) => RNew_any (some ⟨g, 0, none⟩) 1 [fullCl] W (by simp) (by simp) (owns_sl ho) (by simp) full_okL (HT.out.later hB))
  clear hT
  go_enter Tryz.func11, Tryz.ntmps11
  go_wp2_with fail
  refine cW.out.mono ?_
  rintro e w1 ⟨⟨g, rfl, ho⟩, hB1⟩
  have c2 := hid (cN.out g w1 hB1 ho)
  have HB1 := hid hB1
  clear ho hB1
  go_wp2_with fail
  refine c2.out.mono ?_
  rintro e w2 ⟨hN, hB2⟩
  rcases hN with ⟨h, -⟩ | ⟨-, br, bk, bps, rfl, hR, hM⟩
  · exact absurd fault_full h
  have HB2 : Hid (Below w.heap.size w w2) := HB1.out.trans (hB2.mono HB1.out.size)
  have c3 := hid (RAllC_any 0 9 hR (InvL 0) ⟨rfl, by funext i; simp⟩)
  rw [hul_full.1, hul_full.2] at c3
  have HM := hid (fun b hb => Nat.le_trans HB1.out.size (hM b hb))
  clear hR hM hB2
  go_wp2_with fail
  refine c3.out.mono ?_
  rintro e w3 ⟨rfl, hB3, hl3, hH3⟩
  have hnil := fun (c : Array Value) W => run_eq_nilFunc (P := Tryz.prog) (t := 74) (f := .func 74) (a := #[]) (c := c) (w := W) ⟨_, _, _, Tryz.underlying74⟩
  have HB3 : Hid (Below w.heap.size w w3) := HB2.out.trans (hB3.mono HB2.out.size)
  obtain ⟨W0, hW0⟩ : ∃ W0, w3.alloc (.cells #[.int .i64 0] 3) = W0 := ⟨_, rfl⟩
  have q1 : W0.cell? ⟨w3.heap.size, 0, none⟩ = some (.int .i64 0) := by rw [← hW0]; simp [go_sem]
  have q2 : W0.frozen? ⟨w3.heap.size, 0, none⟩ = false := by rw [← hW0]; simp [go_sem]
  have q3 : W0.heap.size = w3.heap.size + 1 := by rw [← hW0]; simp
  have q4 : Below w3.heap.size w3 W0 := by rw [← hW0]; exact below_new (Below.refl _ _) (Nat.le_refl _)
  have hH0 := hH3.keep q4.size (fun b hb => q4.block b (hH3.lt b hb))
  have hlt3 := hH3.lt
  have hI := RAllF_any (cs := [fullCl]) (br := br) (bk := bk) (bps := bps) InvL (w2.heap.size + 1) (w2.heap.size + 2) w2.heap.size 0 9 (by omega) (by omega) (by omega) (by omega)
    (fun j n ws m ws' m' hn hi hs => by
      have := daysL_mem.1 (List.mem_of_getElem? hn)
      exact invL_step (by omega) (by omega) hi hs) (fun j ws m hi hj => by have := invL_bd hi; omega)
    _ _ _ (fun b => b = w3.heap.size) _ W0 hH0 (fun b hb e => by have := hlt3 b hb; omega) (lives18_client w3.heap.size _ (by rw [dayS_full (by omega) (by omega), daysL_len]; omega) _ W0) ⟨q1, q2, rfl, fun x hx => by omega⟩
  rw [dayS_full (by omega) (by omega), daysL_len] at hI
  have HI := hid hI
  have HW0 := hid hW0
  have HB4 := hid (HB3.out.trans (q4.mono HB3.out.size))
  have hs3 : Hid (w.heap.size ≤ w3.heap.size) := HB3.out.size
  clear hI hW0 q1 q2 q3 q4 hH3 hH0 hlt3 hB3 hl3
  go_wp2_with fail
  rw [HW0.out]
  refine HI.out.mono ?_
  rintro e w5 ⟨⟨v, rfl⟩, O', F', hG, hF1, hF2, hFO, hend⟩
  rcases hend with hend | ⟨-, _, _, _, hx⟩
  rotate_left
  · exact hx.elim
  obtain ⟨hH5, hJ5⟩ := hend
  obtain ⟨ws, m, hR5, hI5⟩ := hH5.roll
  obtain rfl : m = 1 := hI5.1
  have k5 : w5.cell? ⟨w3.heap.size, 0, none⟩ = some (.int .i64 10) := hJ5.1
  have HB5 : Hid (Below w.heap.size w w5) := HB4.out.trans (hG.eff.below (fun b hb => by
    rcases hb with h | h
    · have := hs3.out; omega
    · exact HM.out b h) HB4.out.size)
  have cM := hid (RMadeN_any hR5)
  clear hG hF1 hF2 hFO hH5 hJ5 hR5 hI5
  go_wp2_with fail
  refine cM.out.mono ?_
  rintro e w6 ⟨rfl, rfl⟩
  go_wp2
  go_ret
  exact ⟨rfl, HB5.out⟩
end Go.Proofs.YtcbanlgnanihhaaGreatDoor
namespace Go.Proofs.YtcbanlgnanihhaaGreatDoor
open Go.RowKit
set_option linter.unusedVariables false

attribute [local go_sem ↓] loadAt_cl
set_option maxRecDepth 100000 in
set_option maxHeartbeats 3200000 in
theorem RMay17_any (a : Option Addr) (cap : Nat) (l : List Cl) (w : World) (hl : l.length ≤ 1000) (hs : Sl w a (cls l)) (hok : ∀ c ∈ l, c.Ok) :
    Calls Tryz.prog 10 #[.slice a l.length cap] w fun e w' => e = .returned (.bool (mayL l)) ∧ Below w.heap.size w w' := by
  have Hs := hid hs
  have Hok := hid hok
  clear hs hok
  go_enter Tryz.func10, Tryz.ntmps10
  go_wp2_with fail
  go_loopw [3] (fun i wr => ∃ k : Nat, i = .int .i64 k ∧ k ≤ l.length ∧ k ≤ 9 ∧ Hid ((l.take k).all mayC = true) ∧ Hid (Below w.heap.size w wr)) (fun i _ => l.length - (intOf i).toNat)
  case atStart => exact ⟨0, rfl, by omega, by omega, by show _ = _; rfl, Below.refl _ _⟩
  case round =>
    obtain ⟨k, rfl, hk, hk9, hall, HB⟩ := hrel
    by_cases hlt : k < l.length
    · by_cases h9 : k < 9
      · have hltI : (k : Int) < l.length := by omega
        have h9I : (k : Int) < 9 := by omega
        obtain ⟨b, off, rfl, hbk, hr⟩ := Hs.out.atCl hlt
        have hr' := range_below hr HB.out hbk
        have hcOk := hid (Hok.out _ (List.getElem_mem hlt))
        have ts := hid (take_snoc l k hlt)
        have hmem := hid (List.getElem_mem hlt)
        obtain ⟨c, hc⟩ : ∃ c, l[k] = c := ⟨_, rfl⟩
        rw [hc] at hr' hcOk ts hmem
        have le := ld_at hr'
        have cM := hid (fun W => RMayCl_any c W hcOk.out)
        cases hm : mayC c
        · rw [hm] at cM
          have hno : Hid (mayL l = false) := by
            show _ = _
            rw [mayL, show l.all mayC = false by rw [List.all_eq_false]; exact ⟨c, hmem.out, by rw [hm]; simp⟩, Bool.and_false]
          clear hr hr' hc hm
          go_wp2_with fail
          refine (cM.out _).mono ?_
          rintro e w1 ⟨rfl, hB1⟩
          have HB1 := hid (HB.out.trans (hB1.mono HB.out.size))
          clear hB1 le
          go_wp2
          go_ret
          rw [hno.out]
          exact ⟨rfl, HB1.out⟩
        · rw [hm] at cM
          have hyes : Hid ((l.take (k + 1)).all mayC = true) := by show _ = _; rw [ts.out, List.all_append, hall.out, List.all_cons, hm]; rfl
          clear hr hr' hc hm
          go_wp2_with fail
          refine (cM.out _).mono ?_
          rintro e w1 ⟨rfl, hB1⟩
          have HB1 := hid (HB.out.trans (hB1.mono HB.out.size))
          clear hB1 le
          go_wp2
          exact ⟨⟨k + 1, by go_num, by omega, by omega, hyes, HB1⟩, by simp [intOf]; omega⟩
      · have hltI : (k : Int) < l.length := by omega
        have h9I : ¬ (k : Int) < 9 := by omega
        have hno : Hid (mayL l = false) := by show _ = _; rw [mayL, decide_eq_false (by omega)]; rfl
        have h8J : decide ((l.length : Int) ≤ 8) = false := decide_eq_false (by omega)
        have h8I : ¬ (l.length : Int) ≤ 8 := by omega
        go_wp2
        go_ret
        rw [hno.out]
        exact ⟨rfl, HB.out⟩
    · have hltI : ¬ (k : Int) < l.length := by omega
      have hke : l.take k = l := List.take_of_length_le (by omega)
      rw [hke] at hall
      clear hke
      by_cases h8 : l.length ≤ 8
      · have hno : Hid (mayL l = true) := by show _ = _; rw [mayL, decide_eq_true h8, hall.out]; rfl
        have h8I : (l.length : Int) ≤ 8 := by omega
        clear hall
        go_wp2
        go_ret
        rw [hno.out]
        exact ⟨rfl, HB.out⟩
      · have hno : Hid (mayL l = false) := by show _ = _; rw [mayL, decide_eq_false h8]; rfl
        have h8I : ¬ (l.length : Int) ≤ 8 := by omega
        clear hall
        go_wp2
        go_ret
        rw [hno.out]
        exact ⟨rfl, HB.out⟩
end Go.Proofs.YtcbanlgnanihhaaGreatDoor
namespace Go.Proofs.YtcbanlgnanihhaaGreatDoor
open Go.RowKit Go.Maps
set_option linter.unusedVariables false
attribute [local go_sem ↓] loadAt_cl storeAt_cl
attribute [local go_sem] run_storeClS

/-- has a clause a step below a day? -/
def stpB (c : Cl) : Bool := mayC c && (decide (c.unit < 3) && decide (1 < c.step))
theorem countP_snoc {p : Cl → Bool} {l : List Cl} {k : Nat} (hk : k < l.length) : (l.take (k + 1)).countP p = (l.take k).countP p + if p l[k] then 1 else 0 := by
  rw [take_snoc l k hk, List.countP_append]; cases h : p l[k] <;> simp [h]
set_option maxRecDepth 100000 in
set_option maxHeartbeats 3200000 in
theorem RSteps_any (a : Option Addr) (cap : Nat) (l : List Cl) (w : World) (hl : l.length ≤ 1000) (hs : Sl w a (cls l)) (hok : ∀ c ∈ l, c.Ok) :
    Calls Tryz.prog 13 #[.slice a l.length cap] w fun e w' => e = .returned (.int .i64 (l.countP stpB : Nat)) ∧ Below w.heap.size w w' := by
  have cM := hid (fun (c : Cl) (hc : c.Ok) W => CMayCl_any c W hc)
  have Hs := hid hs
  have Hok := hid hok
  clear hs hok
  go_enter Tryz.func13, Tryz.ntmps13
  go_wp2_with fail
  go_loopw [3, 5, 8] (fun v _ i wr => ∃ k q : Nat, i = .int .i64 k ∧ k ≤ l.length ∧ v = .int .i64 q ∧ q ≤ k ∧ Hid (q = (l.take k).countP stpB) ∧ Hid (Below w.heap.size w wr)) (fun _ _ i _ => l.length - (intOf i).toNat)
  case atStart => exact ⟨0, 0, rfl, by omega, rfl, by omega, (rfl : (0 : Nat) = 0), Below.refl _ _⟩
  case round =>
    obtain ⟨k, q, rfl, hk, rfl, hqk, Hq, HB⟩ := hrel
    by_cases hlt : k < l.length
    · obtain ⟨b, off, rfl, hbk, hr⟩ := Hs.out.atCl hlt
      have hr' := range_below hr HB.out hbk
      have hcOk := hid (Hok.out _ (List.getElem_mem hlt))
      have Hsn := hid (countP_snoc (p := stpB) hlt)
      obtain ⟨c, hc⟩ : ∃ c, l[k] = c := ⟨_, rfl⟩
      rw [hc] at hr' hcOk Hsn
      have le := ld_at hr'
      have hth2 : (wr.alloc (.cells zL.toArray 32)).there wr.heap.size 0 30 := there_new wr _ _
      have hn2 := below_new (o := .cells zL.toArray 32) (Below.refl wr.heap.size wr) (Nat.le_refl _)
      obtain ⟨W1, hW1⟩ : ∃ W1, putCl (wr.alloc (.cells zL.toArray 32)) wr.heap.size (clList c) = W1 := ⟨_, rfl⟩
      have hC1 : ClB W1 wr.heap.size c := by rw [← hW1]; exact putCl_range _ rfl hth2
      have hb1 : Below wr.heap.size wr W1 := by rw [← hW1]; exact putCl_below hn2 (Nat.le_refl _) _
      have hs1 : wr.heap.size < W1.heap.size := by rw [← hW1, putCl_eq, size_setCells, World.size_alloc]; omega
      have HW1 := hid hW1
      have HC1 := hid hC1
      have HB1 := hid (HB.out.trans (hb1.mono HB.out.size))
      have Hs1 := hid hs1
      have cM1 := hid (cM.out c hcOk.out W1)
      have hsp : Hid (stpB c = (mayC c && (decide (c.unit < 3) && decide (1 < c.step)))) := rfl
      obtain ⟨mv, hmv⟩ : ∃ m, mayC c = m := ⟨_, rfl⟩
      rw [hmv] at cM1 hsp
      clear hW1 hn2 hb1 hs1 hC1 hr hr' hc hmv
      go_upto_region 5 with fail
      rw [HW1.out]
      have l1 := HC1.out.ld
      clear le hth2
      go_wp2_with fail
      refine cM1.out.mono ?_
      rintro e w2 ⟨rfl, hB2⟩
      have HC2 := hid (HC1.out.below hB2 Hs1.out)
      have HB2 := hid (HB1.out.trans (hB2.mono HB1.out.size))
      obtain ⟨t0, t1, -, -, -⟩ := HC2.out.tail
      clear hB2 l1
      cases mv
      · have hz : Hid (q = (l.take (k + 1)).countP stpB) := by show _ = _; rw [Hsn.out, hsp.out, ← Hq.out]; rfl
        go_wp2
        exact ⟨⟨k + 1, q, by go_num, by omega, rfl, by omega, hz, HB2⟩, by simp [intOf]; omega⟩
      · by_cases h3 : c.unit < 3
        · by_cases h1 : 1 < c.step
          · have hz : Hid (q + 1 = (l.take (k + 1)).countP stpB) := by show _ = _; rw [Hsn.out, hsp.out, decide_eq_true h3, decide_eq_true h1, ← Hq.out]; rfl
            go_wp2
            exact ⟨⟨k + 1, q + 1, by go_num, by omega, by go_num, by omega, hz, HB2⟩, by simp [intOf]; omega⟩
          · have hz : Hid (q = (l.take (k + 1)).countP stpB) := by show _ = _; rw [Hsn.out, hsp.out, decide_eq_false h1, ← Hq.out]; simp
            go_wp2
            exact ⟨⟨k + 1, q, by go_num, by omega, rfl, by omega, hz, HB2⟩, by simp [intOf]; omega⟩
        · have hz : Hid (q = (l.take (k + 1)).countP stpB) := by show _ = _; rw [Hsn.out, hsp.out, decide_eq_false h3, ← Hq.out]; simp
          go_wp2
          exact ⟨⟨k + 1, q, by go_num, by omega, rfl, by omega, hz, HB2⟩, by simp [intOf]; omega⟩
    · obtain rfl : k = l.length := by omega
      rw [List.take_length] at Hq
      go_wp2
      go_ret
      exact ⟨congrArg (fun n : Nat => Ending.returned (.int .i64 (n : Int))) Hq.out, HB.out⟩
end Go.Proofs.YtcbanlgnanihhaaGreatDoor
namespace Go.Proofs.YtcbanlgnanihhaaGreatDoor
open Go.RowKit
set_option linter.unusedVariables false

theorem secs_snoc (H M S : List Int) (i : Nat) (hi : i < H.length) : secs (H.take (i + 1)) M S = secs (H.take i) M S ++ secHour H[i] M S := by
  unfold secs; rw [take_snoc H i hi, List.flatMap_append, List.flatMap_cons, List.flatMap_nil, List.append_nil]
theorem secHour_snoc (h : Int) (M S : List Int) (i : Nat) (hi : i < M.length) : secHour h (M.take (i + 1)) S = secHour h (M.take i) S ++ secRow h M[i] S := by
  unfold secHour; rw [take_snoc M i hi, List.flatMap_append, List.flatMap_cons, List.flatMap_nil, List.append_nil]
theorem secRow_snoc (h m : Int) (S : List Int) (i : Nat) (hi : i < S.length) : secRow h m (S.take (i + 1)) = secRow h m (S.take i) ++ [3600 * h + 60 * m + S[i]] := by
  unfold secRow; rw [take_snoc S i hi, List.map_append, List.map_cons, List.map_nil]

set_option maxRecDepth 100000 in
set_option maxHeartbeats 3200000 in
theorem RAll_any (hs ms ss : Nat) (w : World) (hh : hs < 18446744073709551616) (hm : ms < 18446744073709551616) (hss : ss < 18446744073709551616) :
    Calls Tryz.prog 101 #[.int .u64 hs, .int .u64 ms, .int .u64 ss] w fun e w' => ∃ v, e = .returned v ∧
      w'.ownsRow w.heap.size 3 1 v (secs (sel (cutM hs 23).testBit 64) (sel (cutM ms 59).testBit 64) (sel (cutM ss 59).testBit 64)).length (ints (secs (sel (cutM hs 23).testBit 64) (sel (cutM ms 59).testBit 64) (sel (cutM ss 59).testBit 64))) ∧ Below w.heap.size w w' := by
  have c1 : Hid (∀ W, Calls Tryz.prog 148 #[.int .u64 hs, .int .i64 23] W fun e w' => e = .returned (.int .u64 (cutM hs 23)) ∧ Below W.heap.size W w') := fun W => RHeld_any hs 23 W hh (by omega)
  have c2 : Hid (∀ W, Calls Tryz.prog 148 #[.int .u64 ms, .int .i64 59] W fun e w' => e = .returned (.int .u64 (cutM ms 59)) ∧ Below W.heap.size W w') := fun W => RHeld_any ms 59 W hm (by omega)
  have c3 : Hid (∀ W, Calls Tryz.prog 148 #[.int .u64 ss, .int .i64 59] W fun e w' => e = .returned (.int .u64 (cutM ss 59)) ∧ Below W.heap.size W w') := fun W => RHeld_any ss 59 W hss (by omega)
  have d1 := hid (fun W => own_ret (RList_any (cutM hs 23) W (cutM_lt 23 hh)))
  have d2 := hid (fun W => own_ret (RList_any (cutM ms 59) W (cutM_lt 59 hm)))
  have d3 := hid (fun W => own_ret (RList_any (cutM ss 59) W (cutM_lt 59 hss)))
  have lH := sel_len (cutM hs 23).testBit 64
  have lM := sel_len (cutM ms 59).testBit 64
  have lS := sel_len (cutM ss 59).testBit 64
  have bH := hid (fun k hk => sel_bd (p := (cutM hs 23).testBit) k hk)
  have bM := hid (fun k hk => sel_bd (p := (cutM ms 59).testBit) k hk)
  have bS := hid (fun k hk => sel_bd (p := (cutM ss 59).testBit) k hk)
  obtain ⟨H, eH⟩ : ∃ l, sel (cutM hs 23).testBit 64 = l := ⟨_, rfl⟩
  obtain ⟨M, eM⟩ : ∃ l, sel (cutM ms 59).testBit 64 = l := ⟨_, rfl⟩
  obtain ⟨S, eS⟩ : ∃ l, sel (cutM ss 59).testBit 64 = l := ⟨_, rfl⟩
  rw [eH] at lH bH d1 ⊢
  rw [eM] at lM bM d2 ⊢
  rw [eS] at lS bS d3 ⊢
  clear eH eM eS hh hm hss
  obtain ⟨x, ex⟩ : ∃ x, cutM hs 23 = x := ⟨_, rfl⟩
  obtain ⟨y, ey⟩ : ∃ x, cutM ms 59 = x := ⟨_, rfl⟩
  obtain ⟨z, ez⟩ : ∃ x, cutM ss 59 = x := ⟨_, rfl⟩
  rw [ex] at c1 d1
  rw [ey] at c2 d2
  rw [ez] at c3 d3
  clear ex ey ez
  obtain ⟨i0, hi0, hz0, hz1, hz2⟩ := info_parts eInt.hi
  go_enter Tryz.func101, Tryz.ntmps101
  go_wp2_with fail
  refine (c1.out w).mono ?_
  rintro e w1 ⟨rfl, hB1⟩
  go_wp2_with fail
  refine (d1.out w1).mono ?_
  rintro e w2 ⟨aH, nH, cH, rfl, hnH, hsH, hoH, hB2⟩
  have HB2 : Hid (Below w.heap.size w w2) := hB1.trans (hB2.mono hB1.size)
  clear hoH hB1 hB2
  go_wp2_with fail
  refine (c2.out w2).mono ?_
  rintro e w3 ⟨rfl, hB3⟩
  go_wp2_with fail
  refine (d2.out w3).mono ?_
  rintro e w4 ⟨aM, nM, cM, rfl, hnM, hsM, hoM, hB4⟩
  have hBB : Below w2.heap.size w2 w4 := hB3.trans (hB4.mono hB3.size)
  have HB4 : Hid (Below w.heap.size w w4) := HB2.out.trans (hBB.mono HB2.out.size)
  have hsH4 := hsH.below hBB
  clear hoM hB3 hB4 hBB hsH
  go_wp2_with fail
  refine (c3.out w4).mono ?_
  rintro e w5 ⟨rfl, hB5⟩
  go_wp2_with fail
  refine (d3.out w5).mono ?_
  rintro e W0 ⟨aS, nS, cS, rfl, hnS, hsS, hoS, hB6⟩
  have hBB : Below w4.heap.size w4 W0 := hB5.trans (hB6.mono hB5.size)
  have HB0 : Hid (Below w.heap.size w W0) := HB4.out.trans (hBB.mono HB4.out.size)
  have HsH := hid (hsH4.below hBB)
  have HsM := hid (hsM.below hBB)
  have HsS := hid hsS
  obtain rfl := hnH.out
  obtain rfl := hnM.out
  obtain rfl := hnS.out
  clear hoS hB5 hB6 hBB hsH4 hsM hsS HB2 HB4 hnH hnM hnS d1 d2 d3 c1 c2 c3
  go_wp2_with fail
  go_loopw [10, 11, 12, 13] (fun v i _ _ wr => ∃ (n q cq : Nat) (aq : Option Addr), i = .int .i64 n ∧ n ≤ H.length ∧ v = .slice aq q cq ∧ q ≤ 4096 * n ∧ Hid (q = (secs (H.take n) M S).length) ∧ wr.ownsRow W0.heap.size 3 1 (.slice aq q cq) q (ints (secs (H.take n) M S)) ∧ Below W0.heap.size W0 wr) (fun _ i _ _ _ => H.length - (intOf i).toNat)
  case atStart => exact ⟨0, 0, 0, none, rfl, by omega, rfl, by omega, (rfl : (0 : Nat) = 0), World.ownsRow_nil _ _ _ _, Below.refl _ _⟩
  case round =>
    obtain ⟨n, q, cq, aq, rfl, hn, rfl, hq, Hq, hown, hB⟩ := hrel
    by_cases hlt : n < H.length
    · obtain ⟨bh, oh, rfl, hbh, hch⟩ := HsH.out.atInt hlt
      have eh := hch n hlt
      have fh := bH.out n hlt
      have Hsn := hid (secs_snoc H M S n hlt)
      obtain ⟨h, hh⟩ : ∃ h, H[n] = h := ⟨_, rfl⟩
      rw [hh] at eh fh Hsn
      obtain ⟨fh1, fh2⟩ := fh
      clear hch hh
      go_wp2_with fail
      go_loopw [10, 12, 13] (fun v i _ wr => ∃ (m q cq : Nat) (aq : Option Addr), i = .int .i64 m ∧ m ≤ M.length ∧ v = .slice aq q cq ∧ q ≤ 4096 * n + 64 * m ∧ Hid (q = (secs (H.take n) M S ++ secHour h (M.take m) S).length) ∧ wr.ownsRow W0.heap.size 3 1 (.slice aq q cq) q (ints (secs (H.take n) M S ++ secHour h (M.take m) S)) ∧ Below W0.heap.size W0 wr) (fun _ i _ _ => M.length - (intOf i).toNat)
      case atStart => exact ⟨0, q, cq, aq, rfl, by omega, rfl, by omega, by simpa [secHour] using Hq, by simpa [secHour] using hown, hB⟩
      case round =>
        clear hown hB Hq hq
        obtain ⟨m, q, cq, aq, rfl, hm, rfl, hq, Hq, hown, hB⟩ := hrel
        by_cases hlt2 : m < M.length
        · obtain ⟨bm, om, rfl, hbm, hcm⟩ := HsM.out.atInt hlt2
          have em := hcm m hlt2
          have fm := bM.out m hlt2
          have Hsm := hid (secHour_snoc h M S m hlt2)
          obtain ⟨mm, hmm⟩ : ∃ h, M[m] = h := ⟨_, rfl⟩
          rw [hmm] at em fm Hsm
          obtain ⟨fm1, fm2⟩ := fm
          clear hcm hmm
          go_wp2_with fail
          go_loopw [10, 13] (fun v i wr => ∃ (j q cq : Nat) (aq : Option Addr), i = .int .i64 j ∧ j ≤ S.length ∧ v = .slice aq q cq ∧ q ≤ 4096 * n + 64 * m + j ∧ Hid (q = ((secs (H.take n) M S ++ secHour h (M.take m) S) ++ secRow h mm (S.take j)).length) ∧ wr.ownsRow W0.heap.size 3 1 (.slice aq q cq) q (ints ((secs (H.take n) M S ++ secHour h (M.take m) S) ++ secRow h mm (S.take j))) ∧ Below W0.heap.size W0 wr) (fun _ i _ => S.length - (intOf i).toNat)
          case atStart => exact ⟨0, q, cq, aq, rfl, by omega, rfl, by omega, by simpa [secRow] using Hq, by simpa [secRow] using hown, hB⟩
          case round =>
            clear hown hB Hq hq
            obtain ⟨j, q, cq, aq, rfl, hj, rfl, hq, Hq, hown, hB⟩ := hrel
            by_cases hlt3 : j < S.length
            · obtain ⟨bs, os, rfl, hbs, hcs⟩ := HsS.out.atInt hlt3
              have es := (hB.cell (p := ⟨bs, os + j, none⟩) hbs).trans (hcs j hlt3)
              have eh' := (hB.cell (p := ⟨bh, oh + n, none⟩) hbh).trans eh
              have em' := (hB.cell (p := ⟨bm, om + m, none⟩) hbm).trans em
              have fs := bS.out j hlt3
              have Hss := hid (secRow_snoc h mm S j hlt3)
              obtain ⟨s, hs⟩ : ∃ h, S[j] = h := ⟨_, rfl⟩
              rw [hs] at es fs Hss
              obtain ⟨fs1, fs2⟩ := fs
              clear hcs hs eh em
              have ag : (Value.slice aq q cq).ownBlock ≠ some bh := fun e => by have := (owns_lt hown e).1; omega
              have ak : (Value.slice aq q cq).ownBlock ≠ some bm := fun e => by have := (owns_lt hown e).1; omega
              have av : (Value.slice aq q cq).ownBlock ≠ some bs := fun e => by have := (owns_lt hown e).1; omega
              have Hown := hid hown
              have hsz := hB.size
              have HB := hid hB
              clear hown hB
              go_wp2_with fail
              go_region_held3 (fun w' => w'.cell? ⟨bh, oh + n, none⟩ = some (.int .i64 h) ∧ w'.cell? ⟨bm, om + m, none⟩ = some (.int .i64 mm) ∧ w'.cell? ⟨bs, os + j, none⟩ = some (.int .i64 s))
                (first
                  | go_keep
                  | (go_split_ands
                     refine ⟨?_, ?_, ?_⟩
                     · (rw [hgrow.cell_far _ (by simp; omega) (Ne.symm ag)]; assumption)
                     · (rw [hgrow.cell_far _ (by simp; omega) (Ne.symm ak)]; assumption)
                     · (rw [hgrow.cell_far _ (by simp; omega) (Ne.symm av)]; assumption)))
                ((refine step_append_lies _ (by rfl) _ _ _ (by rfl) W0.heap.size 3 i0 _ 1 8 Tryz.underlying58 hi0 hz0 hz1 hz2 rfl (by omega) (.slice aq q cq) q _ (by rfl) ((Hown.out.alloc _).drew)
                    ⟨wr.heap.size, 0, none⟩ 1 1 [.int .i64 (IntKind.i64.wrap (IntKind.i64.wrap (IntKind.i64.wrap (3600 * h) + IntKind.i64.wrap (60 * mm)) + s))] (by rfl) (by rfl) (World.news_of_block (cs := #[.int .i64 (IntKind.i64.wrap (IntKind.i64.wrap (IntKind.i64.wrap (3600 * h) + IntKind.i64.wrap (60 * mm)) + s))]) (t := 3) (fr := (0, 0)) (heap_alloc_new wr _)) (by simp [Value.oneCell'])
                    (by omega) (by unfold maxLen; omega) (by omega) (by simp; omega) (wr.heap.size + 1) (by simp) ?_; intro gg cap w1 hown1 hgrow hat hlt))
              have hV : IntKind.i64.wrap (IntKind.i64.wrap (IntKind.i64.wrap (3600 * h) + IntKind.i64.wrap (60 * mm)) + s) = 3600 * h + 60 * mm + s := by
                simp only [IntKind.wrap_i64]
                omega
              rw [hV, ← ints_one, ← ints_append, List.append_assoc, ← Hss.out] at hown1
              have hb1 : Below W0.heap.size W0 w1 := (below_new HB.out hsz).drew.trans (Below.of_grown hgrow (by simp; omega) (fun k hk => (owns_lt Hown.out hk).1))
              have hq1 : Hid (q + 1 = (secs (H.take n) M S ++ secHour h (M.take m) S ++ secRow h mm (S.take (j + 1))).length) := by
                show q + 1 = _
                rw [Hss.out, ← List.append_assoc, List.length_append, ← Hq.out]; rfl
              have HOwn1 := hid hown1
              have HB1 := hid hb1
              clear hV hown1 hb1 hgrow ag ak av hat
              go_wp2
              exact ⟨⟨j + 1, q + 1, cap, some ⟨gg, 0, none⟩, by go_num, by omega, rfl, by omega, hq1, HOwn1.out, HB1.out⟩, by simp [intOf]; omega⟩
            · obtain rfl : j = S.length := by omega
              rw [List.take_length] at Hq hown
              have hq1 : Hid (q = (secs (H.take n) M S ++ secHour h (M.take (m + 1)) S).length) := by rw [Hsm.out, ← List.append_assoc]; exact Hq
              have ho1 : Hid (wr.ownsRow W0.heap.size 3 1 (.slice aq q cq) q (ints (secs (H.take n) M S ++ secHour h (M.take (m + 1)) S))) := by rw [Hsm.out, ← List.append_assoc]; exact hown
              clear hown Hq em eh
              go_wp2
              exact ⟨⟨m + 1, q, cq, aq, by go_num, by omega, rfl, by omega, hq1, ho1.out, hB⟩, by simp [intOf]; omega⟩
        · obtain rfl : m = M.length := by omega
          rw [List.take_length] at Hq hown
          rw [← Hsn.out] at Hq hown
          have ho1 := hid hown
          clear hown eh
          go_wp2
          exact ⟨⟨n + 1, q, cq, aq, by go_num, by omega, rfl, by omega, Hq, ho1.out, hB⟩, by simp [intOf]; omega⟩
    · obtain rfl : n = H.length := by omega
      rw [List.take_length] at Hq hown
      have ho1 := hid hown
      clear hown
      go_wp2
      go_ret
      exact ⟨_, rfl, by rw [← Hq.out]; exact owns_base ho1.out HB0.out.size, HB0.out.trans (hB.mono HB0.out.size)⟩
end Go.Proofs.YtcbanlgnanihhaaGreatDoor
