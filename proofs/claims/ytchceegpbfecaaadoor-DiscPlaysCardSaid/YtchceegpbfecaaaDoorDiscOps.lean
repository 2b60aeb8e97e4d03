/-
  What a disc's Put of a list, Join and Keep of discs make of its seconds.
-/
import Derived.Test.YtchceegpbfecaaaDoorDiscSet
namespace Go.Proofs.YtchceegpbfecaaaDoor
open Go.RowKit
set_option linter.unusedVariables false

/-- discs of which each is told by its seconds -/
def dps (ds : List (Option Nat × (Nat → Bool))) : List Value := ds.map fun d => dptr d.1
theorem dins_of {W : World} {b : Nat} : ∀ (ds : List (Option Nat × (Nat → Bool))), (∀ d ∈ ds, DiscO W d.1 d.2 ∧ ∀ c, d.1 = some c → c ≠ b) → ∃ ws : List DIn, dvs ws = dps ds ∧ ws.length = ds.length ∧ (∀ d ∈ ws, DOk W b d) ∧
    ∀ f k, k < 86400 → bitW (orL f ws) k = (bitW f k || ds.any fun d => d.2 k) ∧ bitW (andL f ws) k = (bitW f k && ds.all fun d => d.2 k)
  | [], _ => ⟨[], rfl, rfl, by simp, fun f k _ => by simp [orL, andL]⟩
  | (d, q) :: ds, h => by
    obtain ⟨ws, h1, h2, h3, h4⟩ := dins_of ds (fun x hx => h x (by simp [hx]))
    obtain ⟨hd, hn⟩ := h (d, q) (by simp)
    obtain ⟨hv, hp⟩ := hd.v
    obtain ⟨g, g1, g2, g3⟩ := hv.words
    refine ⟨(d, g) :: ws, ?_, by simp [h2], fun x hx => ?_, fun f k hk => ?_⟩
    · show dv d :: dvs ws = dptr d :: dps ds
      rw [h1, hp]
    · rcases List.mem_cons.1 hx with rfl | hx
      · exact ⟨g1, g2, fun c hc => ⟨hn c hc, by
          have hd' : DiscO W d q := hd
          have hc' : d = some c := hc
          rw [hc'] at hd'
          exact DiscAt.lt hd'⟩⟩
      · exact h3 x hx
    · obtain ⟨e1, e2⟩ := h4 (fun i => f i ||| g i) k hk
      obtain ⟨e3, e4⟩ := h4 (fun i => f i &&& g i) k hk
      constructor
      · rw [show orL f ((d, g) :: ws) = orL (fun i => f i ||| g i) ws from rfl, e1, List.any_cons, ← g3 k hk]
        simp [bitW, Nat.testBit_or, Bool.or_assoc]
      · rw [show andL f ((d, g) :: ws) = andL (fun i => f i &&& g i) ws from rfl, e4, List.all_cons, ← g3 k hk]
        simp [bitW, Nat.testBit_and, Bool.and_assoc]
theorem DJoinL_any (b : Nat) (q : Nat → Bool) (a : Option Addr) (cap : Nat) (ds : List (Option Nat × (Nat → Bool))) (w : World) (hl : ds.length ≤ 9223372036854775807) (hs : Sl w a (dps ds)) (hne : ds ≠ [] → ∀ g off, a = some ⟨g, off, none⟩ → g ≠ b)
    (hd : DiscAt w b q) (hds : ∀ d ∈ ds, DiscO w d.1 d.2 ∧ ∀ c, d.1 = some c → c ≠ b) :
    Calls Tryd.prog 8 #[.pointer (some ⟨b, 0, none⟩), .slice a ds.length cap] w fun e w' => (∃ v, e = .returned v) ∧ DiscAt w' b (fun k => q k || ds.any fun d => d.2 k) ∧ Eff (fun x => x = b) w w' := by
  obtain ⟨ws, h1, h2, h3, h4⟩ := dins_of ds hds
  obtain ⟨f, f1, f2, f3, f4, f5⟩ := hd
  rw [← h2]
  refine (DJoin_any b f a cap ws w (by omega) (by rw [h1]; exact hs) (fun h => hne (fun e => h (by rw [e] at h2; exact List.length_eq_zero_iff.1 h2))) h3 ⟨f1, f2, f3, Eff.refl _ _⟩).mono fun e w' ⟨k1, k2⟩ => ⟨k1, ⟨_, k2.words, k2.free, k2.bd, fun k hk => ?_, by have := k2.eff.size; omega⟩, k2.eff⟩
  rw [(h4 f k hk).1, f4 k hk]
theorem DKeepL_any (b : Nat) (q : Nat → Bool) (a : Option Addr) (cap : Nat) (ds : List (Option Nat × (Nat → Bool))) (w : World) (hl : ds.length ≤ 9223372036854775807) (hs : Sl w a (dps ds)) (hne : ds ≠ [] → ∀ g off, a = some ⟨g, off, none⟩ → g ≠ b)
    (hd : DiscAt w b q) (hds : ∀ d ∈ ds, DiscO w d.1 d.2 ∧ ∀ c, d.1 = some c → c ≠ b) :
    Calls Tryd.prog 10 #[.pointer (some ⟨b, 0, none⟩), .slice a ds.length cap] w fun e w' => (∃ v, e = .returned v) ∧ DiscAt w' b (fun k => q k && ds.all fun d => d.2 k) ∧ Eff (fun x => x = b) w w' := by
  obtain ⟨ws, h1, h2, h3, h4⟩ := dins_of ds hds
  obtain ⟨f, f1, f2, f3, f4, f5⟩ := hd
  rw [← h2]
  refine (Keep_any b f a cap ws w (by omega) (by rw [h1]; exact hs) (fun h => hne (fun e => h (by rw [e] at h2; exact List.length_eq_zero_iff.1 h2))) h3 ⟨f1, f2, f3, Eff.refl _ _⟩).mono fun e w' ⟨k1, k2⟩ => ⟨k1, ⟨_, k2.words, k2.free, k2.bd, fun k hk => ?_, by have := k2.eff.size; omega⟩, k2.eff⟩
  rw [(h4 f k hk).2, f4 k hk]
/-- one second more -/
theorem cnt_ins {q q' : Nat → Bool} {n : Nat} (h : ∀ k, k < 86400 → q' k = (q k || decide (k = n))) (hn : n < 86400) (hq : q n = false) : (secL q').length = (secL q).length + 1 := by
  have key : ∀ N, N ≤ 86400 → ((List.range N).filter q').length = ((List.range N).filter q).length + if n < N then 1 else 0 := by
    intro N
    induction N with
    | zero => intro _; rfl
    | succ N ih =>
      intro hN
      rw [List.range_succ, List.filter_append, List.filter_append, List.length_append, List.length_append, ih (by omega), List.filter_cons, List.filter_cons, List.filter_nil, h N (by omega)]
      by_cases e : N = n
      · subst e
        simp [hq]
      · have h1 : (n < N + 1) ↔ (n < N) := by omega
        rw [decide_eq_false e, Bool.or_false]
        simp only [h1, List.filter_nil]
        omega
  have := key 86400 (Nat.le_refl _)
  rw [if_pos hn] at this
  simpa only [secL, sel, List.length_map] using this
theorem putS_cnt (x : (Nat → Nat) × Nat) (n : Int) : (putS x n).2 + lenW x.1 1350 = x.2 + lenW (putS x n).1 1350 := by
  by_cases h : (dsecB n && !bitW x.1 n.toNat) = true
  · have e3 : (putS x n).2 = x.2 + 1 := by rw [putS, if_pos h]
    have hb := putS_bit x n
    obtain ⟨y, hy⟩ : ∃ y, putS x n = y := ⟨_, rfl⟩
    rw [hy] at e3 hb ⊢
    rw [Bool.and_eq_true, Bool.not_eq_true'] at h
    have hd : 0 ≤ n ∧ n < 86400 := by simpa [dsecB] using h.1
    obtain ⟨q, hq⟩ : ∃ q, bitW x.1 = q := ⟨_, rfl⟩
    obtain ⟨q', hq'⟩ : ∃ q, bitW y.1 = q := ⟨_, rfl⟩
    have e1 := sel_lenW x.1 q (fun _ _ => by rw [hq])
    have e2 := sel_lenW y.1 q' (fun _ _ => by rw [hq'])
    rw [hq, hq'] at hb
    rw [hq] at h
    have hk : ∀ k : Nat, decide ((k : Int) = n) = decide (k = n.toNat) := fun k => decide_eq_decide.2 (by omega)
    have e4 := cnt_ins (q := q) (q' := q') (n := n.toNat) (fun k hk2 => by rw [hb k hk2, hk]) (by omega) h.2
    rw [e1, e2, e3, e4]
    omega
  · have e3 : putS x n = x := by rw [putS, if_neg h]
    rw [e3]
theorem putL_cnt (f : Nat → Nat) (l : List Int) : (putL f l).2 + lenW f 1350 = lenW (putL f l).1 1350 := by
  have key : ∀ (l : List Int) (x : (Nat → Nat) × Nat), (l.foldl putS x).2 + lenW x.1 1350 = x.2 + lenW (l.foldl putS x).1 1350 := by
    intro l
    induction l with
    | nil => intro x; rfl
    | cons n l ih =>
      intro x
      have h1 := ih (putS x n)
      have h2 := putS_cnt x n
      rw [List.foldl_cons]; omega
  have := key l (f, 0)
  rw [putL]; simpa using this
theorem DPutL_any (b : Nat) (q : Nat → Bool) (a : Option Addr) (cap : Nat) (l : List Int) (w : World) (hl : l.length ≤ 9223372036854775807) (hs : Sl w a (ints l)) (hne : l ≠ [] → ∀ g off, a = some ⟨g, off, none⟩ → g ≠ b) (hd : DiscAt w b q) :
    Calls Tryd.prog 7 #[.pointer (some ⟨b, 0, none⟩), .slice a l.length cap] w fun e w' => (∃ n : Nat, e = .returned (.int .i64 n) ∧ n + (secL q).length = (secL fun k => q k || memD l k).length) ∧ DiscAt w' b (fun k => q k || memD l k) ∧ Eff (fun x => x = b) w w' := by
  obtain ⟨f, h1, h2, h3, h4, h5⟩ := hd
  refine (Put_any b f a cap l w hl hs hne h1 h2 h3).mono fun e w' ⟨g1, g2, g3, g4⟩ => ?_
  have hb : ∀ k, k < 86400 → bitW (putL f l).1 k = (q k || memD l k) := fun k hk => by rw [putL_bit _ _ k hk, h4 k hk]; rfl
  refine ⟨⟨_, g1, ?_⟩, ⟨_, g2, g3, putL_lt _ _ h3, hb, by have := g4.size; omega⟩, g4⟩
  rw [← sel_lenW f q h4, ← sel_lenW (putL f l).1 _ hb]
  exact putL_cnt f l
end Go.Proofs.YtchceegpbfecaaaDoor
