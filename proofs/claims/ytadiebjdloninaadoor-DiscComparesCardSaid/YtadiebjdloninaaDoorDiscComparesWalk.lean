/-
  ferialaw15.DiscCompares answers true for every two lists.
-/
import Derived.Test.YtadiebjdloninaaDoorDiscCmp
namespace Go.Proofs.YtadiebjdloninaaDoor
open Go.RowKit
set_option linter.unusedVariables false

theorem dv_some (b : Nat) : dv (some b) = .pointer (some ⟨b, 0, none⟩) := rfl
theorem dv_none : dv none = .pointer none := rfl
set_option maxRecDepth 100000 in
set_option maxHeartbeats 6400000 in
theorem DiscCompares_walk (a : Option Addr) (cap : Nat) (l : List Int) (a2 : Option Addr) (cap2 : Nat) (m : List Int) (w : World) (hl : l.length ≤ 9223372036854775807) (_ : l.length ≤ cap) (hs : Sl w a (ints l)) (_ : ∀ x ∈ l, -9223372036854775808 ≤ x ∧ x ≤ 9223372036854775807)
    (hl2 : m.length ≤ 9223372036854775807) (_ : m.length ≤ cap2) (hs2 : Sl w a2 (ints m)) (_ : ∀ x ∈ m, -9223372036854775808 ≤ x ∧ x ≤ 9223372036854775807) (hT : Tab w) :
    Calls Tryd.prog 3 #[.slice a l.length cap, .slice a2 m.length cap2] w fun e w' => e = .returned (.bool true) ∧ Below w.heap.size w w' := by
  rename_i hw1 hw2 hw3 hw4
  clear hw1 hw2 hw3 hw4
  have cL := hid (fun W (h : Below w.heap.size w W) => lives15_any W (hT.later h))
  by_cases h300 : 300 < l.length
  · clear hT
    go_enter Tryd.func3, Tryd.ntmps3
    go_wp2_with fail
    refine (cL.out w (Below.refl _ _)).mono ?_
    rintro e w1 ⟨rfl, hb1⟩
    go_wp2
    go_ret
    exact ⟨rfl, hb1⟩
  by_cases h301 : 300 < m.length
  · clear hT
    go_enter Tryd.func3, Tryd.ntmps3
    go_wp2_with fail
    refine (cL.out w (Below.refl _ _)).mono ?_
    rintro e w1 ⟨rfl, hb1⟩
    go_wp2
    go_ret
    exact ⟨rfl, hb1⟩
  have c1 := hid (own_ret (ROf15_any a cap l w hl hs))
  have c2 := hid (fun W (h : Below w.heap.size w W) => own_ret (ROf15_any a2 cap2 m W hl2 (hs2.below h)))
  have c3 := hid (fun W (h : Below w.heap.size w W) => DOf_any a cap l W hl (hs.below h))
  have c4 := hid (fun W (h : Below w.heap.size w W) => DOf_any a2 cap2 m W hl2 (hs2.below h))
  have HT := hid hT
  have hh := hid (first_head (memD l))
  have hF := hid (differ_cases (memD l) (memD m))
  have b1 := secL_len (memD l)
  have b2 := secL_len (memD m)
  clear hs hs2 hT hl hl2
  go_enter Tryd.func3, Tryd.ntmps3
  go_wp2_with fail
  refine c1.out.mono ?_
  rintro e w1 ⟨ax, nx, cx, rfl, hnx, hsx, -, hB1⟩
  obtain rfl := hnx.out
  have Hsx := hid hsx
  have HB1 := hid hB1
  have c2' := hid (c2.out w1 hB1)
  clear hsx hB1 hnx c1 c2
  go_wp2_with fail
  refine c2'.out.mono ?_
  rintro e w2 ⟨ay, ny, cy, rfl, hny, hsy, -, hB2⟩
  obtain rfl := hny.out
  have hsz1 := HB1.out.size
  have HB2 := hid (HB1.out.trans (hB2.mono (by omega)))
  have Hsx2 := hid (Hsx.out.below hB2)
  have Hsy := hid hsy
  obtain ⟨P, Q, n1, n2, n3, ok1, ok2, ok3, eP, eQ, F1, F3, hcase⟩ := hF.out
  have c5 := hid (RLacks15_any ax ay cx cy _ _ w2 (by omega) Hsx2.out (by omega) Hsy.out)
  have c6 := hid (RLacks15_any ay ax cy cx _ _ w2 (by omega) Hsy.out (by omega) Hsx2.out)
  rw [eP] at c5
  rw [eQ] at c6
  have c3' := hid (c3.out w2 HB2.out)
  have c7 := hid (fun d e W hT hd he => DLacks_det d e _ _ n1 ok1 W hT hd he F1)
  have c8 := hid (fun d e W hT hd he => DDiffer_det d e _ _ n3 ok3 W hT hd he F3)
  have c9 := hid (fun d e W hT hd he => DEqual_det d e _ _ n3 ok3 W hT hd he F3)
  clear hF eP eQ F1 F3 hsy hB2 hny Hsx c2' c3
  have hsz2 := HB2.out.size
  rcases hcase with ⟨rfl, rfl, rfl, rfl, rfl, rfl⟩ | ⟨rfl, q0, rfl, rfl, rfl, rfl⟩ | ⟨p0, rfl, rfl, rfl, rfl, rfl⟩ | ⟨p0, q0, hlt, rfl, rfl, rfl, rfl⟩ | ⟨p0, q0, hlt, rfl, rfl, rfl, rfl⟩
  all_goals try (rcases (show n3 = 0 ∨ 0 < n3 by omega) with rfl | hpos3)
  all_goals try (rcases (show n1 = 0 ∨ 0 < n1 by omega) with rfl | hpos1)
  all_goals try (exfalso; omega)
  all_goals try have g10 : (n3 ≤ 0) = False := by rw [eq_iff_iff]; omega
  all_goals try have g11 : (n1 ≤ 0) = False := by rw [eq_iff_iff]; omega
  all_goals try have g1 : decide (0 ≤ n3) = true := decide_eq_true (by omega)
  all_goals try have g2 : max 0 n3 = n3 := by omega
  all_goals try have g3 : decide (n3 < 0) = false := decide_eq_false (by omega)
  all_goals try have g4 : decide (0 ≤ n1) = true := decide_eq_true (by omega)
  all_goals try have g5 : max 0 n1 = n1 := by omega
  all_goals try have g6 : decide (n1 < 0) = false := decide_eq_false (by omega)
  all_goals try have g7 : decide (n3 < n1) = true := decide_eq_true (by omega)
  all_goals try have g8 : decide (0 ≤ Q) = true := decide_eq_true (by omega)
  all_goals try have g9 : decide (Q < n3) = false := decide_eq_false (by omega)
  all_goals
    go_wp2_with fail
    refine c5.out.mono ?_
    rintro e w' ⟨rfl, rfl⟩
    go_wp2_with fail
    refine c6.out.mono ?_
    rintro e w' ⟨rfl, rfl⟩
    go_wp2_with fail
    refine c3'.out.mono ?_
    rintro e w3 ⟨rfl, hd1, hb3⟩
    have HB3 := hid (HB2.out.trans (hb3.mono (by omega)))
    have hlt3 := hd1
    have hlt3 : w2.heap.size < w3.heap.size := by obtain ⟨_, _, _, _, _, h⟩ := hlt3; exact h
    have Hd1 := hid hd1
    have Hsx3 := hid (Hsx2.out.below hb3)
    have c4' := hid (c4.out w3 HB3.out)
    clear hd1 hb3
    go_wp2_with fail
    refine c4'.out.mono ?_
    rintro e w4 ⟨rfl, hd2, hb4⟩
    have HB4 := hid (HB3.out.trans (hb4.mono (by omega)))
    have hlt4 := hd2
    have hlt4 : w3.heap.size < w4.heap.size := by obtain ⟨_, _, _, _, _, h⟩ := hlt4; exact h
    have Hd2 := hid hd2
    have Hd1' := hid (Hd1.out.below hb4 hlt3)
    have Hsx4 := hid (Hsx3.out.below hb4)
    have HT4 := hid (HT.out.later HB4.out)
    have d7 := hid (c7.out (some w2.heap.size) (some w3.heap.size) w4 HT4.out Hd1'.out Hd2.out)
    have d8 := hid (c8.out (some w2.heap.size) (some w3.heap.size) w4 HT4.out Hd1'.out Hd2.out)
    have d9 := hid (fun W (h : Below w4.heap.size w4 W) => c9.out (some w2.heap.size) (some w3.heap.size) W (HT4.out.later h) (Hd1'.out.below h (by omega)) (Hd2.out.below h (by omega)))
    have dn := hid (fun x some' hF => DLacks_det (some w2.heap.size) none (memD l) (fun _ => false) x some' w4 HT4.out Hd1'.out (fun _ _ => rfl) hF)
    have de := hid (DOf_any none 0 [] w4 (by decide) (Sl.nil _ _))
    have dq := hid (fun W b hT hd => DEqual_det none (some b) (fun _ => false) (memD []) 0 false W hT (fun _ _ => rfl) hd first_nil)
    have dL := hid (fun W (h : Below w4.heap.size w4 W) => cL.out W (HB4.out.trans (h.mono (by have := HB4.out.size; omega))))
    have HH := hid (fun W (h : Below w4.heap.size w4 W) => HB4.out.trans (h.mono (by have := HB4.out.size; omega)))
    clear hd2 hb4 c3' c4' c4 c5 c6 c7 c8 c9 hlt3 hlt4
    go_wp2_with fail
    refine d7.out.mono ?_
    rintro e w' ⟨rfl, rfl⟩
    go_wp2_with fail
    refine d8.out.mono ?_
    rintro e w' ⟨rfl, rfl⟩
    rcases hh.out with ⟨hx0, hf0⟩ | ⟨x0, r, hx0, hf0⟩
    · have dn' := hid (dn.out _ _ hf0)
      rw [hx0] at Hsx4 ⊢
      clear hf0 hx0 dn
      go_wp2_with fail
      refine dn'.out.mono ?_
      rintro e w' ⟨rfl, rfl⟩
      go_wp2_with fail
      refine de.out.mono ?_
      rintro e w5 ⟨rfl, hd5, hb5⟩
      have HB5 := hid hb5
      have dq' := hid (dq.out w5 w4.heap.size (HT4.out.later hb5) hd5)
      have d9' := hid (d9.out w5 hb5)
      have dL' := hid (dL.out w5 hb5)
      clear hd5 hb5
      go_wp2_with fail
      refine dq'.out.mono ?_
      rintro e w' ⟨rfl, rfl⟩
      go_wp2_with fail
      refine d9'.out.mono ?_
      rintro e w' ⟨rfl, rfl⟩
      go_wp2_with fail
      refine dL'.out.mono ?_
      rintro e w6 ⟨rfl, hb6⟩
      have HB6 := hid (HH.out w6 (HB5.out.trans (hb6.mono HB5.out.size)))
      clear hb6
      go_wp2
      go_ret
      first | exact ⟨rfl, HB6.out⟩ | exact ⟨ret_bool (by simp; omega), HB6.out⟩
    · have dn' := hid (dn.out _ _ hf0)
      rw [hx0] at Hsx4 ⊢
      clear hf0 hx0 dn
      go_wp2_with fail
      refine dn'.out.mono ?_
      rintro e w' ⟨rfl, rfl⟩
      obtain ⟨bx, offx, rfl, hbx, hcx⟩ := Hsx4.out.atInt (k := 0) (by simp)
      have ex := hcx 0 (by simp)
      clear hcx
      simp only [List.getElem_cons_zero, Nat.add_zero] at ex
      go_wp2_with fail
      refine de.out.mono ?_
      rintro e w5 ⟨rfl, hd5, hb5⟩
      have HB5 := hid hb5
      have dq' := hid (dq.out w5 w4.heap.size (HT4.out.later hb5) hd5)
      have d9' := hid (d9.out w5 hb5)
      have dL' := hid (dL.out w5 hb5)
      clear hd5 hb5
      go_wp2_with fail
      refine dq'.out.mono ?_
      rintro e w' ⟨rfl, rfl⟩
      go_wp2_with fail
      refine d9'.out.mono ?_
      rintro e w' ⟨rfl, rfl⟩
      go_wp2_with fail
      refine dL'.out.mono ?_
      rintro e w6 ⟨rfl, hb6⟩
      have HB6 := hid (HH.out w6 (HB5.out.trans (hb6.mono HB5.out.size)))
      clear hb6
      go_wp2
      go_ret
      first | exact ⟨rfl, HB6.out⟩ | exact ⟨ret_bool (by simp; omega), HB6.out⟩
end Go.Proofs.YtadiebjdloninaaDoor
