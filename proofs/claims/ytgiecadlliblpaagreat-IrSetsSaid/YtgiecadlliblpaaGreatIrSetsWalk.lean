/-
  ferialaw17.IrSets answers true.
-/
import Derived.Test.YtgiecadlliblpaaGreatIrRef
namespace Go.Proofs.YtgiecadlliblpaaGreat
open Go.RowKit
set_option linter.unusedVariables false

theorem join_fault {l m : List Cl} (h : faultL (l ++ m) = 0) : faultL l = 0 ∧ faultL m = 0 := by
  have h1 := may_fault (l ++ m)
  rw [h, decide_eq_true rfl, mayL, Bool.and_eq_true, decide_eq_true_eq, List.length_append, List.all_append, Bool.and_eq_true] at h1
  obtain ⟨h2, h3, h4⟩ := h1
  exact ⟨by rw [faultL, if_neg (by omega), h3]; rfl, by rw [faultL, if_neg (by omega), h4]; rfl⟩
theorem join_has {l m : List Cl} (h : faultL (l ++ m) = 0) (t : Int) : hasL (l ++ m) t = (hasL l t || hasL m t) := by
  obtain ⟨h1, h2⟩ := join_fault h
  rw [hasL, hasL, hasL, may_fault, may_fault, may_fault, h, h1, h2, List.any_append]
  simp
structure SsF (w : World) (l m : List Cl) (a am : Option Addr) (W : World) : Prop where
  sl : Sl W a (cls l)
  sm : Sl W am (cls m)
  be : Below w.heap.size w W
theorem SsF.keep {w W W' : World} {l m : List Cl} {a am : Option Addr} (h : SsF w l m a am W) (hb : Below W.heap.size W W') : SsF w l m a am W' := ⟨h.sl.below hb, h.sm.below hb, h.be.trans (hb.mono h.be.size)⟩
/-- what the call has made besides -/
structure SsG (w : World) (l m : List Cl) (a am a1 aa b1 : Option Addr) (W : World) : Prop where
  f : SsF w l m a am W
  s1 : Sl W a1 (cls (outL l))
  sa : Sl W aa (cls (l ++ m))
  sb : Sl W b1 (cls (outL (l ++ m)))
theorem SsG.keep {w W W' : World} {l m : List Cl} {a am a1 aa b1 : Option Addr} (h : SsG w l m a am a1 aa b1 W) (hb : Below W.heap.size W W') : SsG w l m a am a1 aa b1 W' := ⟨h.f.keep hb, h.s1.below hb, h.sa.below hb, h.sb.below hb⟩
theorem stv_pair {W : World} {a am : Option Addr} {n1 n2 c1 c2 : Nat} : Sl (W.alloc (.cells #[.slice a n1 c1, .slice am n2 c2] 22)) (some ⟨W.heap.size, 0, none⟩) [.slice a n1 c1, .slice am n2 c2] :=
  sl_range (cs := [.slice a n1 c1, .slice am n2 c2]) (range_new W _ _) (by simp)
set_option maxRecDepth 100000 in
set_option maxHeartbeats 12800000 in
theorem IrSets_walk (a : Option Addr) (cap : Nat) (l : List Cl) (am : Option Addr) (capm : Nat) (m : List Cl) (t : Int) (w : World) (hl : l.length ≤ 9223372036854775807) (hlc : l.length ≤ cap) (hs : Sl w a (cls l)) (hok : ∀ c ∈ l, c.Ok) (hno : a = none → cap = 0)
    (hlm : m.length ≤ 9223372036854775807) (hlcm : m.length ≤ capm) (hsm : Sl w am (cls m)) (hokm : ∀ c ∈ m, c.Ok) (hnom : am = none → capm = 0) (ht : i64B t) :
    Calls Tryz.prog 3 #[.slice a l.length cap, .slice am m.length capm, .int .i64 t] w fun e w' => e = .returned (.bool true) ∧ Below w.heap.size w w' := by
  have cV := hid (fun W => Lives17_any W)
  by_cases h20 : 20 < l.length
  · have h20I : (20 : Int) < l.length := by omega
    clear hs hok hno hsm hokm hnom
    go_enter Tryz.func3, Tryz.ntmps3
    go_wp2_with fail
    refine (cV.out _).mono ?_
    rintro e w1 ⟨rfl, hB1⟩
    have HB1 := hid hB1
    clear hB1
    go_wp2
    go_ret
    exact ⟨rfl, HB1.out⟩
  have h20I : ¬ (20 : Int) < l.length := by omega
  by_cases h21 : 20 < m.length
  · have h21I : (20 : Int) < m.length := by omega
    clear hs hok hno hsm hokm hnom
    go_enter Tryz.func3, Tryz.ntmps3
    go_wp2_with fail
    refine (cV.out _).mono ?_
    rintro e w1 ⟨rfl, hB1⟩
    have HB1 := hid hB1
    clear hB1
    go_wp2
    go_ret
    exact ⟨rfl, HB1.out⟩
  have h21I : ¬ (20 : Int) < m.length := by omega
  have hokA : ∀ c ∈ l ++ m, c.Ok := fun c hc => by
    rcases List.mem_append.1 hc with h | h
    · exact hok c h
    · exact hokm c h
  have cO := hid (IOf_any a cap l w hl hlc hs hno hok)
  have cJ := hid (fun W (h : SsF w l m a am W) => by
    have hb := below_new (o := .cells #[.slice a l.length cap, .slice am m.length capm] 22) (Below.refl W.heap.size W) (Nat.le_refl _)
    exact (IJoin_any (some ⟨W.heap.size, 0, none⟩) 2 [⟨a, cap, l⟩, ⟨am, capm, m⟩] (W.alloc (.cells #[.slice a l.length cap, .slice am m.length capm] 22)) (by simp) stv_pair (by simp [stLen]; omega)
      (fun s hs => by
        rcases List.mem_cons.1 hs with h1 | h1
        · rw [h1]; exact ⟨h.sl.below hb, hno⟩
        · rw [List.mem_singleton] at h1; rw [h1]; exact ⟨h.sm.below hb, hnom⟩) (fun c hc => hokA c (by simpa [stAll] using hc))).mono fun e w' ⟨h1, h2⟩ => (⟨by simpa [stAll] using h1, hb.trans (h2.mono (by simp))⟩ : OfR (W.alloc (.cells #[.slice a l.length cap, .slice am m.length capm] 22)) w' (l ++ m) e ∧ Below W.heap.size W w'))
  have cFl := hid (fun W (h : Sl W a (cls l)) => Fault17_any a cap l W (by omega) h hok)
  have cFa := hid (fun aa capa W (h : Sl W aa (cls (l ++ m))) => Fault17_any aa capa (l ++ m) W (by simp; omega) h hokA)
  have cMl := hid (fun W (h : Sl W a (cls l)) => IMay_any a cap l W hl h hok)
  have cHl := hid (fun W (h : Sl W a (cls l)) => IHas_any a cap l t W hl h hok)
  have cRl := hid (fun W (h : Sl W a (cls l)) => RHas17_any a cap l t W (by omega) h hok)
  have cRm := hid (fun W (h : Sl W am (cls m)) => RHas17_any am capm m t W (by omega) h hokm)
  have cSl := hid (fun a1 cap1 W (h : Sl W a1 (cls l)) (h2 : Sl W a (cls l)) => Same17_any a1 a cap1 cap l W (by omega) h h2 hok)
  have cSa := hid (fun b1 capb aa capa W (h : Sl W b1 (cls (l ++ m))) (h2 : Sl W aa (cls (l ++ m))) => Same17_any b1 aa capb capa (l ++ m) W (by simp; omega) h h2 hokA)
  have cHb := hid (fun b1 capb W (h : Sl W b1 (cls (l ++ m))) => IHas_any b1 capb (l ++ m) t W (by simp; omega) h hokA)
  rw [may_fault] at cMl
  have HF0 : Hid (SsF w l m a am w) := ⟨hs, hsm, Below.refl _ _⟩
  have hjf := fun h => join_fault (l := l) (m := m) h
  have hjh := hid (fun h => join_has (l := l) (m := m) h t)
  have Hno := hid hno
  have Hnom := hid hnom
  have Hlc := hid (cls_length l)
  have Hlcm := hid (cls_length m)
  have Hone := hid (clsL_one l)
  have Honem := hid (clsL_one m)
  have Hcat : Hid (cls l ++ cls m = cls (l ++ m)) := by show _ = _; simp [cls]
  obtain ⟨x1, hx1⟩ : ∃ x, hasL l t = x := ⟨_, rfl⟩
  obtain ⟨x2, hx2⟩ : ∃ x, hasL m t = x := ⟨_, rfl⟩
  rw [hx1] at cHl cRl hjh
  rw [hx2] at cRm hjh
  have hout : Hid ((outL l).length = if faultL l = 0 then l.length else 0) := by show _ = _; rw [outL]; split <;> rfl
  have houta : Hid ((outL (l ++ m)).length = if faultL (l ++ m) = 0 then l.length + m.length else 0) := by show _ = _; rw [outL]; split; simp; rfl
  have ho1 : Hid (faultL l = 0 → outL l = l) := fun h => if_pos h
  have ho2 : Hid (faultL (l ++ m) = 0 → outL (l ++ m) = l ++ m) := fun h => if_pos h
  have hsum : Hid ((l ++ m).length = l.length + m.length) := List.length_append
  clear hs hsm hok hokm hno hnom hokA hx1 hx2 ht
  by_cases hFz : faultL (l ++ m) = 0
  · have HE := hid (hjf hFz).1
    have HFz := hid hFz
    clear hFz hjf
    go_enter Tryz.func3, Tryz.ntmps3
    go_wp2_with fail
    refine cO.out.mono ?_
    rintro e w1 ⟨⟨v1, rfl, hv1⟩, hB1⟩
    obtain ⟨a1, cap1, rfl, hs1, -⟩ := owns_form hv1
    rw [hout.out, if_pos HE.out, HE.out]
    have HF1 := hid (HF0.out.keep hB1)
    have HS1 := hid hs1
    clear hv1 hB1 hs1
    go_wp2_with (at_builtin; refine appN eClz (.tmp 26) (.tmp 27) rfl rfl rfl rfl (World.ownsRow_nil _ w1.heap.size _ _) Hlc.out HF1.out.sl Hno.out Hone.out (by omega) (by omega) (Nat.le_refl _) ?_)
    intro a5 cap5 w2 h1 h2 h3 h4
    have HO2 := hid h1
    have HB2 := hid h3
    clear h1 h2 h3 h4
    have HF2 := hid (HF1.out.keep HB2.out)
    have HZ2 : Hid (w1.heap.size ≤ w2.heap.size) := HB2.out.size
    have hz2 : w1.heap.size ≤ w2.heap.size := HZ2.out
    go_wp2_with (at_builtin; refine appN eClz (.tmp 29) (.tmp 30) rfl rfl rfl rfl HO2.out Hlcm.out HF2.out.sm Hnom.out Honem.out (by omega) (by omega) hz2 ?_)
    intro aa capa w3 h1 h2 h3 h4
    have HSa : Hid (Sl w3 aa (cls (l ++ m))) := by rw [← Hcat.out]; exact owns_sl h1
    have HB13 : Hid (Below w1.heap.size w1 w3) := HB2.out.trans h3
    have HF3 := hid (HF1.out.keep HB13.out)
    have HS13 := hid (HS1.out.below HB13.out)
    clear h1 h2 h3 h4 hz2
    go_wp2_with fail
    refine (cJ.out w3 HF3.out).mono ?_
    rintro e w4 ⟨⟨v4, rfl, hv4⟩, hB4⟩
    obtain ⟨b1, capb, rfl, hs4, -⟩ := owns_form hv4
    rw [houta.out, if_pos HFz.out, HFz.out]
    have HG4 : Hid (SsG w l m a am a1 aa b1 w4) := ⟨HF3.out.keep hB4, HS13.out.below hB4, HSa.out.below hB4, hs4⟩
    clear hv4 hB4 hs4
    have cFl1 := hid (fun W h => cFl.out W h)
    have cFa1 := hid (fun W h => cFa.out aa capa W h)
    have cMl1 := hid (fun W h => cMl.out W h)
    rw [HE.out] at cFl1 cMl1
    rw [HFz.out] at cFa1
    simp only [hsum.out] at cFa1
    have cMl2 : Hid (∀ W, Sl W a (cls l) → Calls Tryz.prog 9 #[.slice a l.length cap] W fun e w' => e = .returned (.bool true) ∧ Below W.heap.size W w') := fun W h => cMl1.out W h
    go_wp2_with fail
    refine (cFl1.out _ HG4.out.f.sl).mono ?_
    rintro e w5 ⟨rfl, hB⟩
    have HG5 := hid (HG4.out.keep hB)
    clear hB
    go_wp2_with fail
    refine (cFa1.out _ HG5.out.sa).mono ?_
    rintro e w6 ⟨rfl, hB⟩
    have HG6 := hid (HG5.out.keep hB)
    clear hB
    go_wp2_with fail
    refine (cMl2.out _ HG6.out.f.sl).mono ?_
    rintro e w7 ⟨rfl, hB⟩
    have HG7 := hid (HG6.out.keep hB)
    clear hB
    go_wp2_with fail
    refine (cFl1.out _ HG7.out.f.sl).mono ?_
    rintro e w8 ⟨rfl, hB⟩
    have HG8 := hid (HG7.out.keep hB)
    clear hB
    go_wp2_with fail
    refine (cHl.out _ HG8.out.f.sl).mono ?_
    rintro e w9 ⟨rfl, hB⟩
    have HG9 := hid (HG8.out.keep hB)
    clear hB
    go_wp2_with fail
    refine (cRl.out _ HG9.out.f.sl).mono ?_
    rintro e w10 ⟨rfl, hB⟩
    have HG10 := hid (HG9.out.keep hB)
    clear hB
    have hs1e : Hid (Sl w10 a1 (cls l)) := by have := HG10.out.s1; rwa [ho1.out HE.out] at this
    go_wp2_with fail
    refine (cSl.out a1 cap1 _ hs1e.out HG10.out.f.sl).mono ?_
    rintro e w11 ⟨rfl, hB⟩
    have HG11 := hid (HG10.out.keep hB)
    clear hB
    have hsbe : Hid (Sl w11 b1 (cls (l ++ m))) := by have := HG11.out.sb; rwa [ho2.out HFz.out] at this
    have cSa1 := hid (cSa.out b1 capb aa capa w11 hsbe.out HG11.out.sa)
    simp only [hsum.out] at cSa1
    go_wp2_with fail
    refine cSa1.out.mono ?_
    rintro e w12 ⟨rfl, hB⟩
    have HG12 := hid (HG11.out.keep hB)
    clear hB
    have hsbe2 : Hid (Sl w12 b1 (cls (l ++ m))) := by have := HG12.out.sb; rwa [ho2.out HFz.out] at this
    have cHb1 := hid (cHb.out b1 capb w12 hsbe2.out)
    rw [hjh.out HFz.out] at cHb1
    simp only [hsum.out] at cHb1
    go_wp2_with fail
    refine cHb1.out.mono ?_
    rintro e w13 ⟨rfl, hB⟩
    have HG13 := hid (HG12.out.keep hB)
    clear hB
    cases x1
    · go_wp2_with fail
      refine (cRl.out _ HG13.out.f.sl).mono ?_
      rintro e w14 ⟨rfl, hB⟩
      have HG14 := hid (HG13.out.keep hB)
      clear hB
      go_wp2_with fail
      refine (cRm.out _ HG14.out.f.sm).mono ?_
      rintro e w15 ⟨rfl, hB⟩
      have HG15 := hid (HG14.out.keep hB)
      clear hB
      go_wp2_with fail
      refine (cV.out _).mono ?_
      rintro e w16 ⟨rfl, hB⟩
      have HG16 := hid (HG15.out.keep hB)
      clear hB
      go_wp2
      go_ret
      exact ⟨rfl, HG16.out.f.be⟩
    · go_wp2_with fail
      refine (cRl.out _ HG13.out.f.sl).mono ?_
      rintro e w14 ⟨rfl, hB⟩
      have HG14 := hid (HG13.out.keep hB)
      clear hB
      go_wp2_with fail
      refine (cV.out _).mono ?_
      rintro e w15 ⟨rfl, hB⟩
      have HG15 := hid (HG14.out.keep hB)
      clear hB
      go_wp2
      go_ret
      exact ⟨rfl, HG15.out.f.be⟩
  · have HFz := hid hFz
    clear hFz hjf
    by_cases hE : faultL l = 0
    · have HE := hid hE
      clear hE
      go_enter Tryz.func3, Tryz.ntmps3
      go_wp2_with fail
      refine cO.out.mono ?_
      rintro e w1 ⟨⟨v1, rfl, hv1⟩, hB1⟩
      obtain ⟨a1, cap1, rfl, hs1, -⟩ := owns_form hv1
      rw [hout.out, if_pos HE.out, HE.out]
      have HF1 := hid (HF0.out.keep hB1)
      have HS1 := hid hs1
      clear hv1 hB1 hs1
      go_wp2_with (at_builtin; refine appN eClz (.tmp 26) (.tmp 27) rfl rfl rfl rfl (World.ownsRow_nil _ w1.heap.size _ _) Hlc.out HF1.out.sl Hno.out Hone.out (by omega) (by omega) (Nat.le_refl _) ?_)
      intro a5 cap5 w2 h1 h2 h3 h4
      have HO2 := hid h1
      have HB2 := hid h3
      clear h1 h2 h3 h4
      have HF2 := hid (HF1.out.keep HB2.out)
      have HZ2 : Hid (w1.heap.size ≤ w2.heap.size) := HB2.out.size
      have hz2 : w1.heap.size ≤ w2.heap.size := HZ2.out
      go_wp2_with (at_builtin; refine appN eClz (.tmp 29) (.tmp 30) rfl rfl rfl rfl HO2.out Hlcm.out HF2.out.sm Hnom.out Honem.out (by omega) (by omega) hz2 ?_)
      intro aa capa w3 h1 h2 h3 h4
      have HSa : Hid (Sl w3 aa (cls (l ++ m))) := by rw [← Hcat.out]; exact owns_sl h1
      have HB13 : Hid (Below w1.heap.size w1 w3) := HB2.out.trans h3
      have HF3 := hid (HF1.out.keep HB13.out)
      have HS13 := hid (HS1.out.below HB13.out)
      clear h1 h2 h3 h4 hz2
      go_wp2_with fail
      refine (cJ.out w3 HF3.out).mono ?_
      rintro e w4 ⟨⟨v4, rfl, hv4⟩, hB4⟩
      obtain ⟨b1, capb, rfl, hs4, -⟩ := owns_form hv4
      rw [houta.out, if_neg HFz.out]
      obtain ⟨F, hF⟩ : ∃ F, faultL (l ++ m) = F := ⟨_, rfl⟩
      rw [hF]
      have HFe := hid hF
      clear hF
      have HG4 : Hid (SsG w l m a am a1 aa b1 w4) := ⟨HF3.out.keep hB4, HS13.out.below hB4, HSa.out.below hB4, hs4⟩
      clear hv4 hB4 hs4
      have cFl1 := hid (fun W h => cFl.out W h)
      have cFa1 := hid (fun W h => cFa.out aa capa W h)
      have cMl1 := hid (fun W h => cMl.out W h)
      rw [HE.out] at cFl1 cMl1
      rw [HFe.out] at cFa1
      simp only [hsum.out] at cFa1
      have cMl2 : Hid (∀ W, Sl W a (cls l) → Calls Tryz.prog 9 #[.slice a l.length cap] W fun e w' => e = .returned (.bool true) ∧ Below W.heap.size W w') := fun W h => cMl1.out W h
      have hFn : F ≠ 0 := by rw [← HFe.out]; exact HFz.out
      have cbF : (F == 0) = false := by simpa using hFn
      have cbF2 : (F != 0) = true := by simpa using hFn
      have hFn' := hid hFn
      clear hFn
      go_wp2_with fail
      refine (cFl1.out _ HG4.out.f.sl).mono ?_
      rintro e w5 ⟨rfl, hB⟩
      have HG5 := hid (HG4.out.keep hB)
      clear hB
      go_wp2_with fail
      refine (cFa1.out _ HG5.out.sa).mono ?_
      rintro e w6 ⟨rfl, hB⟩
      have HG6 := hid (HG5.out.keep hB)
      clear hB
      go_wp2_with fail
      refine (cMl2.out _ HG6.out.f.sl).mono ?_
      rintro e w7 ⟨rfl, hB⟩
      have HG7 := hid (HG6.out.keep hB)
      clear hB
      go_wp2_with fail
      refine (cFl1.out _ HG7.out.f.sl).mono ?_
      rintro e w8 ⟨rfl, hB⟩
      have HG8 := hid (HG7.out.keep hB)
      clear hB
      go_wp2_with fail
      refine (cHl.out _ HG8.out.f.sl).mono ?_
      rintro e w9 ⟨rfl, hB⟩
      have HG9 := hid (HG8.out.keep hB)
      clear hB
      go_wp2_with fail
      refine (cRl.out _ HG9.out.f.sl).mono ?_
      rintro e w10 ⟨rfl, hB⟩
      have HG10 := hid (HG9.out.keep hB)
      clear hB
      have hs1e : Hid (Sl w10 a1 (cls l)) := by have := HG10.out.s1; rwa [ho1.out HE.out] at this
      go_wp2_with fail
      refine (cSl.out a1 cap1 _ hs1e.out HG10.out.f.sl).mono ?_
      rintro e w11 ⟨rfl, hB⟩
      have HG11 := hid (HG10.out.keep hB)
      clear hB
      go_wp2_with fail
      refine (cV.out _).mono ?_
      rintro e w12 ⟨rfl, hB⟩
      have HG12 := hid (HG11.out.keep hB)
      clear hB
      go_wp2
      go_ret
      exact ⟨rfl, HG12.out.f.be⟩
    · have HE := hid hE
      clear hE
      go_enter Tryz.func3, Tryz.ntmps3
      go_wp2_with fail
      refine cO.out.mono ?_
      rintro e w1 ⟨⟨v1, rfl, hv1⟩, hB1⟩
      obtain ⟨a1, cap1, rfl, hs1, -⟩ := owns_form hv1
      rw [hout.out, if_neg HE.out]
      obtain ⟨E, hE⟩ : ∃ E, faultL l = E := ⟨_, rfl⟩
      rw [hE]
      have HEe := hid hE
      clear hE
      have HF1 := hid (HF0.out.keep hB1)
      have HS1 := hid hs1
      clear hv1 hB1 hs1
      go_wp2_with (at_builtin; refine appN eClz (.tmp 26) (.tmp 27) rfl rfl rfl rfl (World.ownsRow_nil _ w1.heap.size _ _) Hlc.out HF1.out.sl Hno.out Hone.out (by omega) (by omega) (Nat.le_refl _) ?_)
      intro a5 cap5 w2 h1 h2 h3 h4
      have HO2 := hid h1
      have HB2 := hid h3
      clear h1 h2 h3 h4
      have HF2 := hid (HF1.out.keep HB2.out)
      have HZ2 : Hid (w1.heap.size ≤ w2.heap.size) := HB2.out.size
      have hz2 : w1.heap.size ≤ w2.heap.size := HZ2.out
      go_wp2_with (at_builtin; refine appN eClz (.tmp 29) (.tmp 30) rfl rfl rfl rfl HO2.out Hlcm.out HF2.out.sm Hnom.out Honem.out (by omega) (by omega) hz2 ?_)
      intro aa capa w3 h1 h2 h3 h4
      have HSa : Hid (Sl w3 aa (cls (l ++ m))) := by rw [← Hcat.out]; exact owns_sl h1
      have HB13 : Hid (Below w1.heap.size w1 w3) := HB2.out.trans h3
      have HF3 := hid (HF1.out.keep HB13.out)
      have HS13 := hid (HS1.out.below HB13.out)
      clear h1 h2 h3 h4 hz2
      go_wp2_with fail
      refine (cJ.out w3 HF3.out).mono ?_
      rintro e w4 ⟨⟨v4, rfl, hv4⟩, hB4⟩
      obtain ⟨b1, capb, rfl, hs4, -⟩ := owns_form hv4
      rw [houta.out, if_neg HFz.out]
      obtain ⟨F, hF⟩ : ∃ F, faultL (l ++ m) = F := ⟨_, rfl⟩
      rw [hF]
      have HFe := hid hF
      clear hF
      have HG4 : Hid (SsG w l m a am a1 aa b1 w4) := ⟨HF3.out.keep hB4, HS13.out.below hB4, HSa.out.below hB4, hs4⟩
      clear hv4 hB4 hs4
      have cFl1 := hid (fun W h => cFl.out W h)
      have cFa1 := hid (fun W h => cFa.out aa capa W h)
      have cMl1 := hid (fun W h => cMl.out W h)
      rw [HEe.out] at cFl1 cMl1
      rw [HFe.out] at cFa1
      simp only [hsum.out] at cFa1
      have hEn : E ≠ 0 := by rw [← HEe.out]; exact HE.out
      have cbE : (E == 0) = false := by simpa using hEn
      have cbE2 : (E != 0) = true := by simpa using hEn
      have cMl2 : Hid (∀ W, Sl W a (cls l) → Calls Tryz.prog 9 #[.slice a l.length cap] W fun e w' => e = .returned (.bool false) ∧ Below W.heap.size W w') := fun W h => by have := cMl1.out W h; rwa [decide_eq_false hEn] at this
      have hEn' := hid hEn
      clear hEn
      have hFn : F ≠ 0 := by rw [← HFe.out]; exact HFz.out
      have cbF : (F == 0) = false := by simpa using hFn
      have cbF2 : (F != 0) = true := by simpa using hFn
      have hFn' := hid hFn
      clear hFn
      go_wp2_with fail
      refine (cFl1.out _ HG4.out.f.sl).mono ?_
      rintro e w5 ⟨rfl, hB⟩
      have HG5 := hid (HG4.out.keep hB)
      clear hB
      go_wp2_with fail
      refine (cFa1.out _ HG5.out.sa).mono ?_
      rintro e w6 ⟨rfl, hB⟩
      have HG6 := hid (HG5.out.keep hB)
      clear hB
      go_wp2_with fail
      refine (cMl2.out _ HG6.out.f.sl).mono ?_
      rintro e w7 ⟨rfl, hB⟩
      have HG7 := hid (HG6.out.keep hB)
      clear hB
      go_wp2_with fail
      refine (cFl1.out _ HG7.out.f.sl).mono ?_
      rintro e w8 ⟨rfl, hB⟩
      have HG8 := hid (HG7.out.keep hB)
      clear hB
      go_wp2_with fail
      refine (cHl.out _ HG8.out.f.sl).mono ?_
      rintro e w9 ⟨rfl, hB⟩
      have HG9 := hid (HG8.out.keep hB)
      clear hB
      go_wp2_with fail
      refine (cRl.out _ HG9.out.f.sl).mono ?_
      rintro e w10 ⟨rfl, hB⟩
      have HG10 := hid (HG9.out.keep hB)
      clear hB
      go_wp2_with fail
      refine (cV.out _).mono ?_
      rintro e w11 ⟨rfl, hB⟩
      have HG11 := hid (HG10.out.keep hB)
      clear hB
      go_wp2
      go_ret
      exact ⟨rfl, HG11.out.f.be⟩
end Go.Proofs.YtgiecadlliblpaaGreat
