/-
  ferialaw13.ClauseMeets answers true.
-/
import Derived.Test.YtndfckpcbiecnaaClMeets
import Derived.Test.YtndfckpcbiecnaaClRHas
namespace Go.Proofs.Ytndfckpcbiecnaa
open Go.RowKit
set_option linter.unusedVariables false

attribute [local go_sem ↓] loadAt_cl storeAt_cl eql_clS
attribute [local go_sem] run_storeClS
theorem hasFull_eq (t : Int) : hasC fullCl t = winB t := by
  cases h : winB t
  · rw [hasC, h]; rfl
  · exact full_has h
theorem meet_end (l : List Cl) (hl : ∀ c ∈ l, c.Ok) : (∃ o, meetV l = (o, true) ∧ meetB l = true ∧ MInv l o) ∨ (meetV l = (zeroCl, false) ∧ meetB l = false) := by
  have h := meet_inv l hl l.length (Nat.le_refl _)
  rw [List.take_length] at h
  rcases h with ⟨o, h1, h2⟩ | ⟨h1, h2⟩
  · exact .inl ⟨o, by rw [meetV, h1], meetB_yes h2, h2⟩
  · exact .inr ⟨by rw [meetV, h1], h2⟩
theorem Sl.of_below {w W : World} {a : Option Addr} {cs : List Value} (h : Sl w a cs) (hb : Below w.heap.size w W) : Sl W a cs := h.below hb
theorem zero_ok : zeroCl.Ok := ⟨fun _ _ => by show 0 < _; decide, fun _ _ => by show 0 < _; decide, fun _ _ => by show 0 < _; decide, ⟨by decide, by decide⟩, ⟨by decide, by decide⟩, ⟨by decide, by decide⟩, ⟨by decide, by decide⟩, ⟨by decide, by decide⟩, ⟨by decide, by decide⟩⟩
/-- the clause that was met, in its block -/
structure MsS (w : World) (b5 : Nat) (o : Cl) (W : World) : Prop where
  cl : ClB W b5 o
  be : Below w.heap.size w W
  l5 : b5 < W.heap.size
  l0 : w.heap.size ≤ b5
theorem MsS.keep {w W W' : World} {b5 : Nat} {o : Cl} (h : MsS w b5 o W) (hb : Below W.heap.size W W') : MsS w b5 o W' :=
  ⟨h.cl.below hb h.l5, h.be.trans (hb.mono (Nat.le_trans h.l0 (Nat.le_of_lt h.l5))), Nat.lt_of_lt_of_le h.l5 hb.size, h.l0⟩
set_option maxRecDepth 100000 in
set_option maxHeartbeats 6400000 in
theorem ClauseMeets_walk (a : Option Addr) (cap : Nat) (l : List Cl) (t : Int) (w : World) (hl : l.length ≤ 9223372036854775807) (_ : l.length ≤ cap) (hs : Sl w a (cls l)) (hok : ∀ c ∈ l, c.Ok) (ht : i64B t) :
    Calls Try.prog 9 #[.slice a l.length cap, .int .i64 t] w fun e w' => e = .returned (.bool true) ∧ Below w.heap.size w w' := by
  have cL := hid (fun W => Lives13_any W)
  by_cases h10 : 10 < l.length
  · have hd : (10 : Int) < (l.length : Int) := by omega
    clear hs hok
    go_enter Try.func9, Try.ntmps9
    go_wp2_with fail
    refine (cL.out _).mono ?_
    rintro e w1 ⟨rfl, hB⟩
    go_wp2
    go_ret
    exact ⟨rfl, hB⟩
  have hd : (l.length : Int) ≤ 10 := by omega
  have cMt := hid (CMeet_any a cap l w hl hs hok)
  have cF := hid (fun W => Full_any W)
  have cH := hid (fun W => CHas_any fullCl t W full_ok)
  rw [hasFull_eq] at cH
  have cI := hid (fun W => RMIn_any t W)
  have cR := hid (fun W hsW => RMeet_any a cap l W (by omega) hsW hok)
  have Hs := hid hs
  have Hok := hid hok
  obtain ⟨F, hF⟩ : ∃ F, fullCl = F := ⟨_, rfl⟩
  rw [hF] at cF cH
  clear hF
  rcases meet_end l hok with ⟨o, hv, hm, hI⟩ | ⟨hv, hm⟩
  · rw [hv] at cMt
    rw [hm] at cR
    have cMy := hid (fun W => CMayCl_any o W hI.ok)
    rw [hI.may] at cMy
    have cHo := hid (fun W => CHas_any o t W hI.ok)
    have cRo := hid (fun W => RHas13_any o t W hI.ok)
    have cRc := hid (fun c (hc : c.Ok) W => RHas13_any c t W hc)
    have hhas := hid (hI.has t)
    obtain ⟨y, hy⟩ : ∃ y, hasC o t = y := ⟨_, rfl⟩
    rw [hy] at cHo cRo hhas
    obtain ⟨x, hx⟩ : ∃ x, winB t = x := ⟨_, rfl⟩
    rw [hx] at cH cI hhas
    clear hv hm hI hy hx hs hok ht
    go_enter Try.func9, Try.ntmps9
    go_wp2_with fail
    refine cMt.out.mono ?_
    rintro e w1 ⟨rfl, hB1⟩
    have hth : (w1.alloc (.cells zL.toArray 28)).there w1.heap.size 0 30 := there_new w1 _ _
    have hn1 := below_new (o := .cells zL.toArray 28) (Below.refl w1.heap.size w1) (Nat.le_refl _)
    have hM1 : MsS w w1.heap.size o (putCl (w1.alloc (.cells zL.toArray 28)) w1.heap.size (clList o)) := ⟨putCl_range _ rfl hth, putCl_below (hB1.trans (hn1.mono hB1.size)) hB1.size _, by rw [putCl_eq, size_setCells, World.size_alloc]; omega, hB1.size⟩
    obtain ⟨W1, hW1⟩ : ∃ W1, putCl (w1.alloc (.cells zL.toArray 28)) w1.heap.size (clList o) = W1 := ⟨_, rfl⟩
    rw [hW1] at hM1
    have HW1 := hid hW1
    clear hW1 hB1 hn1
    go_wp2_with fail
    rw [HW1.out]
    clear hth
    refine (cF.out _).mono ?_
    rintro e w2 ⟨rfl, hB⟩
    have HM2 := hid (hM1.keep hB)
    clear hB hM1
    go_wp2_with fail
    refine (cH.out _).mono ?_
    rintro e w3 ⟨rfl, hB⟩
    have HM3 := hid (HM2.out.keep hB)
    clear hB
    go_wp2_with fail
    refine (cI.out _).mono ?_
    rintro e w' ⟨rfl, rfl⟩
    go_wp2_with fail
    refine (cR.out _ (Hs.out.of_below HM3.out.be)).mono ?_
    rintro e w4 ⟨rfl, hB⟩
    have HM4 := hid (HM3.out.keep hB)
    clear hB
    go_wp2_with fail
    refine (cI.out _).mono ?_
    rintro e w' ⟨rfl, rfl⟩
    go_wp2
    go_loopw [7, 8] (fun f i wr => ∃ k : Nat, i = .int .i64 k ∧ f = .bool (x && (l.take k).all (fun c => hasC c t)) ∧ k ≤ l.length ∧ Hid (MsS w w1.heap.size o wr)) (fun _ i _ => l.length - (intOfM i).toNat)
    case atStart => exact ⟨0, rfl, by simp, by omega, HM4.out⟩
    case round =>
      obtain ⟨k, rfl, rfl, hk, HM⟩ := hrel
      obtain ⟨f, hf⟩ : ∃ f, (x && (l.take k).all (fun c => hasC c t)) = f := ⟨_, rfl⟩
      have Hf := hid hf
      rw [hf]
      clear hf
      by_cases hlt : k < l.length
      · have htk := hid (take_snoc l k hlt)
        have hcOk := hid (Hok.out _ (List.getElem_mem hlt))
        obtain ⟨b, off, rfl, hbk, hr⟩ := Hs.out.atCl hlt
        have hr' := range_below hr HM.out.be hbk
        obtain ⟨c, hc⟩ : ∃ c, l[k] = c := ⟨_, rfl⟩
        rw [hc] at hr' hcOk htk
        clear hc hr
        have le := ld_at hr'
        cases f
        · clear le hr'
          go_wp2
          exact ⟨⟨k + 1, by go_num, by rw [htk.out, List.all_append, ← Bool.and_assoc, Hf.out, Bool.false_and], by omega, HM.out⟩, by simp [intOfM]; omega⟩
        · go_wp2_with fail
          refine (cRc.out c hcOk.out _).mono ?_
          rintro e w5 ⟨rfl, hB⟩
          have HM5 := hid (HM.out.keep hB)
          clear hB le hr'
          go_wp2
          exact ⟨⟨k + 1, by go_num, by rw [htk.out, List.all_append, ← Bool.and_assoc, Hf.out, Bool.true_and]; simp, by omega, HM5.out⟩, by simp [intOfM]; omega⟩
      · have hke : k = l.length := by omega
        have hfy : f = y := by rw [← Hf.out, hke, List.take_length, hhas.out]
        subst hfy
        have l5 := HM.out.cl.ld
        go_wp2_with fail
        refine (cMy.out _).mono ?_
        rintro e w5 ⟨rfl, hB⟩
        have HM5 := hid (HM.out.keep hB)
        clear hB l5
        have l5 := HM5.out.cl.ld
        go_wp2_with fail
        refine (cHo.out _).mono ?_
        rintro e w6 ⟨rfl, hB⟩
        have HM6 := hid (HM5.out.keep hB)
        clear hB l5
        have l5 := HM6.out.cl.ld
        go_wp2_with fail
        refine (cRo.out _).mono ?_
        rintro e w7 ⟨rfl, hB⟩
        have HM7 := hid (HM6.out.keep hB)
        clear hB l5
        go_wp2_with fail
        refine (cL.out _).mono ?_
        rintro e w8 ⟨rfl, hB⟩
        have HM8 := hid (HM7.out.keep hB)
        clear hB
        go_wp2
        go_ret
        exact ⟨rfl, HM8.out.be⟩
  · rw [hv] at cMt
    rw [hm] at cR
    have heq0 : Hid (∀ W, (eqlClS (clv zeroCl) (.agg zL.toArray)).run Try.prog W = .ok (.bool true) W) := fun W => by
      have h := eqlS_run zeroCl zeroCl W zero_ok zero_ok
      rw [clSame_self] at h
      exact h
    obtain ⟨x, hx⟩ : ∃ x, winB t = x := ⟨_, rfl⟩
    rw [hx] at cH cI
    clear hv hm hx hs hok ht
    go_enter Try.func9, Try.ntmps9
    go_wp2_with fail
    refine cMt.out.mono ?_
    rintro e w1 ⟨rfl, hB1⟩
    have hth : (w1.alloc (.cells zL.toArray 28)).there w1.heap.size 0 30 := there_new w1 _ _
    have hn1 := below_new (o := .cells zL.toArray 28) (Below.refl w1.heap.size w1) (Nat.le_refl _)
    have hM1 : MsS w w1.heap.size zeroCl (putCl (w1.alloc (.cells zL.toArray 28)) w1.heap.size (clList zeroCl)) := ⟨putCl_range _ rfl hth, putCl_below (hB1.trans (hn1.mono hB1.size)) hB1.size _, by rw [putCl_eq, size_setCells, World.size_alloc]; omega, hB1.size⟩
    obtain ⟨W1, hW1⟩ : ∃ W1, putCl (w1.alloc (.cells zL.toArray 28)) w1.heap.size (clList zeroCl) = W1 := ⟨_, rfl⟩
    rw [hW1] at hM1
    have HW1 := hid hW1
    clear hW1 hB1 hn1
    go_wp2_with fail
    rw [HW1.out]
    clear hth
    refine (cF.out _).mono ?_
    rintro e w2 ⟨rfl, hB⟩
    have HM2 := hid (hM1.keep hB)
    clear hB hM1
    go_wp2_with fail
    refine (cH.out _).mono ?_
    rintro e w3 ⟨rfl, hB⟩
    have HM3 := hid (HM2.out.keep hB)
    clear hB
    go_wp2_with fail
    refine (cI.out _).mono ?_
    rintro e w' ⟨rfl, rfl⟩
    go_wp2_with fail
    refine (cR.out _ (Hs.out.of_below HM3.out.be)).mono ?_
    rintro e w4 ⟨rfl, hB⟩
    have HM4 := hid (HM3.out.keep hB)
    clear hB
    have l5 := HM4.out.cl.ld
    have heq := heq0.out
    go_wp2_with fail
    refine (cL.out _).mono ?_
    rintro e w5 ⟨rfl, hB⟩
    have HM5 := hid (HM4.out.keep hB)
    clear hB l5 heq
    go_wp2
    go_ret
    exact ⟨rfl, HM5.out.be⟩
end Go.Proofs.Ytndfckpcbiecnaa
