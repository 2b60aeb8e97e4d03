/-
  rule.Times; feriaref32.has, feriaref08.Stamp.
-/
import Derived.Test.YtndfckpcbiecnaaRuleLives
namespace Go.Proofs.Ytndfckpcbiecnaa
open Go.RowKit
set_option linter.unusedVariables false

attribute [local go_sem ↓] storeAt_cl
attribute [local go_sem] run_storeClS
set_option maxHeartbeats 800000 in
theorem RHas32_any (a : Option Addr) (cap : Nat) (l : List Int) (x : Int) (w : World) (hl : l.length ≤ 9223372036854775807) (hs : Sl w a (ints l)) :
    Calls Try.prog 84 #[.slice a l.length cap, .int .i64 x] w fun e w' => e = .returned (.bool (decide (x ∈ l))) ∧ w = w' := by
  have Hs := hid hs
  have hlI : (l.length : Int) ≤ 9223372036854775807 := by omega
  clear hs hl
  go_enter Try.func84, Try.ntmps84
  go_wp2
  go_loopw [5] (fun i wr => ∃ k : Nat, i = .int .i64 k ∧ k ≤ l.length ∧ Hid (¬ x ∈ l.take k) ∧ wr = w) (fun i _ => l.length - (intOf i).toNat)
  case atStart => exact ⟨0, rfl, by omega, by show ¬ _; simp, rfl⟩
  case round =>
    obtain ⟨k, rfl, hk, hI, rfl⟩ := hrel
    by_cases hlt : k < l.length
    · obtain ⟨b, off, rfl, hb, hc⟩ := Hs.out.atInt hlt
      have e1 := hc k hlt
      have ht := hid (take_snoc l k hlt)
      have hmem := hid (List.getElem_mem hlt)
      obtain ⟨y, hy⟩ : ∃ y, l[k] = y := ⟨_, rfl⟩
      rw [hy] at e1 ht hmem
      clear hc hy
      by_cases he : y = x
      · have hb2 : (y == x) = true := by simpa using he
        have hr : Hid (decide (x ∈ l) = true) := decide_eq_true (he ▸ hmem.out)
        clear he
        go_wp2
        go_ret
        exact ⟨by rw [hr.out]; rfl, by trivial⟩
      · have hb2 : (y == x) = false := by simpa using he
        have hr : Hid (¬ x ∈ l.take (k + 1)) := by
          show ¬ _
          rw [ht.out]
          simp only [List.mem_append, List.mem_singleton]
          rintro (h | h)
          · exact hI.out h
          · exact he h.symm
        clear he
        go_wp2
        exact ⟨⟨k + 1, by go_num, by omega, hr.out, by trivial⟩, by simp [intOf]; omega⟩
    · have hke : l.take k = l := List.take_of_length_le (by omega)
      rw [hke] at hI
      have hr : Hid (decide (x ∈ l) = false) := decide_eq_false hI.out
      clear hke
      go_wp2
      go_ret
      exact ⟨by rw [hr.out]; rfl, by trivial⟩
theorem putCl_sz (W : World) (b : Nat) (cs : List Value) : (putCl W b cs).heap.size = W.heap.size := by
  have h : ∀ (vs : List Value) (o : Nat) (W : World), (W.setCells b o vs).heap.size = W.heap.size := by
    intro vs
    induction vs with
    | nil => intro o W; rfl
    | cons v vs ih => intro o W; rw [World.setCells, ih, World.size_setCell]
  exact h cs 0 W
theorem stampV_yes {t : Int} (h : winB t = true) : stampV t = stpv (fY (t / 86400)) (fMo (t / 86400)) (fD (t / 86400)) (t % 86400 / 3600) (t % 86400 / 60 % 60) (t % 86400 % 60) := by rw [stampV, if_pos h]
set_option maxRecDepth 100000 in
set_option maxHeartbeats 1600000 in
theorem RStamp_any (t : Int) (w : World) (h : winB t = true) : Calls Try.prog 83 #[.int .i64 t] w fun e w' => e = .returned (stampV t) ∧ Below w.heap.size w w' := by
  obtain ⟨h0, h1⟩ := win_in h
  rw [stampV_yes h, show t % 86400 / 60 % 60 = t % 3600 / 60 by omega, show t % 86400 % 60 = t % 60 by omega]
  have cD := hid (fun W => RDate_any (t / 86400) W (by omega) (by omega))
  obtain ⟨y, hy⟩ : ∃ y, fY (t / 86400) = y := ⟨_, rfl⟩
  obtain ⟨m, hm⟩ : ∃ y, fMo (t / 86400) = y := ⟨_, rfl⟩
  obtain ⟨d, hd⟩ : ∃ y, fD (t / 86400) = y := ⟨_, rfl⟩
  rw [hy, hm, hd] at cD ⊢
  clear h hy hm hd
  go_enter Try.func83, Try.ntmps83
  go_wp2_with fail
  refine (cD.out _).mono ?_
  rintro e w1 ⟨rfl, rfl⟩
  have h2 : 0 ≤ t % 86400 := by omega
  have h3 : t % 86400 < 86400 := by omega
  go_wp2
  refine bodyPost_ret (results_cell_mid rfl _ _ w.heap.size 0 _ _ rfl (range_new w (stpL y m d (t % 86400 / 3600) (t % 3600 / 60) (t % 60)) 123) Try.underlying123 rfl infoStp) rfl ⟨rfl, below_new (Below.refl _ _) (Nat.le_refl _)⟩
def oneE (l : List Int) (at' freq : Int) (full : Nat) (fq : Int) : Nat := if 0 < l.length then ofM l else if freq ≤ fq then ofM [at'] else full
theorem Times1_any (a : Option Addr) (cap : Nat) (l : List Int) (at' freq : Int) (full : Nat) (fq : Int) (b1 : Nat) (w : World) (hl : l.length ≤ 9223372036854775807) (hs : Sl w a (ints l)) (h1 : w.cell? ⟨b1, 1, none⟩ = some (.int .i64 fq)) :
    Calls Try.prog 81 #[.slice a l.length cap, .int .i64 at', .int .i64 freq, .int .u64 (full : Nat), .pointer (some ⟨b1, 0, none⟩)] w fun e w' => e = .returned (.int .u64 (oneE l at' freq full fq : Nat)) ∧ Below w.heap.size w w' := by
  have c1 := hid (MOf_any a cap l w hl hs)
  have c2 := hid (MOf1_any at' w 3)
  rw [oneE]
  obtain ⟨M, hM⟩ : ∃ M, ofM l = M := ⟨_, rfl⟩
  obtain ⟨N, hN⟩ : ∃ M, ofM [at'] = M := ⟨_, rfl⟩
  rw [hM] at c1 ⊢
  rw [hN] at c2 ⊢
  clear hM hN hs hl
  by_cases h : 0 < l.length
  · rw [if_pos h]
    have hI : (0 : Int) < l.length := by omega
    go_enter Try.func81, Try.ntmps81
    go_wp2_with fail
    refine c1.out.mono ?_
    rintro e w1 ⟨rfl, hB⟩
    have HB := hid hB
    clear hB
    go_wp2
    go_ret
    exact ⟨rfl, HB.out⟩
  · rw [if_neg h]
    have hI : ¬ (0 : Int) < l.length := by omega
    clear h
    by_cases h2 : freq ≤ fq
    · rw [if_pos h2]
      go_enter Try.func81, Try.ntmps81
      go_wp2_with fail
      refine c2.out.mono ?_
      rintro e w1 ⟨rfl, hB⟩
      have HB := hid hB
      clear hB
      go_wp2
      go_ret
      exact ⟨rfl, HB.out⟩
    · rw [if_neg h2]
      go_enter Try.func81, Try.ntmps81
      go_wp2
      go_ret
      exact ⟨rfl, Below.refl _ _⟩
/-- what Times reads -/
structure TmF (w : World) (r : Ru) (b5 b8 : Nat) (y mo d h m s : Int) (F : Cl) (W : World) : Prop where
  rb : RuB W w.heap.size r
  six : Six W b5 (.int .i64 y) (.int .i64 mo) (.int .i64 d) (.int .i64 h) (.int .i64 m) (.int .i64 s)
  cl : ClB W b8 F
  be : Below w.heap.size w W
  l : w.heap.size < W.heap.size ∧ b5 < W.heap.size ∧ b8 < W.heap.size
abbrev TmS (w : World) (r : Ru) (b5 b8 : Nat) (y mo d h m s : Int) (F : Cl) (W : World) : Prop :=
  RuC W w.heap.size r ∧ Six W b5 (.int .i64 y) (.int .i64 mo) (.int .i64 d) (.int .i64 h) (.int .i64 m) (.int .i64 s) ∧ (W.cell? ⟨b8, 0, none⟩ = some (.int .u64 (F.m 0 : Nat)) ∧ W.cell? ⟨b8, 1, none⟩ = some (.int .u64 (F.m 1 : Nat)) ∧ W.cell? ⟨b8, 2, none⟩ = some (.int .u64 (F.m 2 : Nat))) ∧ TmF w r b5 b8 y mo d h m s F W
theorem TmF.sas {w W : World} {r : Ru} {b5 b8 : Nat} {y mo d h m s : Int} {F : Cl} (k : TmF w r b5 b8 y mo d h m s F W) : TmS w r b5 b8 y mo d h m s F W := ⟨k.rb.all, k.six, ⟨k.cl.at 0 rfl, k.cl.at 1 rfl, k.cl.at 2 rfl⟩, k⟩
theorem TmF.keep {w W W' : World} {r : Ru} {b5 b8 : Nat} {y mo d h m s : Int} {F : Cl} (k : TmF w r b5 b8 y mo d h m s F W) (hb : Below W.heap.size W W') : TmF w r b5 b8 y mo d h m s F W' := by
  have hs := hb.size
  obtain ⟨l1, l2, l3⟩ := k.l
  exact ⟨k.rb.below hb l1, k.six.below hb l2, k.cl.below hb l3, k.be.trans (hb.mono (by omega)), by omega, by omega, by omega⟩
theorem TmS.keep {w W W' : World} {r : Ru} {b5 b8 : Nat} {y mo d h m s : Int} {F : Cl} (k : TmS w r b5 b8 y mo d h m s F W) (hb : Below W.heap.size W W') : TmS w r b5 b8 y mo d h m s F W' := (k.2.2.2.keep hb).sas
def tmH (r : Ru) : Nat := if checkE r = 0 then oneE r.l8 (r.st % 86400 / 3600) 3 (fullCl.m 2) r.fq else 0
def tmM (r : Ru) : Nat := if checkE r = 0 then oneE r.l9 (r.st % 86400 / 60 % 60) 2 (fullCl.m 1) r.fq else 0
def tmS (r : Ru) : Nat := if checkE r = 0 then oneE r.lx (r.st % 86400 % 60) 1 (fullCl.m 0) r.fq else 0
set_option maxRecDepth 100000 in
set_option maxHeartbeats 6400000 in
theorem Times_any (r : Ru) (w : World) (hr : RuS w r) (hm : r.Sm 1000000) : Calls Try.prog 25 #[ruv r] w fun e w' => e = .returned (.tuple #[.int .u64 (tmH r : Nat), .int .u64 (tmM r : Nat), .int .u64 (tmS r : Nat)]) ∧ Below w.heap.size w w' := by
  have hB0 : Below w.heap.size w (w.alloc (.cells (ruList r).toArray 34)) := below_new (Below.refl _ _) (Nat.le_refl _)
  have cB := hid (Begin_any r _ (hr.below hB0) hm)
  have HB0 := hid hB0
  have HRB := hid (ruB_new w r 34)
  rw [tmH, tmM, tmS]
  by_cases hc : checkE r = 0
  rotate_left
  · rw [if_neg hc, if_neg hc, if_neg hc]
    have hb : (checkE r == 0) = false := by simpa using hc
    rw [hb] at cB
    obtain ⟨y, mo, d, h, m, s, hst⟩ := stampV_six r.st
    rw [hst] at cB
    clear hc hb hst hr hm hB0
    go_enter Try.func25, Try.ntmps25
    go_wp2_with fail
    refine cB.out.mono ?_
    rintro e w1 ⟨rfl, hB1⟩
    have HB1 := hid ((HB0.out.trans (hB1.mono (by simp only [World.size_alloc]; omega))).trans ((below_new (o := .cells #[.int .i64 y, .int .i64 mo, .int .i64 d, .int .i64 h, .int .i64 m, .int .i64 s] 123) (Below.refl w1.heap.size w1) (Nat.le_refl _)).mono (by have := hB1.size; simp only [World.size_alloc] at this; omega)))
    clear hB1
    go_wp2
    exact bodyPost_ret (v := .tuple #[.int .u64 0, .int .u64 0, .int .u64 0]) (by simp [results, Try.results25, go_sem]) rfl ⟨rfl, HB1.out⟩
  rw [if_pos hc, if_pos hc, if_pos hc]
  have hb : (checkE r == 0) = true := by simpa using hc
  rw [hb, stampV_yes (head_ok (check_ok hc).h).1] at cB
  obtain ⟨y, hy⟩ : ∃ y, fY (r.st / 86400) = y := ⟨_, rfl⟩
  obtain ⟨mo, hmo⟩ : ∃ y, fMo (r.st / 86400) = y := ⟨_, rfl⟩
  obtain ⟨d, hd⟩ : ∃ y, fD (r.st / 86400) = y := ⟨_, rfl⟩
  obtain ⟨h, hh⟩ : ∃ y, r.st % 86400 / 3600 = y := ⟨_, rfl⟩
  obtain ⟨m, hmm⟩ : ∃ y, r.st % 86400 / 60 % 60 = y := ⟨_, rfl⟩
  obtain ⟨s, hss⟩ : ∃ y, r.st % 86400 % 60 = y := ⟨_, rfl⟩
  rw [hy, hmo, hd, hh, hmm, hss] at cB
  rw [hh, hmm, hss]
  have cF := hid (fun W => Full_any W)
  obtain ⟨F, hF⟩ : ∃ F, fullCl = F := ⟨_, rfl⟩
  rw [hF] at cF ⊢
  have k8 := hid (fun b5 b8 W (k : TmS w r b5 b8 y mo d h m s F W) => keep_of' (Times1_any r.a8 r.c8 r.l8 h 3 (F.m 2) r.fq w.heap.size W (by have := hm.n8; omega) (hr.below k.2.2.2.be).s8 k.1.1.2.1) (fun _ => k.keep))
  have k9 := hid (fun b5 b8 W (k : TmS w r b5 b8 y mo d h m s F W) => keep_of' (Times1_any r.a9 r.c9 r.l9 m 2 (F.m 1) r.fq w.heap.size W (by have := hm.n9; omega) (hr.below k.2.2.2.be).s9 k.1.1.2.1) (fun _ => k.keep))
  have kx := hid (fun b5 b8 W (k : TmS w r b5 b8 y mo d h m s F W) => keep_of' (Times1_any r.ax r.cx r.lx s 1 (F.m 0) r.fq w.heap.size W (by have := hm.nx; omega) (hr.below k.2.2.2.be).sx k.1.1.2.1) (fun _ => k.keep))
  obtain ⟨p8, e8⟩ : ∃ p, oneE r.l8 h 3 (F.m 2) r.fq = p := ⟨_, rfl⟩
  obtain ⟨p9, e9⟩ : ∃ p, oneE r.l9 m 2 (F.m 1) r.fq = p := ⟨_, rfl⟩
  obtain ⟨px, ex⟩ : ∃ p, oneE r.lx s 1 (F.m 0) r.fq = p := ⟨_, rfl⟩
  rw [e8] at k8 ⊢
  rw [e9] at k9 ⊢
  rw [ex] at kx ⊢
  clear hc hb hr hm hB0 hy hmo hd hh hmm hss hF e8 e9 ex
  go_enter Try.func25, Try.ntmps25
  go_wp2_with fail
  refine cB.out.mono ?_
  rintro e w1 ⟨rfl, hB1⟩
  have hz1 := hB1.size
  rw [World.size_alloc] at hz1
  have hn := below_new (o := .cells #[.int .i64 y, .int .i64 mo, .int .i64 d, .int .i64 h, .int .i64 m, .int .i64 s] 123) (Below.refl w1.heap.size w1) (Nat.le_refl _)
  have HB1 := hid ((HB0.out.trans (hB1.mono (by rw [World.size_alloc]; omega))).trans (hn.mono (by omega)))
  have HR1 := hid ((HRB.out.below hB1 (by rw [World.size_alloc]; omega)).below hn (by omega))
  have HX1 := hid (six_new w1 (.int .i64 y) (.int .i64 mo) (.int .i64 d) (.int .i64 h) (.int .i64 m) (.int .i64 s) 123)
  have Hz1 : Hid (w.heap.size < w1.heap.size) := by show _ < _; omega
  clear hB1 hn hz1 HRB HB0
  go_wp2_with fail
  refine (cF.out _).mono ?_
  rintro e w2 ⟨rfl, hB2⟩
  have hz2 := hB2.size
  rw [World.size_alloc] at hz2
  have hth : (w2.alloc (.cells zL.toArray 28)).there w2.heap.size 0 30 := there_new w2 zL.toArray 28
  have hB3 : Below w2.heap.size w2 (putCl (w2.alloc (.cells zL.toArray 28)) w2.heap.size (clList F)) := putCl_below (below_new (Below.refl _ _) (Nat.le_refl _)) (Nat.le_refl _) _
  have hsz : (putCl (w2.alloc (.cells zL.toArray 28)) w2.heap.size (clList F)).heap.size = w2.heap.size + 1 := by rw [putCl_sz, World.size_alloc]
  have HS0 : Hid (TmS w r w1.heap.size w2.heap.size y mo d h m s F (putCl (w2.alloc (.cells zL.toArray 28)) w2.heap.size (clList F)).drew) := by
    have h1 := Hz1.out
    refine TmS.keep (TmF.sas ⟨(HR1.out.below hB2 (by rw [World.size_alloc]; omega)).below hB3 (by omega), (HX1.out.below hB2 (by rw [World.size_alloc]; omega)).below hB3 (by omega), putCl_range _ rfl hth, (HB1.out.trans (hB2.mono (by rw [World.size_alloc]; omega))).trans (hB3.mono (by omega)), by rw [hsz]; omega, by rw [hsz]; omega, by rw [hsz]; omega⟩) (Below.refl _ _).drew
  clear hB2 hB3 hsz hz2
  go_upto_region 6 with fail
  refine wp_region_held_drew (S := fun w' => TmS w r w1.heap.size w2.heap.size y mo d h m s F w') (by kernel_rfl) HS0.out (fun hHeld => ?_)
  refine wpAnyH_take (i := 0) (v := ?_) rfl (by kernel_rfl) (by kernel_rfl) (by kernel_rfl) (fun _ _ _ h => h) (Or.inl ⟨by rfl, ?_⟩) (by assumption) ?_
  rotate_left
  · intro w hSw; (try dsimp only [RMS] at hSw); go_simp; (try with_reducible rfl)
  (try simp only [Act.put, List.getElem_toArray, List.getElem_cons_zero, List.setIfInBounds_toArray, List.set_cons_zero, List.set_cons_succ])
  refine wpAnyH_take (i := 1) (v := ?_) rfl (by kernel_rfl) (by kernel_rfl) (by kernel_rfl) (fun _ _ _ h => h) (Or.inl ⟨by rfl, ?_⟩) (by assumption) ?_
  rotate_left
  · intro w hSw; (try dsimp only [RMS] at hSw); go_simp; (try with_reducible rfl)
  (try simp only [Act.put, List.getElem_toArray, List.getElem_cons_succ, List.getElem_cons_zero, List.setIfInBounds_toArray, List.set_cons_zero, List.set_cons_succ])
  refine wpAnyH_take (i := 2) (v := ?_) rfl (by kernel_rfl) (by kernel_rfl) (by kernel_rfl) (fun _ _ _ h => h) (Or.inl ⟨by rfl, ?_⟩) (by assumption) ?_
  rotate_left
  · intro w hSw; (try dsimp only [RMS] at hSw); go_simp; (try with_reducible rfl)
  (try simp only [Act.put, List.getElem_toArray, List.getElem_cons_succ, List.getElem_cons_zero, List.setIfInBounds_toArray, List.set_cons_zero, List.set_cons_succ])
  refine wpAnyH_take (i := 3) (v := ?_) rfl (by kernel_rfl) (by kernel_rfl) (by kernel_rfl) (fun _ _ _ h => h) (Or.inl ⟨by rfl, ?_⟩) (by assumption) ?_
  rotate_left
  · intro w hSw; (try dsimp only [RMS] at hSw); go_simp; (try with_reducible rfl)
  (try simp only [Act.put, List.getElem_toArray, List.getElem_cons_succ, List.getElem_cons_zero, List.setIfInBounds_toArray, List.set_cons_zero, List.set_cons_succ])
  refine wpAnyH_take (i := 4) (v := ?_) rfl (by kernel_rfl) (by kernel_rfl) (by kernel_rfl) (fun _ _ _ h => h) (Or.inl ⟨by rfl, ?_⟩) (by assumption) ?_
  rotate_left
  · intro w hSw; (try dsimp only [RMS] at hSw); go_simp; (try with_reducible rfl)
  (try simp only [Act.put, List.getElem_toArray, List.getElem_cons_succ, List.getElem_cons_zero, List.setIfInBounds_toArray, List.set_cons_zero, List.set_cons_succ])
  refine wpAnyH_take (i := 5) (v := ?_) rfl (by kernel_rfl) (by kernel_rfl) (by kernel_rfl) (fun _ _ _ h => h) (Or.inl ⟨by rfl, ?_⟩) (by assumption) ?_
  rotate_left
  · intro w hSw; (try dsimp only [RMS] at hSw); go_simp; (try with_reducible rfl)
  (try simp only [Act.put, List.getElem_toArray, List.getElem_cons_succ, List.getElem_cons_zero, List.setIfInBounds_toArray, List.set_cons_zero, List.set_cons_succ])
  refine wpAnyH_take (i := 6) (v := ?_) rfl (by kernel_rfl) (by kernel_rfl) (by kernel_rfl) (fun _ _ _ h => h) (Or.inl ⟨by rfl, ?_⟩) (by assumption) ?_
  rotate_left
  · intro w hSw; (try dsimp only [RMS] at hSw); go_simp; (try with_reducible rfl)
  (try simp only [Act.put, List.getElem_toArray, List.getElem_cons_succ, List.getElem_cons_zero, List.setIfInBounds_toArray, List.set_cons_zero, List.set_cons_succ])
  refine wpAnyH_take (i := 8) (v := ?_) rfl (by kernel_rfl) (by kernel_rfl) (by kernel_rfl) (fun _ _ _ h => h) (Or.inl ⟨by rfl, ?_⟩) (by assumption) ?_
  rotate_left
  · intro w hSw; (try dsimp only [RMS] at hSw); go_simp; (try with_reducible rfl)
  (try simp only [Act.put, List.getElem_toArray, List.getElem_cons_succ, List.getElem_cons_zero, List.setIfInBounds_toArray, List.set_cons_zero, List.set_cons_succ])
  refine wpAnyH_take (i := 9) (v := ?_) rfl (by kernel_rfl) (by kernel_rfl) (by kernel_rfl) (fun _ _ _ h => h) (Or.inl ⟨by rfl, ?_⟩) (by assumption) ?_
  rotate_left
  · intro w hSw; (try dsimp only [RMS] at hSw); go_simp; (try with_reducible rfl)
  (try simp only [Act.put, List.getElem_toArray, List.getElem_cons_succ, List.getElem_cons_zero, List.setIfInBounds_toArray, List.set_cons_zero, List.set_cons_succ])
  refine wpAnyH_take (i := 10) (v := ?_) rfl (by kernel_rfl) (by kernel_rfl) (by kernel_rfl) (fun _ _ _ h => h) (Or.inl ⟨by rfl, ?_⟩) (by assumption) ?_
  rotate_left
  · intro w hSw; (try dsimp only [RMS] at hSw); go_simp; (try with_reducible rfl)
  (try simp only [Act.put, List.getElem_toArray, List.getElem_cons_succ, List.getElem_cons_zero, List.setIfInBounds_toArray, List.set_cons_zero, List.set_cons_succ])
  refine wpAnyH_take (i := 11) (v := ?_) rfl (by kernel_rfl) (by kernel_rfl) (by kernel_rfl) (fun _ _ _ h => h) (Or.inl ⟨by rfl, ?_⟩) (by assumption) ?_
  rotate_left
  · intro w hSw; (try dsimp only [RMS] at hSw); go_simp; (try with_reducible rfl)
  (try simp only [Act.put, List.getElem_toArray, List.getElem_cons_succ, List.getElem_cons_zero, List.setIfInBounds_toArray, List.set_cons_zero, List.set_cons_succ])
  refine wpAnyH_take (i := 12) (v := ?_) rfl (by kernel_rfl) (by kernel_rfl) (by kernel_rfl) (fun _ _ _ h => h) (Or.inl ⟨by rfl, ?_⟩) (by assumption) ?_
  rotate_left
  · intro w hSw; (try dsimp only [RMS] at hSw); go_simp; (try with_reducible rfl)
  (try simp only [Act.put, List.getElem_toArray, List.getElem_cons_succ, List.getElem_cons_zero, List.setIfInBounds_toArray, List.set_cons_zero, List.set_cons_succ])
  refine wpAnyH_take (i := 13) (v := ?_) rfl (by kernel_rfl) (by kernel_rfl) (by kernel_rfl) (fun _ _ _ h => h) (Or.inl ⟨by rfl, ?_⟩) (by assumption) ?_
  rotate_left
  · intro w hSw; (try dsimp only [RMS] at hSw); go_simp; (try with_reducible rfl)
  (try simp only [Act.put, List.getElem_toArray, List.getElem_cons_succ, List.getElem_cons_zero, List.setIfInBounds_toArray, List.set_cons_zero, List.set_cons_succ])
  refine wpAnyH_take (i := 14) (v := ?_) rfl (by kernel_rfl) (by kernel_rfl) (by kernel_rfl) (fun _ _ _ h => h) (Or.inl ⟨by rfl, ?_⟩) (by assumption) ?_
  rotate_left
  · intro w hSw; (try dsimp only [RMS] at hSw); go_simp; (try with_reducible rfl)
  (try simp only [Act.put, List.getElem_toArray, List.getElem_cons_succ, List.getElem_cons_zero, List.setIfInBounds_toArray, List.set_cons_zero, List.set_cons_succ])
  refine wpAnyH_take (i := 16) (v := ?_) rfl (by kernel_rfl) (by kernel_rfl) (by kernel_rfl) (fun _ _ _ h => h) (Or.inl ⟨by rfl, ?_⟩) (by assumption) ?_
  rotate_left
  · intro w hSw; (try dsimp only [RMS] at hSw); go_simp; (try with_reducible rfl)
  (try simp only [Act.put, List.getElem_toArray, List.getElem_cons_succ, List.getElem_cons_zero, List.setIfInBounds_toArray, List.set_cons_zero, List.set_cons_succ])
  refine wpAnyH_take (i := 17) (v := ?_) rfl (by kernel_rfl) (by kernel_rfl) (by kernel_rfl) (fun _ _ _ h => h) (Or.inl ⟨by rfl, ?_⟩) (by assumption) ?_
  rotate_left
  · intro w hSw; (try dsimp only [RMS] at hSw); go_simp; (try with_reducible rfl)
  (try simp only [Act.put, List.getElem_toArray, List.getElem_cons_succ, List.getElem_cons_zero, List.setIfInBounds_toArray, List.set_cons_zero, List.set_cons_succ])
  refine wpAnyH_take (i := 18) (v := ?_) rfl (by kernel_rfl) (by kernel_rfl) (by kernel_rfl) (fun _ _ _ h => h) (Or.inl ⟨by rfl, ?_⟩) (by assumption) ?_
  rotate_left
  · intro w hSw; (try dsimp only [RMS] at hSw); go_simp; (try with_reducible rfl)
  (try simp only [Act.put, List.getElem_toArray, List.getElem_cons_succ, List.getElem_cons_zero, List.setIfInBounds_toArray, List.set_cons_zero, List.set_cons_succ])
  refine wpAnyH_take (i := 19) (v := ?_) rfl (by kernel_rfl) (by kernel_rfl) (by kernel_rfl) (fun _ _ _ h => h) (Or.inl ⟨by rfl, ?_⟩) (by assumption) ?_
  rotate_left
  · intro w hSw; (try dsimp only [RMS] at hSw); go_simp; (try with_reducible rfl)
  (try simp only [Act.put, List.getElem_toArray, List.getElem_cons_succ, List.getElem_cons_zero, List.setIfInBounds_toArray, List.set_cons_zero, List.set_cons_succ])
  refine wpAnyH_take (i := 20) (v := ?_) rfl (by kernel_rfl) (by kernel_rfl) (by kernel_rfl) (fun _ _ _ h => h) (Or.inl ⟨by rfl, ?_⟩) (by assumption) ?_
  rotate_left
  · intro w hSw; (try dsimp only [RMS] at hSw); go_simp; (try with_reducible rfl)
  (try simp only [Act.put, List.getElem_toArray, List.getElem_cons_succ, List.getElem_cons_zero, List.setIfInBounds_toArray, List.set_cons_zero, List.set_cons_succ])
  refine wpAnyH_take (i := 21) (v := ?_) rfl (by kernel_rfl) (by kernel_rfl) (by kernel_rfl) (fun _ _ _ h => h) (Or.inl ⟨by rfl, ?_⟩) (by assumption) ?_
  rotate_left
  · intro w hSw; (try dsimp only [RMS] at hSw); go_simp; (try with_reducible rfl)
  (try simp only [Act.put, List.getElem_toArray, List.getElem_cons_succ, List.getElem_cons_zero, List.setIfInBounds_toArray, List.set_cons_zero, List.set_cons_succ])
  refine wpAnyH_take (i := 22) (v := ?_) rfl (by kernel_rfl) (by kernel_rfl) (by kernel_rfl) (fun _ _ _ h => h) (Or.inl ⟨by rfl, ?_⟩) (by assumption) ?_
  rotate_left
  · intro w hSw; (try dsimp only [RMS] at hSw); go_simp; (try with_reducible rfl)
  (try simp only [Act.put, List.getElem_toArray, List.getElem_cons_succ, List.getElem_cons_zero, List.setIfInBounds_toArray, List.set_cons_zero, List.set_cons_succ])
  refine wpAnyH_ready (rs := [7]) (by kernel_rfl) (by simp) ?_
  refine AllReadyH.cons rfl (fun K hK => ?_) AllReadyH.nil
  go_simp
  refine (k8.out _ _ _ (by assumption)).mono ?_; rintro e wr ⟨rfl, hS⟩
  (try go_wp2_with fail)
  refine hK.out _ _ (by assumption) (fun hHeld => ?_)
  clear hK K
  (try simp only [Act.put, List.getElem_toArray, List.getElem_cons_succ, List.getElem_cons_zero, List.setIfInBounds_toArray, List.set_cons_zero, List.set_cons_succ])
  refine wpAnyH_ready (rs := [15]) (by kernel_rfl) (by simp) ?_
  refine AllReadyH.cons rfl (fun K hK => ?_) AllReadyH.nil
  go_simp
  refine (k9.out _ _ _ (by assumption)).mono ?_; rintro e wr ⟨rfl, hS⟩
  (try go_wp2_with fail)
  refine hK.out _ _ (by assumption) (fun hHeld => ?_)
  clear hK K
  (try simp only [Act.put, List.getElem_toArray, List.getElem_cons_succ, List.getElem_cons_zero, List.setIfInBounds_toArray, List.set_cons_zero, List.set_cons_succ])
  refine wpAnyH_ready (rs := [23]) (by kernel_rfl) (by simp) ?_
  refine AllReadyH.cons rfl (fun K hK => ?_) AllReadyH.nil
  go_simp
  refine (kx.out _ _ _ (by assumption)).mono ?_; rintro e wr ⟨rfl, hS⟩
  (try go_wp2_with fail)
  refine hK.out _ _ (by assumption) (fun hHeld => ?_)
  clear hK K
  (try simp only [Act.put, List.getElem_toArray, List.getElem_cons_succ, List.getElem_cons_zero, List.setIfInBounds_toArray, List.set_cons_zero, List.set_cons_succ])
  refine wpAnyH_take (i := 24) (v := ?_) rfl (by kernel_rfl) (by kernel_rfl) (by kernel_rfl) (fun _ _ _ h => h) (Or.inl ⟨by rfl, ?_⟩) (by assumption) ?_
  rotate_left
  · intro w hSw; (try dsimp only [RMS] at hSw); go_simp; (try with_reducible rfl)
  (try simp only [Act.put, List.getElem_toArray, List.getElem_cons_succ, List.getElem_cons_zero, List.setIfInBounds_toArray, List.set_cons_zero, List.set_cons_succ])
  refine wpAnyH_take (i := 25) (v := ?_) rfl (by kernel_rfl) (by kernel_rfl) (by kernel_rfl) (fun _ _ _ h => h) (Or.inl ⟨by rfl, ?_⟩) (by assumption) ?_
  rotate_left
  · intro w hSw; (try dsimp only [RMS] at hSw); go_simp; (try with_reducible rfl)
  (try simp only [Act.put, List.getElem_toArray, List.getElem_cons_succ, List.getElem_cons_zero, List.setIfInBounds_toArray, List.set_cons_zero, List.set_cons_succ])
  refine wpAnyH_take (i := 26) (v := ?_) rfl (by kernel_rfl) (by kernel_rfl) (by kernel_rfl) (fun _ _ _ h => h) (Or.inl ⟨by rfl, ?_⟩) (by assumption) ?_
  rotate_left
  · intro w hSw; (try dsimp only [RMS] at hSw); go_simp; (try with_reducible rfl)
  (try simp only [Act.put, List.getElem_toArray, List.getElem_cons_succ, List.getElem_cons_zero, List.setIfInBounds_toArray, List.set_cons_zero, List.set_cons_succ])
  refine wpAnyH_done (by kernel_rfl) ?_ _
  have HV := hid ‹TmS w r w1.heap.size w2.heap.size y mo d h m s F _›
  go_wp2
  exact bodyPost_ret (v := .tuple #[.int .u64 (p8 : Nat), .int .u64 (p9 : Nat), .int .u64 (px : Nat)]) (by simp [results, Try.results25, go_sem]) rfl ⟨rfl, HV.out.2.2.2.be⟩
end Go.Proofs.Ytndfckpcbiecnaa
