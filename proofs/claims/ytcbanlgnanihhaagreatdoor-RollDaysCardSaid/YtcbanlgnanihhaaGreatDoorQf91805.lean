/-
  roll.Back's function, walked: it tells the days of a set, the last one first, each with its disc.
  roll.All and roll.Back: which function they hand back, with which boxes; the days outside of a set's hull have nothing.
  The seconds of a disc, told and collected in a list: ferialaw15.Told.
  What feriaref02.Ints computes.
-/
import Derived.Test.YtcbanlgnanihhaaGreatDoorQ5964e2
import Derived.Test.YtcbanlgnanihhaaGreatDoorQ80a1db
import Derived.Test.YtcbanlgnanihhaaGreatDoorQ48f4ed
import Derived.Test.YtcbanlgnanihhaaGreatDoorQ9322b0
namespace Go.Proofs.YtcbanlgnanihhaaGreatDoor
open Go.RowKit Go.Maps
set_option linter.unusedVariables false
attribute [local go_sem] Oper.semAt_some

theorem daysR_len (f t : Int) : (daysL f t).reverse.length = (t - f + 1).toNat := by rw [List.length_reverse, daysL_len]
theorem daysR_get {f t : Int} {k : Nat} (h : f ≤ t - k) : (daysL f t).reverse[k]? = some (t - k) := by
  have hl := daysL_len f t
  have h1 : k < (daysL f t).reverse.length := by rw [List.length_reverse, hl]; omega
  rw [List.getElem?_eq_getElem h1, List.getElem_reverse, daysL_get, hl]
  congr 1
  omega
/-- on the way: whose blocks are whose, and what has been told -/
def BkG (cs : List Cl) (br bk : Nat) (bps : List Nat) (x1 x2 x3 : Nat) (f t : Int) (Inv : Nat → (Nat → Bool) → Nat → Prop) (J : OwnF) (O F : Blk) (W : World) (k : Nat) (O1 F1 : Blk) (wr : World) : Prop :=
  (∀ b, F1 b → ¬ O1 b) ∧ J (cntA cs (daysL f t).reverse k) O1 F1 wr ∧ HA cs br bk bps x1 x2 x3 t f (Inv k) F1 wr ∧ (∀ b, O b → O1 b) ∧ (∀ b, O1 b → O b ∨ W.heap.size ≤ b) ∧ (∀ b, F b → F1 b) ∧ (∀ b, F1 b → F b ∨ W.heap.size ≤ b) ∧
    (∀ b, F b → ¬ RM br bk bps b → wr.heap[b]? = W.heap[b]?) ∧ Eff (fun b => O b ∨ F b) W wr

set_option maxRecDepth 100000 in
set_option maxHeartbeats 3200000 in
theorem RBackF_any {cs : List Cl} {br bk : Nat} {bps : List Nat} (Inv : Nat → (Nat → Bool) → Nat → Prop) (x1 x2 x3 : Nat) (f t : Int) (f0 : 0 ≤ f) (f1 : f ≤ 146097) (t0 : -1 ≤ t) (t1 : t ≤ 146096)
    (hstep : ∀ j n ws m ws' m', (daysL f t).reverse[j]? = some n → Inv j ws m → AtStep cs n ws m ws' m' → Inv (j + 1) ws' m') (hbd : ∀ j ws m, Inv j ws m → j < (daysL f t).reverse.length → m < 4611686018427387904) :
    TellsH Tryz.prog 112 #[.pointer (some ⟨x1, 0, none⟩), .pointer (some ⟨x2, 0, none⟩), .pointer (some ⟨x3, 0, none⟩)] (dayS cs (daysL f t).reverse).length (VRoll cs (RM br bk bps) (dayS cs (daysL f t).reverse))
      (HA cs br bk bps x1 x2 x3 t f (Inv 0)) (HA cs br bk bps x1 x2 x3 t f (Inv (daysL f t).reverse.length)) (fun F W => ∃ j, HA cs br bk bps x1 x2 x3 t f (Inv j) F W) (RM br bk bps) := by
  intro y J Jx O F W hH hFO hC hJ
  obtain ⟨yf, yi, yc, rfl⟩ := hC.form
  show Calls Tryz.prog 112 #[.func yf yi yc, .pointer (some ⟨x1, 0, none⟩), .pointer (some ⟨x2, 0, none⟩), .pointer (some ⟨x3, 0, none⟩)] W _
  have HRM := hid hH.sub
  have HF := hid hH.lt
  have HC := hid hC
  have Hst := hid hstep
  have Hbd := hid hbd
  have k1 := hH.c1
  have hst0 : Hid (BkG cs br bk bps x1 x2 x3 f t Inv J O F W 0 O F W) := ⟨hFO, by rw [cntA_zero]; exact hJ, hH, fun _ h => h, fun _ h => .inl h, fun _ h => h, fun _ h => .inl h, fun _ _ _ => rfl, Eff.refl _ _⟩
  obtain ⟨L, hL⟩ : ∃ L, (daysL f t).reverse.length = L := ⟨_, rfl⟩
  rw [hL] at Hbd ⊢
  have hLn : L = (t - f + 1).toNat := by rw [← hL, daysR_len]
  clear hH hFO hC hJ hstep hbd hL
  refine (wf_calls (r := none) (n := 1)).mp ?_
  gi_enter Tryz.func112, Tryz.ntmps112
  gi_wp2_with fail
  gi_loopw [5] (fun nv wr => ∃ (k : Nat) (O1 F1 : Blk), nv = .int .i64 (t - (k : Int)) ∧ k ≤ L ∧ Hid (BkG cs br bk bps x1 x2 x3 f t Inv J O F W k O1 F1 wr)) (fun nv wr => (intOf nv - f + 1).toNat)
  case atStart => exact ⟨0, O, F, by simp, by omega, hst0⟩
  case round =>
    obtain ⟨k, O1, F1, rfl, hk, HG⟩ := hrel
    have kf : wr.cell? ⟨x2, 0, none⟩ = some (.int .i64 f) := HG.out.2.2.1.c2
    by_cases hlt : k < L
    · have n0 : 0 ≤ t - k := by omega
      have n1 : t - k < 146097 := by omega
      have En : Hid ((daysL f t).reverse[k]? = some (t - (k : Int))) := daysR_get (by omega)
      obtain ⟨n, hn⟩ : ∃ n : Int, t - (k : Int) = n := ⟨_, rfl⟩
      have Hn := hid hn
      rw [hn] at n0 n1 En ⊢
      have hnf : f ≤ n := by omega
      have N01 := hid (And.intro n0 n1)
      have cS := hid (fun W => Shape_any n W N01.out.1 N01.out.2)
      rw [← shq_shF] at cS
      obtain ⟨s, hs⟩ : ∃ s, shF n = s := ⟨_, rfl⟩
      have Hs := hid hs
      rw [hs, shq] at cS
      clear hs hn
      gi_wp2_with fail
      refine (wf_calls.mpr (cS.out _)).mono ?_
      rintro e w2 ⟨rfl, hB2⟩
      obtain ⟨w3, hw3⟩ : ∃ w3, w2.alloc (.cells #[.int .i64 (s 0), .int .i64 (s 1), .int .i64 (s 2), .int .i64 (s 3), .int .i64 (s 4), .int .i64 (s 5), .int .i64 (s 6), .int .i64 (s 7), .int .i64 (s 8), .int .i64 (s 9)] 63) = w3 := ⟨_, rfl⟩
      have hB3 : Below wr.heap.size wr w3 := by rw [← hw3]; exact below_new hB2 (hB2.size)
      have hbx : w2.heap.size < w3.heap.size := by rw [← hw3]; simp
      have Sh3 : Hid (ShS w3 w2.heap.size s) := by show ShS _ _ _; rw [← hw3]; exact shC_new w2 63 _ _ _ _ _ _ _ _ _ _
      have hs2 := hB2.size
      have HG3 : Hid (BkG cs br bk bps x1 x2 x3 f t Inv J O F W k O1 F1 w3) := by
        obtain ⟨h1, hJ6, hH6, h3, h4, h5, h6, h7, hE⟩ := HG.out
        have hlt1 : ∀ b, O1 b → b < wr.heap.size := HC.out.lt _ _ _ _ hJ6
        exact ⟨h1, HC.out.stab _ O1 F1 F1 wr w3 hJ6 hB3.size (fun _ h => h) (fun b hb => hB3.block b (hb.elim (hlt1 b) (fun h => hH6.lt b h.1))), hH6.keep hB3.size (fun b hb => hB3.block b (hH6.lt b hb)), h3, h4, h5, h6,
          fun b hb hn => (hB3.block b (hH6.lt b (h5 b hb))).trans (h7 b hb hn), hE.trans (Eff.of_below hB3) (fun _ h => .inl h)⟩
      have hbO : Hid (¬ O1 w2.heap.size ∧ ¬ F1 w2.heap.size) := ⟨fun h => by have := HC.out.lt _ _ _ _ HG.out.2.1 _ h; omega, fun h => by have := HG.out.2.2.1.lt _ h; omega⟩
      have k3 : (w2.alloc (.cells #[.int .i64 (s 0), .int .i64 (s 1), .int .i64 (s 2), .int .i64 (s 3), .int .i64 (s 4), .int .i64 (s 5), .int .i64 (s 6), .int .i64 (s 7), .int .i64 (s 8), .int .i64 (s 9)] 63)).cell? ⟨x3, 0, none⟩ = some (.pointer (some ⟨br, 0, none⟩)) := by rw [hw3]; exact HG3.out.2.2.1.c3
      have hw3' := hid hw3
      obtain ⟨ws, m, hR3, hInv⟩ := HG3.out.2.2.1.roll
      have cA := hid (RAt_any n N01.out.1 N01.out.2 (Hbd.out k ws m hInv (by omega)) hR3)
      rw [← shq_shF, Hs.out, shq] at cA
      have HInv := hid hInv
      have cS := hid (fun d q w hT h => Some_any d q w hT h)
      have nx := hbO.out
      clear hw3 hB2 hB3 kf hR3 hInv
      gi_wp2_with fail
      rw [hw3'.out]
      refine (wf_calls.mpr cA.out).mono ?_
      rintro e w7 ⟨d, F2, ws', m', rfl, hR7, hGr, hE7, hst7, hnone, hsome⟩
      obtain ⟨h1, hJ6, hH6, h3, h4, h5, h6, h7, hE⟩ := HG3.out
      have hlt1 : ∀ b, O1 b → b < w3.heap.size := HC.out.lt _ _ _ _ hJ6
      have hHA7 : HA cs br bk bps x1 x2 x3 t f (Inv (k + 1)) F2 w7 := hH6.step hR7 hGr.sub hE7 (Hst.out k n ws m ws' m' En.out HInv.out hst7)
      obtain ⟨g1, g5, g6, g7, gk, gG⟩ := ig_step (F := F) h1 h5 h6 h7 hlt1 hH6.lt hH6.sub hGr hE7 hE.size
      have hJ7 : J (cntA cs (daysL f t).reverse k) O1 F2 w7 := HC.out.stab _ O1 F1 F2 w3 w7 hJ6 hE7.size hGr.sub gk
      have h8 : cs.length ≤ 8 := by have := hR7.x.may; rw [mayL, Bool.and_eq_true, decide_eq_true_eq] at this; exact this.1
      have hd7 := day_disc h8 N01.out.1 N01.out.2 hnone hsome
      have HT7 := hid hR7.x.tab
      have cS7 := hid (cS.out d (dayQ cs n) w7 hR7.x.tab.1 hd7)
      have HE07 : Hid (Eff (fun b => O b ∨ F b) W w7) := hE.trans hE7 (fun b hb => (h6 b (hH6.sub b hb)).imp .inr id)
      have Hp7 : Hid ((∀ b, F2 b → ¬ O1 b) ∧ J (cntA cs (daysL f t).reverse k) O1 F2 w7 ∧ HA cs br bk bps x1 x2 x3 t f (Inv (k + 1)) F2 w7 ∧ (∀ b, O b → O1 b) ∧ (∀ b, O1 b → O b ∨ W.heap.size ≤ b) ∧ (∀ b, F b → F2 b) ∧ (∀ b, F2 b → F b ∨ W.heap.size ≤ b) ∧ (∀ b, F b → ¬ RM br bk bps b → w7.heap[b]? = W.heap[b]?)) := ⟨g1, hJ7, hHA7, h3, h4, g5, g6, g7⟩
      have Hsn := hid (cntA_snoc (cs := cs) En.out)
      have Hsome := hid hsome
      have Hnd : Hid (d = none → ∀ j, j < 86400 → dayQ cs n j = false) := fun hd j hj => day_none h8 N01.out.1 N01.out.2 (hnone hd) hj
      have Sh7 := hid (shS_blk Sh3.out (hE7.block w2.heap.size hbx (fun hM => nx.2 (hH6.sub _ hM))))
      obtain ⟨qv, hqv⟩ : ∃ qv, anyQ (dayQ cs n) = qv := ⟨_, rfl⟩
      have Hqv := hid hqv
      rw [hqv] at cS7 Hsn
      clear hR7 hGr hE7 hst7 hnone h1 hJ6 hH6 h3 h4 h5 h6 h7 hE hlt1 hHA7 g1 g5 g6 g7 gk gG hJ7 h8 hd7 hsome hqv k3
      gi_wp2_with fail
      refine (wf_calls.mpr cS7.out).mono ?_
      rintro e w8 ⟨rfl, rfl⟩
      cases qv
      · have hfin : Hid (BkG cs br bk bps x1 x2 x3 f t Inv J O F W (k + 1) O1 F2 w7) := by
          obtain ⟨g1, hJ7, hHA7, h3, h4, g5, g6, g7⟩ := Hp7.out
          exact ⟨g1, by rw [Hsn.out]; exact hJ7, hHA7, h3, h4, g5, g6, g7, HE07.out⟩
        clear Hp7
        gi_wp2
        exact ⟨⟨k + 1, O1, F2, by rw [← Hn.out]; congr 1; omega, by omega, hfin.out⟩, by simp [intOf]; omega⟩
      · obtain ⟨b, rfl⟩ : ∃ b, d = some b := by
          cases d with
          | none =>
            exfalso
            obtain ⟨j, hj, hj2⟩ := anyQ_true.1 Hqv.out
            exact absurd hj2 (by simp [Hnd.out rfl j hj])
          | some b => exact ⟨b, rfl⟩
        have hat := cntA_at (cs := cs) En.out Hqv.out
        obtain ⟨g1, hJ7, hHA7, h3, h4, g5, g6, g7⟩ := Hp7.out
        have hidx := (List.getElem?_eq_some_iff.1 hat).1
        have hltF2 := hHA7.lt
        have hcall := HC.out.call _ O1 F2 w7 #[shN n, .pointer (some ⟨b, 0, none⟩)] hidx hJ7 g1 ⟨n, b, hat, N01.out.1, N01.out.2, rfl, Hsome.out b rfl, HT7.out, hltF2⟩ (IG.growM HRM.out HF.out h3 h4 g7 HE07.out)
        rw [← shq_shF, Hs.out, shq] at hcall
        have Hcall := hid hcall
        have Hidx := hid hidx
        have sz7 : Hid (W.heap.size ≤ w7.heap.size) := HE07.out.size
        obtain ⟨r0, r1, r2, r3, r4, r5, r6, r7, r8, r9⟩ := Sh7.out
        clear hcall hidx hat g1 hJ7 hHA7 h3 h4 g5 g6 g7 hltF2
        gi_wp2_with (refine callv2w (.tmp 28) (.tmp 29) (.tmp 30) _ _ (by rfl) rfl rfl rfl rfl Hcall.out ?_)
        rintro e W8 O8 y1 y2 y3 hend
        obtain ⟨g1, hJ7, hHA7, h3, h4, g5, g6, g7⟩ := Hp7.out
        obtain ⟨p1, p3, p4, p7, pk, pG⟩ := ig_yield (F := F) g1 h3 h4 g5 g7 hHA7.lt y1 y2 y3 sz7.out
        have hHA8 : HA cs br bk bps x1 x2 x3 t f (Inv (k + 1)) F2 W8 := hHA7.keep y3.size pk
        have hE8 : Hid (Eff (fun b => O b ∨ F b) W W8) := HE07.out.trans y3 (fun b hb => (h4 b hb).imp .inl id)
        rcases hend with ⟨rfl, hJ8⟩ | ⟨rfl, hJ8⟩
        · have hfin : Hid (BkG cs br bk bps x1 x2 x3 f t Inv J O F W (k + 1) O8 F2 W8) := ⟨p1, by rw [Hsn.out]; exact hJ8, hHA8, p3, p4, g5, g6, p7, hE8.out⟩
          clear g1 hJ7 hHA7 h3 h4 g5 g6 g7 p1 p3 p4 p7 pk pG hHA8 hJ8 y1 y2 y3
          refine ⟨_, rfl, ?_⟩
          gi_wp2
          exact ⟨⟨k + 1, O8, F2, by rw [← Hn.out]; congr 1; omega, by omega, hfin.out⟩, by simp [intOf]; omega⟩
        · have hfin : Hid (ToldH (dayS cs (daysL f t).reverse).length (HA cs br bk bps x1 x2 x3 t f (Inv L)) (fun F W => ∃ j, HA cs br bk bps x1 x2 x3 t f (Inv j) F W) (RM br bk bps) J Jx O F W W8) :=
            ⟨O8, F2, IG.growM (F := F) HRM.out HF.out p3 p4 p7 hE8.out, g5, g6, p1, .inr ⟨⟨_, hHA8⟩, _, by omega, Nat.succ_le_of_lt Hidx.out, hJ8⟩⟩
          clear g1 hJ7 hHA7 h3 h4 g5 g6 g7 p1 p3 p4 p7 pk pG hHA8 hJ8 y1 y2 y3
          refine ⟨_, rfl, ?_⟩
          gi_wp2
          refine bodyPost_ret (results_none rfl _ _ _) rfl ?_
          exact ⟨⟨_, rfl⟩, hfin.out⟩
    · obtain rfl : k = L := by omega
      have hnf : ¬ f ≤ t - (k : Int) := by omega
      have hfin : Hid (ToldH (dayS cs (daysL f t).reverse).length (HA cs br bk bps x1 x2 x3 t f (Inv k)) (fun F W => ∃ j, HA cs br bk bps x1 x2 x3 t f (Inv j) F W) (RM br bk bps) J Jx O F W wr) := by
        obtain ⟨h1, hJ6, hH6, h3, h4, h5, h6, h7, hE⟩ := HG.out
        refine ⟨O1, F1, IG.growM (F := F) HRM.out HF.out h3 h4 h7 hE, h5, h6, h1, .inl ⟨hH6, ?_⟩⟩
        have e := cntA_all cs (daysL f t).reverse
        rw [daysR_len, ← hLn] at e
        rw [← e]; exact hJ6
      clear hLn
      gi_wp2
      go_end0
      exact ⟨⟨_, rfl⟩, hfin.out⟩
end Go.Proofs.YtcbanlgnanihhaaGreatDoor
namespace Go.Proofs.YtcbanlgnanihhaaGreatDoor
open Go.RowKit Go.Maps
set_option linter.unusedVariables false

theorem has_held {c : Cl} {t : Int} (h : hasC c t = true) : heldB c.fr c.un = true ∧ heldF c.fr c.un ≤ t ∧ t ≤ heldU c.fr c.un ∧ 0 ≤ t ∧ t < 12622780800 := by
  rw [hasC, Bool.and_eq_true, Bool.and_eq_true, Bool.and_eq_true, winB, betB, Bool.and_eq_true, decide_eq_true_eq, decide_eq_true_eq, decide_eq_true_eq] at h
  obtain ⟨⟨h1, h2⟩, -, ⟨h3, h4⟩, -⟩ := h
  have hb : heldB c.fr c.un = true := decide_eq_true (by omega)
  refine ⟨hb, ?_⟩
  rw [heldF, heldU, hb, if_pos rfl, if_pos rfl]
  omega
theorem hul_fold : ∀ (l : List Cl) (a b : Int), l.foldl (fun a c => if heldB c.fr c.un then min a (heldF c.fr c.un) else a) a ≤ a ∧ b ≤ l.foldl (fun a c => if heldB c.fr c.un then max a (heldU c.fr c.un) else a) b ∧
    ∀ c ∈ l, heldB c.fr c.un = true → l.foldl (fun a c => if heldB c.fr c.un then min a (heldF c.fr c.un) else a) a ≤ heldF c.fr c.un ∧ heldU c.fr c.un ≤ l.foldl (fun a c => if heldB c.fr c.un then max a (heldU c.fr c.un) else a) b
  | [], a, b => ⟨Int.le_refl _, Int.le_refl _, by simp⟩
  | d :: l, a, b => by
    obtain ⟨h1, h2, h3⟩ := hul_fold l (if heldB d.fr d.un then min a (heldF d.fr d.un) else a) (if heldB d.fr d.un then max b (heldU d.fr d.un) else b)
    rw [List.foldl_cons, List.foldl_cons]
    have e1 : (if heldB d.fr d.un then min a (heldF d.fr d.un) else a) ≤ a := by split <;> omega
    have e2 : b ≤ (if heldB d.fr d.un then max b (heldU d.fr d.un) else b) := by split <;> omega
    refine ⟨Int.le_trans h1 e1, Int.le_trans e2 h2, fun c hc hb => ?_⟩
    rcases List.mem_cons.1 hc with e | hc
    · subst e
      have f1 : (if heldB c.fr c.un then min a (heldF c.fr c.un) else a) ≤ heldF c.fr c.un := by rw [if_pos hb]; omega
      have f2 : heldU c.fr c.un ≤ (if heldB c.fr c.un then max b (heldU c.fr c.un) else b) := by rw [if_pos hb]; omega
      exact ⟨Int.le_trans h1 f1, Int.le_trans f2 h2⟩
    · exact h3 c hc hb
theorem hul_in {cs : List Cl} {n : Int} {k : Nat} (hk : k < 86400) (h : dayQ cs n k = true) : hulB cs = true ∧ heldF (hullF cs) (hullU cs) / 86400 ≤ n ∧ n ≤ heldU (hullF cs) (hullU cs) / 86400 ∧ 0 ≤ n ∧ n < 146097 := by
  rw [dayQ, List.any_eq_true] at h
  obtain ⟨c, hc, h⟩ := h
  obtain ⟨hb, g1, g2, g3, g4⟩ := has_held h
  obtain ⟨-, -, h3⟩ := hul_fold cs 12622780800 (-1)
  obtain ⟨k1, k2⟩ := h3 c hc hb
  have k1' : hullF cs ≤ heldF c.fr c.un := k1
  have k2' : heldU c.fr c.un ≤ hullU cs := k2
  have e : hulB cs = true := decide_eq_true (by omega)
  refine ⟨e, ?_, ?_, ?_, ?_⟩
  · rw [heldF, ← hulB, e, if_pos rfl]; omega
  · rw [heldU, ← hulB, e, if_pos rfl]; omega
  · omega
  · omega
/-- the days outside of the hull have nothing -/
theorem dayS_clip (cs : List Cl) (f t : Int) : dayS cs (daysL (bndF cs f) (bndU cs t)) = dayS cs (daysL f t) := by
  rw [dayS, dayS, bndF, bndU]
  cases e : hulB cs
  · rw [if_neg (by simp), if_neg (by simp), daysL_nil (by omega)]
    rw [daysL_out fun n _ _ => ?_]; rfl
    refine anyQ_false.2 fun k hk => ?_
    cases hq : dayQ cs n k
    · rfl
    · rw [(hul_in hk hq).1] at e; cases e
  · rw [if_pos rfl, if_pos rfl]
    refine daysL_clip fun n hn => ?_
    obtain ⟨k, hk, hq⟩ := anyQ_true.1 hn
    obtain ⟨-, g1, g2, -⟩ := hul_in hk hq
    exact ⟨g1, g2⟩
theorem bnd_rng (cs : List Cl) {f t : Int} (hf : f ≤ 146097) (ht : -1 ≤ t) : 0 ≤ bndF cs f ∧ bndF cs f ≤ 146097 ∧ -1 ≤ bndU cs t ∧ bndU cs t ≤ 146096 := by
  rw [bndF, bndU]
  cases e : hulB cs
  · simp
  · obtain ⟨h1, h2, h3⟩ := held_rng e
    rw [if_pos rfl, if_pos rfl]
    omega
theorem dayS_rev (cs : List Cl) (l : List Int) : dayS cs l.reverse = (dayS cs l).reverse := by rw [dayS, dayS, List.filter_reverse]
/-- the roll's blocks, and three boxes -/
abbrev F3 (F : Blk) (n : Nat) : Blk := fun b => F b ∨ b = n ∨ b = n + 1 ∨ b = n + 2
theorem ha_boxes {W W' : World} {cs : List Cl} {br bk : Nat} {bps : List Nat} {F : Blk} {ws : Nat → Bool} {m : Nat} (h : RollS W cs br bk bps F ws m) (hB : Below W.heap.size W W') (hl : W.heap.size + 2 < W'.heap.size) (x1 x2 x3 : Nat) (hx : x1 = W.heap.size + 1 ∧ x2 = W.heap.size + 2 ∧ x3 = W.heap.size ∨ x1 = W.heap.size + 2 ∧ x2 = W.heap.size + 1 ∧ x3 = W.heap.size)
    (a b : Int) (c1 : W'.cell? ⟨x1, 0, none⟩ = some (.int .i64 a)) (c2 : W'.cell? ⟨x2, 0, none⟩ = some (.int .i64 b)) (c3 : W'.cell? ⟨x3, 0, none⟩ = some (.pointer (some ⟨br, 0, none⟩))) (Inv : (Nat → Bool) → Nat → Prop) (hI : Inv ws m) :
    HA cs br bk bps x1 x2 x3 a b Inv (F3 F W.heap.size) W' := by
  have no : ∀ b, W.heap.size ≤ b → ¬ RM br bk bps b := fun b hb hM => by have := h.x.lt b (h.x.sub b hM); omega
  refine ⟨⟨ws, m, (h.below hB).wide (fun b hb => .inl hb) (fun b hb => ?_), hI⟩, ?_, ?_, c1, c2, c3⟩
  · rcases hb with h1 | h1 | h1 | h1
    · exact Nat.lt_of_lt_of_le (h.x.lt b h1) hB.size
    · omega
    · omega
    · omega
  · rcases hx with ⟨rfl, rfl, rfl⟩ | ⟨rfl, rfl, rfl⟩
    · exact ⟨.inr (.inr (.inl rfl)), .inr (.inr (.inr rfl)), .inr (.inl rfl)⟩
    · exact ⟨.inr (.inr (.inr rfl)), .inr (.inr (.inl rfl)), .inr (.inl rfl)⟩
  · rcases hx with ⟨rfl, rfl, rfl⟩ | ⟨rfl, rfl, rfl⟩ <;> exact ⟨no _ (by omega), no _ (by omega), no _ (by omega)⟩
set_option maxHeartbeats 1600000 in
theorem RAllC_any {W : World} {cs : List Cl} {br bk : Nat} {bps : List Nat} {F : Blk} {ws : Nat → Bool} {m : Nat} (f t : Int) (h : RollS W cs br bk bps F ws m) (Inv : (Nat → Bool) → Nat → Prop) (hI : Inv ws m) :
    Calls Tryz.prog 38 #[.pointer (some ⟨br, 0, none⟩), .int .i64 f, .int .i64 t] W fun e W' => e = .returned (.func (.func 74) #[] #[.pointer (some ⟨W.heap.size + 1, 0, none⟩), .pointer (some ⟨W.heap.size + 2, 0, none⟩), .pointer (some ⟨W.heap.size, 0, none⟩)]) ∧ Below W.heap.size W W' ∧ W.heap.size + 2 < W'.heap.size ∧
      HA cs br bk bps (W.heap.size + 1) (W.heap.size + 2) W.heap.size (bndF cs f) (bndU cs t) Inv (F3 F W.heap.size) W' := by
  obtain ⟨W3, hW3⟩ : ∃ W3, ((W.alloc (.cells #[.pointer (some ⟨br, 0, none⟩)] 33)).alloc (.cells #[.int .i64 f] 2)).alloc (.cells #[.int .i64 t] 2) = W3 := ⟨_, rfl⟩
  have hB3 : Below W.heap.size W W3 := by rw [← hW3]; exact below_new (below_new (below_new (Below.refl _ _) (Nat.le_refl _)) (by simp)) (by simp; omega)
  have s3 : W3.heap.size = W.heap.size + 3 := by rw [← hW3]; simp
  have cB := hid (RBounds_any f t (h.below hB3))
  have k0 : W3.cell? ⟨W.heap.size, 0, none⟩ = some (.pointer (some ⟨br, 0, none⟩)) := by rw [← hW3]; simp [go_sem]
  have k1 : W3.cell? ⟨W.heap.size + 1, 0, none⟩ = some (.int .i64 f) := by rw [← hW3]; simp [go_sem]
  have k2 : W3.cell? ⟨W.heap.size + 2, 0, none⟩ = some (.int .i64 t) := by rw [← hW3]; simp [go_sem]
  have z1 : W3.frozen? ⟨W.heap.size + 1, 0, none⟩ = false := by rw [← hW3]; simp [go_sem]
  have z2 : W3.frozen? ⟨W.heap.size + 2, 0, none⟩ = false := by rw [← hW3]; simp [go_sem]
  have H := hid h
  have HI := hid hI
  have HB3 := hid hB3
  have HW3 := hid hW3
  have S3 := hid s3
  obtain ⟨X, hX⟩ : ∃ X, bndF cs f = X := ⟨_, rfl⟩
  obtain ⟨Y, hY⟩ : ∃ Y, bndU cs t = Y := ⟨_, rfl⟩
  rw [hX, hY] at cB
  rw [hX, hY]
  clear hW3 hB3 h hI s3 hX hY
  go_enter Tryz.func38, Tryz.ntmps38
  go_wp2_with fail
  rw [HW3.out]
  refine cB.out.mono ?_
  rintro e w4 ⟨rfl, hB4⟩
  have j0 := (hB4.cell (p := ⟨W.heap.size, 0, none⟩) (by have := S3.out; simp only []; omega)).trans k0
  have j1 := (hB4.cell (p := ⟨W.heap.size + 1, 0, none⟩) (by have := S3.out; simp only []; omega)).trans k1
  have j2 := (hB4.cell (p := ⟨W.heap.size + 2, 0, none⟩) (by have := S3.out; simp only []; omega)).trans k2
  have y1 := (hB4.frozen (p := ⟨W.heap.size + 1, 0, none⟩) (by have := S3.out; simp only []; omega)).trans z1
  have y2 := (hB4.frozen (p := ⟨W.heap.size + 2, 0, none⟩) (by have := S3.out; simp only []; omega)).trans z2
  have HB4 : Hid (Below W.heap.size W w4) := HB3.out.trans (hB4.mono HB3.out.size)
  have S4 : Hid (W.heap.size + 2 < w4.heap.size) := by have := hB4.size; have := S3.out; show _ < _; omega
  have hfin : Hid (∀ w5, w5 = (w4.setCell ⟨W.heap.size + 1, 0, none⟩ (.int .i64 X)).setCell ⟨W.heap.size + 2, 0, none⟩ (.int .i64 Y) → Below W.heap.size W w5 ∧ W.heap.size + 2 < w5.heap.size ∧ HA cs br bk bps (W.heap.size + 1) (W.heap.size + 2) W.heap.size X Y Inv (F3 F W.heap.size) w5) := by
    rintro w5 rfl
    have hB5 : Below W.heap.size W ((w4.setCell ⟨W.heap.size + 1, 0, none⟩ (.int .i64 X)).setCell ⟨W.heap.size + 2, 0, none⟩ (.int .i64 Y)) := below_set (below_set HB4.out (by omega)) (by omega)
    have s5 : W.heap.size + 2 < ((w4.setCell ⟨W.heap.size + 1, 0, none⟩ (.int .i64 X)).setCell ⟨W.heap.size + 2, 0, none⟩ (.int .i64 Y)).heap.size := by simpa using S4.out
    have z1 : ((w4.setCell ⟨W.heap.size + 1, 0, none⟩ (.int .i64 X)).setCell ⟨W.heap.size + 2, 0, none⟩ (.int .i64 Y)).cell? ⟨W.heap.size + 1, 0, none⟩ = some (.int .i64 X) := by simp [go_sem, j1]
    have z2 : ((w4.setCell ⟨W.heap.size + 1, 0, none⟩ (.int .i64 X)).setCell ⟨W.heap.size + 2, 0, none⟩ (.int .i64 Y)).cell? ⟨W.heap.size + 2, 0, none⟩ = some (.int .i64 Y) := by simp [go_sem, j2]
    have z3 : ((w4.setCell ⟨W.heap.size + 1, 0, none⟩ (.int .i64 X)).setCell ⟨W.heap.size + 2, 0, none⟩ (.int .i64 Y)).cell? ⟨W.heap.size, 0, none⟩ = some (.pointer (some ⟨br, 0, none⟩)) := by simp [go_sem, j0]
    exact ⟨hB5, s5, ha_boxes H.out hB5 s5 _ _ _ (.inl ⟨rfl, rfl, rfl⟩) _ _ z1 z2 z3 Inv HI.out⟩
  clear hB4 k0 k1 k2 z1 z2 HB4
  go_wp2
  go_ret
  exact ⟨rfl, hfin.out _ rfl⟩
set_option maxHeartbeats 1600000 in
theorem RBackC_any {W : World} {cs : List Cl} {br bk : Nat} {bps : List Nat} {F : Blk} {ws : Nat → Bool} {m : Nat} (f t : Int) (h : RollS W cs br bk bps F ws m) (Inv : (Nat → Bool) → Nat → Prop) (hI : Inv ws m) :
    Calls Tryz.prog 62 #[.pointer (some ⟨br, 0, none⟩), .int .i64 f, .int .i64 t] W fun e W' => e = .returned (.func (.func 112) #[] #[.pointer (some ⟨W.heap.size + 2, 0, none⟩), .pointer (some ⟨W.heap.size + 1, 0, none⟩), .pointer (some ⟨W.heap.size, 0, none⟩)]) ∧ Below W.heap.size W W' ∧ W.heap.size + 2 < W'.heap.size ∧
      HA cs br bk bps (W.heap.size + 2) (W.heap.size + 1) W.heap.size (bndU cs t) (bndF cs f) Inv (F3 F W.heap.size) W' := by
  obtain ⟨W3, hW3⟩ : ∃ W3, ((W.alloc (.cells #[.pointer (some ⟨br, 0, none⟩)] 33)).alloc (.cells #[.int .i64 f] 2)).alloc (.cells #[.int .i64 t] 2) = W3 := ⟨_, rfl⟩
  have hB3 : Below W.heap.size W W3 := by rw [← hW3]; exact below_new (below_new (below_new (Below.refl _ _) (Nat.le_refl _)) (by simp)) (by simp; omega)
  have s3 : W3.heap.size = W.heap.size + 3 := by rw [← hW3]; simp
  have cB := hid (RBounds_any f t (h.below hB3))
  have k0 : W3.cell? ⟨W.heap.size, 0, none⟩ = some (.pointer (some ⟨br, 0, none⟩)) := by rw [← hW3]; simp [go_sem]
  have k1 : W3.cell? ⟨W.heap.size + 1, 0, none⟩ = some (.int .i64 f) := by rw [← hW3]; simp [go_sem]
  have k2 : W3.cell? ⟨W.heap.size + 2, 0, none⟩ = some (.int .i64 t) := by rw [← hW3]; simp [go_sem]
  have z1 : W3.frozen? ⟨W.heap.size + 1, 0, none⟩ = false := by rw [← hW3]; simp [go_sem]
  have z2 : W3.frozen? ⟨W.heap.size + 2, 0, none⟩ = false := by rw [← hW3]; simp [go_sem]
  have H := hid h
  have HI := hid hI
  have HB3 := hid hB3
  have HW3 := hid hW3
  have S3 := hid s3
  obtain ⟨X, hX⟩ : ∃ X, bndF cs f = X := ⟨_, rfl⟩
  obtain ⟨Y, hY⟩ : ∃ Y, bndU cs t = Y := ⟨_, rfl⟩
  rw [hX, hY] at cB
  rw [hX, hY]
  clear hW3 hB3 h hI s3 hX hY
  go_enter Tryz.func62, Tryz.ntmps62
  go_wp2_with fail
  rw [HW3.out]
  refine cB.out.mono ?_
  rintro e w4 ⟨rfl, hB4⟩
  have j0 := (hB4.cell (p := ⟨W.heap.size, 0, none⟩) (by have := S3.out; simp only []; omega)).trans k0
  have j1 := (hB4.cell (p := ⟨W.heap.size + 1, 0, none⟩) (by have := S3.out; simp only []; omega)).trans k1
  have j2 := (hB4.cell (p := ⟨W.heap.size + 2, 0, none⟩) (by have := S3.out; simp only []; omega)).trans k2
  have y1 := (hB4.frozen (p := ⟨W.heap.size + 1, 0, none⟩) (by have := S3.out; simp only []; omega)).trans z1
  have y2 := (hB4.frozen (p := ⟨W.heap.size + 2, 0, none⟩) (by have := S3.out; simp only []; omega)).trans z2
  have HB4 : Hid (Below W.heap.size W w4) := HB3.out.trans (hB4.mono HB3.out.size)
  have S4 : Hid (W.heap.size + 2 < w4.heap.size) := by have := hB4.size; have := S3.out; show _ < _; omega
  have hfin : Hid (∀ w5, w5 = (w4.setCell ⟨W.heap.size + 1, 0, none⟩ (.int .i64 X)).setCell ⟨W.heap.size + 2, 0, none⟩ (.int .i64 Y) → Below W.heap.size W w5 ∧ W.heap.size + 2 < w5.heap.size ∧ HA cs br bk bps (W.heap.size + 2) (W.heap.size + 1) W.heap.size Y X Inv (F3 F W.heap.size) w5) := by
    rintro w5 rfl
    have hB5 : Below W.heap.size W ((w4.setCell ⟨W.heap.size + 1, 0, none⟩ (.int .i64 X)).setCell ⟨W.heap.size + 2, 0, none⟩ (.int .i64 Y)) := below_set (below_set HB4.out (by omega)) (by omega)
    have s5 : W.heap.size + 2 < ((w4.setCell ⟨W.heap.size + 1, 0, none⟩ (.int .i64 X)).setCell ⟨W.heap.size + 2, 0, none⟩ (.int .i64 Y)).heap.size := by simpa using S4.out
    have z1 : ((w4.setCell ⟨W.heap.size + 1, 0, none⟩ (.int .i64 X)).setCell ⟨W.heap.size + 2, 0, none⟩ (.int .i64 Y)).cell? ⟨W.heap.size + 1, 0, none⟩ = some (.int .i64 X) := by simp [go_sem, j1]
    have z2 : ((w4.setCell ⟨W.heap.size + 1, 0, none⟩ (.int .i64 X)).setCell ⟨W.heap.size + 2, 0, none⟩ (.int .i64 Y)).cell? ⟨W.heap.size + 2, 0, none⟩ = some (.int .i64 Y) := by simp [go_sem, j2]
    have z3 : ((w4.setCell ⟨W.heap.size + 1, 0, none⟩ (.int .i64 X)).setCell ⟨W.heap.size + 2, 0, none⟩ (.int .i64 Y)).cell? ⟨W.heap.size, 0, none⟩ = some (.pointer (some ⟨br, 0, none⟩)) := by simp [go_sem, j0]
    exact ⟨hB5, s5, ha_boxes H.out hB5 s5 _ _ _ (.inr ⟨rfl, rfl, rfl⟩) _ _ z2 z1 z3 Inv HI.out⟩
  clear hB4 k0 k1 k2 z1 z2 HB4
  go_wp2
  go_ret
  exact ⟨rfl, hfin.out _ rfl⟩
end Go.Proofs.YtcbanlgnanihhaaGreatDoor
namespace Go.Proofs.YtcbanlgnanihhaaGreatDoor
open Go.RowKit
set_option linter.unusedVariables false

set_option maxRecDepth 100000 in
set_option maxHeartbeats 1600000 in
theorem DcAllNil_any (w : World) :
    Calls Tryz.prog 104 #[.pointer none] w fun e w' => e = .returned (.func (.func 150) #[] #[.pointer (some ⟨w.heap.size, 0, none⟩)]) ∧ DC w' w.heap.size (fun _ => 0) ∧ Below w.heap.size w w' ∧ w.heap.size < w'.heap.size := by
  obtain ⟨W1, hW1⟩ : ∃ W1, w.alloc (.cells Tryz.zeroCells93 93) = W1 := ⟨_, rfl⟩
  have q1 : DC W1 w.heap.size (fun _ => 0) := by rw [← hW1]; exact dc_new' w
  have q3 : Below w.heap.size w W1 := by rw [← hW1]; exact below_new (Below.refl _ _) (Nat.le_refl _)
  have q4 : W1.heap.size = w.heap.size + 1 := by rw [← hW1]; simp
  have Q := hid (And.intro q1 (And.intro q3 (show w.heap.size < W1.heap.size by omega)))
  have HW1 := hid hW1
  clear hW1 q1 q3 q4
  go_enter Tryz.func104, Tryz.ntmps104
  go_wp2_with fail
  try rw [HW1.out]
  try go_wp2
  go_ret
  exact ⟨rfl, Q.out⟩
theorem DcAllO_any (d : Option Nat) (q : Nat → Bool) (w : World) (h : DiscO w d q) :
    Calls Tryz.prog 104 #[dptr d] w fun e w' => e = .returned (.func (.func 150) #[] #[.pointer (some ⟨w.heap.size, 0, none⟩)]) ∧ Hid (∃ t, DC w' w.heap.size t ∧ (∀ i, i < 1350 → t i < 18446744073709551616) ∧ wupto t 1350 = secL q) ∧ Below w.heap.size w w' ∧ w.heap.size < w'.heap.size := by
  have key : ∀ t : Nat → Nat, (∀ k, k < 86400 → bitW t k = q k) → wupto t 1350 = secL q := fun t ht => by
    rw [wupto_sel, secL, show 64 * 1350 = 86400 from by decide]
    exact sel_congr fun k hk => ht k hk
  cases d with
  | none => exact (DcAllNil_any w).mono fun e w' ⟨h1, h2, h3, h4⟩ => ⟨h1, ⟨_, h2, fun i _ => by omega, key _ fun k hk => by rw [h k hk]; simp [bitW]⟩, h3, h4⟩
  | some b =>
    obtain ⟨f, g1, g2, g3, g4, g5⟩ := h
    exact (DcAll_any b f w g1 g5).mono fun e w' ⟨h1, h2, h3, h4⟩ => ⟨h1, ⟨_, h2, g3, key _ g4⟩, h3, h4⟩

set_option maxHeartbeats 800000 in
theorem CollTold_any : CollCall 105 86401 := by
  intro bg base k xs O W hk hl hJ
  obtain ⟨v, h1, h3, h4, h5, h8, g1, g3, g4⟩ := hJ
  obtain ⟨x, hx⟩ : ∃ x, xs[k] = x := ⟨_, rfl⟩
  have ht := hid (take_snoc xs k hk)
  rw [hx] at ht ⊢
  clear hx
  obtain ⟨a, cap, rfl, hs, hcap⟩ := owns_form h3
  have H3 := hid h3
  have G := hid (And.intro g1 (And.intro g3 g4))
  clear g1 g3 g4
  go_enter Tryz.func105, Tryz.ntmps105
  clear hs h3
  go_wp2_with (at_builtin; refine app1 eInt (.tmp 4) (.tmp 6) rfl rfl rfl rfl rfl H3.out rfl (by omega) (by omega) h8 ?_)
  intro a' cap' w' hown hg hb hf
  have e1 := grown_cell hg h1 (fun e => by have := owns_lt H3.out e; omega)
  have Hown := hid hown
  have Hf := hid hf
  have Hb := hid hb
  have Hg := hid hg
  have hfz : w'.frozen? ⟨bg, 0, none⟩ = false := (hb.frozen (p := ⟨bg, 0, none⟩) h5).trans h4
  clear hown hf hb hg h1 h4
  go_wp2
  obtain ⟨g1, g3, g4⟩ := G.out
  have hgr := Hg.out
  have hsz : W.heap.size ≤ w'.heap.size := hgr.size
  have hs2 : (w'.setCell ⟨bg, 0, none⟩ (.slice a' (k + 1) cap')).heap.size = w'.heap.size := by simp [go_sem]
  refine bodyPost_ret (v := .bool (decide ((k : Int) + 1 ≤ 86400))) (by simp [results, Tryz.results105, go_sem]) rfl ⟨fun b => O b ∨ (W.heap.size ≤ b ∧ b < w'.heap.size), fun b h => .inl h, fun b h => h.imp id (·.1), ?_, ?_, ?_⟩
  · refine ⟨hgr.os, hgr.tape, hgr.output, by omega, fun b hb hn => ?_⟩
    have hne : b ≠ bg := fun e => hn (e ▸ g1)
    rw [Below.heap_setCell _ _ _ _ hne]
    exact hgr.block b hb (fun e => hn (g3 b e.symm))
  · refine ⟨.slice a' (k + 1) cap', by simp [go_sem, e1], ?_, by simp [go_sem, hfz], h5, by omega, .inl g1, fun b hb => ?_, fun b hb => ?_⟩
    · rw [ht.out, ints_append, ints_one]; exact ownsRow_setCell_below Hown.out (by simpa using h5) _
    · rcases Hf.out b hb with h | h
      · exact .inl (g3 b h)
      · exact .inr ⟨h, (owns_lt Hown.out hb).2⟩
    · rcases hb with h | h
      · have := g4 b h; omega
      · omega
  · exact congrArg (fun b => Ending.returned (Value.bool b)) (decide_eq_decide.2 (by omega))

theorem secL_len (q : Nat → Bool) : (secL q).length ≤ 86400 := sel_len q 86400
set_option maxRecDepth 100000 in
set_option maxHeartbeats 1600000 in
/-- the seconds of a disc, or of none -/
theorem Told_any (d : Option Nat) (q : Nat → Bool) (w : World) (hT : Tab w) (h : DiscO w d q) :
    Calls Tryz.prog 52 #[dptr d] w fun e w' => (∃ v, e = .returned (.tuple #[v, .bool true]) ∧ w'.ownsRow w.heap.size 3 1 v (secL q).length (ints (secL q))) ∧ Below w.heap.size w w' := by
  have cA := hid (DcAllO_any d q w h)
  have HT := hid hT
  have hT0 := hT.1
  obtain ⟨v, hv⟩ : ∃ v, dptr d = v := ⟨_, rfl⟩
  rw [hv] at cA ⊢
  clear hv hT h
  go_enter Tryz.func52, Tryz.ntmps52
  go_wp2_with fail
  refine cA.out.mono ?_
  rintro e w1 ⟨rfl, ht, hB1, hl1⟩
  have hnil := fun W => run_eq_nilFunc (P := Tryz.prog) (t := 156) (f := .func 150) (a := #[]) (c := #[.pointer (some ⟨w.heap.size, 0, none⟩)]) (w := W) ⟨_, _, _, Tryz.underlying156⟩
  obtain ⟨W0, hW0⟩ : ∃ W0, w1.alloc (.cells #[.slice none 0 0] 58) = W0 := ⟨_, rfl⟩
  have hI : Hid (Calls Tryz.prog 150 #[.func (.func 105) #[] #[.pointer (some ⟨w1.heap.size, 0, none⟩)], .pointer (some ⟨w.heap.size, 0, none⟩)] W0 fun e W2 => (∃ v, e = .returned v) ∧
      ∃ a n cap, W2.cell? ⟨w1.heap.size, 0, none⟩ = some (.slice a n cap) ∧ W2.ownsRow w.heap.size 3 1 (.slice a n cap) (secL q).length (ints (secL q)) ∧ Below w.heap.size w W2) := by
    obtain ⟨t, t1, t2, t3⟩ := ht.out
    have q1 : W0.cell? ⟨w1.heap.size, 0, none⟩ = some (.slice none 0 0) := by rw [← hW0]; simp [go_sem]
    have q2 : W0.frozen? ⟨w1.heap.size, 0, none⟩ = false := by rw [← hW0]; simp [go_sem]
    have q3 : W0.heap.size = w1.heap.size + 1 := by rw [← hW0]; simp
    have q4 : Below w1.heap.size w1 W0 := by rw [← hW0]; exact below_new (Below.refl _ _) (Nat.le_refl _)
    have hB2 : Below w.heap.size w W0 := hB1.trans (q4.mono hB1.size)
    have hlen := secL_len q
    have hcl := (collk_client CollTold_any (Go.Proofs.enters_of Tryz.func105 (by kernel_rfl) rfl) w1.heap.size W0.heap.size (wupto t 1350) (by rw [t3]; omega) (by rw [t3]; omega)).two ⟨_, _, _, rfl⟩ (fun b => b = w1.heap.size) W0
    refine (DiscIter_any t w.heap.size _ _ _ (fun b => b = w1.heap.size) W0 t2 hcl ⟨_, q1, World.ownsRow_nil _ _ _ _, q2, by omega, Nat.le_refl _, rfl, fun b hb => (by cases hb), fun b hb => by omega⟩
      (by omega) (by omega) (t1.below q4 hl1) (HT.out.later hB2) (by omega)).mono ?_
    rintro e W2 ⟨he, O', hsub, hnew, hE, hend⟩
    refine ⟨he, ?_⟩
    have hJ : CollK w1.heap.size W0.heap.size (wupto t 1350) (wupto t 1350).length O' W2 := by
      rcases hend with h | ⟨_, _, _, h⟩
      · exact h
      · exact h.elim
    obtain ⟨v', k1, k2, k3, _⟩ := hJ
    obtain ⟨ag, cg, rfl, hs, _⟩ := owns_form k2
    rw [List.take_length, t3] at k2
    rw [t3] at k1
    exact ⟨_, _, _, k1, owns_base k2 (by omega), hB2.trans (hE.below (by rintro b h; have := hB1.size; omega) hB2.size)⟩
  have HW0 := hid hW0
  clear hW0 ht hB1 cA
  go_wp2_with fail
  rw [HW0.out]
  refine hI.out.mono ?_
  rintro e W2 ⟨⟨v, rfl⟩, a, n, cap, k1, k2, k3⟩
  have K := hid (And.intro k2 k3)
  clear k2 k3
  go_wp2
  go_ret2
  exact ⟨⟨_, rfl, K.out.1⟩, K.out.2⟩
end Go.Proofs.YtcbanlgnanihhaaGreatDoor
namespace Go.Proofs.YtcbanlgnanihhaaGreatDoor
open Go.RowKit
set_option linter.unusedVariables false

set_option maxHeartbeats 400000 in
theorem Ints_any (a b : Option Addr) (cn cm : Nat) (x y : List Int) (w : World)
   (hxl : x.length ≤ 9223372036854775807) (hyl : y.length ≤ 9223372036854775807)
   (hx : Sl w a (ints x)) (hy : Sl w b (ints y)) :
    Calls Tryz.prog 53 #[.slice a x.length cn, .slice b y.length cm] w fun e w' => e = .returned (.bool (decide (x = y))) ∧ Below w.heap.size w w' := by
  by_cases hnm : x.length = y.length
  · have hb' : ((x.length : Int) != (y.length : Int)) = false := by simp; omega
    have HH := hid hnm
    clear hnm
    go_enter Tryz.func53, Tryz.ntmps53
    go_wp2
    go_loopw [5] (fun i wr => ∃ k : Nat, i = .int .i64 k ∧ k ≤ x.length ∧ x.take k = y.take k ∧ Below w.heap.size w wr) (fun i _ => x.length - (intOf i).toNat)
    case atStart => exact ⟨0, rfl, by omega, rfl, Below.refl _ _⟩
    case round =>
      obtain ⟨k, rfl, hk, ht, hB⟩ := hrel
      by_cases hlt : k < x.length
      · obtain ⟨b1, o1, rfl, hb1, hc1⟩ := hx.atInt hlt
        have hy' : k < y.length := by rw [← HH.out]; exact hlt
        obtain ⟨b2, o2, rfl, hb2, hc2⟩ := hy.atInt hy'
        have e1 := (hB.cell (p := ⟨b1, o1 + k, none⟩) hb1).trans (hc1 k hlt)
        have e2 := (hB.cell (p := ⟨b2, o2 + k, none⟩) hb2).trans (hc2 k hy')
        have hT := hid ht
        clear hc1 hc2 ht hx hy
        go_wp2
        go_quiet (fail)
        go_wp2
        · have hne : (x[k] != y[k]) = true := by assumption
          go_ret
          refine ⟨ret_bool ?_, below_drewN hB _⟩
          symm
          rw [decide_eq_false_iff_not]
          intro e
          subst e
          simp at hne
        · have hne : (x[k] != y[k]) = false := by assumption
          refine ⟨⟨k + 1, by go_num, by omega, ?_, below_drewN hB _⟩, by simp [intOf]; omega⟩
          rw [take_snoc _ _ hlt, take_snoc _ _ hy', hT.out]
          simp at hne
          rw [hne]
      · have hT := hid ht
        clear ht hx hy
        have hge : x.length ≤ k := by omega
        go_wp2
        go_ret
        refine ⟨ret_bool ?_, hB⟩
        symm
        rw [decide_eq_true_eq]
        have := hT.out
        rwa [List.take_of_length_le hge, List.take_of_length_le (by rw [← HH.out]; exact hge)] at this
  · have hb' : ((x.length : Int) != (y.length : Int)) = true := by simp; omega
    have hf : decide (x = y) = false := by
      rw [decide_eq_false_iff_not]; intro e; subst e; exact hnm rfl
    rw [hf]
    clear hf
    go_enter Tryz.func53, Tryz.ntmps53
    go_wp2
    go_ret
    exact ⟨rfl, Below.refl _ _⟩

end Go.Proofs.YtcbanlgnanihhaaGreatDoor
