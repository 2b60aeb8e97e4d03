/-
  What feriaref07.All computes: the seconds of three masks.
  feriaref16.Of and All: the seconds of a day that have a clause, and those that have one of clauses.
  ferialaw18.RollDays answers true for every clauses and days.
  The instants of a set between two instants, day by day.
-/
import Derived.Test.YtcbanlgnanihhaaGreatDoorQ09a8de
import Derived.Deep.RegionHeld3
import Derived.Deep.AppendLies
import Derived.Test.YtcbanlgnanihhaaGreatDoorQ9ccb80
import Derived.Test.YtcbanlgnanihhaaGreatDoorQ880962
import Derived.Test.YtcbanlgnanihhaaGreatDoorQ1b13f9
namespace Go.Proofs.YtcbanlgnanihhaaGreatDoor
open Go.RowKit
set_option linter.unusedVariables false

theorem secs_snoc (H M S : List Int) (i : Nat) (hi : i < H.length) : secs (H.take (i + 1)) M S = secs (H.take i) M S ++ secHour H[i] M S := by
  unfold secs; rw [take_snoc H i hi, List.flatMap_append, List.flatMap_cons, List.flatMap_nil, List.append_nil]
theorem secHour_snoc (h : Int) (M S : List Int) (i : Nat) (hi : i < M.length) : secHour h (M.take (i + 1)) S = secHour h (M.take i) S ++ secRow h M[i] S := by
  unfold secHour; rw [take_snoc M i hi, List.flatMap_append, List.flatMap_cons, List.flatMap_nil, List.append_nil]
theorem secRow_snoc (h m : Int) (S : List Int) (i : Nat) (hi : i < S.length) : secRow h m (S.take (i + 1)) = secRow h m (S.take i) ++ [3600 * h + 60 * m + S[i]] := by
  unfold secRow; rw [take_snoc S i hi, List.map_append, List.map_cons, List.map_nil]

set_option maxRecDepth 100000 in
set_option maxHeartbeats 3200000 in
theorem RAll_any (hs ms ss : Nat) (w : World) (hh : hs < 18446744073709551616) (hm : ms < 18446744073709551616) (hss : ss < 18446744073709551616) :
    Calls Tryz.prog 101 #[.int .u64 hs, .int .u64 ms, .int .u64 ss] w fun e w' => ∃ v, e = .returned v ∧
      w'.ownsRow w.heap.size 3 1 v (secs (sel (cutM hs 23).testBit 64) (sel (cutM ms 59).testBit 64) (sel (cutM ss 59).testBit 64)).length (ints (secs (sel (cutM hs 23).testBit 64) (sel (cutM ms 59).testBit 64) (sel (cutM ss 59).testBit 64))) ∧ Below w.heap.size w w' := by
  have c1 : Hid (∀ W, Calls Tryz.prog 148 #[.int .u64 hs, .int .i64 23] W fun e w' => e = .returned (.int .u64 (cutM hs 23)) ∧ Below W.heap.size W w') := fun W => RHeld_any hs 23 W hh (by omega)
  have c2 : Hid (∀ W, Calls Tryz.prog 148 #[.int .u64 ms, .int .i64 59] W fun e w' => e = .returned (.int .u64 (cutM ms 59)) ∧ Below W.heap.size W w') := fun W => RHeld_any ms 59 W hm (by omega)
  have c3 : Hid (∀ W, Calls Tryz.prog 148 #[.int .u64 ss, .int .i64 59] W fun e w' => e = .returned (.int .u64 (cutM ss 59)) ∧ Below W.heap.size W w') := fun W => RHeld_any ss 59 W hss (by omega)
  have d1 := hid (fun W => own_ret (RList_any (cutM hs 23) W (cutM_lt 23 hh)))
  have d2 := hid (fun W => own_ret (RList_any (cutM ms 59) W (cutM_lt 59 hm)))
  have d3 := hid (fun W => own_ret (RList_any (cutM ss 59) W (cutM_lt 59 hss)))
  have lH := sel_len (cutM hs 23).testBit 64
  have lM := sel_len (cutM ms 59).testBit 64
  have lS := sel_len (cutM ss 59).testBit 64
  have bH := hid (fun k hk => sel_bd (p := (cutM hs 23).testBit) k hk)
  have bM := hid (fun k hk => sel_bd (p := (cutM ms 59).testBit) k hk)
  have bS := hid (fun k hk => sel_bd (p := (cutM ss 59).testBit) k hk)
  obtain ⟨H, eH⟩ : ∃ l, sel (cutM hs 23).testBit 64 = l := ⟨_, rfl⟩
  obtain ⟨M, eM⟩ : ∃ l, sel (cutM ms 59).testBit 64 = l := ⟨_, rfl⟩
  obtain ⟨S, eS⟩ : ∃ l, sel (cutM ss 59).testBit 64 = l := ⟨_, rfl⟩
  rw [eH] at lH bH d1 ⊢
  rw [eM] at lM bM d2 ⊢
  rw [eS] at lS bS d3 ⊢
  clear eH eM eS hh hm hss
  obtain ⟨x, ex⟩ : ∃ x, cutM hs 23 = x := ⟨_, rfl⟩
  obtain ⟨y, ey⟩ : ∃ x, cutM ms 59 = x := ⟨_, rfl⟩
  obtain ⟨z, ez⟩ : ∃ x, cutM ss 59 = x := ⟨_, rfl⟩
  rw [ex] at c1 d1
  rw [ey] at c2 d2
  rw [ez] at c3 d3
  clear ex ey ez
  obtain ⟨i0, hi0, hz0, hz1, hz2⟩ := info_parts eInt.hi
  go_enter Tryz.func101, Tryz.ntmps101
  go_wp2_with fail
  refine (c1.out w).mono ?_
  rintro e w1 ⟨rfl, hB1⟩
  go_wp2_with fail
  refine (d1.out w1).mono ?_
  rintro e w2 ⟨aH, nH, cH, rfl, hnH, hsH, hoH, hB2⟩
  have HB2 : Hid (Below w.heap.size w w2) := hB1.trans (hB2.mono hB1.size)
  clear hoH hB1 hB2
  go_wp2_with fail
  refine (c2.out w2).mono ?_
  rintro e w3 ⟨rfl, hB3⟩
  go_wp2_with fail
  refine (d2.out w3).mono ?_
  rintro e w4 ⟨aM, nM, cM, rfl, hnM, hsM, hoM, hB4⟩
  have hBB : Below w2.heap.size w2 w4 := hB3.trans (hB4.mono hB3.size)
  have HB4 : Hid (Below w.heap.size w w4) := HB2.out.trans (hBB.mono HB2.out.size)
  have hsH4 := hsH.below hBB
  clear hoM hB3 hB4 hBB hsH
  go_wp2_with fail
  refine (c3.out w4).mono ?_
  rintro e w5 ⟨rfl, hB5⟩
  go_wp2_with fail
  refine (d3.out w5).mono ?_
  rintro e W0 ⟨aS, nS, cS, rfl, hnS, hsS, hoS, hB6⟩
  have hBB : Below w4.heap.size w4 W0 := hB5.trans (hB6.mono hB5.size)
  have HB0 : Hid (Below w.heap.size w W0) := HB4.out.trans (hBB.mono HB4.out.size)
  have HsH := hid (hsH4.below hBB)
  have HsM := hid (hsM.below hBB)
  have HsS := hid hsS
  obtain rfl := hnH.out
  obtain rfl := hnM.out
  obtain rfl := hnS.out
  clear hoS hB5 hB6 hBB hsH4 hsM hsS HB2 HB4 hnH hnM hnS d1 d2 d3 c1 c2 c3
  go_wp2_with fail
  go_loopw [10, 11, 12, 13] (fun v i _ _ wr => ∃ (n q cq : Nat) (aq : Option Addr), i = .int .i64 n ∧ n ≤ H.length ∧ v = .slice aq q cq ∧ q ≤ 4096 * n ∧ Hid (q = (secs (H.take n) M S).length) ∧ wr.ownsRow W0.heap.size 3 1 (.slice aq q cq) q (ints (secs (H.take n) M S)) ∧ Below W0.heap.size W0 wr) (fun _ i _ _ _ => H.length - (intOf i).toNat)
  case atStart => exact ⟨0, 0, 0, none, rfl, by omega, rfl, by omega, (rfl : (0 : Nat) = 0), World.ownsRow_nil _ _ _ _, Below.refl _ _⟩
  case round =>
    obtain ⟨n, q, cq, aq, rfl, hn, rfl, hq, Hq, hown, hB⟩ := hrel
    by_cases hlt : n < H.length
    · obtain ⟨bh, oh, rfl, hbh, hch⟩ := HsH.out.atInt hlt
      have eh := hch n hlt
      have fh := bH.out n hlt
      have Hsn := hid (secs_snoc H M S n hlt)
      obtain ⟨h, hh⟩ : ∃ h, H[n] = h := ⟨_, rfl⟩
      rw [hh] at eh fh Hsn
      obtain ⟨fh1, fh2⟩ := fh
      clear hch hh
      go_wp2_with fail
      go_loopw [10, 12, 13] (fun v i _ wr => ∃ (m q cq : Nat) (aq : Option Addr), i = .int .i64 m ∧ m ≤ M.length ∧ v = .slice aq q cq ∧ q ≤ 4096 * n + 64 * m ∧ Hid (q = (secs (H.take n) M S ++ secHour h (M.take m) S).length) ∧ wr.ownsRow W0.heap.size 3 1 (.slice aq q cq) q (ints (secs (H.take n) M S ++ secHour h (M.take m) S)) ∧ Below W0.heap.size W0 wr) (fun _ i _ _ => M.length - (intOf i).toNat)
      case atStart => exact ⟨0, q, cq, aq, rfl, by omega, rfl, by omega, by simpa [secHour] using Hq, by simpa [secHour] using hown, hB⟩
      case round =>
        clear hown hB Hq hq
        obtain ⟨m, q, cq, aq, rfl, hm, rfl, hq, Hq, hown, hB⟩ := hrel
        by_cases hlt2 : m < M.length
        · obtain ⟨bm, om, rfl, hbm, hcm⟩ := HsM.out.atInt hlt2
          have em := hcm m hlt2
          have fm := bM.out m hlt2
          have Hsm := hid (secHour_snoc h M S m hlt2)
          obtain ⟨mm, hmm⟩ : ∃ h, M[m] = h := ⟨_, rfl⟩
          rw [hmm] at em fm Hsm
          obtain ⟨fm1, fm2⟩ := fm
          clear hcm hmm
          go_wp2_with fail
          go_loopw [10, 13] (fun v i wr => ∃ (j q cq : Nat) (aq : Option Addr), i = .int .i64 j ∧ j ≤ S.length ∧ v = .slice aq q cq ∧ q ≤ 4096 * n + 64 * m + j ∧ Hid (q = ((secs (H.take n) M S ++ secHour h (M.take m) S) ++ secRow h mm (S.take j)).length) ∧ wr.ownsRow W0.heap.size 3 1 (.slice aq q cq) q (ints ((secs (H.take n) M S ++ secHour h (M.take m) S) ++ secRow h mm (S.take j))) ∧ Below W0.heap.size W0 wr) (fun _ i _ => S.length - (intOf i).toNat)
          case atStart => exact ⟨0, q, cq, aq, rfl, by omega, rfl, by omega, by simpa [secRow] using Hq, by simpa [secRow] using hown, hB⟩
          case round =>
            clear hown hB Hq hq
            obtain ⟨j, q, cq, aq, rfl, hj, rfl, hq, Hq, hown, hB⟩ := hrel
            by_cases hlt3 : j < S.length
            · obtain ⟨bs, os, rfl, hbs, hcs⟩ := HsS.out.atInt hlt3
              have es := (hB.cell (p := ⟨bs, os + j, none⟩) hbs).trans (hcs j hlt3)
              have eh' := (hB.cell (p := ⟨bh, oh + n, none⟩) hbh).trans eh
              have em' := (hB.cell (p := ⟨bm, om + m, none⟩) hbm).trans em
              have fs := bS.out j hlt3
              have Hss := hid (secRow_snoc h mm S j hlt3)
              obtain ⟨s, hs⟩ : ∃ h, S[j] = h := ⟨_, rfl⟩
              rw [hs] at es fs Hss
              obtain ⟨fs1, fs2⟩ := fs
              clear hcs hs eh em
              have ag : (Value.slice aq q cq).ownBlock ≠ some bh := fun e => by have := (owns_lt hown e).1; omega
              have ak : (Value.slice aq q cq).ownBlock ≠ some bm := fun e => by have := (owns_lt hown e).1; omega
              have av : (Value.slice aq q cq).ownBlock ≠ some bs := fun e => by have := (owns_lt hown e).1; omega
              have Hown := hid hown
              have hsz := hB.size
              have HB := hid hB
              clear hown hB
              go_wp2_with fail
              go_region_held3 (fun w' => w'.cell? ⟨bh, oh + n, none⟩ = some (.int .i64 h) ∧ w'.cell? ⟨bm, om + m, none⟩ = some (.int .i64 mm) ∧ w'.cell? ⟨bs, os + j, none⟩ = some (.int .i64 s))
                (first
                  | go_keep
                  | (go_split_ands
                     refine ⟨?_, ?_, ?_⟩
                     · (rw [hgrow.cell_far _ (by simp; omega) (Ne.symm ag)]; assumption)
                     · (rw [hgrow.cell_far _ (by simp; omega) (Ne.symm ak)]; assumption)
                     · (rw [hgrow.cell_far _ (by simp; omega) (Ne.symm av)]; assumption)))
                ((refine step_append_lies _ (by rfl) _ _ _ (by rfl) W0.heap.size 3 i0 _ 1 8 Tryz.underlying58 hi0 hz0 hz1 hz2 rfl (by omega) (.slice aq q cq) q _ (by rfl) ((Hown.out.alloc _).drew)
                    ⟨wr.heap.size, 0, none⟩ 1 1 [.int .i64 (IntKind.i64.wrap (IntKind.i64.wrap (IntKind.i64.wrap (3600 * h) + IntKind.i64.wrap (60 * mm)) + s))] (by rfl) (by rfl) (World.news_of_block (cs := #[.int .i64 (IntKind.i64.wrap (IntKind.i64.wrap (IntKind.i64.wrap (3600 * h) + IntKind.i64.wrap (60 * mm)) + s))]) (t := 3) (fr := (0, 0)) (heap_alloc_new wr _)) (by simp [Value.oneCell'])
                    (by omega) (by unfold maxLen; omega) (by omega) (by simp; omega) (wr.heap.size + 1) (by simp) ?_; intro gg cap w1 hown1 hgrow hat hlt))
              have hV : IntKind.i64.wrap (IntKind.i64.wrap (IntKind.i64.wrap (3600 * h) + IntKind.i64.wrap (60 * mm)) + s) = 3600 * h + 60 * mm + s := by
                simp only [IntKind.wrap_i64]
                omega
              rw [hV, ← ints_one, ← ints_append, List.append_assoc, ← Hss.out] at hown1
              have hb1 : Below W0.heap.size W0 w1 := (below_new HB.out hsz).drew.trans (Below.of_grown hgrow (by simp; omega) (fun k hk => (owns_lt Hown.out hk).1))
              have hq1 : Hid (q + 1 = (secs (H.take n) M S ++ secHour h (M.take m) S ++ secRow h mm (S.take (j + 1))).length) := by
                show q + 1 = _
                rw [Hss.out, ← List.append_assoc, List.length_append, ← Hq.out]; rfl
              have HOwn1 := hid hown1
              have HB1 := hid hb1
              clear hV hown1 hb1 hgrow ag ak av hat
              go_wp2
              exact ⟨⟨j + 1, q + 1, cap, some ⟨gg, 0, none⟩, by go_num, by omega, rfl, by omega, hq1, HOwn1.out, HB1.out⟩, by simp [intOf]; omega⟩
            · obtain rfl : j = S.length := by omega
              rw [List.take_length] at Hq hown
              have hq1 : Hid (q = (secs (H.take n) M S ++ secHour h (M.take (m + 1)) S).length) := by rw [Hsm.out, ← List.append_assoc]; exact Hq
              have ho1 : Hid (wr.ownsRow W0.heap.size 3 1 (.slice aq q cq) q (ints (secs (H.take n) M S ++ secHour h (M.take (m + 1)) S))) := by rw [Hsm.out, ← List.append_assoc]; exact hown
              clear hown Hq em eh
              go_wp2
              exact ⟨⟨m + 1, q, cq, aq, by go_num, by omega, rfl, by omega, hq1, ho1.out, hB⟩, by simp [intOf]; omega⟩
        · obtain rfl : m = M.length := by omega
          rw [List.take_length] at Hq hown
          rw [← Hsn.out] at Hq hown
          have ho1 := hid hown
          clear hown eh
          go_wp2
          exact ⟨⟨n + 1, q, cq, aq, by go_num, by omega, rfl, by omega, Hq, ho1.out, hB⟩, by simp [intOf]; omega⟩
    · obtain rfl : n = H.length := by omega
      rw [List.take_length] at Hq hown
      have ho1 := hid hown
      clear hown
      go_wp2
      go_ret
      exact ⟨_, rfl, by rw [← Hq.out]; exact owns_base ho1.out HB0.out.size, HB0.out.trans (hB.mono HB0.out.size)⟩
end Go.Proofs.YtcbanlgnanihhaaGreatDoor
namespace Go.Proofs.YtcbanlgnanihhaaGreatDoor
open Go.RowKit
set_option linter.unusedVariables false

def rofB (c : Cl) (n x : Int) : Bool := betB c.fr c.un (86400 * n + x) && (decide (sizeU c.unit = 0) || onB c.unit c.step c.anchor (86400 * n + x))
def rofL (c : Cl) (n : Int) : List Int := if dayC c n then (secsOf (c.m 2) (c.m 1) (c.m 0)).filter (rofB c n) else []
theorem secsOf_count' (hs ms ss : Nat) : (secsOf hs ms ss).length ≤ 86400 := by
  have key : ∀ (L : List Int), L.Pairwise (· < ·) → (∀ y ∈ L, 0 ≤ y) → ∀ i (hi : i < L.length), (i : Int) ≤ L[i] := fun L hr h0 i => by
    induction i with
    | zero => exact fun hi => h0 _ (List.getElem_mem hi)
    | succ i ih =>
      intro hi
      have h1 := ih (by omega)
      have h2 := List.pairwise_iff_getElem.mp hr i (i + 1) (by omega) hi (by omega)
      omega
  rcases Nat.eq_zero_or_pos (secsOf hs ms ss).length with h | h
  · omega
  · have h1 := key _ (secsOf_rising hs ms ss) (fun y hy => (secsOf_bd hs ms ss hy).1) ((secsOf hs ms ss).length - 1) (by omega)
    have h2 := secsOf_bd hs ms ss (List.getElem_mem (l := secsOf hs ms ss) (n := (secsOf hs ms ss).length - 1) (by omega))
    omega
theorem rofL_len (c : Cl) (n : Int) : (rofL c n).length ≤ 86400 := by
  rw [rofL]; split
  · exact Nat.le_trans (List.length_filter_le _ _) (secsOf_count' _ _ _)
  · simp
theorem rofL_mem {c : Cl} (hc : c.Ok) {n : Int} (h0 : 0 ≤ n) (h1 : n < 146097) {k : Nat} (hk : k < 86400) : (k : Int) ∈ rofL c n ↔ hasC c (86400 * n + k) = true := by
  have hw : winB (86400 * n + k) = true := by rw [winB, decide_eq_true_eq]; omega
  have e1 : (86400 * n + (k : Int)) % 86400 = k := by omega
  have e2 : (86400 * n + (k : Int)) / 86400 = n := by omega
  have hs := secsOf_mem (hc.m 2 (by omega)) (hc.m 1 (by omega)) (hc.m 0 (by omega)) (k := (k : Int)) (by omega) (by omega)
  rw [rofL, hasC, hw, e1, e2, Bool.true_and]
  cases hd : dayC c n
  · simp
  · have hd' := hd
    rw [dayC, Bool.and_eq_true, Bool.and_eq_true] at hd'
    obtain ⟨hm, -, hon⟩ := hd'
    obtain ⟨ho, hst, hu, ha⟩ := may_ord hm
    rw [if_pos rfl, List.mem_filter, hs, hm, rofB, Bool.true_and, Bool.and_true, Bool.and_eq_true, Bool.and_eq_true, Bool.and_eq_true, Bool.or_eq_true, decide_eq_true_eq]
    constructor
    · rintro ⟨g1, g2, g3⟩
      refine ⟨g2, g1, ?_⟩
      rcases g3 with g3 | g3
      · have := dayOn_on hu ha hst (t := 86400 * n + k) (by omega) (by omega) g3
        rw [e2] at this
        rw [← this]; exact hon
      · exact g3
    · rintro ⟨g1, g2, g3⟩
      exact ⟨g2, g1, .inr g3⟩
attribute [local go_sem ↓] loadAt_cl
abbrev LrS (w : World) (c : Cl) (W : World) : Prop := (loadClS (.pointer (some ⟨w.heap.size, 0, none⟩))).run Tryz.prog W = .ok (clv c) W ∧ ClB W w.heap.size c ∧ Below w.heap.size w W ∧ w.heap.size < W.heap.size
theorem LrS.of {w W : World} {c : Cl} (h : ClB W w.heap.size c) (hb : Below w.heap.size w W) (hs : w.heap.size < W.heap.size) : LrS w c W := ⟨h.ld, h, hb, hs⟩
theorem LrS.keep {w W W' : World} {c : Cl} (h : LrS w c W) (hb : Below W.heap.size W W') : LrS w c W' :=
  LrS.of (h.2.1.below hb h.2.2.2) (h.2.2.1.trans (hb.mono (Nat.le_of_lt h.2.2.2))) (Nat.lt_of_lt_of_le h.2.2.2 hb.size)
theorem filter_snoc {p : Int → Bool} {l : List Int} {k : Nat} (hk : k < l.length) : (l.take (k + 1)).filter p = (l.take k).filter p ++ if p l[k] then [l[k]] else [] := by
  rw [take_snoc l k hk, List.filter_append]
  cases h : p l[k] <;> simp [h]

set_option maxRecDepth 100000 in
set_option maxHeartbeats 3200000 in
theorem RLap16_any (c : Cl) (n : Int) (w : World) (hc : c.Ok) (h0 : 0 ≤ n) (h1 : n < 146097) :
    Calls Tryz.prog 50 #[clv c, .int .i64 n] w fun e w' => ∃ v, e = .returned v ∧ w'.ownsRow w.heap.size 3 1 v (rofL c n).length (ints (rofL c n)) ∧ Below w.heap.size w w' := by
  have HS0 : Hid (LrS w c (w.alloc (.cells (clList c).toArray 32)).drew) := (LrS.of (clB_new w c _) (below_new (Below.refl _ _) (Nat.le_refl _)) (by simp)).keep (Below.refl _ _).drew
  have cS := hid (fun W (h : LrS w c W) => keep_of' (RShape_any n W h0 h1) (fun _ => h.keep))
  have cD := hid (fun W (h : LrS w c W) => keep_of' (RDay13_any c n W hc h0 h1) (fun _ => h.keep))
  have cA := hid (fun W => own_ret (RAll_any (c.m 2) (c.m 1) (c.m 0) W (hc.m 2 (by omega)) (hc.m 1 (by omega)) (hc.m 0 (by omega))))
  have cZ := hid (fun W => RSize_any c.unit W)
  have cO := hid (fun t W => RUOn_any c.unit c.step c.anchor t W hc.step)
  have hz := sizeU_cases c.unit
  have hlen := secsOf_count' (c.m 2) (c.m 1) (c.m 0)
  have hbd := hid (fun x hx => secsOf_bd (c.m 2) (c.m 1) (c.m 0) (x := x) hx)
  have hR : Hid (rofL c n = if dayC c n then (secsOf (c.m 2) (c.m 1) (c.m 0)).filter (rofB c n) else []) := rfl
  have hB : Hid (∀ x, rofB c n x = (betB c.fr c.un (86400 * n + x) && (decide (sizeU c.unit = 0) || onB c.unit c.step c.anchor (86400 * n + x)))) := fun x => rfl
  rw [← secsOf] at cA
  obtain ⟨L, hL⟩ : ∃ L, secsOf (c.m 2) (c.m 1) (c.m 0) = L := ⟨_, rfl⟩
  rw [hL] at cA hlen hbd hR
  obtain ⟨z, hzz⟩ : ∃ z, sizeU c.unit = z := ⟨_, rfl⟩
  rw [hzz] at cZ hB hz
  obtain ⟨dv, hdv⟩ : ∃ d, dayC c n = d := ⟨_, rfl⟩
  rw [hdv] at cD hR
  rw [← shq_shF, shq] at cS cD
  clear hL hzz hdv
  go_enter Tryz.func50, Tryz.ntmps50
  go_wp2_with fail
  go_region_held3 (fun w' => LrS w c w') (first | with_reducible exact HS0.out | with_reducible assumption)
    (first
      | (go_at_call 29; refine (cS.out _ (by assumption)).mono ?_; rintro e w' ⟨rfl, hS⟩)
      | (go_at_call 100; refine (cD.out _ (by assumption)).mono ?_; rintro e w' ⟨rfl, hS⟩))
  cases dv
  · have hfin : Hid (∃ v, (Value.slice none 0 0) = v ∧ w'.ownsRow w.heap.size 3 1 v (rofL c n).length (ints (rofL c n)) ∧ Below w.heap.size w w') := ⟨_, rfl, by rw [hR.out, if_neg (by simp)]; exact World.ownsRow_nil _ _ _ _, hS.2.2.1⟩
    clear hS
    go_wp2
    go_ret
    obtain ⟨v, rfl, h⟩ := hfin.out
    exact ⟨_, rfl, h⟩
  · have HS : Hid (LrS w c w') := by show LrS w c w'; assumption
    have s2 : w'.cell? ⟨w.heap.size, 2, none⟩ = some (.int .u64 (c.m 2 : Nat)) := HS.out.2.1.at 2 rfl
    have s1 : w'.cell? ⟨w.heap.size, 1, none⟩ = some (.int .u64 (c.m 1 : Nat)) := HS.out.2.1.at 1 rfl
    have s0 : w'.cell? ⟨w.heap.size, 0, none⟩ = some (.int .u64 (c.m 0 : Nat)) := HS.out.2.1.at 0 rfl
    rw [if_pos rfl] at hR
    clear cS cD hc
    rename_i hSa hSb hSc
    clear hSc hS hSb
    go_wp2_with fail
    refine (cA.out _).mono ?_
    rintro e w2 ⟨a, m, cap, rfl, hm, hsl, -, hB2⟩
    obtain rfl := hm.out
    have HS2 := hid (HS.out.keep hB2)
    have Hsl := hid hsl
    have hB02 : Hid (Below w.heap.size w w2) := HS.out.2.2.1.trans (hB2.mono (Nat.le_of_lt HS.out.2.2.2))
    clear hsl hm hB2 s0 s1 s2
    go_wp2_with fail
    go_loopw [6, 7, 8] (fun v i _ wr => ∃ (k q cq : Nat) (aq : Option Addr), i = .int .i64 k ∧ k ≤ L.length ∧ v = .slice aq q cq ∧ q ≤ k ∧ Hid (q = ((L.take k).filter (rofB c n)).length) ∧ wr.ownsRow w2.heap.size 3 1 (.slice aq q cq) q (ints ((L.take k).filter (rofB c n))) ∧ Below w2.heap.size w2 wr) (fun _ i _ _ => L.length - (intOf i).toNat)
    case atStart => exact ⟨0, 0, 0, none, rfl, by omega, rfl, by omega, (rfl : (0 : Nat) = 0), World.ownsRow_nil _ _ _ _, Below.refl _ _⟩
    case round =>
      obtain ⟨k, q, cq, aq, rfl, hk, rfl, hqk, Hq, hown, hB9⟩ := hrel
      by_cases hlt : k < L.length
      · obtain ⟨bL, oL, rfl, hbL, hcL⟩ := Hsl.out.atInt hlt
        have es := (hB9.cell (p := ⟨bL, oL + k, none⟩) hbL).trans (hcL k hlt)
        have fx := hbd.out _ (List.getElem_mem hlt)
        have Hsn := hid (filter_snoc (p := rofB c n) hlt)
        obtain ⟨x, hx⟩ : ∃ x, L[k] = x := ⟨_, rfl⟩
        rw [hx] at es fx Hsn
        obtain ⟨fx1, fx2⟩ := fx
        have hp := hB.out x
        obtain ⟨-, -, -, t3, t4⟩ := (HS2.out.2.1.below hB9 HS2.out.2.2.2).tail
        have t0 := (HS2.out.2.1.below hB9 HS2.out.2.2.2).tail.1
        have t1 := (HS2.out.2.1.below hB9 HS2.out.2.2.2).tail.2.1
        have t2 := (HS2.out.2.1.below hB9 HS2.out.2.2.2).tail.2.2.1
        have Hown := hid hown
        have HB := hid hB9
        have hbs : w2.heap.size ≤ wr.heap.size := hB9.size
        rw [betB] at hp
        have Hp := hid hp
        clear hcL hx hown hB9 hp
        by_cases c1 : c.fr ≤ 86400 * n + x
        · by_cases c2 : 86400 * n + x ≤ c.un
          · have Hp2 : Hid (rofB c n x = (decide (z = 0) || onB c.unit c.step c.anchor (86400 * n + x))) := by show _ = _; rw [Hp.out, decide_eq_true c1, decide_eq_true c2]; rfl
            go_wp2_with fail
            refine (cZ.out _).mono ?_
            rintro e w3 ⟨rfl, rfl⟩
            rcases hz with hz | hz
            · have hz0 : (z == 0) = false := by rw [beq_eq_false_iff_ne]; omega
              have cO1 := hid (cO.out (86400 * n + x) wr)
              obtain ⟨on, hon⟩ : ∃ on, onB c.unit c.step c.anchor (86400 * n + x) = on := ⟨_, rfl⟩
              have Hpx : Hid (rofB c n x = on) := by show _ = _; rw [Hp2.out, decide_eq_false (by omega), hon]; rfl
              rw [hon] at cO1
              clear hon
              go_wp2_with fail
              refine cO1.out.mono ?_
              rintro e w3 ⟨rfl, rfl⟩
              cases on
              · have hq1 : Hid (q = ((L.take (k + 1)).filter (rofB c n)).length) := by show q = _; rw [Hsn.out, Hpx.out]; simpa using Hq.out
                have ho1 : Hid (wr.ownsRow w2.heap.size 3 1 (.slice aq q cq) q (ints ((L.take (k + 1)).filter (rofB c n)))) := by show World.ownsRow _ _ _ _ _ _ _; rw [Hsn.out, Hpx.out]; simpa using Hown.out
                go_wp2
                exact ⟨⟨k + 1, q, cq, aq, by go_num, by omega, rfl, by omega, hq1, ho1.out, HB.out⟩, by simp [intOf]; omega⟩
              · go_wp2_with (at_builtin; refine app1 eInt (.tmp 60) (.tmp 65) rfl rfl rfl rfl rfl Hown.out rfl (by omega) (by omega) hbs ?_)
                intro a' cap' w4 hown2 hg2 hb2 hf2
                have hq1 : Hid (q + 1 = ((L.take (k + 1)).filter (rofB c n)).length) := by show q + 1 = _; rw [Hsn.out, Hpx.out, List.length_append, ← Hq.out]; rfl
                have ho1 : Hid (w4.ownsRow w2.heap.size 3 1 (.slice a' (q + 1) cap') (q + 1) (ints ((L.take (k + 1)).filter (rofB c n)))) := by
                  show World.ownsRow _ _ _ _ _ _ _
                  rw [Hsn.out, Hpx.out, if_pos rfl, ints_append, ints_one]; exact hown2
                have HB4 : Hid (Below w2.heap.size w2 w4) := HB.out.trans hb2
                clear hown2 hg2 hb2 hf2
                go_wp2
                exact ⟨⟨k + 1, q + 1, cap', a', by go_num, by omega, rfl, by omega, hq1, ho1.out, HB4.out⟩, by simp [intOf]; omega⟩
            · have hz0 : (z == 0) = true := by rw [hz]; rfl
              have Hpx : Hid (rofB c n x = true) := by show _ = _; rw [Hp2.out, decide_eq_true hz]; rfl
              clear hz
              go_wp2_with (at_builtin; refine app1 eInt (.tmp 60) (.tmp 65) rfl rfl rfl rfl rfl Hown.out rfl (by omega) (by omega) hbs ?_)
              intro a' cap' w4 hown2 hg2 hb2 hf2
              have hq1 : Hid (q + 1 = ((L.take (k + 1)).filter (rofB c n)).length) := by show q + 1 = _; rw [Hsn.out, Hpx.out, List.length_append, ← Hq.out]; rfl
              have ho1 : Hid (w4.ownsRow w2.heap.size 3 1 (.slice a' (q + 1) cap') (q + 1) (ints ((L.take (k + 1)).filter (rofB c n)))) := by
                show World.ownsRow _ _ _ _ _ _ _
                rw [Hsn.out, Hpx.out, if_pos rfl, ints_append, ints_one]; exact hown2
              have HB4 : Hid (Below w2.heap.size w2 w4) := HB.out.trans hb2
              clear hown2 hg2 hb2 hf2
              go_wp2
              exact ⟨⟨k + 1, q + 1, cap', a', by go_num, by omega, rfl, by omega, hq1, ho1.out, HB4.out⟩, by simp [intOf]; omega⟩
          · have Hpx : Hid (rofB c n x = false) := by show _ = _; rw [Hp.out, decide_eq_false c2]; simp
            have hq1 : Hid (q = ((L.take (k + 1)).filter (rofB c n)).length) := by show q = _; rw [Hsn.out, Hpx.out]; simpa using Hq.out
            have ho1 : Hid (wr.ownsRow w2.heap.size 3 1 (.slice aq q cq) q (ints ((L.take (k + 1)).filter (rofB c n)))) := by show World.ownsRow _ _ _ _ _ _ _; rw [Hsn.out, Hpx.out]; simpa using Hown.out
            go_wp2
            exact ⟨⟨k + 1, q, cq, aq, by go_num, by omega, rfl, by omega, hq1, ho1.out, HB.out⟩, by simp [intOf]; omega⟩
        · have Hpx : Hid (rofB c n x = false) := by show _ = _; rw [Hp.out, decide_eq_false c1]; simp
          have hq1 : Hid (q = ((L.take (k + 1)).filter (rofB c n)).length) := by show q = _; rw [Hsn.out, Hpx.out]; simpa using Hq.out
          have ho1 : Hid (wr.ownsRow w2.heap.size 3 1 (.slice aq q cq) q (ints ((L.take (k + 1)).filter (rofB c n)))) := by show World.ownsRow _ _ _ _ _ _ _; rw [Hsn.out, Hpx.out]; simpa using Hown.out
          go_wp2
          exact ⟨⟨k + 1, q, cq, aq, by go_num, by omega, rfl, by omega, hq1, ho1.out, HB.out⟩, by simp [intOf]; omega⟩
      · obtain rfl : k = L.length := by omega
        rw [List.take_length] at Hq hown
        rw [← hR.out] at Hq hown
        have ho1 := hid hown
        clear hown
        go_wp2
        go_ret
        exact ⟨_, rfl, by rw [← Hq.out]; exact owns_base ho1.out hB02.out.size, hB02.out.trans (hB9.mono hB02.out.size)⟩
def rofA (l : List Cl) (n : Int) : List Int := l.flatMap fun c => rofL c n
theorem rofA_snoc (l : List Cl) (n : Int) {k : Nat} (h : k < l.length) : rofA (l.take (k + 1)) n = rofA (l.take k) n ++ rofL l[k] n := by
  rw [rofA, take_snoc l k h, List.flatMap_append, rofA]; simp
theorem rofA_len (l : List Cl) (n : Int) : (rofA l n).length ≤ 86400 * l.length := by
  induction l with
  | nil => simp [rofA]
  | cons c l ih => 
    have e : rofA (c :: l) n = rofL c n ++ rofA l n := by simp [rofA]
    rw [e, List.length_append, List.length_cons]
    have := rofL_len c n
    omega
theorem rofA_day {l : List Cl} (hok : ∀ c ∈ l, c.Ok) {n : Int} (h0 : 0 ≤ n) (h1 : n < 146097) : secL (memD (rofA l n)) = secL (dayQ l n) := by
  rw [secL, secL]
  refine sel_congr fun k hk => ?_
  rw [memD, dayQ, Bool.eq_iff_iff, decide_eq_true_eq, List.any_eq_true, rofA, List.mem_flatMap]
  constructor
  · rintro ⟨c, hc, h⟩
    exact ⟨c, hc, (rofL_mem (hok c hc) h0 h1 hk).1 h⟩
  · rintro ⟨c, hc, h⟩
    exact ⟨c, hc, (rofL_mem (hok c hc) h0 h1 hk).2 h⟩
theorem ints_one1 (l : List Int) : ∀ u ∈ ints l, u.oneCell' = true := by
  intro u hu
  simp only [ints, List.mem_map] at hu
  obtain ⟨_, _, rfl⟩ := hu; rfl
set_option maxRecDepth 100000 in
set_option maxHeartbeats 3200000 in
theorem RLapAll16_any (a : Option Addr) (cap : Nat) (l : List Cl) (n : Int) (w : World) (hl : l.length ≤ 1000) (hs : Sl w a (cls l)) (hok : ∀ c ∈ l, c.Ok) (h0 : 0 ≤ n) (h1 : n < 146097) :
    Calls Tryz.prog 26 #[.slice a l.length cap, .int .i64 n] w fun e w' => ∃ v, e = .returned v ∧ w'.ownsRow w.heap.size 3 1 v (secL (dayQ l n)).length (ints (secL (dayQ l n))) ∧ Below w.heap.size w w' := by
  have cR := hid (fun (c : Cl) (hc : c.Ok) W => own_ret (RLap16_any c n W hc h0 h1))
  have cF := hid (fun a cap (L : List Int) W hl hs => ROf15_any a cap L W hl hs)
  have hE := hid (rofA_day hok h0 h1)
  have hlen := rofA_len l n
  have Hok := hid hok
  have Hs := hid hs
  clear hok hs
  go_enter Tryz.func26, Tryz.ntmps26
  go_wp2_with fail
  go_loopw [5, 6] (fun v i wr => ∃ (k q cq : Nat) (aq : Option Addr), i = .int .i64 k ∧ k ≤ l.length ∧ v = .slice aq q cq ∧ q ≤ 86400 * k ∧ Hid (q = (rofA (l.take k) n).length) ∧ wr.ownsRow w.heap.size 3 1 (.slice aq q cq) q (ints (rofA (l.take k) n)) ∧ Below w.heap.size w wr) (fun _ i _ => l.length - (intOf i).toNat)
  case atStart => exact ⟨0, 0, 0, none, rfl, by omega, rfl, by omega, (rfl : (0 : Nat) = 0), World.ownsRow_nil _ _ _ _, Below.refl _ _⟩
  case round =>
    obtain ⟨k, q, cq, aq, rfl, hk, rfl, hqk, Hq, hown, hB9⟩ := hrel
    by_cases hlt : k < l.length
    · obtain ⟨b, off, rfl, hbk, hr⟩ := Hs.out.atCl hlt
      have hr' := range_below hr hB9 hbk
      have Hsn := hid (rofA_snoc l n hlt)
      have hck := Hok.out _ (List.getElem_mem hlt)
      have hlk := rofL_len l[k] n
      obtain ⟨c, hc⟩ : ∃ c, l[k] = c := ⟨_, rfl⟩
      rw [hc] at hr' Hsn hck hlk
      have le := ld_at hr'
      have c1 := hid (cR.out c hck wr)
      have Hown := hid hown
      have HB := hid hB9
      have hbs : w.heap.size ≤ wr.heap.size := hB9.size
      obtain ⟨R, hR⟩ : ∃ R, rofL c n = R := ⟨_, rfl⟩
      rw [hR] at c1 Hsn hlk
      clear hr hr' hc hck hown hB9 hR
      go_wp2_with fail
      refine c1.out.mono ?_
      rintro e w2 ⟨a2, m, cap2, rfl, hm, hsl, ho2, hB2⟩
      obtain rfl := hm.out
      have Hl1 : Hid ((ints R).length = R.length * 1) := by show _ = _; rw [ints_length, Nat.mul_one]
      have Hsl := hid hsl
      have Hnone := hid (owns_none ho2)
      have Hown2 := hid (owns_below Hown.out hB2 (Nat.le_refl _))
      have HB2 := hid (HB.out.trans (hB2.mono hbs))
      have hbs2 : w.heap.size ≤ w2.heap.size := Nat.le_trans hbs hB2.size
      clear hsl ho2 hB2 hm le
      go_wp2_with (at_builtin; refine appN eInt (.tmp 13) (.tmp 19) rfl rfl rfl rfl Hown2.out Hl1.out Hsl.out Hnone.out (ints_one1 _) (by omega) (by omega) hbs2 ?_)
      intro a' cap' w4 hown2 hg2 hb2 hf2
      have hq1 : Hid (q + R.length = (rofA (l.take (k + 1)) n).length) := by show _ = _; rw [Hsn.out, List.length_append, ← Hq.out]
      have ho1 : Hid (w4.ownsRow w.heap.size 3 1 (.slice a' (q + R.length) cap') (q + R.length) (ints (rofA (l.take (k + 1)) n))) := by
        show World.ownsRow _ _ _ _ _ _ _
        rw [Hsn.out, ints_append]; exact hown2
      have HB4 : Hid (Below w.heap.size w w4) := HB2.out.trans hb2
      clear hown2 hg2 hb2 hf2
      go_wp2
      exact ⟨⟨k + 1, q + R.length, cap', a', by go_num, by omega, rfl, by omega, hq1, ho1.out, HB4.out⟩, by simp [intOf]; omega⟩
    · obtain rfl : k = l.length := by omega
      rw [List.take_length] at Hq hown
      have c2 := hid (cF.out aq cq (rofA l n) wr (by omega) (owns_sl hown))
      rw [hE.out, ← Hq.out] at c2
      have HB := hid hB9
      clear hown hB9
      go_wp2_with fail
      refine c2.out.mono ?_
      rintro e w4 ⟨v, rfl, ho, hB4⟩
      have ho1 := hid (owns_base ho HB.out.size)
      have HB4 := hid (HB.out.trans (hB4.mono HB.out.size))
      clear ho hB4
      go_wp2
      go_ret
      exact ⟨_, rfl, ho1.out, HB4.out⟩
end Go.Proofs.YtcbanlgnanihhaaGreatDoor
namespace Go.Proofs.YtcbanlgnanihhaaGreatDoor
open Go.RowKit Go.Maps
set_option linter.unusedVariables false

theorem at_more {cs : List Cl} {n : Int} {ws ws2 : Nat → Bool} {m m2 : Nat} (h1 : AtStep cs n ws m ws2 m2) : m2 ≤ m + 1 ∧ m ≤ m2 := by
  rcases h1 with ⟨-, -, e⟩ | ⟨-, -, -, e⟩ | ⟨-, -, -, e | e⟩
  · omega
  · rw [e]; split <;> omega
  · omega
  · omega
def RdS (w : World) (l : List Cl) (br bk : Nat) (bps : List Nat) (k : Nat) (wr : World) : Prop := ∃ F ws m, RollS wr l br bk bps F ws m ∧ m ≤ k ∧ Below w.heap.size w wr
theorem RdS.below {w wr w' : World} {l : List Cl} {br bk : Nat} {bps : List Nat} {k : Nat} (h : RdS w l br bk bps k wr) (hB : Below wr.heap.size wr w') : RdS w l br bk bps k w' := by
  obtain ⟨F, ws, m, h1, h2, h3⟩ := h
  exact ⟨F, ws, m, h1.below hB, h2, h3.trans (hB.mono h3.size)⟩
end Go.Proofs.YtcbanlgnanihhaaGreatDoor
namespace Go.Proofs.YtcbanlgnanihhaaGreatDoor
open Go.RowKit Go.Maps
set_option linter.unusedVariables false

def instB (cs : List Cl) (t : Int) : Bool := cs.any fun c => hasC c t
theorem dayQ_inst (cs : List Cl) (n : Int) (k : Nat) : dayQ cs n k = instB cs (86400 * n + k) := rfl
theorem inst_win {cs : List Cl} {t : Int} (h : instB cs t = true) : 0 ≤ t ∧ t < 12622780800 := by
  rw [instB, List.any_eq_true] at h
  obtain ⟨c, -, hc⟩ := h
  obtain ⟨-, -, -, h1, h2⟩ := has_held hc
  exact ⟨h1, h2⟩
def remQ (cs : List Cl) (n u s : Int) (k : Nat) : Bool := dayQ cs n k && (decide (s ≤ k) && decide (86400 * n + k ≤ u))
def remI (cs : List Cl) (n u s : Int) : List Int := secL (remQ cs n u s)
theorem remI_mem {cs : List Cl} {n u s x : Int} : x ∈ remI cs n u s ↔ ∃ k : Nat, k < 86400 ∧ x = k ∧ dayQ cs n k = true ∧ s ≤ k ∧ 86400 * n + k ≤ u := by
  rw [remI, secL, sel_mem]
  constructor
  · rintro ⟨k, h1, h2, h3⟩
    rw [remQ, Bool.and_eq_true, Bool.and_eq_true, decide_eq_true_eq, decide_eq_true_eq] at h2
    exact ⟨k, h1, h3, h2.1, h2.2.1, h2.2.2⟩
  · rintro ⟨k, h1, h3, h2, h4, h5⟩
    exact ⟨k, h1, by rw [remQ, h2, decide_eq_true h4, decide_eq_true h5]; rfl, h3⟩
theorem remI_pair (cs : List Cl) (n u s : Int) : (remI cs n u s).Pairwise (· < ·) := sel_rising _ _
theorem rising_ext : ∀ {l m : List Int}, l.Pairwise (· < ·) → m.Pairwise (· < ·) → (∀ x, x ∈ l ↔ x ∈ m) → l = m
  | [], [], _, _, _ => rfl
  | [], y :: m, _, _, h => by have := (h y).2 (by simp); simp at this
  | x :: l, [], _, _, h => by have := (h x).1 (by simp); simp at this
  | x :: l, y :: m, hl, hm, h => by
    rw [List.pairwise_cons] at hl hm
    have e : x = y := by
      rcases List.mem_cons.1 ((h x).1 (by simp)) with e | h1
      · exact e
      · rcases List.mem_cons.1 ((h y).2 (by simp)) with e | h2
        · exact e.symm
        · have a := hm.1 x h1; have b := hl.1 y h2; omega
    subst e
    congr 1
    refine rising_ext hl.2 hm.2 (fun z => ⟨fun hz => ?_, fun hz => ?_⟩)
    · rcases List.mem_cons.1 ((h z).1 (by simp [hz])) with e | h1
      · subst e; have := hl.1 z hz; omega
      · exact h1
    · rcases List.mem_cons.1 ((h z).2 (by simp [hz])) with e | h1
      · subst e; have := hm.1 z hz; omega
      · exact h1
theorem rem_first {cs : List Cl} {n u s at' : Int} {ok : Bool} (h : FirstOf (fun k => dayQ cs n k && decide (s ≤ k)) at' ok) :
    (ok = true → 86400 * n + at' ≤ u → remI cs n u s = at' :: remI cs n u (at' + 1)) ∧ (ok = true → ¬ 86400 * n + at' ≤ u → remI cs n u s = []) ∧ (ok = false → remI cs n u s = []) ∧ (ok = true → s ≤ at' ∧ 0 ≤ at' ∧ at' < 86400 ∧ dayQ cs n at'.toNat = true) := by
  rcases h with ⟨rfl, k, rfl, hk, hp, hno⟩ | ⟨rfl, rfl, hno⟩
  · rw [Bool.and_eq_true, decide_eq_true_eq] at hp
    have low : ∀ j : Nat, dayQ cs n j = true → s ≤ j → k ≤ j := fun j h1 h2 => by
      rcases Nat.lt_or_ge j k with h | h
      · have h3 : (dayQ cs n j && decide (s ≤ (j : Int))) = false := hno j h
        rw [h1, decide_eq_true h2] at h3; cases h3
      · exact h
    refine ⟨fun _ hu => ?_, fun _ hu => ?_, fun h => (by cases h), fun _ => ⟨hp.2, by omega, by omega, by simpa using hp.1⟩⟩
    · refine rising_ext (remI_pair _ _ _ _) (List.pairwise_cons.2 ⟨fun y hy => ?_, remI_pair _ _ _ _⟩) fun y => ?_
      · obtain ⟨j, -, rfl, -, h1, -⟩ := remI_mem.1 hy
        omega
      · rw [List.mem_cons, remI_mem, remI_mem]
        constructor
        · rintro ⟨j, h1, rfl, h2, h3, h4⟩
          have := low j h2 h3
          rcases Nat.eq_or_lt_of_le this with e | e
          · exact .inl (by rw [e])
          · exact .inr ⟨j, h1, rfl, h2, by omega, h4⟩
        · rintro (rfl | ⟨j, h1, rfl, h2, h3, h4⟩)
          · exact ⟨k, hk, rfl, hp.1, hp.2, hu⟩
          · exact ⟨j, h1, rfl, h2, by omega, h4⟩
    · rw [List.eq_nil_iff_forall_not_mem]
      intro y hy
      obtain ⟨j, h1, rfl, h2, h3, h4⟩ := remI_mem.1 hy
      have := low j h2 h3
      omega
  · refine ⟨fun h => (by cases h), fun h => (by cases h), fun _ => ?_, fun h => (by cases h)⟩
    rw [List.eq_nil_iff_forall_not_mem]
    intro y hy
    obtain ⟨j, h1, rfl, h2, h3, h4⟩ := remI_mem.1 hy
    have h4 : (dayQ cs n j && decide (s ≤ (j : Int))) = false := hno j h1
    rw [h2, decide_eq_true h3] at h4; cases h4
def dayI (cs : List Cl) (f u n : Int) : List Int := (remI cs n u (max 0 (f - 86400 * n))).map fun x => 86400 * n + x
theorem dayI_mem {cs : List Cl} {f u n t : Int} : t ∈ dayI cs f u n ↔ t / 86400 = n ∧ f ≤ t ∧ t ≤ u ∧ instB cs t = true := by
  rw [dayI, List.mem_map]
  constructor
  · rintro ⟨x, hx, rfl⟩
    obtain ⟨k, h1, rfl, h2, h3, h4⟩ := remI_mem.1 hx
    exact ⟨by omega, by omega, h4, h2⟩
  · rintro ⟨rfl, h1, h2, h3⟩
    have e : (((t % 86400).toNat : Nat) : Int) = t % 86400 := Int.toNat_of_nonneg (by omega)
    refine ⟨t % 86400, remI_mem.2 ⟨(t % 86400).toNat, by omega, e.symm, ?_, by omega, by omega⟩, by omega⟩
    rw [dayQ_inst, e, show 86400 * (t / 86400) + t % 86400 = t by omega]; exact h3
theorem dayI_pair (cs : List Cl) (f u n : Int) : (dayI cs f u n).Pairwise (· < ·) := by
  rw [dayI, List.pairwise_map]
  exact (remI_pair _ _ _ _).imp fun h => by omega
def instL (cs : List Cl) (f u : Int) (ds : List Int) : List Int := ds.flatMap (dayI cs f u)
def cntI (cs : List Cl) (f u : Int) (ds : List Int) (k : Nat) : Nat := (instL cs f u (ds.take k)).length
theorem cntI_zero (cs : List Cl) (f u : Int) (ds : List Int) : cntI cs f u ds 0 = 0 := rfl
theorem cntI_all (cs : List Cl) (f u : Int) (ds : List Int) : cntI cs f u ds ds.length = (instL cs f u ds).length := by rw [cntI, List.take_length]
theorem cntI_snoc {cs : List Cl} {f u n : Int} {ds : List Int} {k : Nat} (h : ds[k]? = some n) : cntI cs f u ds (k + 1) = cntI cs f u ds k + (dayI cs f u n).length := by
  obtain ⟨hk, rfl⟩ := List.getElem?_eq_some_iff.1 h
  rw [cntI, take_snoc ds k hk, instL, List.flatMap_append, List.length_append, cntI, instL]; simp
theorem inst_split {cs : List Cl} {f u n : Int} {ds : List Int} {k : Nat} (h : ds[k]? = some n) : instL cs f u ds = instL cs f u (ds.take k) ++ (dayI cs f u n ++ instL cs f u (ds.drop (k + 1))) := by
  obtain ⟨hk, rfl⟩ := List.getElem?_eq_some_iff.1 h
  rw [instL, instL, instL]
  conv => lhs; rw [← List.take_append_drop k ds, List.drop_eq_getElem_cons hk]
  rw [List.flatMap_append, List.flatMap_cons]
theorem inst_at {cs : List Cl} {f u n x : Int} {ds : List Int} {k p : Nat} (h : ds[k]? = some n) (hx : (dayI cs f u n)[p]? = some x) : (instL cs f u ds)[cntI cs f u ds k + p]? = some x := by
  rw [inst_split h, List.getElem?_append_right (by rw [cntI]; omega), cntI, show (instL cs f u (ds.take k)).length + p - (instL cs f u (ds.take k)).length = p by omega, List.getElem?_append_left (List.getElem?_eq_some_iff.1 hx).1, hx]
theorem inst_stop {cs : List Cl} {f u n x : Int} {ds : List Int} {k : Nat} (hp : ds.Pairwise (· < ·)) (h : ds[k]? = some n) (h1 : x < 86400) (h2 : u < 86400 * n + x) : (instL cs f u ds).length = cntI cs f u ds (k + 1) := by
  obtain ⟨hk, rfl⟩ := List.getElem?_eq_some_iff.1 h
  rw [cntI_snoc h, inst_split h, List.length_append, List.length_append, cntI]
  have e : instL cs f u (ds.drop (k + 1)) = [] := by
    rw [List.eq_nil_iff_forall_not_mem]
    intro t ht
    rw [instL, List.mem_flatMap] at ht
    obtain ⟨n', hn', ht⟩ := ht
    obtain ⟨g1, -, g2, -⟩ := dayI_mem.1 ht
    obtain ⟨j, hj⟩ := List.getElem?_of_mem hn'
    rw [List.getElem?_drop] at hj
    obtain ⟨hj1, hj2⟩ := List.getElem?_eq_some_iff.1 hj
    have := List.pairwise_iff_getElem.1 hp k (k + 1 + j) hk hj1 (by omega)
    omega
  rw [e, List.length_nil, Nat.add_zero]
theorem daysL_up (a b : Int) : (daysL a b).Pairwise (· < ·) := by
  rw [daysL, List.pairwise_map]
  exact List.Pairwise.imp (fun h => by omega) List.pairwise_lt_range
theorem dayS_up (cs : List Cl) (a b : Int) : (dayS cs (daysL a b)).Pairwise (· < ·) := (daysL_up a b).filter _
def instA (cs : List Cl) (f u : Int) : List Int := instL cs f u (dayS cs (daysL (f / 86400) (u / 86400)))
theorem instA_mem {cs : List Cl} {f u t : Int} : t ∈ instA cs f u ↔ f ≤ t ∧ t ≤ u ∧ instB cs t = true := by
  rw [instA, instL, List.mem_flatMap]
  constructor
  · rintro ⟨n, -, h⟩
    obtain ⟨-, h1, h2, h3⟩ := dayI_mem.1 h
    exact ⟨h1, h2, h3⟩
  · rintro ⟨h1, h2, h3⟩
    refine ⟨t / 86400, ?_, dayI_mem.2 ⟨rfl, h1, h2, h3⟩⟩
    rw [dayS, List.mem_filter, daysL_mem]
    refine ⟨⟨by omega, by omega⟩, anyQ_true.2 ⟨(t % 86400).toNat, by omega, ?_⟩⟩
    rw [dayQ_inst, Int.toNat_of_nonneg (by omega), show 86400 * (t / 86400) + t % 86400 = t by omega]; exact h3
theorem instA_up (cs : List Cl) (f u : Int) : (instA cs f u).Pairwise (· < ·) := by
  have key : ∀ ds : List Int, ds.Pairwise (· < ·) → (instL cs f u ds).Pairwise (· < ·) := by
    intro ds
    induction ds with
    | nil => intro _; exact List.Pairwise.nil
    | cons n ds ih =>
      intro hp
      rw [List.pairwise_cons] at hp
      rw [instL, List.flatMap_cons, List.pairwise_append]
      refine ⟨dayI_pair _ _ _ _, ih hp.2, fun a ha b hb => ?_⟩
      rw [List.mem_flatMap] at hb
      obtain ⟨n', hn', hb⟩ := hb
      obtain ⟨h1, -⟩ := dayI_mem.1 ha
      obtain ⟨h2, -⟩ := dayI_mem.1 hb
      have := hp.1 n' hn'
      omega
  exact key _ (dayS_up _ _ _)
theorem instA_nil {cs : List Cl} {f u : Int} (h : u < f) : instA cs f u = [] := by
  rw [List.eq_nil_iff_forall_not_mem]
  intro t ht
  obtain ⟨h1, h2, -⟩ := instA_mem.1 ht
  omega
end Go.Proofs.YtcbanlgnanihhaaGreatDoor
