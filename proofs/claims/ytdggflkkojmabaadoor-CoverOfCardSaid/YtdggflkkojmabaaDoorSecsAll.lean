/-
  What feriaref07.All computes: the seconds of three masks.
-/
import Derived.Test.YtdggflkkojmabaaDoorTodMore
import Derived.Deep.RegionHeld3
import Derived.Deep.AppendLies
namespace Go.Proofs.YtdggflkkojmabaaDoor
open Go.RowKit
set_option linter.unusedVariables false

theorem secs_snoc (H M S : List Int) (i : Nat) (hi : i < H.length) : secs (H.take (i + 1)) M S = secs (H.take i) M S ++ secHour H[i] M S := by
  unfold secs; rw [take_snoc H i hi, List.flatMap_append, List.flatMap_cons, List.flatMap_nil, List.append_nil]
theorem secHour_snoc (h : Int) (M S : List Int) (i : Nat) (hi : i < M.length) : secHour h (M.take (i + 1)) S = secHour h (M.take i) S ++ secRow h M[i] S := by
  unfold secHour; rw [take_snoc M i hi, List.flatMap_append, List.flatMap_cons, List.flatMap_nil, List.append_nil]
theorem secRow_snoc (h m : Int) (S : List Int) (i : Nat) (hi : i < S.length) : secRow h m (S.take (i + 1)) = secRow h m (S.take i) ++ [3600 * h + 60 * m + S[i]] := by
  unfold secRow; rw [take_snoc S i hi, List.map_append, List.map_cons, List.map_nil]

set_option maxRecDepth 100000 in
set_option maxHeartbeats 3200000 in
theorem RAll_any (hs ms ss : Nat) (w : World) (hh : hs < 18446744073709551616) (hm : ms < 18446744073709551616) (hss : ss < 18446744073709551616) :
    Calls Tryd.prog 51 #[.int .u64 hs, .int .u64 ms, .int .u64 ss] w fun e w' => ∃ v, e = .returned v ∧
      w'.ownsRow w.heap.size 3 1 v (secs (sel (cutM hs 23).testBit 64) (sel (cutM ms 59).testBit 64) (sel (cutM ss 59).testBit 64)).length (ints (secs (sel (cutM hs 23).testBit 64) (sel (cutM ms 59).testBit 64) (sel (cutM ss 59).testBit 64))) ∧ Below w.heap.size w w' := by
  have c1 : Hid (∀ W, Calls Tryd.prog 91 #[.int .u64 hs, .int .i64 23] W fun e w' => e = .returned (.int .u64 (cutM hs 23)) ∧ Below W.heap.size W w') := fun W => RHeld_any hs 23 W hh (by omega)
  have c2 : Hid (∀ W, Calls Tryd.prog 91 #[.int .u64 ms, .int .i64 59] W fun e w' => e = .returned (.int .u64 (cutM ms 59)) ∧ Below W.heap.size W w') := fun W => RHeld_any ms 59 W hm (by omega)
  have c3 : Hid (∀ W, Calls Tryd.prog 91 #[.int .u64 ss, .int .i64 59] W fun e w' => e = .returned (.int .u64 (cutM ss 59)) ∧ Below W.heap.size W w') := fun W => RHeld_any ss 59 W hss (by omega)
  have d1 := hid (fun W => own_ret (RList_any (cutM hs 23) W (cutM_lt 23 hh)))
  have d2 := hid (fun W => own_ret (RList_any (cutM ms 59) W (cutM_lt 59 hm)))
  have d3 := hid (fun W => own_ret (RList_any (cutM ss 59) W (cutM_lt 59 hss)))
  have lH := sel_len (cutM hs 23).testBit 64
  have lM := sel_len (cutM ms 59).testBit 64
  have lS := sel_len (cutM ss 59).testBit 64
  have bH := hid (fun k hk => sel_bd (p := (cutM hs 23).testBit) k hk)
  have bM := hid (fun k hk => sel_bd (p := (cutM ms 59).testBit) k hk)
  have bS := hid (fun k hk => sel_bd (p := (cutM ss 59).testBit) k hk)
  obtain ⟨H, eH⟩ : ∃ l, sel (cutM hs 23).testBit 64 = l := ⟨_, rfl⟩
  obtain ⟨M, eM⟩ : ∃ l, sel (cutM ms 59).testBit 64 = l := ⟨_, rfl⟩
  obtain ⟨S, eS⟩ : ∃ l, sel (cutM ss 59).testBit 64 = l := ⟨_, rfl⟩
  rw [eH] at lH bH d1 ⊢
  rw [eM] at lM bM d2 ⊢
  rw [eS] at lS bS d3 ⊢
  clear eH eM eS hh hm hss
  obtain ⟨x, ex⟩ : ∃ x, cutM hs 23 = x := ⟨_, rfl⟩
  obtain ⟨y, ey⟩ : ∃ x, cutM ms 59 = x := ⟨_, rfl⟩
  obtain ⟨z, ez⟩ : ∃ x, cutM ss 59 = x := ⟨_, rfl⟩
  rw [ex] at c1 d1
  rw [ey] at c2 d2
  rw [ez] at c3 d3
  clear ex ey ez
  obtain ⟨i0, hi0, hz0, hz1, hz2⟩ := info_parts eInt.hi
  go_enter Tryd.func51, Tryd.ntmps51
  go_wp2_with fail
  refine (c1.out w).mono ?_
  rintro e w1 ⟨rfl, hB1⟩
  go_wp2_with fail
  refine (d1.out w1).mono ?_
  rintro e w2 ⟨aH, nH, cH, rfl, hnH, hsH, hoH, hB2⟩
  have HB2 : Hid (Below w.heap.size w w2) := hB1.trans (hB2.mono hB1.size)
  clear hoH hB1 hB2
  go_wp2_with fail
  refine (c2.out w2).mono ?_
  rintro e w3 ⟨rfl, hB3⟩
  go_wp2_with fail
  refine (d2.out w3).mono ?_
  rintro e w4 ⟨aM, nM, cM, rfl, hnM, hsM, hoM, hB4⟩
  have hBB : Below w2.heap.size w2 w4 := hB3.trans (hB4.mono hB3.size)
  have HB4 : Hid (Below w.heap.size w w4) := HB2.out.trans (hBB.mono HB2.out.size)
  have hsH4 := hsH.below hBB
  clear hoM hB3 hB4 hBB hsH
  go_wp2_with fail
  refine (c3.out w4).mono ?_
  rintro e w5 ⟨rfl, hB5⟩
  go_wp2_with fail
  refine (d3.out w5).mono ?_
  rintro e W0 ⟨aS, nS, cS, rfl, hnS, hsS, hoS, hB6⟩
  have hBB : Below w4.heap.size w4 W0 := hB5.trans (hB6.mono hB5.size)
  have HB0 : Hid (Below w.heap.size w W0) := HB4.out.trans (hBB.mono HB4.out.size)
  have HsH := hid (hsH4.below hBB)
  have HsM := hid (hsM.below hBB)
  have HsS := hid hsS
  obtain rfl := hnH.out
  obtain rfl := hnM.out
  obtain rfl := hnS.out
  clear hoS hB5 hB6 hBB hsH4 hsM hsS HB2 HB4 hnH hnM hnS d1 d2 d3 c1 c2 c3
  go_wp2_with fail
  go_loopw [10, 11, 12, 13] (fun v i _ _ wr => ∃ (n q cq : Nat) (aq : Option Addr), i = .int .i64 n ∧ n ≤ H.length ∧ v = .slice aq q cq ∧ q ≤ 4096 * n ∧ Hid (q = (secs (H.take n) M S).length) ∧ wr.ownsRow W0.heap.size 3 1 (.slice aq q cq) q (ints (secs (H.take n) M S)) ∧ Below W0.heap.size W0 wr) (fun _ i _ _ _ => H.length - (intOf i).toNat)
  case atStart => exact ⟨0, 0, 0, none, rfl, by omega, rfl, by omega, (rfl : (0 : Nat) = 0), World.ownsRow_nil _ _ _ _, Below.refl _ _⟩
  case round =>
    obtain ⟨n, q, cq, aq, rfl, hn, rfl, hq, Hq, hown, hB⟩ := hrel
    by_cases hlt : n < H.length
    · obtain ⟨bh, oh, rfl, hbh, hch⟩ := HsH.out.atInt hlt
      have eh := hch n hlt
      have fh := bH.out n hlt
      have Hsn := hid (secs_snoc H M S n hlt)
      obtain ⟨h, hh⟩ : ∃ h, H[n] = h := ⟨_, rfl⟩
      rw [hh] at eh fh Hsn
      obtain ⟨fh1, fh2⟩ := fh
      clear hch hh
      go_wp2_with fail
      go_loopw [10, 12, 13] (fun v i _ wr => ∃ (m q cq : Nat) (aq : Option Addr), i = .int .i64 m ∧ m ≤ M.length ∧ v = .slice aq q cq ∧ q ≤ 4096 * n + 64 * m ∧ Hid (q = (secs (H.take n) M S ++ secHour h (M.take m) S).length) ∧ wr.ownsRow W0.heap.size 3 1 (.slice aq q cq) q (ints (secs (H.take n) M S ++ secHour h (M.take m) S)) ∧ Below W0.heap.size W0 wr) (fun _ i _ _ => M.length - (intOf i).toNat)
      case atStart => exact ⟨0, q, cq, aq, rfl, by omega, rfl, by omega, by simpa [secHour] using Hq, by simpa [secHour] using hown, hB⟩
      case round =>
        clear hown hB Hq hq
        obtain ⟨m, q, cq, aq, rfl, hm, rfl, hq, Hq, hown, hB⟩ := hrel
        by_cases hlt2 : m < M.length
        · obtain ⟨bm, om, rfl, hbm, hcm⟩ := HsM.out.atInt hlt2
          have em := hcm m hlt2
          have fm := bM.out m hlt2
          have Hsm := hid (secHour_snoc h M S m hlt2)
          obtain ⟨mm, hmm⟩ : ∃ h, M[m] = h := ⟨_, rfl⟩
          rw [hmm] at em fm Hsm
          obtain ⟨fm1, fm2⟩ := fm
          clear hcm hmm
          go_wp2_with fail
          go_loopw [10, 13] (fun v i wr => ∃ (j q cq : Nat) (aq : Option Addr), i = .int .i64 j ∧ j ≤ S.length ∧ v = .slice aq q cq ∧ q ≤ 4096 * n + 64 * m + j ∧ Hid (q = ((secs (H.take n) M S ++ secHour h (M.take m) S) ++ secRow h mm (S.take j)).length) ∧ wr.ownsRow W0.heap.size 3 1 (.slice aq q cq) q (ints ((secs (H.take n) M S ++ secHour h (M.take m) S) ++ secRow h mm (S.take j))) ∧ Below W0.heap.size W0 wr) (fun _ i _ => S.length - (intOf i).toNat)
          case atStart => exact ⟨0, q, cq, aq, rfl, by omega, rfl, by omega, by simpa [secRow] using Hq, by simpa [secRow] using hown, hB⟩
          case round =>
            clear hown hB Hq hq
            obtain ⟨j, q, cq, aq, rfl, hj, rfl, hq, Hq, hown, hB⟩ := hrel
            by_cases hlt3 : j < S.length
            · obtain ⟨bs, os, rfl, hbs, hcs⟩ := HsS.out.atInt hlt3
              have es := (hB.cell (p := ⟨bs, os + j, none⟩) hbs).trans (hcs j hlt3)
              have eh' := (hB.cell (p := ⟨bh, oh + n, none⟩) hbh).trans eh
              have em' := (hB.cell (p := ⟨bm, om + m, none⟩) hbm).trans em
              have fs := bS.out j hlt3
              have Hss := hid (secRow_snoc h mm S j hlt3)
              obtain ⟨s, hs⟩ : ∃ h, S[j] = h := ⟨_, rfl⟩
              rw [hs] at es fs Hss
              obtain ⟨fs1, fs2⟩ := fs
              clear hcs hs eh em
              have ag : (Value.slice aq q cq).ownBlock ≠ some bh := fun e => by have := (owns_lt hown e).1; omega
              have ak : (Value.slice aq q cq).ownBlock ≠ some bm := fun e => by have := (owns_lt hown e).1; omega
              have av : (Value.slice aq q cq).ownBlock ≠ some bs := fun e => by have := (owns_lt hown e).1; omega
              have Hown := hid hown
              have hsz := hB.size
              have HB := hid hB
              clear hown hB
              go_wp2_with fail
              go_region_held3 (fun w' => w'.cell? ⟨bh, oh + n, none⟩ = some (.int .i64 h) ∧ w'.cell? ⟨bm, om + m, none⟩ = some (.int .i64 mm) ∧ w'.cell? ⟨bs, os + j, none⟩ = some (.int .i64 s))
                (first
                  | go_keep
                  | (go_split_ands
                     refine ⟨?_, ?_, ?_⟩
                     · (rw [hgrow.cell_far _ (by simp; omega) (Ne.symm ag)]; assumption)
                     · (rw [hgrow.cell_far _ (by simp; omega) (Ne.symm ak)]; assumption)
                     · (rw [hgrow.cell_far _ (by simp; omega) (Ne.symm av)]; assumption)))
                ((refine step_append_lies _ (by rfl) _ _ _ (by rfl) W0.heap.size 3 i0 _ 1 8 Tryd.underlying22 hi0 hz0 hz1 hz2 rfl (by omega) (.slice aq q cq) q _ (by rfl) ((Hown.out.alloc _).drew)
                    ⟨wr.heap.size, 0, none⟩ 1 1 [.int .i64 (IntKind.i64.wrap (IntKind.i64.wrap (IntKind.i64.wrap (3600 * h) + IntKind.i64.wrap (60 * mm)) + s))] (by rfl) (by rfl) (World.news_of_block (cs := #[.int .i64 (IntKind.i64.wrap (IntKind.i64.wrap (IntKind.i64.wrap (3600 * h) + IntKind.i64.wrap (60 * mm)) + s))]) (t := 3) (fr := (0, 0)) (heap_alloc_new wr _)) (by simp [Value.oneCell'])
                    (by omega) (by unfold maxLen; omega) (by omega) (by simp; omega) (wr.heap.size + 1) (by simp) ?_; intro gg cap w1 hown1 hgrow hat hlt))
              have hV : IntKind.i64.wrap (IntKind.i64.wrap (IntKind.i64.wrap (3600 * h) + IntKind.i64.wrap (60 * mm)) + s) = 3600 * h + 60 * mm + s := by
                simp only [IntKind.wrap_i64]
                omega
              rw [hV, ← ints_one, ← ints_append, List.append_assoc, ← Hss.out] at hown1
              have hb1 : Below W0.heap.size W0 w1 := (below_new HB.out hsz).drew.trans (Below.of_grown hgrow (by simp; omega) (fun k hk => (owns_lt Hown.out hk).1))
              have hq1 : Hid (q + 1 = (secs (H.take n) M S ++ secHour h (M.take m) S ++ secRow h mm (S.take (j + 1))).length) := by
                show q + 1 = _
                rw [Hss.out, ← List.append_assoc, List.length_append, ← Hq.out]; rfl
              have HOwn1 := hid hown1
              have HB1 := hid hb1
              clear hV hown1 hb1 hgrow ag ak av hat
              go_wp2
              exact ⟨⟨j + 1, q + 1, cap, some ⟨gg, 0, none⟩, by go_num, by omega, rfl, by omega, hq1, HOwn1.out, HB1.out⟩, by simp [intOf]; omega⟩
            · obtain rfl : j = S.length := by omega
              rw [List.take_length] at Hq hown
              have hq1 : Hid (q = (secs (H.take n) M S ++ secHour h (M.take (m + 1)) S).length) := by rw [Hsm.out, ← List.append_assoc]; exact Hq
              have ho1 : Hid (wr.ownsRow W0.heap.size 3 1 (.slice aq q cq) q (ints (secs (H.take n) M S ++ secHour h (M.take (m + 1)) S))) := by rw [Hsm.out, ← List.append_assoc]; exact hown
              clear hown Hq em eh
              go_wp2
              exact ⟨⟨m + 1, q, cq, aq, by go_num, by omega, rfl, by omega, hq1, ho1.out, hB⟩, by simp [intOf]; omega⟩
        · obtain rfl : m = M.length := by omega
          rw [List.take_length] at Hq hown
          rw [← Hsn.out] at Hq hown
          have ho1 := hid hown
          clear hown eh
          go_wp2
          exact ⟨⟨n + 1, q, cq, aq, by go_num, by omega, rfl, by omega, Hq, ho1.out, hB⟩, by simp [intOf]; omega⟩
    · obtain rfl : n = H.length := by omega
      rw [List.take_length] at Hq hown
      have ho1 := hid hown
      clear hown
      go_wp2
      go_ret
      exact ⟨_, rfl, by rw [← Hq.out]; exact owns_base ho1.out HB0.out.size, HB0.out.trans (hB.mono HB0.out.size)⟩
end Go.Proofs.YtdggflkkojmabaaDoor
