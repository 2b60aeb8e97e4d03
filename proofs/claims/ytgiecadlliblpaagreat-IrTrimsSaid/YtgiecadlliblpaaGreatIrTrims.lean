/-
  ir.Trim: a set without what adds nothing.
  ferialaw17.lives: the chapter's example.
-/
import Derived.Test.YtgiecadlliblpaaGreatIrSet
import Derived.Test.YtgiecadlliblpaaGreatDayTell
import Derived.Maps.Own
import Derived.Maps.Views
import Derived.DeepKeys5
import Derived.Test.YtgiecadlliblpaaGreatClFullLaw
namespace Go.Proofs.YtgiecadlliblpaaGreat
open Go.RowKit Go.Maps
set_option linter.unusedVariables false

/-! ### clauses as keys -/
theorem laidI : laidOutB Tryz.prog = true := by kernel_rfl
theorem keyedCl : Keyed Tryz.prog 40 := Keyed.of_law (deep_law_laid laidI (m := 5) (by decide) (of_decide_eq_true (by kernel_rfl)) keyCl (by rw [Tryz.underlying40]))
def klC (c : Cl) : Lit := .string (keyBytes (clLits c))
theorem keyTypeCl : Tryz.prog.keyType 40 = true := by kernel_rfl
theorem typesI : ∃ d, Tryz.prog.types.size + 1 = d + 4 := ⟨Tryz.prog.types.size - 3, by have h : 4 ≤ Tryz.prog.types.size := of_decide_eq_true (by kernel_rfl); omega⟩
theorem keyOf_cl (c : Cl) (h : c.Ok) : keyOf Tryz.prog 40 (clv c) = some (klC c) := by
  obtain ⟨d, hd⟩ := typesI
  unfold keyOf
  simp only [Tryz.underlying40]
  rw [if_pos (by rw [keyTypeCl, formCl]; rfl), hd]
  have := lits_cl d c h
  simp [Value.cells, this, klC]
def litV : Value → Lit | .int q n => .int q n | .bool b => .bool b | _ => .bool false
theorem lits_map (c : Cl) : (clList c).map litV = clLits c := rfl
theorem kl_same {c c' : Cl} (h : c.Ok) (h' : c'.Ok) : klC c = klC c' ↔ clSame c c' = true := by
  constructor
  · intro e
    have hv : clv c = clv c' := keyedCl.inj (keyOf_cl c h) (by rw [e]; exact keyOf_cl c' h')
    have hl : clList c = clList c' := by
      have := congrArg (fun v => match v with | .agg a => a.toList | _ => []) hv
      simpa using this
    rw [clSame_true, ← clSame_iff, ← lits_map, ← lits_map, hl]
  · intro e
    rw [clSame_true, ← clSame_iff] at e
    rw [klC, klC, e]
def someD (c : Cl) : Bool := !(daysT [c] 0 146096).isEmpty
def atL (l : List Cl) (k : Nat) : Cl := l.getD k fullCl
def trP (l : List Cl) : Nat → List Cl
  | 0 => []
  | k + 1 => if (trP l k).any (clSame (atL l k)) || !someD (atL l k) then trP l k else trP l k ++ [atL l k]
theorem trP_len (l : List Cl) : ∀ k, (trP l k).length ≤ k
  | 0 => by simp [trP]
  | k + 1 => by have := trP_len l k; rw [trP]; split <;> simp <;> omega
theorem sl_one {W : World} (c : Cl) : Sl (W.alloc (.cells (clList c).toArray 40)) (some ⟨W.heap.size, 0, none⟩) (cls [c]) := by
  rw [show cls [c] = clList c from List.append_nil _]
  exact sl_range (range_new W _ _) (by simp)
/-- the map and the slice, on the way -/
structure TrI (w : World) (bm : Nat) (l : List Cl) (k : Nat) (v : Value) (W : World) : Prop where
  own : W.ownsRow (bm + 1) 40 30 v (trP l k).length (cls (trP l k))
  map : ∃ D : DataW Unit, W.ownsMap Tryz.prog 40 (plainElem Tryz.prog 4) bm k D ∧ IsMap D ∧ ∀ c : Cl, c.Ok → D.atKey (klC c) (.lit (.bool false)) = .lit (.bool ((trP l k).any (clSame c)))
  be : Below w.heap.size w W
  lt : w.heap.size ≤ bm ∧ bm < W.heap.size
theorem TrI.keep {w W W' : World} {bm k : Nat} {l : List Cl} {v : Value} (h : TrI w bm l k v W) (hb : Below W.heap.size W W') : TrI w bm l k v W' := by
  obtain ⟨D, h1, h2, h3⟩ := h.map
  refine ⟨owns_below h.own hb (Nat.le_refl _), ⟨D, ?_, h2, h3⟩, h.be.trans (hb.mono h.be.size), h.lt.1, Nat.lt_of_lt_of_le h.lt.2 hb.size⟩
  obtain ⟨es, clock, e1, e2, e3, e4⟩ := h1
  exact ⟨es, clock, (hb.block bm h.lt.2).trans e1, e2, e3, e4⟩
theorem elem_bool_inv {P : Program} {e : TypeId} {v : Value} {z : DataW Unit × List MemPlace} (he : P.underlying e = some .bool) (h : plainElem P e v = some z) : ∃ x, v = .bool x ∧ z = (.lit (.bool x), []) := by
  unfold plainElem at h
  rw [he] at h
  cases v <;> simp at h
  exact ⟨_, rfl, h.symm⟩
theorem TrI.look {w W : World} {bm k : Nat} {l : List Cl} {v : Value} (h : TrI w bm l k v W) (c : Cl) (hc : c.Ok) :
    (Instr.lookup 51 (.map (some bm)) (clv c) false).run Tryz.prog W = .ok (.bool ((trP l k).any (clSame c))) W := by
  obtain ⟨D, h1, h2, h3⟩ := h.map
  have hz : (zeroValue 4).run Tryz.prog W = .ok (.bool false) W := by kernel_rfl
  have hk := keyOf_cl c hc
  have ha := h3 c hc
  obtain ⟨B, hB⟩ : ∃ B, (trP l k).any (clSame c) = B := ⟨_, rfl⟩
  rw [hB] at ha ⊢
  obtain ⟨V, hV⟩ : ∃ V, clv c = V := ⟨_, rfl⟩
  rw [hV] at hk ⊢
  clear hB hV
  obtain ⟨u, ps, hr, hv⟩ := h1.lookup keyedCl Tryz.underlying51 hz (plainElem_bool Tryz.underlying4 false) hk
  rw [ha] at hv
  have hu : u = .bool B := by
    obtain ⟨x, hx, e⟩ := elem_bool_inv Tryz.underlying4 hv
    simp only [Prod.mk.injEq, DataW.lit.injEq, Lit.bool.injEq] at e
    rw [hx, e.1]
  rw [hr, hu]
theorem TrI.skip {w W : World} {bm k : Nat} {l : List Cl} {v : Value} (h : TrI w bm l k v W) (hs : ((trP l k).any (clSame (atL l k)) || !someD (atL l k)) = true) : TrI w bm l (k + 1) v W := by
  have e : trP l (k + 1) = trP l k := by rw [trP, if_pos hs]
  obtain ⟨D, h1, h2, h3⟩ := h.map
  exact ⟨by rw [e]; exact h.own, ⟨D, h1.mono (by omega), h2, by rw [e]; exact h3⟩, h.be, h.lt⟩
theorem keyLitC (c : Cl) : WideAt.IsKeyLit (klC c) := trivial
theorem TrI.push {w W W2 W3 : World} {bm k : Nat} {l : List Cl} {v v' : Value} {c : Cl} {D : DataW Unit} (h : TrI w bm l k v W) (hc : atL l k = c) (hcOk : c.Ok) (hall : ∀ x ∈ trP l k, x.Ok) (hn : (trP l k).any (clSame c) = false) (hs : someD c = true)
    (hD1 : IsMap D) (hD2 : ∀ c : Cl, c.Ok → D.atKey (klC c) (.lit (.bool false)) = .lit (.bool ((trP l k).any (clSame c))))
    (hm : W2.ownsMap Tryz.prog 40 (plainElem Tryz.prog 4) bm (k + 1) (D.put (klC c) (.lit (.bool true)))) (hg : W.grownBy W2 (some bm))
    (ho : W3.ownsRow (bm + 1) 40 30 v' ((trP l k).length + 1) (cls (trP l k) ++ clList c)) (hg3 : W2.grownBy W3 v.ownBlock) : TrI w bm l (k + 1) v' W3 := by
  have e : trP l (k + 1) = trP l k ++ [c] := by rw [trP, hc, if_neg (by rw [hn, hs]; simp)]
  have hw2 : Below w.heap.size w W2 := h.be.trans ⟨hg.os, hg.tape, hg.output, hg.size, fun i hi => hg.block i (Nat.lt_of_lt_of_le hi h.be.size) (fun e => by have := h.lt.1; cases e; omega)⟩
  have hob : ∀ g, v.ownBlock = some g → bm + 1 ≤ g := fun g hg => (h.own.lt g hg).1
  have hw3 : Below w.heap.size w W3 := hw2.trans ⟨hg3.os, hg3.tape, hg3.output, hg3.size, fun i hi => hg3.block i (Nat.lt_of_lt_of_le hi hw2.size) (fun e => by have := hob i e.symm; have := h.lt.1; omega)⟩
  refine ⟨?_, ⟨D.put (klC c) (.lit (.bool true)), ?_, hD1.put _ _, fun c' hc' => ?_⟩, hw3, h.lt.1, Nat.lt_of_lt_of_le h.lt.2 (Nat.le_trans hg.size hg3.size)⟩
  · rw [e, List.length_append, show cls (trP l k ++ [c]) = cls (trP l k) ++ clList c by simp [cls]]; exact ho
  · obtain ⟨es, clock, e1, e2, e3, e4⟩ := hm
    exact ⟨es, clock, (hg3.block bm (Nat.lt_of_lt_of_le h.lt.2 hg.size) (fun e => by have := hob bm e.symm; omega)).trans e1, e2, e3, e4⟩
  · rw [e, List.any_append, List.any_cons, List.any_nil, Bool.or_false]
    by_cases hk : klC c' = klC c
    · rw [hk, atKey_put_same hD1 (keyLitC c), (kl_same hc' hcOk).1 hk, Bool.or_true]
    · rw [atKey_put_other hk, hD2 c' hc']
      have : clSame c' c = false := by
        rw [← Bool.not_eq_true]; exact fun h => hk ((kl_same hc' hcOk).2 h)
      rw [this, Bool.or_false]
theorem trP_ok {l : List Cl} (h : ∀ c ∈ l, c.Ok) : ∀ k, k ≤ l.length → ∀ x ∈ trP l k, x.Ok
  | 0, _, x, hx => by cases hx
  | k + 1, hk, x, hx => by
    rw [trP] at hx
    split at hx
    · exact trP_ok h k (by omega) x hx
    · rcases List.mem_append.1 hx with hx | hx
      · exact trP_ok h k (by omega) x hx
      · rw [List.mem_singleton] at hx
        rw [hx, atL, List.getD_eq_getElem?_getD, List.getElem?_eq_getElem (by omega)]
        exact h _ (List.getElem_mem _)
attribute [local go_sem ↓] loadAt_cl storeAt_cl
attribute [local go_sem] run_storeClS
set_option maxRecDepth 100000 in
set_option maxHeartbeats 6400000 in
theorem ITrim_any (a : Option Addr) (cap : Nat) (l : List Cl) (w : World) (hl : l.length ≤ 9223372036854775807) (hs : Sl w a (cls l)) (hok : ∀ c ∈ l, c.Ok) :
    Calls Tryz.prog 13 #[.slice a l.length cap] w fun e w' => (∃ v, e = .returned v ∧ OwnR w w' (if mayL l then trP l l.length else []) v) ∧ Below w.heap.size w w' := by
  have cM := hid (IMay_any a cap l w hl hs hok)
  cases hm : mayL l
  · rw [hm] at cM
    have hE : Hid (∀ W, OwnR w W (if false then trP l l.length else []) (.slice none 0 0)) := fun W => World.ownsRow_nil _ _ _ _
    clear hs hok hm
    go_enter Tryz.func13, Tryz.ntmps13
    go_wp2_with fail
    refine cM.out.mono ?_
    rintro e w1 ⟨rfl, hB1⟩
    have HB1 := hid hB1
    clear hB1
    go_wp2
    go_ret
    exact ⟨⟨_, rfl, hE.out _⟩, HB1.out⟩
  · rw [hm] at cM
    rw [if_pos rfl]
    have h8 : l.length ≤ 8 := by
      rw [mayL, Bool.and_eq_true, decide_eq_true_eq] at hm; exact hm.1
    have Hs := hid hs
    have Hok := hid hok
    have hmm := @run_makeMap Tryz.prog
    clear hs hok hm
    go_enter Tryz.func13, Tryz.ntmps13
    go_wp2_with fail
    refine cM.out.mono ?_
    rintro e w1 ⟨rfl, hB1⟩
    have hI0 : Hid (TrI w w1.heap.size l 0 (.slice none 0 0) (w1.alloc (.map #[] 0))) :=
      ⟨World.ownsRow_nil _ _ _ _, ⟨.map [], World.ownsMap_made _ _ _ _, isMap_empty, fun c _ => rfl⟩, hB1.trans ((below_new (Below.refl _ _) (Nat.le_refl _)).mono hB1.size), hB1.size, by simp⟩
    obtain ⟨W2, hW2⟩ : ∃ W, w1.alloc (.map #[] 0) = W := ⟨_, rfl⟩
    obtain ⟨bm, hbm⟩ : ∃ b, w1.heap.size = b := ⟨_, rfl⟩
    rw [hW2, hbm] at hI0
    have HW2 := hid hW2
    have Hbm := hid hbm
    clear hB1 hW2 hbm
    go_upto_region 4 with fail
    rw [HW2.out, Hbm.out]
    clear hmm
    go_wp2_with fail
    go_loopw [4, 16] (fun v i wr => ∃ k : Nat, i = .int .i64 k ∧ k ≤ l.length ∧ Hid (TrI w bm l k v wr)) (fun _ i _ => l.length - (intOf i).toNat)
    case atStart => exact ⟨0, rfl, by omega, hI0⟩
    case round =>
      obtain ⟨k, rfl, hk, HI⟩ := hrel
      by_cases hlt : k < l.length
      · have hltI : (k : Int) < l.length := by omega
        obtain ⟨b, off, rfl, hbk, hr⟩ := Hs.out.atCl hlt
        have hr' := range_below hr HI.out.be hbk
        have hcOk := hid (Hok.out _ (List.getElem_mem hlt))
        have hat : atL l k = l[k] := by rw [atL, List.getD_eq_getElem?_getD, List.getElem?_eq_getElem hlt]; rfl
        have hall := hid (trP_ok Hok.out k (by omega))
        obtain ⟨c, hc⟩ : ∃ c, l[k] = c := ⟨_, rfl⟩
        rw [hc] at hr' hcOk hat
        have Hat := hid hat
        clear hc hr hat
        have le := ld_at hr'
        have hth2 : (wr.alloc (.cells zL.toArray 40)).there wr.heap.size 0 30 := there_new wr _ _
        have hn2 := below_new (o := .cells zL.toArray 40) (Below.refl wr.heap.size wr) (Nat.le_refl _)
        have hC1 : ClB (putCl (wr.alloc (.cells zL.toArray 40)) wr.heap.size (clList c)) wr.heap.size c := putCl_range _ rfl hth2
        have le1 := hC1.ld
        have hb1 : Below wr.heap.size wr (putCl (wr.alloc (.cells zL.toArray 40)) wr.heap.size (clList c)) := putCl_below hn2 (Nat.le_refl _) _
        have hs1 : wr.heap.size < (putCl (wr.alloc (.cells zL.toArray 40)) wr.heap.size (clList c)).heap.size := by rw [putCl_eq, size_setCells, World.size_alloc]; omega
        obtain ⟨W3, hW3⟩ : ∃ W, putCl (wr.alloc (.cells zL.toArray 40)) wr.heap.size (clList c) = W := ⟨_, rfl⟩
        rw [hW3] at hC1 hb1 hs1 le1
        obtain ⟨b1, hb1e⟩ : ∃ b, wr.heap.size = b := ⟨_, rfl⟩
        have hbmb : bm < wr.heap.size := HI.out.lt.2
        have HI3 := hid (HI.out.keep hb1)
        rw [hb1e] at hC1 hs1 le1 hbmb
        have HC3 := hid hC1
        have Hs3 := hid hs1
        have HW3 := hid hW3
        have Hb1e := hid hb1e
        have Hbmb := hid hbmb
        have cN := hid (DNext_any 0 (some ⟨W3.heap.size, 0, none⟩) 1 [c] (W3.alloc (.cells (clList c).toArray 40)) (by omega) (by omega) (by simp) (sl_one c) (fun x hx => by rw [List.mem_singleton] at hx; rw [hx]; exact hcOk.out))
        have hba := hid (below_new (o := .cells (clList c).toArray 40) (Below.refl W3.heap.size W3) (Nat.le_refl _))
        clear hn2 hb1 hs1 hC1 hW3 hb1e hbmb
        go_upto_region 8 with fail
        rw [HW3.out, Hb1e.out]
        clear le hth2
        go_wp2_with fail
        refine cN.out.mono ?_
        rintro e w4 ⟨hN, hB4⟩
        rcases hN with ⟨hnil, rfl⟩ | ⟨n, r, hcons, rfl⟩
        · have hsd : Hid (someD c = false) := by show _ = _; rw [someD, hnil]; rfl
          rw [shq]
          clear hnil
          have hnw := below_new (o := .cells #[.int .i64 0, .int .i64 0, .int .i64 0, .int .i64 0, .int .i64 0, .int .i64 0, .int .i64 0, .int .i64 0, .int .i64 0, .int .i64 0] 53) (Below.refl w4.heap.size w4) (Nat.le_refl _)
          have hB34 : Below W3.heap.size W3 w4 := hba.out.trans (hB4.mono hba.out.size)
          have HI5 := hid ((HI3.out.keep hB34).keep hnw)
          have HC5 := hid ((HC3.out.below hB34 Hs3.out).below hnw (Nat.lt_of_lt_of_le Hs3.out hB34.size))
          have Hs5 := hid (Nat.lt_of_lt_of_le (Nat.lt_of_lt_of_le Hs3.out hB34.size) hnw.size)
          obtain ⟨W5, hW5⟩ : ∃ W, w4.alloc (.cells #[.int .i64 0, .int .i64 0, .int .i64 0, .int .i64 0, .int .i64 0, .int .i64 0, .int .i64 0, .int .i64 0, .int .i64 0, .int .i64 0] 53) = W := ⟨_, rfl⟩
          rw [hW5] at HI5 HC5 Hs5
          have HW5 := hid hW5
          have lk := HI5.out.look c hcOk.out
          have l5 := HC5.out.ld
          clear hnw hB34 hB4 hW5 le1
          obtain ⟨Bb, hBb⟩ : ∃ q, (trP l k).any (clSame c) = q := ⟨_, rfl⟩
          rw [hBb] at lk
          have HBb := hid hBb
          clear hBb
          go_upto_region 9 with fail
          rw [HW5.out]
          cases Bb
          · have hsk : Hid (((trP l k).any (clSame (atL l k)) || !someD (atL l k)) = true) := by show _ = _; rw [Hat.out, hsd.out, Bool.not_false, Bool.or_true]
            go_wp2
            exact ⟨⟨k + 1, by go_num, by omega, HI5.out.skip hsk.out⟩, by simp [intOf]; omega⟩
          · have hsk : Hid (((trP l k).any (clSame (atL l k)) || !someD (atL l k)) = true) := by show _ = _; rw [Hat.out, HBb.out, Bool.true_or]
            go_wp2
            exact ⟨⟨k + 1, by go_num, by omega, HI5.out.skip hsk.out⟩, by simp [intOf]; omega⟩
        · have hsd : Hid (someD c = true) := by show _ = _; rw [someD, hcons]; rfl
          rw [← shq_shF]
          obtain ⟨s, hse⟩ : ∃ s, shF n = s := ⟨_, rfl⟩
          rw [hse, shq]
          clear hcons hse
          have hnw := below_new (o := .cells (shList s).toArray 53) (Below.refl w4.heap.size w4) (Nat.le_refl _)
          have hB34 : Below W3.heap.size W3 w4 := hba.out.trans (hB4.mono hba.out.size)
          have HI5 := hid ((HI3.out.keep hB34).keep hnw)
          have HC5 := hid ((HC3.out.below hB34 Hs3.out).below hnw (Nat.lt_of_lt_of_le Hs3.out hB34.size))
          have Hs5 := hid (Nat.lt_of_lt_of_le (Nat.lt_of_lt_of_le Hs3.out hB34.size) hnw.size)
          obtain ⟨W5, hW5⟩ : ∃ W, w4.alloc (.cells (shList s).toArray 53) = W := ⟨_, rfl⟩
          rw [hW5] at HI5 HC5 Hs5
          have HW5 := hid hW5
          have lk := HI5.out.look c hcOk.out
          have l5 := HC5.out.ld
          clear hnw hB34 hB4 hW5 le1
          obtain ⟨Bb, hBb⟩ : ∃ q, (trP l k).any (clSame c) = q := ⟨_, rfl⟩
          rw [hBb] at lk
          have HBb := hid hBb
          clear hBb
          go_upto_region 9 with fail
          rw [HW5.out]
          cases Bb
          rotate_left
          · have hsk : Hid (((trP l k).any (clSame (atL l k)) || !someD (atL l k)) = true) := by show _ = _; rw [Hat.out, HBb.out, Bool.true_or]
            go_wp2
            exact ⟨⟨k + 1, by go_num, by omega, HI5.out.skip hsk.out⟩, by simp [intOf]; omega⟩
          · have hown5 := hid HI5.out.own
            obtain ⟨D, hD0, hD1, hD2⟩ := HI5.out.map
            have hkey := hid (keyOf_cl c hcOk.out)
            have HD0 := hid hD0
            have HD1 := hid hD1
            have HD2 := hid hD2
            have hk9 : k < maxLen := by unfold maxLen; omega
            clear hD0 hD1 hD2
            go_wp2_with (at_mapUpdate; refine wpList_mapUpdate_own _ rfl (.tmp 34) (.tmp 35) _ 51 rfl 40 4 keyedCl Tryz.underlying51 _ bm k D rfl HD0.out hk9 _ _ _ rfl rfl hkey.out _ [] (plainElem_bool Tryz.underlying4 true) ?_)
            intro w6 hm6 hg6
            have HM6 := hid hm6
            have HG6 := hid hg6
            have hC6 : ClB w6 b1 c := fun j v hv => (World.cell?_of_block (w := W5) (a := ⟨b1, 0 + j, none⟩) (hg6.block b1 Hs5.out (fun e => by have := Hbmb.out; cases e; omega))).trans (HC5.out j v hv)
            have l6 := hC6.ld
            have ho6 : w6.ownsRow (bm + 1) 40 30 u4 (trP l k).length (cls (trP l k)) := owns_agree hown5.out (fun b hb => hg6.block b (hown5.out.lt b hb).2 (fun e => by have := (hown5.out.lt b hb).1; cases e; omega))
            have Ho6 := hid ho6
            have hlo6 : bm + 1 ≤ w6.heap.size := by have := hg6.size; have := HI5.out.lt.2; omega
            have hl6 := trP_len l k
            clear hm6 hg6 hC6 ho6 lk l5
            go_wp2_with (at_builtin; refine appLit eClz (.tmp 36) (.tmp 38) rfl rfl rfl rfl rfl Ho6.out rfl (clL_one c) (by omega) (by omega) hlo6 ?_)
            intro a' cap' w7 h1 h2 h3 h4
            have HP : Hid (TrI w bm l (k + 1) (.slice a' ((trP l k).length + 1) cap') w7) := HI5.out.push Hat.out hcOk.out hall.out HBb.out hsd.out HD1.out HD2.out HM6.out HG6.out h1 h2
            clear h1 h2 h3 h4 l6
            go_wp2
            exact ⟨⟨k + 1, by go_num, by omega, HP⟩, by simp [intOf]; omega⟩
      · have hltI : ¬ (k : Int) < l.length := by omega
        have hke : Hid (k = l.length) := by show _ = _; omega
        have HO : Hid (OwnR w wr (trP l l.length) u4) := by
          have h1 := HI.out.own
          rw [hke.out] at h1
          exact owns_base h1 (by have := HI.out.lt.1; omega)
        go_wp2
        go_ret
        exact ⟨⟨_, rfl, HO.out⟩, HI.out.be⟩
end Go.Proofs.YtgiecadlliblpaaGreat
namespace Go.Proofs.YtgiecadlliblpaaGreat
open Go.RowKit
set_option linter.unusedVariables false

theorem full_day0 : liveD fullCl 0 = true := by kernel_rfl
theorem full_some : someD fullCl = true := by
  have h : (0 : Int) ∈ daysT [fullCl] 0 146096 := daysT_mem.2 ⟨by omega, by rw [act_one]; exact full_day0⟩
  rw [someD]
  cases hd : daysT [fullCl] 0 146096 with
  | nil => rw [hd] at h; cases h
  | cons n l => rfl
theorem full_fault : faultL [fullCl, fullCl] = 0 := by
  rw [faultL, if_neg (by simp), List.all_cons, List.all_cons, may_full]; rfl
theorem full_mayL : mayL [fullCl, fullCl] = true := by rw [may_fault, full_fault]; rfl
theorem full_trim : trP [fullCl, fullCl] 2 = [fullCl] := by
  have h1 : trP [fullCl, fullCl] 1 = [fullCl] := by
    rw [trP, show atL [fullCl, fullCl] 0 = fullCl from rfl, full_some]; rfl
  rw [trP, h1, show atL [fullCl, fullCl] 1 = fullCl from rfl, List.any_cons, clSame_self]; rfl
theorem full_hasL : hasL [fullCl, fullCl] 0 = true := by
  rw [hasL, full_mayL, List.any_cons, full_has (t := 0) (by decide)]; rfl
theorem stv_two {W : World} {g1 g2 : Nat} : Sl (W.alloc (.cells #[.slice (some ⟨g1, 0, none⟩) 1 1, .slice (some ⟨g2, 0, none⟩) 1 1] 22)) (some ⟨W.heap.size, 0, none⟩) ([⟨some ⟨g1, 0, none⟩, 1, [fullCl]⟩, ⟨some ⟨g2, 0, none⟩, 1, [fullCl]⟩].map stv) :=
  sl_range (cs := [.slice (some ⟨g1, 0, none⟩) 1 1, .slice (some ⟨g2, 0, none⟩) 1 1]) (range_new W _ _) (by simp)
set_option maxRecDepth 100000 in
set_option maxHeartbeats 3200000 in
theorem Lives17_any (w : World) : Calls Tryz.prog 5 #[] w fun e w' => e = .returned (.bool true) ∧ Below w.heap.size w w' := by
  have cW := hid (fun W => IWhole_any W)
  have hok2 : ∀ x ∈ [fullCl, fullCl], x.Ok := fun x hx => by
    rcases List.mem_cons.1 hx with h | h
    · rw [h]; exact full_ok
    · rw [List.mem_singleton] at h; rw [h]; exact full_ok
  have cJ := hid (fun g1 g2 W (h1 : Sl W (some ⟨g1, 0, none⟩) (cls [fullCl])) (h2 : Sl W (some ⟨g2, 0, none⟩) (cls [fullCl])) => by
    have hb := below_new (o := .cells #[.slice (some ⟨g1, 0, none⟩) 1 1, .slice (some ⟨g2, 0, none⟩) 1 1] 22) (Below.refl W.heap.size W) (Nat.le_refl _)
    exact IJoin_any (some ⟨W.heap.size, 0, none⟩) 2 [⟨some ⟨g1, 0, none⟩, 1, [fullCl]⟩, ⟨some ⟨g2, 0, none⟩, 1, [fullCl]⟩] (W.alloc (.cells #[.slice (some ⟨g1, 0, none⟩) 1 1, .slice (some ⟨g2, 0, none⟩) 1 1] 22)) (by simp) stv_two (by simp [stLen])
      (fun s hs => by
        rcases List.mem_cons.1 hs with h | h
        · rw [h]; exact ⟨h1.below hb, fun e => by cases e⟩
        · rw [List.mem_singleton] at h; rw [h]; exact ⟨h2.below hb, fun e => by cases e⟩) hok2)
  have cT := hid (fun a cap W h => ITrim_any a cap [fullCl, fullCl] W (by simp) h hok2)
  have cH := hid (fun a cap W h => IHas_any a cap [fullCl, fullCl] 0 W (by simp) h hok2)
  rw [full_hasL] at cH
  rw [full_mayL, if_pos rfl, show [fullCl, fullCl].length = 2 from rfl, full_trim] at cT
  have hF : Hid (faultL [fullCl, fullCl] = 0) := full_fault
  have hO : Hid (outL [fullCl, fullCl] = [fullCl, fullCl]) := by show _ = _; rw [outL, full_fault]; rfl
  clear hok2
  go_enter Tryz.func5, Tryz.ntmps5
  go_wp2_with fail
  refine (cW.out _).mono ?_
  rintro e w1 ⟨⟨g1, rfl, h1⟩, hB1⟩
  have HO1 := hid (owns_sl h1)
  have HB1 := hid hB1
  clear h1 hB1
  go_wp2_with fail
  refine (cW.out _).mono ?_
  rintro e w2 ⟨⟨g2, rfl, h2⟩, hB2⟩
  have HO2 := hid (owns_sl h2)
  have HO1' := hid (HO1.out.below hB2)
  have HB2 := hid (HB1.out.trans (hB2.mono HB1.out.size))
  clear h2 hB2
  have cJ2 := hid (cJ.out g1 g2 w2 HO1'.out HO2.out)
  go_wp2_with fail
  refine cJ2.out.mono ?_
  rintro e w3 ⟨hR, hB3⟩
  obtain ⟨v, rfl, hv⟩ := hR
  have hst : stAll [⟨some ⟨g1, 0, none⟩, 1, [fullCl]⟩, ⟨some ⟨g2, 0, none⟩, 1, [fullCl]⟩] = [fullCl, fullCl] := rfl
  rw [hst, hO.out] at hv
  rw [hst, hF.out]
  obtain ⟨a3, cap3, rfl, hsl, -⟩ := owns_form hv
  rw [show [fullCl, fullCl].length = 2 from rfl]
  have Hsl := hid hsl
  have HB3 := hid (HB2.out.trans (((below_new (Below.refl _ _) (Nat.le_refl _)).trans (hB3.mono (by simp))).mono HB2.out.size))
  have cT3 : Hid (Calls Tryz.prog 13 #[.slice a3 2 cap3] w3 fun e w' => (∃ v, e = .returned v ∧ OwnR w3 w' [fullCl] v) ∧ Below w3.heap.size w3 w') := cT.out a3 cap3 w3 hsl
  have cH3 : Hid (∀ W, Below w3.heap.size w3 W → Calls Tryz.prog 10 #[.slice a3 2 cap3, .int .i64 0] W fun e w' => e = .returned (.bool true) ∧ Below W.heap.size W w') := fun W hB => cH.out a3 cap3 W (hsl.below hB)
  clear hst hv hB3 hsl
  go_wp2_with fail
  refine cT3.out.mono ?_
  rintro e w4 ⟨⟨v4, rfl, h4⟩, hB4⟩
  obtain ⟨a4, cap4, rfl, -, -⟩ := owns_form h4
  rw [show [fullCl].length = 1 from rfl]
  have HB4 := hid hB4
  clear h4 hB4
  go_wp2_with fail
  refine (cH3.out _ HB4.out).mono ?_
  rintro e w5 ⟨rfl, hB5⟩
  have HB5 := hid (HB3.out.trans ((HB4.out.trans (hB5.mono HB4.out.size)).mono HB3.out.size))
  clear hB5
  go_wp2
  go_ret
  exact ⟨rfl, HB5.out⟩
end Go.Proofs.YtgiecadlliblpaaGreat
