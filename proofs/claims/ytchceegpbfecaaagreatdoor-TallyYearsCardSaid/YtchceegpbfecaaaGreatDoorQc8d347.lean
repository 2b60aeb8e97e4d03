/-
  The instants of a set by years and by hours, in plain words.
  tally.Years: how many instants of a set are in each year.
-/
import Derived.Test.YtchceegpbfecaaaGreatDoorQ46436d
import Derived.Test.YtchceegpbfecaaaGreatDoorQ74d1c6
import Derived.BigRegion
import Derived.Laws.MakeOwn
namespace Go.Proofs.YtchceegpbfecaaaGreatDoor
set_option linter.unusedVariables false
section
open Go.RowKit Go.Maps

def sumL (f : Nat → Nat) : Nat → Nat
  | 0 => 0
  | i + 1 => sumL f i + f i
theorem sumL_congr {f g : Nat → Nat} : ∀ {m : Nat}, (∀ i, i < m → f i = g i) → sumL f m = sumL g m
  | 0, _ => rfl
  | m + 1, h => by rw [sumL, sumL, sumL_congr (fun i hi => h i (by omega)), h m (by omega)]
theorem sumL_add (f g : Nat → Nat) : ∀ m, sumL (fun i => f i + g i) m = sumL f m + sumL g m
  | 0 => rfl
  | m + 1 => by rw [sumL, sumL, sumL, sumL_add f g m]; omega
theorem sumL_one (c : Nat) : ∀ m, sumL (fun i => if c = i then 1 else 0) m = if c < m then 1 else 0
  | 0 => rfl
  | m + 1 => by
    rw [sumL, sumL_one c m]
    by_cases h1 : c < m
    · rw [if_pos h1, if_neg (by omega), if_pos (by omega)]
    · by_cases h2 : c = m
      · rw [if_neg h1, if_pos h2, if_pos (by omega)]
      · rw [if_neg h1, if_neg h2, if_neg (by omega)]
theorem sumL_le {f : Nat → Nat} {i m : Nat} (h : i < m) : f i ≤ sumL f m := by
  induction m with
  | zero => omega
  | succ m ih =>
    rw [sumL]
    by_cases e : i = m
    · subst e; omega
    · have := ih (by omega); omega
theorem sumL_mono {f : Nat → Nat} {i m : Nat} (h : i ≤ m) : sumL f i ≤ sumL f m := by
  induction m with
  | zero => have : i = 0 := by omega
            subst this; exact zG _
  | succ m ih =>
    rw [sumL]
    by_cases e : i = m + 1
    · subst e; rw [sumL]; exact zG _
    · have := ih (by omega); omega
def yrC (cs : List Cl) (ds : List Int) (k j : Nat) : Nat := (instL cs 0 12622780799 ((ds.take k).filter fun n => decide (fY n = 1970 + (j : Int)))).length
theorem yrC_snoc {cs : List Cl} {ds : List Int} {k : Nat} {n : Int} (h : ds[k]? = some n) (h0 : 0 ≤ n) (h1 : n < 146097) (j : Nat) : yrC cs ds (k + 1) j = yrC cs ds k j + if fY n = 1970 + (j : Int) then (secL (dayQ cs n)).length else 0 := by
  obtain ⟨hk, rfl⟩ := List.getElem?_eq_some_iff.1 h
  rw [yrC, take_snoc ds k hk, List.filter_append, instL, List.flatMap_append, List.length_append, yrC, instL, List.filter_cons, List.filter_nil]
  congr 1
  by_cases e : fY ds[k] = 1970 + (j : Int)
  · rw [if_pos (by simpa using e), if_pos e]
    simp only [List.flatMap_cons, List.flatMap_nil, List.append_nil]
    exact dayI_whole cs (by omega) (by omega)
  · rw [if_neg (by simpa using e), if_neg e]; rfl
theorem year_days {n y : Int} (h0 : 0 ≤ n) (h1 : n < 146097) : fY n = y ↔ ysI y ≤ n ∧ n < ysI y + 365 + leapI y := by
  obtain ⟨m, -, hd, -⟩ := fDate n h0 h1
  obtain ⟨a0, a1, a2, a3, a4, a5, a6⟩ := hd
  have hb := msI_bd a2 a3 a4 a5
  constructor
  · rintro rfl
    omega
  · rintro ⟨g1, g2⟩
    rcases Int.lt_trichotomy (fY n) y with h | h | h
    · have := ysI_lt h; omega
    · exact h
    · have := ysI_lt h; omega
theorem yrC_all (cs : List Cl) {j : Nat} (hj : j < 400) : yrC cs (dayS cs (daysL 0 146096)) (dayS cs (daysL 0 146096)).length j = cntT cs (86400 * ysI (1970 + (j : Int))) (86400 * ysI (1970 + ((j + 1 : Nat) : Int)) - 1) := by
  have hn := ysI_next (1970 + (j : Int))
  rw [show (1970 : Int) + ((j + 1 : Nat) : Int) = 1970 + (j : Int) + 1 by omega, hn, yrC, List.take_length, cntT]
  refine congrArg List.length ?_
  have hup : ((dayS cs (daysL 0 146096)).filter fun n => decide (fY n = 1970 + (j : Int))).Pairwise (· < ·) := (dayS_up cs _ _).filter _
  have hiu : ∀ ds : List Int, ds.Pairwise (· < ·) → (instL cs 0 12622780799 ds).Pairwise (· < ·) := by
    intro ds
    induction ds with
    | nil => intro _; exact List.Pairwise.nil
    | cons n ds ih =>
      intro hp
      rw [List.pairwise_cons] at hp
      rw [instL, List.flatMap_cons, List.pairwise_append]
      refine ⟨dayI_pair _ _ _ _, ih hp.2, fun a ha b hb => ?_⟩
      rw [List.mem_flatMap] at hb
      obtain ⟨n', hn', hb⟩ := hb
      obtain ⟨h1, -⟩ := dayI_mem.1 ha
      obtain ⟨h2, -⟩ := dayI_mem.1 hb
      have := hp.1 n' hn'
      omega
  refine rising_ext (hiu _ hup) (instA_up _ _ _) (fun t => ?_)
  rw [instL, List.mem_flatMap, instA_mem]
  constructor
  · rintro ⟨n, hn1, ht⟩
    rw [List.mem_filter, dayS, List.mem_filter, daysL_mem, decide_eq_true_eq] at hn1
    obtain ⟨rfl, h1, h2, h3⟩ := dayI_mem.1 ht
    have := (year_days hn1.1.1.1 (by omega)).1 hn1.2
    exact ⟨by omega, by omega, h3⟩
  · rintro ⟨h1, h2, h3⟩
    have hw := inst_win h3
    have hq := (year_days (n := t / 86400) (y := 1970 + (j : Int)) (by omega) (by omega)).2 (by omega)
    refine ⟨t / 86400, ?_, dayI_mem.2 ⟨rfl, hw.1, by omega, h3⟩⟩
    rw [List.mem_filter, dayS, List.mem_filter, daysL_mem, decide_eq_true_eq]
    exact ⟨⟨⟨by omega, by omega⟩, anyQ_true.2 ⟨(t % 86400).toNat, by omega, by rw [dayQ_inst, show 86400 * (t / 86400) + ((t % 86400).toNat : Int) = t by omega]; exact h3⟩⟩, hq⟩
theorem yr_sum (cs : List Cl) : ∀ m : Nat, m ≤ 400 → sumL (yrC cs (dayS cs (daysL 0 146096)) (dayS cs (daysL 0 146096)).length) m = cntT cs 0 (86400 * ysI (1970 + (m : Int)) - 1)
  | 0, _ => by
    rw [sumL, show (1970 : Int) + ((0 : Nat) : Int) = 1970 by omega, ysI_first, cntT_nil cs (by omega)]
  | m + 1, h => by
    have h1 := ysI_mono 1970 m
    have h2 := ysI_mono 1970 (m + 1)
    rw [ysI_first] at h1 h2
    have h3 := ysI_next (1970 + (m : Int))
    have h4 := leapI_bd (1970 + (m : Int))
    rw [sumL, yr_sum cs m (by omega), yrC_all cs (by omega), cntT_cut cs (f := 0) (m := 86400 * ysI (1970 + (m : Int)) - 1) (u := 86400 * ysI (1970 + ((m + 1 : Nat) : Int)) - 1) (by omega) (by rw [show (1970 : Int) + ((m + 1 : Nat) : Int) = 1970 + (m : Int) + 1 by omega, h3]; omega), show (86400 * ysI (1970 + (m : Int)) - 1 + 1) = 86400 * ysI (1970 + (m : Int)) by omega]
theorem yr_total (cs : List Cl) : sumL (yrC cs (dayS cs (daysL 0 146096)) (dayS cs (daysL 0 146096)).length) 400 = cntT cs 0 12622780799 := by
  rw [yr_sum cs 400 (by omega), show ysI (1970 + ((400 : Nat) : Int)) = 146097 by decide]; rfl
def hrC (l : List Int) (h : Nat) : Nat := (l.filter fun x => decide (x / 3600 = (h : Int))).length
theorem hrC_sum : ∀ l : List Int, (∀ x ∈ l, 0 ≤ x ∧ x < 86400) → sumL (hrC l) 24 = l.length
  | [], _ => rfl
  | x :: l, h => by
    have hx := h x (by simp)
    have e : ∀ i, i < 24 → hrC (x :: l) i = hrC l i + if (x / 3600).toNat = i then 1 else 0 := fun i _ => by
      rw [hrC, List.filter_cons, hrC]
      by_cases e : x / 3600 = (i : Int)
      · rw [if_pos (by simpa using e), if_pos (by omega)]; rfl
      · rw [if_neg (by simpa using e), if_neg (by omega)]; rfl
    rw [sumL_congr e, sumL_add, hrC_sum l (fun y hy => h y (by simp [hy])), sumL_one, if_pos (by omega)]; rfl
def hrT (cs : List Cl) (ds : List Int) (k h : Nat) : Nat := ((ds.take k).map fun n => hrC (secL (dayQ cs n)) h).sum
theorem hrT_snoc {cs : List Cl} {ds : List Int} {k : Nat} {n : Int} (e : ds[k]? = some n) (h : Nat) : hrT cs ds (k + 1) h = hrT cs ds k h + hrC (secL (dayQ cs n)) h := by
  obtain ⟨hk, rfl⟩ := List.getElem?_eq_some_iff.1 e
  rw [hrT, take_snoc ds k hk, List.map_append, List.sum_append, hrT]; simp
theorem sec_rng (q : Nat → Bool) : ∀ x ∈ secL q, 0 ≤ x ∧ x < 86400 := fun x hx => by
  rw [secL, sel_mem] at hx
  obtain ⟨k, hk, -, rfl⟩ := hx
  omega
theorem hrT_sum (cs : List Cl) {ds : List Int} (hd : ∀ n ∈ ds, 0 ≤ n ∧ n < 146097) : ∀ k, k ≤ ds.length → sumL (hrT cs ds k) 24 = cntI cs 0 12622780799 ds k
  | 0, _ => rfl
  | k + 1, hk => by
    have e : ds[k]? = some ds[k] := List.getElem?_eq_getElem (by omega)
    have hn := hd _ (List.getElem_mem (show k < ds.length by omega))
    rw [sumL_congr (fun i _ => hrT_snoc e i), sumL_add, hrT_sum cs hd k (by omega), hrC_sum _ (sec_rng _), cntI_snoc e, dayI_whole cs (by omega) (by omega)]
theorem hr_total (cs : List Cl) : sumL (hrT cs (dayS cs (daysL 0 146096)) (dayS cs (daysL 0 146096)).length) 24 = cntT cs 0 12622780799 := by
  rw [hrT_sum cs (fun n hn => by rw [dayS, List.mem_filter, daysL_mem] at hn; omega) _ (zG _), cntT_days]; rfl
theorem hrT_le (cs : List Cl) {k h : Nat} (hh : h < 24) (hk : k ≤ (dayS cs (daysL 0 146096)).length) : hrT cs (dayS cs (daysL 0 146096)) k h ≤ 12622780800 := by
  have h1 := sumL_le (f := hrT cs (dayS cs (daysL 0 146096)) k) hh
  rw [hrT_sum cs (fun n hn => by rw [dayS, List.mem_filter, daysL_mem] at hn; omega) _ hk] at h1
  have h2 := cntI_le cs 0 12622780799 (dayS cs (daysL 0 146096)) k
  have h3 := cntT_le cs 0 12622780799
  rw [cntT, show instA cs 0 12622780799 = instL cs 0 12622780799 (dayS cs (daysL 0 146096)) from rfl] at h3
  omega
theorem yrC_le (cs : List Cl) (k j : Nat) : yrC cs (dayS cs (daysL 0 146096)) k j ≤ 12622780800 := by
  have h3 := cntT_le cs 0 12622780799
  have h2 := cntI_le cs 0 12622780799 (dayS cs (daysL 0 146096)) k
  rw [cntT, show instA cs 0 12622780799 = instL cs 0 12622780799 (dayS cs (daysL 0 146096)) from rfl] at h3
  have h1 : yrC cs (dayS cs (daysL 0 146096)) k j ≤ cntI cs 0 12622780799 (dayS cs (daysL 0 146096)) k := by
    rw [yrC, cntI]
    generalize (dayS cs (daysL 0 146096)).take k = l
    induction l with
    | nil => exact zG _
    | cons n l ih =>
      rw [List.filter_cons]
      split
      · rw [instL, instL, List.flatMap_cons, List.flatMap_cons, List.length_append, List.length_append]
        exact Nat.add_le_add_left ih _
      · rw [show instL cs 0 12622780799 (n :: l) = dayI cs 0 12622780799 n ++ instL cs 0 12622780799 l from List.flatMap_cons, List.length_append]
        omega
  omega
theorem days_ys (k : Int) (h0 : 0 ≤ k) (h1 : k < 400) : k * 365 + (k + 1) / 4 - (k + 69) / 100 + (k + 369) / 400 = ysI (1970 + k) := by
  unfold ysI; omega
end
section
open Go.RowKit Go.Maps
attribute [local go_sem] Oper.semAt_some

def Z400 : Array Value := Array.replicate 400 (.int .i64 0)
def mk400S (u v : Value) : Sem Value := Instr.makeSlice 60 u v
theorem makeSlice_400 (u v : Value) : Instr.makeSlice 60 u v = mk400S u v := rfl
theorem run_mk400 (w : World) : (mk400S (.int .i64 400) (.int .i64 400)).run Tryz.prog w = .ok (.slice (some ⟨w.heap.size, 0, none⟩) 400 400) (w.alloc (.cells Z400 2)) := by
  have hi : (Tryz.prog.info? 2).map (fun i => (i.zero, i.size, i.bytes)) = some (some (.int .i64 0), 1, 8) := by kernel_rfl
  cases e : Tryz.prog.info? 2 with
  | none => rw [e] at hi; cases hi
  | some i =>
    rw [e] at hi
    simp only [Option.map_some, Option.some.injEq, Prod.mk.injEq] at hi
    obtain ⟨h1, h2, h3⟩ := hi
    have := run_makeSlice (P := Tryz.prog) w 60 2 i (.int .i64 0) Tryz.underlying60 e h1 .i64 .i64 400 400 (by omega) (by omega) (by rw [h2]; decide) (by rw [h3]; decide) (by omega)
    unfold mk400S
    rw [this, h2, show madeCells (Value.cells (.int .i64 0)) (Int.toNat 400 * 1) = Z400 by kernel_rfl]
    rfl
attribute [local go_sem ↓] makeSlice_400
attribute [local go_sem] run_mk400
structure Ys (b : Nat) (f : Nat → Nat) (W : World) : Prop where
  c : ∀ j, j < 400 → W.cell? ⟨b, j, none⟩ = some (.int .i64 (f j : Nat))
  z : ∀ j, W.frozen? ⟨b, j, none⟩ = false
  lt : b < W.heap.size
theorem Ys.block {b : Nat} {f : Nat → Nat} {W W' : World} (h : Ys b f W) (hs : W.heap.size ≤ W'.heap.size) (hb : W'.heap[b]? = W.heap[b]?) : Ys b f W' :=
  ⟨fun i hi => (World.cell?_of_block (w := W) (a := ⟨b, i, none⟩) hb).trans (h.c i hi), fun i => (World.frozen?_of_block (w := W) (a := ⟨b, i, none⟩) hb).trans (h.z i), zH h.lt hs⟩
theorem Ys.set {b : Nat} {f g : Nat → Nat} {W : World} (h : Ys b f W) {i : Nat} {v : Int} (hi : i < 400) (hv : v = (g i : Nat)) (hg : ∀ j, j < 400 → j ≠ i → g j = f j) : Ys b g (W.setCell ⟨b, i, none⟩ (.int .i64 v)) := by
  subst hv
  have h1 := h.c i hi
  refine ⟨fun j hj => ?_, fun j => ?_, by simpa using h.lt⟩
  · by_cases e : j = i
    · subst e; simp [go_sem, h1]
    · rw [World.cell?_setCell_other _ _ _ _ (fun e2 => by injection e2 with _ e3; omega), h.c j hj, hg j hj e]
  · simpa [go_sem] using h.z j
theorem z400_at {j : Nat} (hj : j < 400) : Z400[j]? = some (.int .i64 0) := by rw [Z400, Array.getElem?_replicate, if_pos hj]
structure YrS (bs b6 b7 c0 : Nat) (f : Nat → Nat) (c : Option Nat) (m : Int) (O : Blk) (W : World) : Prop where
  ys : Ys bs f W
  c6 : W.cell? ⟨b6, 0, none⟩ = some (.slice (some ⟨bs, 0, none⟩) 400 400)
  k : CntC c0 c m W
  co : W.cell? ⟨b7, 0, none⟩ = some (cntV c0)
  os : O bs
  o6 : O b6
  o7 : O b7
  p0 : O c0
  p1 : O (c0 + 1)
  lt : ∀ b, O b → b < W.heap.size
  ne : bs ≠ b6 ∧ bs ≠ b7 ∧ bs ≠ c0 ∧ bs ≠ c0 + 1 ∧ b6 ≠ b7 ∧ b6 ≠ c0 ∧ b6 ≠ c0 + 1 ∧ b7 ≠ c0 ∧ b7 ≠ c0 + 1
theorem YrS.keep {bs b6 b7 c0 : Nat} {f : Nat → Nat} {c : Option Nat} {m : Int} {O : Blk} {W W' : World} (h : YrS bs b6 b7 c0 f c m O W) (hs : W.heap.size ≤ W'.heap.size) (hb : ∀ c, O c → W'.heap[c]? = W.heap[c]?) : YrS bs b6 b7 c0 f c m O W' :=
  ⟨h.ys.block hs (hb _ h.os), (World.cell?_of_block (w := W) (a := ⟨b6, 0, none⟩) (hb _ h.o6)).trans h.c6, h.k.block hs (hb _ h.p0) (hb _ h.p1), (World.cell?_of_block (w := W) (a := ⟨b7, 0, none⟩) (hb _ h.o7)).trans h.co,
   h.os, h.o6, h.o7, h.p0, h.p1, fun c hc => zH (h.lt c hc) hs, h.ne⟩
theorem YrS.cnt {bs b6 b7 c0 : Nat} {f : Nat → Nat} {c c' : Option Nat} {m m' : Int} {O : Blk} {W W' : World} (h : YrS bs b6 b7 c0 f c m O W) (hE : Eff (fun b => b = c0 ∨ b = c0 + 1) W W') (hk : CntC c0 c' m' W') : YrS bs b6 b7 c0 f c' m' O W' := by
  obtain ⟨h1, h2, h3, h4, os, o6, o7, p0, p1, lt, ne⟩ := h
  exact ⟨h1.block hE.size (hE.block _ (lt _ os) (by omega)), (hE.cell (p := ⟨b6, 0, none⟩) (lt _ o6) (by show ¬ (b6 = c0 ∨ b6 = c0 + 1); omega)).trans h2, hk,
    (hE.cell (p := ⟨b7, 0, none⟩) (lt _ o7) (by show ¬ (b7 = c0 ∨ b7 = c0 + 1); omega)).trans h4, os, o6, o7, p0, p1, fun b hb => zH (lt b hb) hE.size, ne⟩
theorem YrS.put {bs b6 b7 c0 : Nat} {f g : Nat → Nat} {c : Option Nat} {m : Int} {O : Blk} {W : World} (h : YrS bs b6 b7 c0 f c m O W) {i : Nat} {v : Int} (hi : i < 400) (hv : v = (g i : Nat)) (hg : ∀ j, j < 400 → j ≠ i → g j = f j) : YrS bs b6 b7 c0 g c m O (W.setCell ⟨bs, i, none⟩ (.int .i64 v)) := by
  obtain ⟨h1, h2, h3, h4, os, o6, o7, p0, p1, lt, ne⟩ := h
  have hb : ∀ b, b ≠ bs → (W.setCell ⟨bs, i, none⟩ (.int .i64 v)).heap[b]? = W.heap[b]? := fun b hb => Below.heap_setCell _ _ _ _ hb
  have hs : (W.setCell ⟨bs, i, none⟩ (.int .i64 v)).heap.size = W.heap.size := by simp
  exact ⟨h1.set hi hv hg, (World.cell?_of_block (w := W) (a := ⟨b6, 0, none⟩) (hb _ (by simp only []; omega))).trans h2, h3.block (by rw [hs]; exact zG _) (hb _ (by omega)) (hb _ (by omega)),
    (World.cell?_of_block (w := W) (a := ⟨b7, 0, none⟩) (hb _ (by simp only []; omega))).trans h4, os, o6, o7, p0, p1, fun b hb => by rw [hs]; exact lt b hb, ne⟩
def YrI (cs : List Cl) (M : Blk) (bs b6 b7 c0 : Nat) : OwnF := fun k O F W => ∃ c m, YrS bs b6 b7 c0 (yrC cs (dayS cs (daysL 0 146096)) k) c m O W ∧ Knows c m M F W
def YrX : Code → OwnF := fun _ _ _ _ _ => False
theorem yrI_stab (cs : List Cl) (M : Blk) (bs b6 b7 c0 : Nat) : StabF M (YrI cs M bs b6 b7 c0) := fun k O F F' W W' ⟨c, m, h1, h2⟩ hs hF hO => ⟨c, m, h1.keep hs (fun c hc => hO c (.inl hc)), h2.keep hs hF (fun b hb => hO b (.inr hb))⟩
theorem yrX_stab (M : Blk) (c : Code) : StabF M (YrX c) := fun k O F F' W W' h _ _ _ => h.elim
theorem yrI_lt (cs : List Cl) (M : Blk) (bs b6 b7 c0 : Nat) : LtF (YrI cs M bs b6 b7 c0) := fun k O F W ⟨_, _, h, _⟩ => h.lt
theorem yrX_lt (c : Code) : LtF (YrX c) := fun k O F W h => h.elim
def YrM (w2 : World) (x6 x7 x18 x19 : Value) (W : World) : Prop := ∃ bs b6 b7 c0, x6 = .pointer (some ⟨b6, 0, none⟩) ∧ x7 = .pointer (some ⟨b7, 0, none⟩) ∧ x18 = .slice (some ⟨bs, 0, none⟩) 400 400 ∧ x19 = .func (.func 91) #[] #[.pointer (some ⟨c0, 0, none⟩), .pointer (some ⟨c0 + 1, 0, none⟩)] ∧
  Below w2.heap.size w2 W ∧ w2.heap.size ≤ bs ∧ w2.heap.size ≤ b6 ∧ w2.heap.size ≤ b7 ∧ w2.heap.size ≤ c0 ∧ YrS bs b6 b7 c0 (fun _ => 0) none 0 (fun b => b = bs ∨ b = b6 ∨ b = b7 ∨ b = c0 ∨ b = c0 + 1) W
def YrT (h0 h1 h2 h3 h4 h5 h6 h7 h8 h9 : Value) (ds : List Deferred) (a : Act) : Prop := ∃ V : Nat → Value, a = { tmps := #[h0, h1, h2, h3, h4, h5, h6, h7, h8, h9, V 10, V 11, V 12, V 13, V 14, V 15, V 16, V 17, V 18, V 19, V 20, V 21, V 22, V 23, V 24, V 25, V 26, V 27, V 28, V 29, V 30, V 31, V 32, V 33, V 34, V 35], defers := ds }
theorem YrT.of {h0 h1 h2 h3 h4 h5 h6 h7 h8 h9 u10 u11 u12 u13 u14 u15 u16 u17 u18 u19 u20 u21 u22 u23 u24 u25 u26 u27 u28 u29 u30 u31 u32 u33 u34 u35 : Value} {ds : List Deferred} : YrT h0 h1 h2 h3 h4 h5 h6 h7 h8 h9 ds { tmps := #[h0, h1, h2, h3, h4, h5, h6, h7, h8, h9, u10, u11, u12, u13, u14, u15, u16, u17, u18, u19, u20, u21, u22, u23, u24, u25, u26, u27, u28, u29, u30, u31, u32, u33, u34, u35], defers := ds } := ⟨fun i => (#[u10, u11, u12, u13, u14, u15, u16, u17, u18, u19, u20, u21, u22, u23, u24, u25, u26, u27, u28, u29, u30, u31, u32, u33, u34, u35] : Array Value).getD (#[0, 0, 0, 0, 0, 0, 0, 0, 0, 0, 0, 1, 2, 3, 4, 5, 6, 7, 8, 9, 10, 11, 12, 13, 14, 15, 16, 17, 18, 19, 20, 21, 22, 23, 24, 25].getD i 0) undef, rfl⟩

def YearsR (w : World) (l : List Cl) (e : Ending) (w' : World) : Prop :=
  (faultL l ≠ 0 ∧ e = .returned (.tuple #[.slice none 0 0, .int .i64 (faultL l)])) ∨
  (faultL l = 0 ∧ ∃ bs, e = .returned (.tuple #[.slice (some ⟨bs, 0, none⟩) 400 400, .int .i64 0]) ∧ w.heap.size ≤ bs ∧ Ys bs (yrC l (dayS l (daysL 0 146096)) (dayS l (daysL 0 146096)).length) w')
set_option maxRecDepth 100000 in
set_option maxHeartbeats 6400000 in
theorem Years_any (a : Option Addr) (cap : Nat) (l : List Cl) (w : World) (hl : l.length ≤ 9223372036854775807) (hlc : l.length ≤ cap) (hs : Sl w a (cls l)) (hno : a = none → cap = 0) (hok : ∀ c ∈ l, c.Ok) (hT : Tab w) :
    Calls Tryz.prog 32 #[.slice a l.length cap] w fun e w' => YearsR w l e w' ∧ Below w.heap.size w w' := by
  have cN := hid (RNew_any a cap l w hl hlc hs hno hok hT)
  have Ht0 : Hid (0 < w.heap.size) := hT.1
  clear hs hok hT hno hlc
  refine (wf_calls (r := none) (n := 1)).mp ?_
  refine callsIn_of_wp_marks Tryz.func32 rfl trivial ?_ rfl
  simp only [Tryz.ntmps32, List.size_toArray, List.length_cons, List.length_nil, Nat.reduceAdd, Nat.reduceSub, Array.replicate_succ, Array.replicate_zero, List.push_toArray, List.append_toArray, List.nil_append, List.cons_append]
  gi_wp2_with fail
  refine (wf_calls.mpr cN.out).mono ?_
  rintro e w2 ⟨hN, hB2⟩
  have HB2 := hid hB2
  rcases hN with ⟨hf, rfl⟩ | ⟨hf, br, bk, bps, rfl, hR, hM⟩
  · obtain ⟨X, hX⟩ : ∃ X, faultL l = X := ⟨_, rfl⟩
    have hR : Hid (YearsR w l (.returned (.tuple #[.slice none 0 0, .int .i64 X])) w2) := .inl ⟨hf, by rw [hX]⟩
    rw [hX] at hf ⊢
    have hX0 : (X == 0) = false := by simpa using hf
    have hX1 : (X != 0) = true := by simpa using hf
    clear hB2 hX cN
    gi_wp2
    exact ⟨.tuple #[.slice none 0 0, .int .i64 X], by simp [results, Tryz.results32, go_sem], hR.out, HB2.out⟩
  · have Hf := hid hf
    have HR := hid hR
    have HM := hid hM
    have cC := hid (fun W => Counter_any W)
    clear hB2 hR hM hf cN
    gi_upto_region 4 with fail
    gi_cut [6, 7, 18, 19] from 20 (fun x6 x7 x18 x19 wx => YrM w2 x6 x7 x18 x19 wx)
    case first =>
      refine wf_wp.mpr ?_
      go_region_with (refine (cC.out _).mono ?_; rintro e w3 ⟨rfl, hw3⟩)
      all_goals (try go_wp2)
      all_goals
        gi_meet
        refine ⟨_, _, _, _, rfl, rfl, rfl, rfl, ?_, ?_, ?_, ?_, ?_, ⟨⟨fun j hj => ?_, fun j => ?_, ?_⟩, ?_, ⟨?_, ?_, ?_, ?_, ?_⟩, ?_, .inl rfl, .inr (.inl rfl), .inr (.inr (.inl rfl)), .inr (.inr (.inr (.inl rfl))), .inr (.inr (.inr (.inr rfl))), fun b hb => ?_, ?_⟩⟩
        · refine Below.drew ?_
          repeat' (first | exact Below.refl _ _ | refine below_new ?_ (by first | omega | (simp only [World.size_alloc]; omega)))
        · omega
        · omega
        · omega
        · omega
        · simp [go_sem, z400_at hj]
        · simp [go_sem]
        · simp only [World.size_drew, World.size_alloc]; omega
        · simp [go_sem]
        · simp [go_sem, dptr]
        · simp [go_sem]
        · simp [go_sem]
        · simp [go_sem]
        · simp only [World.size_drew, World.size_alloc]; omega
        · simp [go_sem]
        · simp only [World.size_drew, World.size_alloc]; omega
        · refine ⟨?_, ?_, ?_, ?_, ?_, ?_, ?_, ?_, ?_⟩ <;> omega
    case rest =>
      obtain ⟨bs, b6, b7, c0, rfl, rfl, rfl, rfl, hBc, l1, l2, l3, l4, hC⟩ := hcut
      have HBc := hid (HB2.out.trans (hBc.mono HB2.out.size))
      have HR4 : Hid (RollS wc l br bk bps (FNew w w2) (fun _ => false) 0) := HR.out.keep hBc.size (fun b hb => hBc.block b (by have := Ht0.out; have := HB2.out.size; rcases hb with hb | hb <;> omega))
      have HC4 := hid hC
      have HL := hid (And.intro l1 (And.intro l2 (And.intro l3 l4)))
      have cA := hid (RAllC_any 0 146096 HR4.out (InvS 0) (zG 0))
      have hbr := bnd_rng l (f := 0) (t := 146096) (by omega) (by omega)
      have hclip := dayS_clip l 0 146096
      obtain ⟨X1, hX1⟩ : ∃ X, bndF l 0 = X := ⟨_, rfl⟩
      obtain ⟨X2, hX2⟩ : ∃ X, bndU l 146096 = X := ⟨_, rfl⟩
      rw [hX1, hX2] at cA hbr hclip
      have tl := RAllF_any (cs := l) (br := br) (bk := bk) (bps := bps) InvS (wc.heap.size + 1) (wc.heap.size + 2) wc.heap.size X1 X2 hbr.1 hbr.2.1 hbr.2.2.1 hbr.2.2.2
        (fun j n ws m ws' m' hn hi hs => invS_step hi hs) (fun j ws m hi hj => by rw [daysL_len] at hj; rw [InvS] at hi; omega)
      rw [hclip] at tl
      obtain ⟨L, hL⟩ : ∃ L, (daysL X1 X2).length = L := ⟨_, rfl⟩
      rw [hL] at tl
      have TL := hid tl
      clear hbr hclip tl hL hX1 hX2 hBc hC l1 l2 l3 l4 cC
      gi_wp2_with fail
      refine (wf_calls.mpr cA.out).mono ?_
      rintro e w5 ⟨rfl, hB5, hl5, hHA⟩
      have HB5 := hid (HBc.out.trans (hB5.mono HBc.out.size))
      have C5 := hid (HC4.out.keep hB5.size (fun c hc => hB5.block c (HC4.out.lt c hc)))
      have HHA := hid hHA
      have HFO : Hid (∀ b, F3 (FNew w w2) wc.heap.size b → ¬ (b = bs ∨ b = b6 ∨ b = b7 ∨ b = c0 ∨ b = c0 + 1)) := fun b hb h => by
        have := HL.out.1; have := HL.out.2.1; have := HL.out.2.2.1; have := HL.out.2.2.2; have := Ht0.out; have := HB2.out.size
        have g1 := HC4.out.lt _ HC4.out.os; have g2 := HC4.out.lt _ HC4.out.o6; have g3 := HC4.out.lt _ HC4.out.o7; have g4 := HC4.out.lt _ HC4.out.p1
        rcases hb with hb | hb
        · rcases hb with hb | hb <;> omega
        · omega
      clear hB5 hHA cA hl5
      gi_wp2_with fail
      refine range_outerG (F := F3 (FNew w w2) wc.heap.size) (M := RM br bk bps) (gf := 94) (lb := #[.pointer (some ⟨wc.heap.size + 1, 0, none⟩), .pointer (some ⟨wc.heap.size + 2, 0, none⟩), .pointer (some ⟨wc.heap.size, 0, none⟩)]) rfl rollall_enters (fun b => b = bs ∨ b = b6 ∨ b = b7 ∨ b = c0 ∨ b = c0 + 1)
        (fun k vs F W h => by obtain ⟨_, _, _, _, _, rfl, _⟩ := h; rfl) TL.out HA.host HA.host HA.hostE HHA.out HFO.out
        (YrI l (RM br bk bps) bs b6 b7 c0) YrX (yrI_stab _ _ _ _ _ _) (yrX_stab _) (yrI_lt _ _ _ _ _ _) yrX_lt ⟨none, 0, C5.out, Knows.none⟩
        (fun k O Fb a' W => YrI l (RM br bk bps) bs b6 b7 c0 k O Fb W ∧ ∃ bx D d, (dayS l (daysL 0 146096))[k]? = some D ∧ SkD l (RM br bk bps) D d bx O Fb W ∧ YrT (.slice a l.length cap) undef (.slice none 0 0) (.int .i64 0) (.pointer (some ⟨br, 0, none⟩)) (.int .i64 0) (.pointer (some ⟨b6, 0, none⟩)) (.pointer (some ⟨b7, 0, none⟩)) (.pointer (some ⟨bx, 0, none⟩)) (.pointer (some ⟨d, 0, none⟩)) [] a')
        ?putl ?assign ?body ?done ?stop
      case putl =>
        rintro l' o k O Fb a' W hr hnO hnF ⟨h1, bx, D, d, h3, h4, h5⟩
        have ko : ∀ b, O b ∨ (Fb b ∧ ¬ RM br bk bps b) → (W.putObj l' o).heap[b]? = W.heap[b]? := fun b hb => World.putObj_heap_other (fun e => hb.elim (fun h => hnO (e ▸ h)) (fun h => hnF (e ▸ h.1)))
        exact ⟨yrI_stab _ (RM br bk bps) _ _ _ _ k O Fb Fb W _ h1 (by rw [World.putObj_size]; exact zG _) (fun _ h => h) ko, bx, D, d, h3, h4.put hr hnF, h5⟩
      case assign =>
        rintro l' k O6 F6 W6 vs K hk hJ6 hFl ⟨D, d, hn, h0, h1, rfl, hd, ht, hlt⟩ hG6 hK
        rw [← shq_shF]
        obtain ⟨s, hs⟩ : ∃ s, shF D = s := ⟨_, rfl⟩
        rw [hs, shq]
        have Hs := hid hs
        have HP := hid (And.intro hJ6 (And.intro hFl (And.intro hn (And.intro hd (And.intro ht (And.intro hlt hG6))))))
        clear hs hJ6 hFl hn hd ht hlt hG6 h0 h1
        gi_wp2
        obtain ⟨hJ6, hFl, hn, hd, ht, hlt, hG6⟩ := HP.out
        have hbel := below_new (o := .cells (shList s).toArray 101) (Below.refl W6.heap.size W6) (zG _)
        have hlO := yrI_lt _ _ _ _ _ _ _ _ _ _ hJ6
        refine hK _ O6 _ (Grow.of_below hbel) ⟨yrI_stab _ (RM br bk bps) _ _ _ _ _ O6 F6 F6 W6 _ hJ6 hbel.size (fun _ h => h) (fun b hb => hbel.block b (hb.elim (hlO b) (fun h => hlt b h.1))), W6.heap.size, D, d, hn,
          ⟨fun b hb => (hFl b hb).1, ⟨hd.1, hd.2.1, hd.2.2.block hbel.size (hbel.block d (hlt d hd.1))⟩, ⟨ht.1.later hbel, ht.2.1⟩, fun b hb => zH (hlt b hb) hbel.size, by simp, ⟨fun h => by have := hlO _ h; omega, fun h => by have := hlt _ h; omega⟩, by rw [Hs.out]; exact shC_new W6 101 _ _ _ _ _ _ _ _ _ _⟩, YrT.of⟩
      case stop =>
        rintro c k O9 F9 w9 hk1 hk2 hG9 hHN hFs hFn hFO9 h
        exact h.elim
      case done =>
        rintro O9 F9 w9 hG9 hHN hFs hFn hFO9 ⟨c9, m9, hI, -⟩ hD hnD hnF
        have HB9 : Hid (Below w.heap.size w w9) := HB5.out.trans (hG9.eff.below (fun b hb => by
          have := HL.out.1; have := HL.out.2.1; have := HL.out.2.2.1; have := HL.out.2.2.2; have := HB2.out.size
          rcases hb with (h | h | h | h | h) | h
          · omega
          · omega
          · omega
          · omega
          · omega
          · exact HM.out b h) HB5.out.size)
        have HDx := hid hD
        have k6 := hI.c6
        have hY : Hid (Ys bs (yrC l (dayS l (daysL 0 146096)) (dayS l (daysL 0 146096)).length) (w9.putObj w5.heap.size (.deferred none))) := hI.ys.block (by rw [World.putObj_size]; exact zG _) (World.putObj_heap_other (fun e => hnD (e ▸ hI.os)))
        have hb9 : Hid (Below w.heap.size w (w9.putObj w5.heap.size (.deferred none))) := below_putObj HB9.out HB5.out.size _
        have hlb : Hid (w.heap.size ≤ bs) := zI HB2.out.size HL.out.1
        clear hG9 hHN hFs hFn hFO9 hnD hnF hD hI
        gi_wp2
        refine ⟨by simp, .inl ⟨_, _, rfl, run_takeDeferred HDx.out, ?_⟩⟩
        refine ⟨.tuple #[.slice (some ⟨bs, 0, none⟩) 400 400, .int .i64 0], ?_, .inr ⟨Hf.out, bs, rfl, hlb.out, hY.out⟩, hb9.out⟩
        simp [results, Tryz.results32, go_sem]
      case body =>
        rintro l3 k O6 F6 a' W6 hk hG6 hl3 hrec6 hnl3 hnF3 ⟨⟨c, m, hC6, hK6⟩, bx, D, d, en, hD, V, rfl⟩
        have hmem := List.mem_of_getElem? en
        rw [dayS, List.mem_filter, daysL_mem] at hmem
        obtain ⟨⟨D0, D1⟩, -⟩ := hmem
        have hsn := fun j => yrC_snoc (cs := l) en D0 (by omega) j
        obtain ⟨y0, y1, -⟩ := fDate_year D0 (show D < 146097 by omega)
        have hle1 := fun j => yrC_le l k j
        have hle2 := fun j => yrC_le l (k + 1) j
        have hC6d := hC6.keep (W' := W6.drew) (zG _) (fun _ _ => rfl)
        have hd6 : DiscAt W6.drew d (dayQ l D) := hD.di.2.2.block (zG _) rfl
        have cC := hid (Cnt_any c0 d (dayQ l D) c m W6.drew hC6d.k (fun x hx => by
          obtain ⟨-, -, q, h1, h2⟩ := hK6 x hx
          exact ⟨q, h1.block (zG _) rfl, h2⟩) hd6)
        obtain ⟨s, hs⟩ : ∃ s, shF D = s := ⟨_, rfl⟩
        have hs1 : s 1 = fY D := by rw [← hs]; rfl
        have hsh := hD.sh
        rw [hs] at hsh
        obtain ⟨-, s1, -⟩ := hsh
        rw [hs1] at s1
        obtain ⟨Y, hY⟩ : ∃ Y, fY D = Y := ⟨_, rfl⟩
        rw [hY] at s1 y0 y1
        simp only [hY] at hsn
        obtain ⟨j, hj⟩ : ∃ j : Nat, Y = 1970 + (j : Int) := ⟨(Y - 1970).toNat, by omega⟩
        have hj4 : j < 400 := by omega
        have hj4i : (j : Int) < 400 := by omega
        have hYj : Y - 1970 = (j : Int) := by omega
        have hwj : IntKind.i64.wrap (j : Int) = (j : Int) := IntWalk.i64_in _ (by omega)
        have hj0 : (0 : Int) ≤ (j : Int) := by omega
        obtain ⟨p, hp⟩ : ∃ p, (secL (dayQ l D)).length = p := ⟨_, rfl⟩
        rw [hp] at cC
        obtain ⟨N, hN⟩ : ∃ N, yrC l (dayS l (daysL 0 146096)) k j = N := ⟨_, rfl⟩
        have hsj := hsn j
        rw [if_pos hj, hN, hp] at hsj
        have hb1 := hle2 j
        rw [hsj] at hb1
        have k5 := hC6d.ys.c j hj4
        rw [hN] at k5
        have z5 := hC6d.ys.z j
        have hwr : IntKind.i64.wrap ((N : Int) + (p : Int)) = (N : Int) + (p : Int) := IntWalk.i64_in _ (by omega)
        have HFin : Hid (∀ W7 c7 m7, YrS bs b6 b7 c0 (yrC l (dayS l (daysL 0 146096)) k) c7 m7 O6 W7 → YrS bs b6 b7 c0 (yrC l (dayS l (daysL 0 146096)) (k + 1)) c7 m7 O6 (W7.setCell ⟨bs, j, none⟩ (.int .i64 ((N : Int) + (p : Int))))) := fun W7 c7 m7 h =>
          h.put hj4 (by rw [hsj, Int.natCast_add]) (fun i hi hne => by rw [hsn i, if_neg (by omega)]; rfl)
        have HC6d := hid hC6d
        have HD6 := hid hD
        have HK6 := hid hK6
        have Hp := hid hp
        have HN := hid hN
        have hS6 : W6.drew.cell? ⟨b6, 0, none⟩ = some (.slice (some ⟨bs, 0, none⟩) 400 400) ∧ W6.drew.cell? ⟨b7, 0, none⟩ = some (.func (.func 91) #[] #[.pointer (some ⟨c0, 0, none⟩), .pointer (some ⟨c0 + 1, 0, none⟩)]) ∧ W6.drew.cell? ⟨bx, 1, none⟩ = some (.int .i64 Y) := ⟨hC6d.c6, hC6d.co, s1⟩
        have HS6 := hid hS6
        have nbx : Hid (bx ≠ c0 ∧ bx ≠ c0 + 1 ∧ bx ≠ bs) := ⟨fun e => hD.nx.1 (e ▸ hC6.p0), fun e => hD.nx.1 (e ▸ hC6.p1), fun e => hD.nx.1 (e ▸ hC6.os)⟩
        clear hG6 hs hs1 hD hk en hC6 hK6 hsn hN hp hle1 hle2 hC6d hd6 hY hj s1 hsj hb1 hS6
        gi_upto_region 8 with fail
        have hS6 := HS6.out
        refine regW (S := fun W => W.cell? ⟨b6, 0, none⟩ = some (.slice (some ⟨bs, 0, none⟩) 400 400) ∧ W.cell? ⟨b7, 0, none⟩ = some (.func (.func 91) #[] #[.pointer (some ⟨c0, 0, none⟩), .pointer (some ⟨c0 + 1, 0, none⟩)]) ∧ W.cell? ⟨bx, 1, none⟩ = some (.int .i64 Y)) (by kernel_rfl) (by kernel_rfl) (by rintro ⟨_, _, h⟩; exact h) hS6 (fun hHeld => ?_)
        refine wpAnyH_take (i := 0) (v := ?_) rfl (by kernel_rfl) (by kernel_rfl) (by kernel_rfl) (fun _ _ _ h => h) (Or.inl ⟨by rfl, ?_⟩) (by assumption) ?_
        rotate_left
        · intro w' hSw; obtain ⟨z1, z2, z3⟩ := hSw; go_simp; (try with_reducible rfl)
        try simp only [Act.put, zA, zC, zD, zE, zF]
        refine wpAnyH_take (i := 1) (v := ?_) rfl (by kernel_rfl) (by kernel_rfl) (by kernel_rfl) (fun _ _ _ h => h) (Or.inl ⟨by rfl, ?_⟩) (by assumption) ?_
        rotate_left
        · intro w' hSw; obtain ⟨z1, z2, z3⟩ := hSw; go_simp; (try with_reducible rfl)
        try simp only [Act.put, zA, zB, zC, zD, zE, zF]
        refine wpAnyH_take (i := 2) (v := ?_) rfl (by kernel_rfl) (by kernel_rfl) (by kernel_rfl) (fun _ _ _ h => h) (Or.inl ⟨by rfl, ?_⟩) (by assumption) ?_
        rotate_left
        · intro w' hSw; obtain ⟨z1, z2, z3⟩ := hSw; go_simp; (try with_reducible rfl)
        try simp only [Act.put, zA, zB, zC, zD, zE, zF]
        refine wpAnyH_take (i := 3) (v := ?_) rfl (by kernel_rfl) (by kernel_rfl) (by kernel_rfl) (fun _ _ _ h => h) (Or.inl ⟨by rfl, ?_⟩) (by assumption) ?_
        rotate_left
        · intro w' hSw; obtain ⟨z1, z2, z3⟩ := hSw; go_simp; (try with_reducible rfl)
        try simp only [Act.put, zA, zB, zC, zD, zE, zF]
        refine wpAnyH_take (i := 4) (v := ?_) rfl (by kernel_rfl) (by kernel_rfl) (by kernel_rfl) (fun _ _ _ h => h) (Or.inl ⟨by rfl, ?_⟩) (by assumption) ?_
        rotate_left
        · intro w' hSw; obtain ⟨z1, z2, z3⟩ := hSw; go_simp; (try with_reducible rfl)
        try simp only [Act.put, zA, zB, zC, zD, zE, zF]
        refine wpAnyH_take (i := 6) (v := ?_) rfl (by kernel_rfl) (by kernel_rfl) (by kernel_rfl) (fun _ _ _ h => h) (Or.inl ⟨by rfl, ?_⟩) (by assumption) ?_
        rotate_left
        · intro w' hSw; obtain ⟨z1, z2, z3⟩ := hSw; go_simp; (try with_reducible rfl)
        try simp only [Act.put, zA, zB, zC, zD, zE, zF]
        refine wpAnyH_take (i := 7) (v := ?_) rfl (by kernel_rfl) (by kernel_rfl) (by kernel_rfl) (fun _ _ _ h => h) (Or.inl ⟨by rfl, ?_⟩) (by assumption) ?_
        rotate_left
        · intro w' hSw; obtain ⟨z1, z2, z3⟩ := hSw; go_simp; (try with_reducible rfl)
        try simp only [Act.put, zA, zB, zC, zD, zE, zF]
        refine wpAnyH_ready (rs := [5, 8]) (by kernel_rfl) (by simp) ?_
        refine AllReadyH.cons rfl (fun K hK => ?_) (AllReadyH.cons rfl (fun K hK => ?_) AllReadyH.nil)
        · go_simp
          refine hK.out _ _ hS6 (fun hHeld => ?_)
          clear hK K
          try simp only [Act.put, zA, zB, zC, zD, zE, zF]
          refine wpAnyH_ready (rs := [8]) (by kernel_rfl) (by simp) ?_
          refine AllReadyH.cons rfl (fun K hK => ?_) AllReadyH.nil
          go_simp
          refine cC.out.mono ?_
          rintro e w7 ⟨rfl, hE7, hk7⟩
          have hC7 := HC6d.out.cnt hE7 hk7
          have hE67 : Eff O6 W6 w7 := ((Eff.refl O6 W6).drew).trans hE7 (fun b hb => by rcases hb with rfl | rfl; exact .inl HC6d.out.p0; exact .inl HC6d.out.p1)
          have hd7 : DiscAt w7 d (dayQ l D) := HD6.out.di.2.2.eff hE67 (HD6.out.dj d HD6.out.di.1)
          have hS7 : w7.cell? ⟨b6, 0, none⟩ = some (.slice (some ⟨bs, 0, none⟩) 400 400) ∧ w7.cell? ⟨b7, 0, none⟩ = some (.func (.func 91) #[] #[.pointer (some ⟨c0, 0, none⟩), .pointer (some ⟨c0 + 1, 0, none⟩)]) ∧ w7.cell? ⟨bx, 1, none⟩ = some (.int .i64 Y) := ⟨hC7.c6, hC7.co, (hE7.cell (p := ⟨bx, 1, none⟩) HD6.out.lx (by show ¬ (bx = c0 ∨ bx = c0 + 1); have := nbx.out; omega)).trans HS6.out.2.2⟩
          have k17 := hC7.ys.c j hj4
          have z17 := hC7.ys.z j
          rw [HN.out] at k17
          refine hK.out _ _ hS7 (fun hHeld => ?_)
          clear hK K
          try simp only [Act.put, zA, zB, zC, zD, zE, zF]
          refine wpAnyH_take (i := 9) (v := ?_) rfl (by kernel_rfl) (by kernel_rfl) (by kernel_rfl) (fun _ _ _ h => h) (Or.inl ⟨by rfl, ?_⟩) (by assumption) ?_
          rotate_left
          · intro w' hSw; go_simp; (try with_reducible rfl)
          try simp only [Act.put, zA, zB, zC, zD, zE, zF]
          refine wpAnyH_take (i := 10) (v := ?_) rfl (by kernel_rfl) (by kernel_rfl) (by kernel_rfl) (fun _ _ _ h => h) (Or.inl ⟨by rfl, ?_⟩) (by assumption) ?_
          rotate_left
          · intro w' hSw; obtain ⟨z1, z2, z3⟩ := hSw; go_simp; (try with_reducible rfl)
          try simp only [Act.put, zA, zB, zC, zD, zE, zF]
          refine wpAnyH_ready (rs := [11]) (by kernel_rfl) (by simp) ?_
          refine AllReadyH.cons rfl (fun K hK => ?_) AllReadyH.nil
          go_simp
          have hC8 := HFin.out _ _ _ hC7
          refine hK.out _ _ ⟨hC8.c6, hC8.co, (World.cell?_of_block (w := w7) (a := ⟨bx, 1, none⟩) (Below.heap_setCell _ _ _ _ (by have := nbx.out; simp only []; omega))).trans hS7.2.2⟩ (fun hHeld => ?_)
          clear hK K
          try simp only [Act.put, zA, zB, zC, zD, zE, zF]
          refine wpAnyH_done (by kernel_rfl) ?_ _
          have HE8 := hid (hE67.set HC6d.out.os j (.int .i64 ((N : Int) + (p : Int))))
          have HI8 : Hid (YrI l (RM br bk bps) bs b6 b7 c0 (k + 1) O6 F6 (w7.setCell ⟨bs, j, none⟩ (.int .i64 ((N : Int) + (p : Int))))) := ⟨some d, p, hC8, fun x hx => by
            cases hx
            exact ⟨HD6.out.di.1, HD6.out.di.2.1, dayQ l D, hd7.block (by simp) (Below.heap_setCell _ _ _ _ (fun e => HD6.out.dj d HD6.out.di.1 (e ▸ HC6d.out.os))), by rw [Hp.out]⟩⟩
          clear hC7 hE67 hd7 hS7 hC8 hE7 hk7 hHeld
          gi_wp2
          exact ⟨O6, ⟨fun _ h => h, fun _ h => .inl h, HE8.out⟩, HI8.out⟩
        · go_simp
          refine cC.out.mono ?_
          rintro e w7 ⟨rfl, hE7, hk7⟩
          have hC7 := HC6d.out.cnt hE7 hk7
          have hE67 : Eff O6 W6 w7 := ((Eff.refl O6 W6).drew).trans hE7 (fun b hb => by rcases hb with rfl | rfl; exact .inl HC6d.out.p0; exact .inl HC6d.out.p1)
          have hd7 : DiscAt w7 d (dayQ l D) := HD6.out.di.2.2.eff hE67 (HD6.out.dj d HD6.out.di.1)
          have hS7 : w7.cell? ⟨b6, 0, none⟩ = some (.slice (some ⟨bs, 0, none⟩) 400 400) ∧ w7.cell? ⟨b7, 0, none⟩ = some (.func (.func 91) #[] #[.pointer (some ⟨c0, 0, none⟩), .pointer (some ⟨c0 + 1, 0, none⟩)]) ∧ w7.cell? ⟨bx, 1, none⟩ = some (.int .i64 Y) := ⟨hC7.c6, hC7.co, (hE7.cell (p := ⟨bx, 1, none⟩) HD6.out.lx (by show ¬ (bx = c0 ∨ bx = c0 + 1); have := nbx.out; omega)).trans HS6.out.2.2⟩
          have k17 := hC7.ys.c j hj4
          have z17 := hC7.ys.z j
          rw [HN.out] at k17
          refine hK.out _ _ hS7 (fun hHeld => ?_)
          clear hK K
          try simp only [Act.put, zA, zB, zC, zD, zE, zF]
          refine wpAnyH_ready (rs := [5]) (by kernel_rfl) (by simp) ?_
          refine AllReadyH.cons rfl (fun K hK => ?_) AllReadyH.nil
          go_simp
          refine hK.out _ _ hS7 (fun hHeld => ?_)
          clear hK K
          try simp only [Act.put, zA, zB, zC, zD, zE, zF]
          refine wpAnyH_take (i := 9) (v := ?_) rfl (by kernel_rfl) (by kernel_rfl) (by kernel_rfl) (fun _ _ _ h => h) (Or.inl ⟨by rfl, ?_⟩) (by assumption) ?_
          rotate_left
          · intro w' hSw; go_simp; (try with_reducible rfl)
          try simp only [Act.put, zA, zB, zC, zD, zE, zF]
          refine wpAnyH_take (i := 10) (v := ?_) rfl (by kernel_rfl) (by kernel_rfl) (by kernel_rfl) (fun _ _ _ h => h) (Or.inl ⟨by rfl, ?_⟩) (by assumption) ?_
          rotate_left
          · intro w' hSw; obtain ⟨z1, z2, z3⟩ := hSw; go_simp; (try with_reducible rfl)
          try simp only [Act.put, zA, zB, zC, zD, zE, zF]
          refine wpAnyH_ready (rs := [11]) (by kernel_rfl) (by simp) ?_
          refine AllReadyH.cons rfl (fun K hK => ?_) AllReadyH.nil
          go_simp
          have hC8 := HFin.out _ _ _ hC7
          refine hK.out _ _ ⟨hC8.c6, hC8.co, (World.cell?_of_block (w := w7) (a := ⟨bx, 1, none⟩) (Below.heap_setCell _ _ _ _ (by have := nbx.out; simp only []; omega))).trans hS7.2.2⟩ (fun hHeld => ?_)
          clear hK K
          try simp only [Act.put, zA, zB, zC, zD, zE, zF]
          refine wpAnyH_done (by kernel_rfl) ?_ _
          have HE8 := hid (hE67.set HC6d.out.os j (.int .i64 ((N : Int) + (p : Int))))
          have HI8 : Hid (YrI l (RM br bk bps) bs b6 b7 c0 (k + 1) O6 F6 (w7.setCell ⟨bs, j, none⟩ (.int .i64 ((N : Int) + (p : Int))))) := ⟨some d, p, hC8, fun x hx => by
            cases hx
            exact ⟨HD6.out.di.1, HD6.out.di.2.1, dayQ l D, hd7.block (by simp) (Below.heap_setCell _ _ _ _ (fun e => HD6.out.dj d HD6.out.di.1 (e ▸ HC6d.out.os))), by rw [Hp.out]⟩⟩
          clear hC7 hE67 hd7 hS7 hC8 hE7 hk7 hHeld
          gi_wp2
          exact ⟨O6, ⟨fun _ h => h, fun _ h => .inl h, HE8.out⟩, HI8.out⟩
end
end Go.Proofs.YtchceegpbfecaaaGreatDoor
