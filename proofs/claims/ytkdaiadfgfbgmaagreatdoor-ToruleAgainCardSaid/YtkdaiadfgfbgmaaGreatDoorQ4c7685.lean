/- The words and small laws that all proofs of this s -/
import Derived.Test.YtkdaiadfgfbgmaaGreatDoorRows
import Derived.WalkKit
import Derived.ProofKit
import Derived.BigQuiet
import Derived.Lib.TrailingZeros
import Derived.Deep.RegionHeld3
import Derived.Lib.BitFns
import Derived.OpenShut
import Derived.Deep.Slices
import Derived.ShutString
import Derived.RangeFuncNested
import Derived.RangeFuncBound
import Derived.OwnWalkIn
import Derived.TacticsInMore
import Derived.LoopNIn
import Derived.LoopIn
import Derived.Shelf.Abstract
set_option maxRecDepth 100000
set_option maxHeartbeats 25600000
set_option linter.unusedSimpArgs false
open Option renaming none -> N, some -> G
open Go.Value renaming int -> E, pointer -> R, slice -> Xs, bool -> Xb, func -> Xf, tuple -> Xt
open Go.IntKind renaming i64 -> T, u64 -> Y
open Go.Addr renaming mk -> Z
open Go renaming Calls -> H
open Go.Proofs.Tryz renaming prog -> I
open Go.Obj renaming cells -> J
open Go.Ending renaming returned -> Q
namespace Go.Proofs.YtkdaiadfgfbgmaaGreatDoor
open Go.RowKit
set_option linter.unusedVariables false
section
abbrev Bw (a b : World) : Prop := Below a.heap.size a b
theorem zr {B : Nat} {w : World} : Below B w w := Below.refl _ _
theorem zo {p : Prop} (h : p := by omega) : p := h
theorem zs {p : Prop} (h : p := by simp) : p := h
theorem zd {p : Prop} (h : p := by decide) : p := h
theorem zk {p : Prop} (h : p := by kernel_rfl) : p := h
theorem zm {P : Program} {f : FuncId} {args : Array Value} {W : World} {v : Value} {R : World → Prop} {Q : Ending → World → Prop} (h : Calls P f args W fun e w' => e = .returned v ∧ R w') (k : ∀ w', R w' → Q (.returned v) w') : Calls P f args W Q := h.mono fun e w' h => by rw [h.1]; exact k w' h.2
theorem zu {a b c : World} (h : Below a.heap.size a b) (k : Below b.heap.size b c) : Below a.heap.size a c := h.trans (k.mono h.size)
theorem zg {n : Nat} : n ≤ n := Nat.le_refl n
abbrev zc (W : World) (b i : Nat) (v : Value) : Prop := W.cell? ⟨b, i, none⟩ = some v
theorem zp {q p : Prop} (a : q) (h : q → p := by intro _; omega) : p := h a
theorem zi {α : Sort _} {p : α → Prop} (x : α) (h : p x) : p x := h
theorem zx {α : Sort _} (e : α) : ∃ x, e = x := ⟨e, rfl⟩
abbrev tg (t : Array Value) (i : Nat) : Value := t.getD i undef
theorem tgE {t : Array Value} {n : Nat} (hs : t.size = n) (ds : List Deferred) : ({ tmps := t, defers := ds } : Act) = { tmps := ((List.range n).map (tg t)).toArray, defers := ds } := by
  congr 1
  refine Array.ext (by simp [hs]) fun i h1 h2 => ?_
  simp [tg, h1]
theorem zP : (∀ (a : Act) (d : Tmp) (v : Value), a.put (some d) v = { a with tmps := a.tmps.setIfInBounds d v }) ∧ (∀ (a : Act) (v : Value), a.put none v = a) ∧ (type_of% @List.getElem_toArray.{0}) ∧ (type_of% @List.getElem_cons_succ.{0}) ∧ (type_of% @List.getElem_cons_zero.{0}) ∧ (type_of% @List.setIfInBounds_toArray.{0}) ∧ (type_of% @List.set_cons_zero.{0}) ∧ (type_of% @List.set_cons_succ.{0}) := ⟨fun _ _ _ => rfl, fun _ _ => rfl, @List.getElem_toArray.{0}, @List.getElem_cons_succ.{0}, @List.getElem_cons_zero.{0}, @List.setIfInBounds_toArray.{0}, @List.set_cons_zero.{0}, @List.set_cons_succ.{0}⟩
theorem zT {P : Program} {ops : Array Oper} {Q : Exit → Act → World → Prop} {md : Region.Mode} {S : World → Prop} (i : Nat) {oi : Oper} {v : Value} {fuel : Nat} {listed : Array Bool} {a : Act} {w : World} (hy : ∀ w, S w → (execOp a.eval oi).run P w = .ok (.value v) w) (h : wpAnyH P md ops Q S fuel (listed.setIfInBounds i true) (a.put oi.dst v) w) (hi : ops[i]? = some oi := by rfl)
  (hs : Region.noSelect ops = true := by kernel_rfl) (hf : Region.free md ops listed i = true := by kernel_rfl) (hr : (Region.ready md ops listed).contains i = true := by kernel_rfl) (hQ : ∀ c a w, Q (.panic c) (a.put oi.dst v) w → Q (.panic c) a w := by exact fun _ _ _ h => h) (hw : Region.wanted oi (yielded ops a.tmps) = true := by rfl) (hS : S w := by assumption) : wpAnyH P md ops Q S (fuel + 1) listed a w := wpAnyH_take hi hs hf hr hQ (Or.inl ⟨hw, hy⟩) hS h
theorem zS {P : Program} {ops : Array Oper} {Q : Exit → Act → World → Prop} {md : Region.Mode} {S : World → Prop} (i : Nat) {oi : Oper} {fuel : Nat} {listed : Array Bool} {a : Act} {w : World} (h : wpAnyH P md ops Q S fuel (listed.setIfInBounds i true) (a.put oi.dst undef) w) (hi : ops[i]? = some oi := by rfl)
  (hs : Region.noSelect ops = true := by kernel_rfl) (hf : Region.free md ops listed i = true := by kernel_rfl) (hr : (Region.ready md ops listed).contains i = true := by kernel_rfl) (hQ : ∀ c a w, Q (.panic c) (a.put oi.dst undef) w → Q (.panic c) a w := by exact fun _ _ _ h => h) (hw : Region.wanted oi (yielded ops a.tmps) = false := by rfl) (hS : S w := by assumption) : wpAnyH P md ops Q S (fuel + 1) listed a w := wpAnyH_take hi hs hf hr hQ (Or.inr ⟨hw, rfl⟩) hS h
theorem zA.{u} : type_of% @List.getElem_toArray.{u} := @List.getElem_toArray
theorem zB.{u} : type_of% @List.getElem_cons_succ.{u} := @List.getElem_cons_succ
theorem zC.{u} : type_of% @List.getElem_cons_zero.{u} := @List.getElem_cons_zero
theorem zD.{u} : type_of% @List.setIfInBounds_toArray.{u} := @List.setIfInBounds_toArray
theorem zE.{u} : type_of% @List.set_cons_zero.{u} := @List.set_cons_zero
theorem zF.{u} : type_of% @List.set_cons_succ.{u} := @List.set_cons_succ
theorem zzp.{u} : type_of% @List.getElem?_eq_getElem.{u} := @List.getElem?_eq_getElem
theorem zzq.{u} : type_of% @List.getElem?_eq_some_iff.{u} := @List.getElem?_eq_some_iff
theorem zzr.{u} : type_of% @List.getElem_mem.{u} := @List.getElem_mem
theorem zG : type_of% @Nat.le_refl := @Nat.le_refl
theorem zH : type_of% @Nat.lt_of_lt_of_le := @Nat.lt_of_lt_of_le
theorem zI : type_of% @Nat.le_trans := @Nat.le_trans
theorem zzJ : type_of% @World.cell?_of_block := @World.cell?_of_block
theorem zzL : type_of% @World.cell?_setCell_other := @World.cell?_setCell_other
theorem zzM : type_of% @World.frozen?_of_block := @World.frozen?_of_block
theorem zzN : type_of% @World.size_alloc := @World.size_alloc
theorem zzW : type_of% @World.cell?_setCell_same := @World.cell?_setCell_same
theorem zzX : type_of% @Bool.and_eq_true := @Bool.and_eq_true
theorem zzY : type_of% @decide_eq_true_eq := @decide_eq_true_eq
theorem zzZ : type_of% @decide_eq_true := @decide_eq_true
theorem zzd : type_of% @decide_eq_false := @decide_eq_false
theorem zze : type_of% @Bool.eq_iff_iff := @Bool.eq_iff_iff
theorem zzn : type_of% @Nat.zero_add := @Nat.zero_add
theorem zzo : type_of% @Bool.true_and := @Bool.true_and
theorem Ya : type_of% @And.intro := @And.intro
theorem Yb : type_of% @if_neg := @if_neg
theorem Yd : type_of% @if_pos := @if_pos
theorem Ye : type_of% @Below.refl := @Below.refl
theorem Yh : type_of% @bodyPost_ret := @bodyPost_ret
theorem Yi : type_of% @List.length_map := @List.length_map
theorem Yj : type_of% @wp_region_held_drew := @wp_region_held_drew
theorem Yk : type_of% @List.any_eq_true := @List.any_eq_true
theorem Yl : type_of% @List.getElem?_append_right := @List.getElem?_append_right
theorem Ym : type_of% @Below.heap_setCell := @Below.heap_setCell
theorem Yn : type_of% @IntWalk.i64_in := @IntWalk.i64_in
theorem Yo : type_of% @List.getElem?_append_left := @List.getElem?_append_left
theorem Yp : type_of% @List.size_toArray := @List.size_toArray
theorem Ys : type_of% @Bool.or_eq_true := @Bool.or_eq_true
theorem Yt : type_of% @wpAnyH_done := @wpAnyH_done
theorem Yu : type_of% @List.length_cons := @List.length_cons
theorem Yv : type_of% @Bool.false_and := @Bool.false_and
theorem Yw : type_of% @Oper.semAt_some := @Oper.semAt_some
theorem Yx : type_of% @World.size_setCell := @World.size_setCell
theorem Yy : type_of% @List.mem_singleton := @List.mem_singleton
theorem Yz : type_of% @List.getD_eq_getElem?_getD := @List.getD_eq_getElem?_getD
theorem YA : type_of% @List.mem_map := @List.mem_map
theorem YB : type_of% @List.eq_nil_of_length_eq_zero := @List.eq_nil_of_length_eq_zero
theorem YC : type_of% @List.mem_append := @List.mem_append
theorem YD : type_of% @Array.replicate_zero := @Array.replicate_zero
theorem YE : type_of% @Array.replicate_succ := @Array.replicate_succ
theorem YF : type_of% @List.mem_cons := @List.mem_cons
theorem YG : type_of% @List.length_append := @List.length_append
theorem YH : type_of% @List.cons_append := @List.cons_append
theorem YJ : type_of% @List.append_toArray := @List.append_toArray
theorem YK : type_of% @World.size_drew := @World.size_drew
theorem YL : type_of% @Int.toNat_natCast := @Int.toNat_natCast
theorem YN : type_of% @List.mem_of_getElem? := @List.mem_of_getElem?
theorem YO : type_of% @results_none := @results_none
theorem YQ : type_of% @List.push_toArray := @List.push_toArray
theorem YR : type_of% @Bool.false_or := @Bool.false_or
theorem YS : type_of% @List.length_nil := @List.length_nil
theorem YT : type_of% @List.mem_range := @List.mem_range
theorem YU : type_of% @List.take_of_length_le := @List.take_of_length_le
theorem YV : type_of% @Nat.zero_testBit := @Nat.zero_testBit
theorem YW : type_of% @List.take_length := @List.take_length
theorem YX : type_of% @List.length_take := @List.length_take
theorem YY : type_of% @Nat.le_of_lt := @Nat.le_of_lt
theorem YZ : type_of% @Array.getElem?_eq_some_iff := @Array.getElem?_eq_some_iff
theorem Y0 : type_of% @List.nil_append := @List.nil_append
theorem Y2 : type_of% @Nat.testBit_or := @Nat.testBit_or
theorem Y3 : type_of% @Bool.and_false := @Bool.and_false
theorem Y4 : type_of% @Below.heap_alloc := @Below.heap_alloc
theorem Y5 : type_of% @List.mem_filter := @List.mem_filter
theorem Y6 : type_of% @Iff.rfl := @Iff.rfl
theorem Y7 : type_of% @Bool.and_true := @Bool.and_true
theorem Y8 : type_of% @of_decide_eq_true := @of_decide_eq_true
theorem Y9 : type_of% @List.getElem?_map := @List.getElem?_map
theorem Za : type_of% @List.pairwise_iff_getElem := @List.pairwise_iff_getElem
theorem Zb : type_of% @List.filter_append := @List.filter_append
theorem Zc : type_of% @Exit.noGoto_normal := @Exit.noGoto_normal
theorem Zd : type_of% @World.rangeAt_setCells_same := @World.rangeAt_setCells_same
theorem Ze : type_of% @Int.toNat_of_nonneg := @Int.toNat_of_nonneg
theorem Zf : type_of% @Result.andThen_ok := @Result.andThen_ok
theorem Zg : type_of% @List.take_append_drop := @List.take_append_drop
theorem Zi : type_of% @List.mem_flatMap := @List.mem_flatMap
theorem Zj : type_of% @World.frozen?_setCells := @World.frozen?_setCells
theorem Zk : type_of% @Nat.succ_mul := @Nat.succ_mul
theorem Zl : type_of% @List.map_append := @List.map_append
theorem Zm : type_of% @Nat.zero_le := @Nat.zero_le
theorem Zn : type_of% @Nat.add_sub_cancel_left := @Nat.add_sub_cancel_left
theorem Zo : type_of% @Int.eq_ofNat_of_zero_le := @Int.eq_ofNat_of_zero_le
theorem Zp : type_of% @List.foldl_append := @List.foldl_append
theorem Zr : type_of% @run_loadVar_mid := @run_loadVar_mid
theorem Zs : type_of% @List.mem_map_of_mem := @List.mem_map_of_mem
theorem Zt : type_of% @List.getElem_of_mem := @List.getElem_of_mem
theorem Zu : type_of% @decide_eq_decide := @decide_eq_decide
theorem Zv : type_of% @Int.le_refl := @Int.le_refl
theorem Zw : type_of% @List.drop_eq_getElem_cons := @List.drop_eq_getElem_cons
theorem Zx : type_of% @Eq.symm := @Eq.symm
theorem Zy : type_of% @run_storeAt_mid := @run_storeAt_mid
theorem Zz : type_of% @List.nodup_cons := @List.nodup_cons
theorem ZA : type_of% @World.ownsRow_nil := @World.ownsRow_nil
theorem ZB : type_of% @List.length_range := @List.length_range
theorem ZC : type_of% @Sem.run_bind := @Sem.run_bind
theorem ZD : type_of% @beq_eq_false_iff_ne := @beq_eq_false_iff_ne
theorem ZE : type_of% @List.flatMap_append := @List.flatMap_append
theorem ZF : type_of% @List.not_mem_nil := @List.not_mem_nil
theorem ZG : type_of% @Bool.not_eq_true := @Bool.not_eq_true
theorem ZI : type_of% @List.pairwise_cons := @List.pairwise_cons
theorem ZJ : type_of% @Nat.zero_mul := @Nat.zero_mul
theorem ZK : type_of% @Nat.lt_or_ge := @Nat.lt_or_ge
theorem ZL : type_of% @List.range_succ := @List.range_succ
theorem ZM : type_of% @Int.emod_nonneg := @Int.emod_nonneg
theorem ZN : type_of% @Nat.add_assoc := @Nat.add_assoc
theorem ZO : type_of% @List.mem_iff_getElem := @List.mem_iff_getElem
theorem ZP : type_of% @Option.getD_some := @Option.getD_some
theorem ZQ : type_of% @Nat.le_add_right := @Nat.le_add_right
theorem ZR : type_of% @Sem.run_pure := @Sem.run_pure
theorem ZS : type_of% @List.map_nil := @List.map_nil
theorem ZT : type_of% @Nat.eq_zero_or_pos := @Nat.eq_zero_or_pos
theorem ZU : type_of% @List.ne_nil_of_mem := @List.ne_nil_of_mem
theorem ZV : type_of% @decide_eq_false_iff_not := @decide_eq_false_iff_not
theorem ZW : type_of% @World.cell?_setCells_in := @World.cell?_setCells_in
theorem ZY : type_of% @Nat.or_lt_two_pow := @Nat.or_lt_two_pow
theorem ZZ : type_of% @List.flatMap_cons := @List.flatMap_cons
theorem zhA {P : Program} {ops : Array Oper} {Q : Exit → Act → World → Prop} {md : Region.Mode} {S : World → Prop} {fuel : Nat} {listed : Array Bool} {a : Act} {w : World} (i : Nat) {oi : Oper} {v : Value} {a2 : Act} (h : wpAnyH P md ops Q S fuel (listed.setIfInBounds i true) a2 w) (hi : ops[i]? = some oi := by rfl) (hy : ∀ w, S w → (execOp a.eval oi).run P w = .ok (.value v) w := by intro w hSw; (try replace hSw := hSw.out); (try have f := hSw.3); (try have f := hSw.4); (try have f := hSw.5); (try have f := hSw.6); (try have f := hSw.7); (repeat (have f := hSw.1; replace hSw := hSw.2)); go_simp; (try with_reducible rfl)) (ha : a.put oi.dst v = a2 := by (try simp only [zP]); (try rfl)) (hs : Region.noSelect ops = true := by kernel_rfl) (hf : Region.free md ops listed i = true := by kernel_rfl) (hr : (Region.ready md ops listed).contains i = true := by kernel_rfl) (hQ : ∀ c a w, Q (.panic c) (a.put oi.dst v) w → Q (.panic c) a w := by exact fun _ _ _ h => h) (hw : Region.wanted oi (yielded ops a.tmps) = true := by rfl) (hS : S w := by assumption) : wpAnyH P md ops Q S (fuel + 1) listed a w := by subst ha; exact wpAnyH_take hi hs hf hr hQ (Or.inl ⟨hw, hy⟩) hS h
theorem zhC {P : Program} {ops : Array Oper} {Q : Exit → Act → World → Prop} {md : Region.Mode} {S : World → Prop} {fuel : Nat} {listed : Array Bool} {a : Act} {w : World} (i : Nat) {oi : Oper} {v : Value} {a2 : Act} (h : wpAnyH P md ops Q S fuel (listed.setIfInBounds i true) a2 w) (hi : ops[i]? = some oi := by rfl) (hy : ∀ w, S w → (execOp a.eval oi).run P w = .ok (.value v) w := by intro w hSw; cases hSw.out; clear hSw; go_simp; (try with_reducible rfl)) (ha : a.put oi.dst v = a2 := by (try simp only [zP]); (try rfl)) (hs : Region.noSelect ops = true := by kernel_rfl) (hf : Region.free md ops listed i = true := by kernel_rfl) (hr : (Region.ready md ops listed).contains i = true := by kernel_rfl) (hQ : ∀ c a w, Q (.panic c) (a.put oi.dst v) w → Q (.panic c) a w := by exact fun _ _ _ h => h) (hw : Region.wanted oi (yielded ops a.tmps) = true := by rfl) (hS : S w := by assumption) : wpAnyH P md ops Q S (fuel + 1) listed a w := by subst ha; exact wpAnyH_take hi hs hf hr hQ (Or.inl ⟨hw, hy⟩) hS h
theorem zhD {P : Program} {ops : Array Oper} {Q : Exit → Act → World → Prop} {md : Region.Mode} {S : World → Prop} {fuel : Nat} {listed : Array Bool} {a : Act} {w : World} (i : Nat) {oi : Oper} {v : Value} {a2 : Act} (h : wpAnyH P md ops Q S fuel (listed.setIfInBounds i true) a2 w) (hi : ops[i]? = some oi := by rfl) (hy : ∀ w, S w → (execOp a.eval oi).run P w = .ok (.value v) w := by intro w hSw; go_simp; (try with_reducible rfl)) (ha : a.put oi.dst v = a2 := by (try simp only [zP]); (try rfl)) (hs : Region.noSelect ops = true := by kernel_rfl) (hf : Region.free md ops listed i = true := by kernel_rfl) (hr : (Region.ready md ops listed).contains i = true := by kernel_rfl) (hQ : ∀ c a w, Q (.panic c) (a.put oi.dst v) w → Q (.panic c) a w := by exact fun _ _ _ h => h) (hw : Region.wanted oi (yielded ops a.tmps) = true := by rfl) (hS : S w := by assumption) : wpAnyH P md ops Q S (fuel + 1) listed a w := by subst ha; exact wpAnyH_take hi hs hf hr hQ (Or.inl ⟨hw, hy⟩) hS h
theorem zhE {P : Program} {ops : Array Oper} {Q : Exit → Act → World → Prop} {md : Region.Mode} {S : World → Prop} {fuel : Nat} {listed : Array Bool} {a : Act} {w : World} (i : Nat) {oi : Oper} {v : Value} {a2 : Act} (h : wpAnyH P md ops Q S fuel (listed.setIfInBounds i true) a2 w) (hi : ops[i]? = some oi := by rfl) (hy : ∀ w, S w → (execOp a.eval oi).run P w = .ok (.value v) w := by intro w hSw; clear hSw; go_simp; (try with_reducible rfl)) (ha : a.put oi.dst v = a2 := by (try simp only [zP]); (try rfl)) (hs : Region.noSelect ops = true := by kernel_rfl) (hf : Region.free md ops listed i = true := by kernel_rfl) (hr : (Region.ready md ops listed).contains i = true := by kernel_rfl) (hQ : ∀ c a w, Q (.panic c) (a.put oi.dst v) w → Q (.panic c) a w := by exact fun _ _ _ h => h) (hw : Region.wanted oi (yielded ops a.tmps) = true := by rfl) (hS : S w := by assumption) : wpAnyH P md ops Q S (fuel + 1) listed a w := by subst ha; exact wpAnyH_take hi hs hf hr hQ (Or.inl ⟨hw, hy⟩) hS h
theorem zhF {P : Program} {ops : Array Oper} {Q : Exit → Act → World → Prop} {md : Region.Mode} {S : World → Prop} {fuel : Nat} {listed : Array Bool} {a : Act} {w : World} (i : Nat) {oi : Oper} {v : Value} {a2 : Act} {R : World → Prop} (hR : ∀ w, S w → R w) (h : wpAnyH P md ops Q S fuel (listed.setIfInBounds i true) a2 w) (hi : ops[i]? = some oi := by rfl) (hy : ∀ w, R w → (execOp a.eval oi).run P w = .ok (.value v) w := by intro w hSw; (repeat (have f := hSw.1; replace hSw := hSw.2)); go_simp; (try with_reducible rfl)) (ha : a.put oi.dst v = a2 := by (try simp only [zP]); (try rfl)) (hs : Region.noSelect ops = true := by kernel_rfl) (hf : Region.free md ops listed i = true := by kernel_rfl) (hr : (Region.ready md ops listed).contains i = true := by kernel_rfl) (hQ : ∀ c a w, Q (.panic c) (a.put oi.dst v) w → Q (.panic c) a w := by exact fun _ _ _ h => h) (hw : Region.wanted oi (yielded ops a.tmps) = true := by rfl) (hS : S w := by assumption) : wpAnyH P md ops Q S (fuel + 1) listed a w := by subst ha; exact wpAnyH_take hi hs hf hr hQ (Or.inl ⟨hw, (fun w h => hy w (hR w h))⟩) hS h
theorem zhS {P : Program} {ops : Array Oper} {Q : Exit → Act → World → Prop} {md : Region.Mode} {S : World → Prop} {fuel : Nat} {listed : Array Bool} {a : Act} {w : World} (i : Nat) {oi : Oper} {a2 : Act} (h : wpAnyH P md ops Q S fuel (listed.setIfInBounds i true) a2 w) (hi : ops[i]? = some oi := by rfl) (ha : a.put oi.dst undef = a2 := by (try simp only [zP]); (try rfl)) (hs : Region.noSelect ops = true := by kernel_rfl) (hf : Region.free md ops listed i = true := by kernel_rfl) (hr : (Region.ready md ops listed).contains i = true := by kernel_rfl) (hQ : ∀ c a w, Q (.panic c) (a.put oi.dst undef) w → Q (.panic c) a w := by exact fun _ _ _ h => h) (hw : Region.wanted oi (yielded ops a.tmps) = false := by rfl) (hS : S w := by assumption) : wpAnyH P md ops Q S (fuel + 1) listed a w := by subst ha; exact wpAnyH_take hi hs hf hr hQ (Or.inr ⟨hw, rfl⟩) hS h
theorem zhB {P : Program} {ops : Array Oper} {Q : Exit → Act → World → Prop} {md : Region.Mode} {S : World → Prop} {fuel : Nat} {listed : Array Bool} {a : Act} {w : World} (i : Nat) {oi : Oper} {v : Value} {a2 : Act} (h : wpAnyH P md ops Q S fuel (listed.setIfInBounds i true) a2 w) (hi : ops[i]? = some oi := by rfl) (hy : ∀ w, S w → (execOp a.eval oi).run P w = .ok (.value v) w := by intro w hSw; (try dsimp only [RMS] at hSw); go_simp; (try with_reducible rfl)) (ha : a.put oi.dst v = a2 := by (try simp only [zP]); (try rfl)) (hs : Region.noSelect ops = true := by kernel_rfl) (hf : Region.free md ops listed i = true := by kernel_rfl) (hr : (Region.ready md ops listed).contains i = true := by kernel_rfl) (hQ : ∀ c a w, Q (.panic c) (a.put oi.dst v) w → Q (.panic c) a w := by exact fun _ _ _ h => h) (hw : Region.wanted oi (yielded ops a.tmps) = true := by rfl) (hS : S w := by assumption) : wpAnyH P md ops Q S (fuel + 1) listed a w := by subst ha; exact wpAnyH_take hi hs hf hr hQ (Or.inl ⟨hw, hy⟩) hS h
theorem zzK {P : Program} {ops : Array Oper} {Q : Exit → Act → World → Prop} {md : Region.Mode} {S : World → Prop} {fuel : Nat} {listed : Array Bool} {a : Act} {w : World} (i : Nat) {o : Oper} (h : ∀ K' : Act → World → Prop, Shut (∀ a w, S w → (S w → wpAnyH P md ops Q S fuel (listed.setIfInBounds i true) a w) → K' a w) → if Region.wanted o (yielded ops a.tmps) = true then Oper.wp P o a w K' Q else K' (a.put o.dst undef) w) (ho : ops[i]? = some o := by rfl) (hr : Region.ready md ops listed = [i] := by kernel_rfl) : wpAnyH P md ops Q S (fuel + 1) listed a w := wpAnyH_ready hr (by simp) (AllReadyH.cons ho h AllReadyH.nil)
abbrev zl0 : Array Value := #[.int .i64 0, .int .i64 0, .int .i64 0, .int .i64 0, .int .i64 0, .slice none 0 0, .slice none 0 0, .slice none 0 0, .slice none 0 0, .slice none 0 0, .slice none 0 0]
abbrev zl1 : Array Value := #[.int .i64 0, .int .i64 0, .int .i64 0, .int .i64 0, .int .i64 0, .int .i64 0, .int .i64 0]
abbrev zl2 : Array Value := #[.int .u64 0, .int .u64 0, .int .u64 0, .int .u64 0, .int .u64 0, .int .u64 0, .int .u64 0, .int .u64 0, .int .u64 0, .int .u64 0, .int .u64 0, .int .u64 0, .int .u64 0, .int .u64 0, .int .u64 0, .int .u64 0, .int .u64 0, .int .u64 0, .int .u64 0, .int .u64 0, .int .u64 0, .int .u64 0, .int .u64 0, .int .u64 0, .int .u64 0, .int .u64 0, .int .u64 0, .int .u64 0, .int .u64 0, .int .u64 0, .int .u64 0, .int .u64 0, .int .u64 0, .int .u64 0, .int .u64 0, .int .u64 0, .int .u64 0, .int .u64 0, .int .u64 0, .int .u64 0, .int .u64 0, .int .u64 0, .int .u64 0, .int .u64 0, .int .u64 0, .int .u64 0, .int .i64 0, .int .i64 0, .int .i64 0, .bool false, .bool false]
abbrev zl3 : Array Value := #[.bool false, .int .i64 0, .int .i64 0, .bool false, .int .i64 0, .int .i64 0, .bool false, .int .i64 0, .int .i64 0, .bool false, .int .i64 0, .int .i64 0, .bool false, .int .i64 0, .int .i64 0, .bool false, .int .i64 0, .int .i64 0, .bool false, .int .i64 0, .int .i64 0]
abbrev zl4 : Array Value := #[.bool false, .int .i64 0, .int .i64 0, .bool false, .int .i64 0, .int .i64 0, .bool false, .int .i64 0, .int .i64 0]
abbrev zl5 : Array Value := #[.bool false, .int .i64 0, .int .i64 0, .int .i64 0, .bool false, .int .i64 0, .int .i64 0, .int .i64 0, .bool false, .int .i64 0, .int .i64 0, .int .i64 0, .bool false, .int .i64 0, .int .i64 0, .int .i64 0, .bool false, .int .i64 0, .int .i64 0, .int .i64 0, .bool false, .int .i64 0, .int .i64 0, .int .i64 0, .bool false, .int .i64 0, .int .i64 0, .int .i64 0, .bool false, .int .i64 0, .int .i64 0, .int .i64 0]
variable {an:Array Oper} {Qq:Exit->Act->World->Prop} {rest:List Oper} {cs news xs:List Value} {B b base bytes c cap k m n s size:Nat} {o:Oper} {a ax:Option Addr} {row:Option Nat} {P:Program} {e t:TypeId} {u v z:Value} {W w w':World}
theorem hid {p:Prop} (h:p):Hid p:=h
def Sl (w:World) (a:Option Addr) (cs:List Value):Prop:=
 cs= []\/ ∃b off,a=G (Z b off N)/\b<w.heap.size/\∀j (h:j<cs.length),w.cell? (Z b (off+j) N)=G cs[j]
theorem Sl.nil (w:World) (a:Option Addr):Sl w a []:= .inl rfl
theorem Sl.below (h:Sl w a cs) (hb:Bw w w'):Sl w' a cs:=by
 rcases h with h | ⟨b,off,rfl,hlt,hc⟩
 ·exact .inl h
 ·exact .inr ⟨b,off,rfl,zH hlt hb.size,λ j hj=>(hb.cell (p:=Z b (off+j) N) hlt).trans (hc j hj)⟩
theorem Sl.at (h:Sl w a cs) (hk:k<cs.length) :
  ∃b off,a=G (Z b off N)/\b<w.heap.size/\∀j (h:j<cs.length),w.cell? (Z b (off+j) N)=G cs[j]:=by
 rcases h with h | h
 ·subst h;simp at hk
 ·exact h
def yaR (l:List Int):List Value:=l.map (Value.int T)
theorem yaX (l:List Int):(yaR l).length=l.length:=by simp [yaR]
theorem ygY (l m:List Int):yaR (l++m)=yaR l++yaR m:=by simp [yaR]
theorem ytQ (x:Int):yaR [x]= [E T x]:=rfl
theorem Sl.atInt {l:List Int} (h:Sl w a (yaR l)) (hk:k<l.length) :
  ∃b off,a=G (Z b off N)/\b<w.heap.size/\∀j (h:j<l.length),w.cell? (Z b (off+j) N)=G (E T l[j]):=by
 obtain ⟨b,off,rfl,hlt,hc⟩:=Sl.at h (k:=k) (by rw [yaX];exact hk);refine ⟨b,off,rfl,hlt,λ j hj=>?_⟩;rw [hc j (by rw [yaX];exact hj)];simp [yaR]
theorem ya5 (h:w.ownsRow base e s v n xs) :
  ∃a cap,v=Xs a n cap/\Sl w a xs/\n<=maxLen:=by
 obtain ⟨hl,h⟩:=h;rcases h with ⟨rfl,rfl⟩ | ⟨g,cap,al,rfl,hb,hg,ar,aw,av,ht⟩
 ·refine ⟨N,0,rfl, .inl ?_,by unfold maxLen;omega⟩;exact YB (by simpa using hl)
 ·refine ⟨_,cap,rfl, .inr ⟨g,0,rfl,(YZ.1 hg).1,λ j hj=>?_⟩,zI ar aw⟩;have:=World.ownsRow.cellAt (w:=w) (base:=base) (e:=e) (size:=s) (g:=g) (n:=n) (cap:=cap) (xs:=xs)
   ⟨hl, .inr ⟨g,cap,al,rfl,hb,hg,ar,aw,av,ht⟩⟩ j (by rw [<- hl];exact hj)
  rw [zzn,this,zzp hj]
theorem ylo (h:w.ownsRow base e s (Xs a m cap) n xs):Sl w a xs:=by
 obtain ⟨a',c',e,hs,_⟩:=ya5 h;simp only [Value.slice.injEq] at e;rw [e.1];exact hs
theorem yd0 (h:w.ownsRow base e s v n xs) (hb:Below B w w') (hB:w.heap.size<=B):w'.ownsRow base e s v n xs:=by
 refine h.kept (row:=N) ⟨hb.os,hb.tape,hb.output,hb.size,λ k hk _=>hb.block k zo⟩ ?_;cases hv:v.ownBlock <;> simp
theorem ydE {ai:Nat} (h:w.ownsRow base e s v n xs) (hb:ai<=base):w.ownsRow ai e s v n xs:=by
 refine ⟨h.1,?_⟩;rcases h.2 with h | ⟨g,cap,al,rfl,hg,r⟩
 ·exact .inl h
 ·exact .inr ⟨g,cap,al,rfl,by omega,r⟩
theorem Below.of_grown (hg:w.grownBy w' row) (hB:B<=w.heap.size) (hr:∀k,row=G k->B<=k):Below B w w':=
 (Ye B w).grown hg hB hr
theorem ydl {a b c:World} (h:a.grownBy b row) (k:b.grownBy c row):a.grownBy c row:=
 ⟨k.os.trans h.os,k.tape.trans h.tape,k.output.trans h.output,zI h.size k.size,λ i hi hn=>(k.block i (zH hi h.size) hn).trans (h.block i hi hn)⟩
structure El (P:Program) (t e:TypeId) (z:Value) (size bytes:Nat):Prop where
 ht:P.underlying t=G (.slice e)
 hi:(P.info? e).map (λ i=>(i.zero,i.size,i.bytes))=G (G z,size,bytes)
 hzs:z.cells.size=size
 hsz:0<size
theorem yl0 (w:World) (o:Obj) (h:w.ownsRow base e s v n xs):(w.alloc o).ownsRow base e s v n xs:=h.alloc o
theorem ylk (Eq1:El P t e z size bytes) (w:World) (ty:TypeId) (ab:w.ownsRow base e size v n xs)
    (hl:news.length=m*size) (aj:Sl w ax news) (af:ax=N->c=0) (h1:∀u∈news,u.oneCell' =true)
  (hn:n+m<=1000000000000) (ak:(n+m)*bytes<=140737488355328) (ac:base<=w.heap.size) :
  ∃a' aa w',(Builtin.append_ #[t,t] ty #[v,Xs ax m c]).run P w= .ok (Xs a' (n+m) aa) w'/\w'.ownsRow base e size (Xs a' (n+m) aa) (n+m) (xs++news)/\w.grownBy w' v.ownBlock/\
   Below base w w'/\(∀k,Value.ownBlock (Xs a' (n+m) aa)=G k->v.ownBlock=G k\/ w.heap.size<=k):=by
 obtain ⟨i,hi,aq,ao,ap⟩:=info_parts Eq1.hi;have am:n+m<=maxLen:=by unfold maxLen;omega
 have ay:∀w',w.grownBy w' v.ownBlock->Below base w w':=λ w' hg=>Below.of_grown hg ac (λ k hk=>(ab.lt k hk).1);have key:∀ad,(∀j u,news[j]? =G u->w.cell? (Addr.add ad j)=G u)->
   ∃a' aa w',(Builtin.append_ #[t,t] ty #[v,Xs (G ad) m c]).run P w= .ok (Xs a' (n+m) aa) w'/\w'.ownsRow base e size (Xs a' (n+m) aa) (n+m) (xs++news)/\w.grownBy w' v.ownBlock/\
   Below base w w'/\(∀k,Value.ownBlock (Xs a' (n+m) aa)=G k->v.ownBlock=G k\/ w.heap.size<=k):=by
  intro ad ae;obtain ⟨v',w',hr,ho,hg,aC⟩:=run_append_own (P:=P) w base t ty e i z size bytes Eq1.ht hi aq ao ap Eq1.hzs Eq1.hsz v n xs ab ad m c news hl ae h1 am ak ac;obtain ⟨a',aa,rfl,_,_⟩:=ya5 ho;refine ⟨a',aa,w',hr,ho,hg,ay w' hg,?_⟩;intro k hk;rcases ab.2 with ⟨rfl,rfl⟩ | ⟨g,cap,al,rfl,aG,aE,ar,aw,av,az⟩
  ·obtain ⟨v2,w2,ah,aA,_,_⟩:=run_append_own (P:=P) w w.heap.size t ty e i z size bytes Eq1.ht hi aq ao ap Eq1.hzs Eq1.hsz (Xs N 0 0) 0 xs ⟨ab.1, .inl ⟨rfl,rfl⟩⟩ ad m c news hl ae h1 am ak zg;rw [hr] at ah;cases ah;exact .inr (aA.lt k hk).1
  ·by_cases ag:n+m<=cap
   ·subst ao;have ah:=run_append_room (P:=P) w t ty e i Eq1.ht hi g n cap al aE ad m c news hl ae h1 ag (by rw [hl,av,<- Nat.add_mul];exact Nat.mul_le_mul_right _ ag);rw [hr] at ah;cases ah;exact .inl hk
   ·subst ao;subst ap;have ah:=run_append_grow (P:=P) w t ty e i z Eq1.ht hi aq (Z g 0 N) n cap xs ab.1 (ab.cells (g:=g) rfl) ad m c news hl ae zo zo (growslice_fits zo ak);rw [hr] at ah;cases ah;simp [Value.ownBlock] at hk;exact .inr zo
 rcases aj with rfl | ⟨b,off,rfl,hb,hc⟩
 ·cases ax with
  | some ad=>exact key ad (λ j u hu=>by simp at hu)
  | none=>
    have hm:m=0:=by
     rcases ZT m with h | h
     ·exact h
     ·have:=Nat.mul_pos h Eq1.hsz;simp at hl;omega
    subst hm;rw [af rfl];have hr:=run_append_owned_none (P:=P) w base t ty e i size Eq1.ht hi v n xs ab;obtain ⟨a',aa,rfl,_,_⟩:=ya5 ab;exact ⟨a',aa,w,hr,by simpa using ab,World.grownBy.refl _ _,Ye _ _,λ k hk=> .inl hk⟩
 ·refine key _ (λ j u hu=>?_);obtain ⟨hj,rfl⟩:=zzq.1 hu;rw [<- hc j hj,Addr.add_lit]
theorem yAi (Eq1:El P t e z size bytes) {a:Act} (s x:Operand)
  (au:o.guard=N) (ho:o.op= .call {callee:= .builtin .append,args:=#[s,x],argTypes:=#[t,t]})
      (hs:a.eval s=v) (hx:a.eval x=Xs ax m c) (ab:W.ownsRow base e size v n xs)
  (hl:news.length=m*size) (aj:Sl W ax news) (af:ax=N->c=0) (h1:∀u∈news,u.oneCell' =true)
  (hn:n+m<=1000000000000) (ak:(n+m)*bytes<=140737488355328) (ac:base<=W.heap.size)
  (K:∀a' aa w',w'.ownsRow base e size (Xs a' (n+m) aa) (n+m) (xs++news)->W.grownBy w' v.ownBlock->Below base W w'->
    (∀k,Value.ownBlock (Xs a' (n+m) aa)=G k->v.ownBlock=G k\/ W.heap.size<=k)->wpList P an Qq rest (a.put o.dst (Xs a' (n+m) aa)) w') :
  wpList P an Qq (o::rest) a W:=by
 refine wpList_plain au λ K' aF=>?_;obtain ⟨a',aa,w',hr,aB,hg,hb,hf⟩:=ylk Eq1 W o.type ab hl aj af h1 hn ak ac;unfold Oper.wp execOp;simp only [ho,resolve,invoke,builtin,ZC,ZR,Zf,List.map_toArray,List.map_cons,ZS,hs,hx,hr];exact aF _ _ (K a' aa w' aB hg hb hf)
theorem yAj (Eq1:El P t e z 1 bytes) {a:Act} (s x:Operand)
  (au:o.guard=N) (ho:o.op= .call {callee:= .builtin .append,args:=#[s,x],argTypes:=#[t,t]})
     (hs:a.eval s=v) {g:Nat} (hx:a.eval x=Xs (G (Z g 0 N)) 1 1) (hg:g=W.heap.size) (ab:W.ownsRow base e 1 v n xs) (hu:u.oneCell' =true)
  (hn:n+1<=1000000000000) (ak:(n+1)*bytes<=140737488355328) (ac:base<=W.heap.size)
  (K:∀a' aa w',w'.ownsRow base e 1 (Xs a' (n+1) aa) (n+1) (xs ++ [u])->W.grownBy w' v.ownBlock->Below base W w'->
    (∀k,Value.ownBlock (Xs a' (n+1) aa)=G k->v.ownBlock=G k\/ W.heap.size<=k)->wpList P an Qq rest (a.put o.dst (Xs a' (n+1) aa)) w') :
  wpList P an Qq (o::rest) a (W.alloc (J #[u] e)):=by
 subst hg;refine yAi Eq1 s x au ho hs hx (ab.alloc _) (news:= [u]) rfl ?_ (λ h=>by cases h) ?_ hn ak (by simp;omega) ?_
 ·refine .inr ⟨W.heap.size,0,rfl,by simp,λ j hj=>?_⟩;have:j=0:=by simp at hj;omega
  subst this;simp
 ·intro y hy;simp at hy;subst hy;exact hu
 ·intro a' aa w' h1 h2 h3 h4;refine K a' aa w' h1 (ydl (World.grownBy_alloc W _ _) h2) (((Ye base W).alloc ac _).trans h3) (λ k hk=>?_);rcases h4 k hk with h | h
  ·exact .inl h
  ·refine .inr (zI ?_ h);simp
theorem yqp (h:w.ownsRow base e s (Xs a m cap) n xs):a=N->cap=0:=by
 intro ha;subst ha;rcases h.2 with ⟨h,_⟩ | ⟨g,c,al,h,_⟩
 ·cases h;rfl
 ·cases h
theorem yel {f:FuncId} {args:Array Value} {Tq:TypeId} {Nq:Nat}
  (h:H P f args w λ e w'=>∃v,e=Q v/\w'.ownsRow B Tq s v Nq xs/\Bw w w') :
  H P f args w λ e w'=>∃a n cap,e=Q (Xs a n cap)/\Hid (n=Nq)/\Sl w' a xs/\w'.ownsRow B Tq s (Xs a n cap) n xs/\Bw w w':=
 h.mono λ e w' ⟨v,he,ho,hb⟩=>by
  obtain ⟨a,cap,rfl,hs,_⟩:=ya5 ho;exact ⟨a,Nq,cap,he,rfl,hs,ho,hb⟩
theorem yab {a:World} {o:Nat} (h:Below B a w) (hb:B<=b):Below B a (w.setCell (Z b o N) u):=Below.setCell h (p:=Z b o N) hb u
theorem yaa {a:World} {o:Obj} (h:Below B a w) (hb:B<=w.heap.size):Below B a (w.alloc o):=h.alloc hb o
theorem w64 (x:Int) (h:-9223372036854775808<=x/\x<=9223372036854775807):wrap64 x=x:=by unfold wrap64;omega
theorem yh3 {o:Nat} (hg:w.grownBy w' row) (h:w.cell? (Z b o N)=G v) (aD:row≠G b):w'.cell? (Z b o N)=G v:=
 hg.cell h (λ e=>aD e.symm)
theorem yal {α:Type} (l:List α) (k:Nat) (h:k<l.length):l.take (k+1)=l.take k ++ [l[k]]:=by
 rw [List.take_succ_eq_append_getElem h]
theorem ycq {a b:Bool} (h:a=b):Ending.returned (Xb a)=Q (Xb b):=by rw [h]
theorem ya9 {a:World} (h:Below B a w) (n:Nat):Below B a (w.drewN n):=h.trans ⟨rfl,rfl,rfl,zG _,λ _ _=>rfl⟩
end
section
variable {a b m n:Nat} {p:Nat->Bool}
def yeb (p:Nat->Bool):Nat->Nat
 | 0=>0
 | n+1=>yeb p n+(if p n then 2 ^ n else 0)
theorem yj3 (p:Nat->Bool) (n:Nat):yeb p n<2 ^ n:=by
 induction n with
 | zero=>simp [yeb]
 | succ n ih=>rw [yeb,Nat.pow_succ];split <;> omega
theorem ylv (p:Nat->Bool) (n i:Nat):(yeb p n).testBit i= (decide (i<n)&&p i):=by
 induction n with
 | zero=>simp [yeb]
 | succ n ih=>
   have hlt:=yj3 p n;rw [yeb];by_cases hp:p n=true
   ·rw [Yd hp,Nat.add_comm];by_cases hi:i=n
    ·subst hi;rw [Nat.testBit_two_pow_add_eq,Nat.testBit_lt_two_pow hlt];simp [hp]
    ·rcases Nat.lt_or_gt_of_ne hi with h | h
     ·rw [Nat.testBit_two_pow_add_gt h,ih];simp [h,show i<n+1 by omega]
     ·have:(2 ^ n+yeb p n)<2 ^ i:=zH (by omega:2 ^ n+yeb p n<2 ^ (n+1)) (Nat.pow_le_pow_right zo zo)
      rw [Nat.testBit_lt_two_pow this];simp [show¬i<n+1 by omega]
   ·rw [Yb hp,Nat.add_zero,ih];by_cases hi:i=n
    ·subst hi;simp [Bool.eq_false_iff.2 hp]
    ·by_cases h:i<n
     ·simp [h,show i<n+1 by omega]
     ·simp [h,show¬i<n+1 by omega]
def mk (p:Nat->Bool):Nat:=yeb p 64
theorem yaG (p:Nat->Bool):mk p<18446744073709551616:=yj3 p 64
theorem yaW (p:Nat->Bool) (i:Nat):(mk p).testBit i= (decide (i<64)&&p i):=ylv p 64 i
theorem ydT {i:Nat} (hm:m<18446744073709551616) (hi:64<=i):m.testBit i=false:=
 Nat.testBit_lt_two_pow (zH hm (Nat.pow_le_pow_right (n:=2) zo hi))
theorem yf4 (hm:m<18446744073709551616) (h:∀i,i<64->m.testBit i=p i):m=mk p:=by
 apply Nat.eq_of_testBit_eq;intro i;rw [yaW];by_cases hi:i<64
 ·rw [h i hi];simp [hi]
 ·rw [ydT hm zo];simp [hi]
theorem ybm {q:Nat->Bool} (h:∀i,i<64->p i=q i):mk p=mk q:=
 yf4 (yaG p) (λ i hi=>by rw [yaW];simp [hi,h i hi])
theorem yct:mk (λ _=>false)=0:=(yf4 zo (λ i _=>by simp)).symm
theorem ybp (ha:a<18446744073709551616):(BitVec.ofInt 64 (a:Int)).toNat=a:=by
 rw [BitVec.ofInt_natCast,BitVec.toNat_ofNat];exact Nat.mod_eq_of_lt zo
theorem ybT (ha:a<18446744073709551616):IntKind.u64.wrap (a:Int)=a:=by
 rw [IntKind.wrap_u64];omega
theorem ybD (ha:a<18446744073709551616) (hb:b<18446744073709551616):bits .or Y (a:Int) (b:Int)= ((a|||b:Nat):Int):=by
 show IntKind.u64.wrap ((BitVec.ofInt 64 (a:Int)|||BitVec.ofInt 64 (b:Int)).toNat:Int)= _;rw [BitVec.toNat_or,ybp ha,ybp hb];exact ybT (ZY (n:=64) ha hb)
theorem ybo (ha:a<18446744073709551616) (hb:b<18446744073709551616):bits .and Y (a:Int) (b:Int)= ((a&&&b:Nat):Int):=by
 show IntKind.u64.wrap ((BitVec.ofInt 64 (a:Int)&&&BitVec.ofInt 64 (b:Int)).toNat:Int)= _;rw [BitVec.toNat_and,ybp ha,ybp hb];exact ybT (Nat.lt_of_le_of_lt Nat.and_le_left ha)
theorem ygM (ha:a<18446744073709551616) (hb:b<18446744073709551616):a|||b<18446744073709551616:=ZY (n:=64) ha hb
theorem yhb (ha:a<18446744073709551616):a&&&b<18446744073709551616:=Nat.lt_of_le_of_lt Nat.and_le_left ha
theorem ycD (h:n<64):2 ^ n<18446744073709551616:=Nat.pow_lt_pow_right (a:=2) (m:=n) (n:=64) zo h
theorem yb9 (h:n<64):IntKind.u64.wrap ((2:Int) ^ n)= ((2 ^ n:Nat):Int):=by
 have e:((2:Int) ^ n)= ((2 ^ n:Nat):Int):=by simp
 rw [e];exact ybT (ycD h)
theorem ywN (hm:m<18446744073709551616):(bits .and Y ((m:Int)/2 ^ n) 1==1)=m.testBit n:=by
 have e:((m:Int)/2 ^ n)= ((m/2 ^ n:Nat):Int):=by simp
 have h:=ybo (a:=m/2 ^ n) (b:=1) (Nat.lt_of_le_of_lt (Nat.div_le_self _ _) hm) zo;rw [e,show (1:Int)= ((1:Nat):Int) from rfl,h,Nat.and_one_is_mod,Nat.testBit_eq_decide_div_mod_eq];rw [zze];simp;omega
end
def ya8 (m:Nat) (n:Int):Bool:=decide (0<=n)&&m.testBit n.toNat
theorem yew (m:Nat) (n:Int) (w:World) (hm:m<18446744073709551616):H I 125 #[E Y m,E T n] w λ e w'=>e=Q (Xb (ya8 m n))/\w=w':=by
 have hb:=λ k=>ywN (n:=k) hm;have Hb:=hid hb;have Hm:=hid (λ i (hi:64<=i)=>ydT hm hi);clear hb;by_cases h0:n<0
 ·have hr:Hid (ya8 m n=false):=by show ya8 m n=false;simp [ya8];omega
  go_enter Tryz.func125,Tryz.ntmps125
  go_wp2;go_ret;rw [hr];exact ⟨rfl,rfl⟩
 by_cases h1:64<=n
 ·have hr:Hid (ya8 m n=false):=by show ya8 m n=false;rw [ya8,Hm n.toNat zo];simp
  go_enter Tryz.func125,Tryz.ntmps125
  go_wp2;go_ret;rw [hr];exact ⟨rfl,rfl⟩
 obtain ⟨k,rfl⟩:=Zo (by omega:0<=n);have hr:Hid (ya8 m (k:Int)=m.testBit k):=by show ya8 m (k:Int)=m.testBit k;simp [ya8]
 go_enter Tryz.func125,Tryz.ntmps125
 go_wp2;go_ret;rw [hr,Hb];exact ⟨rfl,rfl⟩
def inB (l:List Int) (k:Nat):Bool:=decide ((k:Int)∈l)
def ofM (l:List Int):Nat:=mk (inB l)
theorem yno (l:List Int) (x:Int) (k:Nat):inB (l ++ [x]) k= (inB l k||decide ((k:Int)=x)):=by simp [inB]
theorem yqx (l:List Int) (x:Int) (h:x<0\/ 64<=x):ofM (l ++ [x])=ofM l:=
 ybm λ i hi=>by rw [yno];simp;omega
theorem ym8 (l:List Int) (k:Nat) (h:k<64):ofM l|||2 ^ k=ofM (l ++ [(k:Int)]):=by
 refine yf4 (ygM (yaG _) (ycD h)) (λ i hi=>?_);rw [Y2,ofM,yaW,yno,Nat.testBit_two_pow];simp [hi];by_cases h2:i=k
 ·subst h2;simp
 ·have h3:¬k=i:=λ e=>h2 e.symm;have h4:¬(i:Int)= (k:Int):=zo;simp [h3,h4]
theorem yqy:ofM []=0:=by rw [ofM,<- yct];exact ybm λ i _=>by simp [inB]
theorem yev (a:Option Addr) (cap:Nat) (l:List Int) (w:World) (hl:l.length<=9223372036854775807) (hs:Sl w a (yaR l)) :
  H I 92 #[Xs a l.length cap] w λ e w'=>e=Q (E Y (ofM l))/\Bw w w':=by
 go_enter Tryz.func92,Tryz.ntmps92
 go_wp2;go_loopw [3,8] (λ v i wr=>∃k:Nat,i=E T k/\k<=l.length/\v=E Y (ofM (l.take k))/\Bw w wr) (λ _ i _=>l.length-(intOf i).toNat)
 case atStart=>exact ⟨0,rfl,by omega,by rw [List.take_zero,yqy];rfl,Ye _ _⟩
 case round=>
  obtain ⟨k,rfl,hk,rfl,hB⟩:=hrel;obtain ⟨M,hM⟩:=zx (ofM (l.take k));have HM:=hid hM;by_cases hlt:k<l.length
  ·obtain ⟨b,off,rfl,hb,hc⟩:=hs.atInt hlt;have e1:=(hB.cell (p:=Z b (off+k) N) hb).trans (hc k hlt);have ht:=hid (yal l k hlt);obtain ⟨x,hx⟩:=zx (l[k]);rw [hx] at e1 ht;rw [hM];have ac:M<18446744073709551616:=(by rw [<- hM];exact yaG _);clear hs hc hx hM;by_cases h0:x<0
   ·go_wp2;exact ⟨⟨k+1,by go_num,by omega,by rw [ht,yqx _ _ (.inl h0),HM],hB⟩,by simp [intOf];omega⟩
   by_cases h1:64<=x
   ·go_wp2;exact ⟨⟨k+1,by go_num,by omega,by rw [ht,yqx _ _ (.inr h1),HM],hB⟩,by simp [intOf];omega⟩
   obtain ⟨n,rfl⟩:=Zo (by omega:0<=x);have hn:n<64:=zo;have aa:=ybD ac (ycD hn);rw [<- HM,ym8 _ _ hn,HM] at aa;have ad:=hid aa;clear aa;go_wp2;exact ⟨⟨k+1,by go_num,by omega,by rw [ht,yb9 hn,ad],hB⟩,by simp [intOf];omega⟩
  ·have ab:k=l.length:=zo;have ae:=hid ab;clear ab hM;go_wp2;go_ret;rw [ae,YW];exact ⟨rfl,hB⟩
def yd9 (f t s:Int) (k:Nat):Bool:=decide (1<=s/\f<=(k:Int)/\(k:Int)<=t/\((k:Int)-f)%s=0)
def ybG (f t s:Int):Nat:=mk (yd9 f t s)
def yeA (f t s:Int) (n:Nat):Nat:=mk (λ k=>yd9 f t s k&&decide (k<n))
theorem ygP {a b s:Int} (hs:1<=s) (ha:a%s=0) (hb:b%s=0) (h1:a<b) (h2:b<a+s):False:=by
 have h:=Int.emod_emod_of_dvd (b-a) (Int.dvd_refl s);have h3:(b-a)%s=0:=by rw [Int.sub_emod,ha,hb];simp
 have h4:(b-a)%s=b-a:=Int.emod_eq_of_lt zo zo;omega
theorem ydf (f t s:Int) (n:Nat) (hs:1<=s) (aj:n<64) (hf:f<=(n:Int)) (ht:(n:Int)<=t) (hm:((n:Int)-f)%s=0) (q:Nat) (hq:(q:Int)=n+s\/ 64<=q/\(q:Int)<=n+s) :
  yeA f t s n|||2 ^ n=yeA f t s q:=by
 refine yf4 (ygM (yaG _) (ycD aj)) (λ k hk=>?_);rw [Y2,yeA,yaW,Nat.testBit_two_pow];by_cases af:n=k
 ·subst af;have:yd9 f t s n=true:=by simp only [yd9,zzY];exact ⟨hs,hf,ht,hm⟩
  simp [this];omega
 ·rcases Nat.lt_or_gt_of_ne af with h | h
  ·by_cases hb:yd9 f t s k=true
   ·simp only [yd9,zzY] at hb;have aD:¬(k:Int)<n+s:=λ h2=>ygP hs hm hb.2.2.2 zo zo;have e1:¬k<n:=zo;have e2:¬k<q:=zo;simp [af,e1,e2]
   ·simp [hb,af]
  ·have e1:k<n:=h;have e2:k<q:=zo;simp [af,e1,e2,hk]
theorem ydX (f t s:Int) (n:Nat) (h:64<=n\/ t<(n:Int)):yeA f t s n=ybG f t s:=
 ybm λ k hk=>by
  rcases h with h | h
  ·simp [show k<n by omega]
  ·by_cases hb:yd9 f t s k=true
   ·simp only [yd9,zzY] at hb;simp [show k<n by omega]
   ·simp [hb]
theorem yfH (f t s:Int) (n:Nat) (hs:1<=s) (hm:((n:Int)-f)%s=0) (h:(n:Int)=f\/ (n:Int)<s):yeA f t s n=0:=by
 rw [<- yct];refine ybm λ k hk=>?_;by_cases hb:yd9 f t s k=true
 ·simp only [yd9,zzY] at hb;have:¬k<n:=by
   intro af;rcases h with h | h
   ·omega
   ·exact ygP hs hb.2.2.2 hm zo zo
  simp [this]
 ·simp [hb]
theorem yp3 (f t s:Int) (h:s<1):ybG f t s=0:=by
 rw [ybG,<- yct];exact ybm λ k _=>by simp [yd9];omega
theorem ycw (f t s:Int) (w:World) (hf:-9223372036854775808<=f/\f<=9223372036854775807) (ax:s<=9223372036854775807) :
  H I 106 #[E T f,E T t,E T s] w λ e w'=>e=Q (E Y (ybG f t s))/\w=w':=by
 obtain ⟨aC,aB⟩:=hf;by_cases hs:s<1
 ·have hr:=hid (yp3 f t s hs);go_enter Tryz.func106,Tryz.ntmps106
  go_wp2;go_ret;rw [hr];exact ⟨rfl,rfl⟩
 by_cases h0:f<0
 ·obtain ⟨r,hr⟩:=zx ((f+1).tmod s);have au:-s<r/\r<=0:=by
   subst hr;rw [show f+1= -(-(f+1)) by omega,Int.neg_tmod,Int.tmod_eq_emod_of_nonneg zo];have:=ZM (-(f+1)) (show s≠0 by omega);have:=Int.emod_lt_of_pos (-(f+1)) (show 0<s by omega);omega
  obtain ⟨n0,ao⟩:=Zo (show 0<=r-1+s by omega);have ab:((n0:Int)-f)%s=0:=by
   rw [<- ao,<- hr];have:=Int.tmod_add_mul_tdiv (f+1) s;rw [show (f+1).tmod s-1+s-f=s*(1-(f+1).tdiv s) by rw [Int.mul_sub];omega];exact Int.mul_emod_right _ _
  have aq:=hid (yfH f t s n0 zo ab (.inr zo));have ae:=hid ab;have aw:=hid ao;have an:f<=(n0:Int):=zo;have aA:(n0:Int)<s:=zo;obtain ⟨az,ay⟩:=au;clear ab ao;go_enter Tryz.func106,Tryz.ntmps106
  go_wp2;rw [aw];go_loop [7,8] (λ v i=>∃n:Nat,i=E T n/\v=E Y (yeA f t s n)/\f<=(n:Int)/\((n:Int)-f)%s=0) (λ _ i=>(64-intOf i).toNat)
  case atStart=>exact ⟨n0,rfl,by rw [aq];rfl,an,ae⟩
  case round=>
   obtain ⟨n,rfl,rfl,ai,hm⟩:=hrel;have Hm:=hid hm;have ac:=hid (ydX f t s n);obtain ⟨M,hM⟩:=zx (yeA f t s n);have HM:=hid hM;rw [hM] at ac⊢;have ap:M<18446744073709551616:=(by rw [<- hM];exact yaG _);clear hM hm;by_cases aj:64<=n
   ·have hr:=hid (ac (.inl aj));go_wp2;go_ret;rw [hr];exact ⟨rfl,rfl⟩
   by_cases am:t<(n:Int)
   ·have hr:=hid (ac (.inr am));go_wp2;go_ret;rw [hr];exact ⟨rfl,rfl⟩
   have aa:n<64:=zo;have ah:=hid (ybD ap (ycD aa));by_cases av:64<=s
   ·have ad:=ydf f t s n zo aa ai zo Hm 64 (.inr ⟨by omega,by omega⟩);have hr:Hid (M|||2 ^ n=ybG f t s):=(by show M|||2 ^ n=ybG f t s;rw [<- HM,ad];exact ydX f t s 64 (.inl zo));clear ad;go_wp2;go_ret;rw [yb9 aa,ah,hr];exact ⟨rfl,rfl⟩
   ·obtain ⟨q,hq⟩:=Zo (show 0<=(n:Int)+s by omega);have ad:=hid (ydf f t s n zo aa ai zo Hm q (.inl hq.symm));have ag:((q:Int)-f)%s=0:=(by rw [<- hq,show (n:Int)+s-f= ((n:Int)-f)+s by omega,Int.add_emod,Hm];simp);have Hq:=hid hq;have ar:=hid ag;have al:f<=(q:Int):=zo;have ak:(64-((n:Int)+s)).toNat<(64-(n:Int)).toNat:=zo;clear hq ag;go_wp2;refine ⟨⟨q,by rw [Hq],?_,al,ar⟩,by simp only [intOf];exact ak⟩;rw [yb9 aa,ah,<- HM,ad]
 ·obtain ⟨n0,rfl⟩:=Zo (by omega:0<=f);have ab:((n0:Int)-(n0:Int))%s=0:=by simp
  have aq:=hid (yfH (n0:Int) t s n0 zo ab (.inl rfl));have ae:=hid ab;have an:(n0:Int)<=(n0:Int):=zo;clear ab;go_enter Tryz.func106,Tryz.ntmps106
  go_wp2;go_loop [7,8] (λ v i=>∃n:Nat,i=E T n/\v=E Y (yeA (n0:Int) t s n)/\(n0:Int)<=(n:Int)/\((n:Int)-(n0:Int))%s=0) (λ _ i=>(64-intOf i).toNat)
  case atStart=>exact ⟨n0,rfl,by rw [aq];rfl,an,ae⟩
  case round=>
   obtain ⟨n,rfl,rfl,ai,hm⟩:=hrel;have Hm:=hid hm;have ac:=hid (ydX (n0:Int) t s n);obtain ⟨M,hM⟩:=zx (yeA (n0:Int) t s n);have HM:=hid hM;rw [hM] at ac⊢;have ap:M<18446744073709551616:=(by rw [<- hM];exact yaG _);clear hM hm;by_cases aj:64<=n
   ·have hr:=hid (ac (.inl aj));go_wp2;go_ret;rw [hr];exact ⟨rfl,rfl⟩
   by_cases am:t<(n:Int)
   ·have hr:=hid (ac (.inr am));go_wp2;go_ret;rw [hr];exact ⟨rfl,rfl⟩
   have aa:n<64:=zo;have ah:=hid (ybD ap (ycD aa));by_cases av:64<=s
   ·have ad:=ydf (n0:Int) t s n zo aa ai zo Hm 64 (.inr ⟨by omega,by omega⟩);have hr:Hid (M|||2 ^ n=ybG (n0:Int) t s):=(by show M|||2 ^ n=ybG (n0:Int) t s;rw [<- HM,ad];exact ydX (n0:Int) t s 64 (.inl zo));clear ad;go_wp2;go_ret;rw [yb9 aa,ah,hr];exact ⟨rfl,rfl⟩
   ·obtain ⟨q,hq⟩:=Zo (show 0<=(n:Int)+s by omega);have ad:=hid (ydf (n0:Int) t s n zo aa ai zo Hm q (.inl hq.symm));have ag:((q:Int)-(n0:Int))%s=0:=(by rw [<- hq,show (n:Int)+s-(n0:Int)= ((n:Int)-(n0:Int))+s by omega,Int.add_emod,Hm];simp);have Hq:=hid hq;have ar:=hid ag;have al:(n0:Int)<=(q:Int):=zo;have ak:(64-((n:Int)+s)).toNat<(64-(n:Int)).toNat:=zo;clear hq ag;go_wp2;refine ⟨⟨q,by rw [Hq],?_,al,ar⟩,by simp only [intOf];exact ak⟩;rw [yb9 aa,ah,<- HM,ad]
section
variable {n:Nat} {p:Nat->Bool}
theorem yAf:El I 22 3 (E T 0) 1 8:=⟨Tryz.underlying22,by kernel_rfl,by kernel_rfl,by decide⟩
def sel (p:Nat->Bool) (n:Nat):List Int:=((List.range n).filter p).map (λ (k:Nat)=>(k:Int))
theorem ymN (p:Nat->Bool):sel p 0= []:=rfl
theorem yeg (h:p n=true):sel p (n+1)=sel p n ++ [(n:Int)]:=by simp [sel,List.range_succ,h]
theorem yhM (h:p n=false):sel p (n+1)=sel p n:=by simp [sel,List.range_succ,h]
theorem yeh (p:Nat->Bool) (n:Nat):(sel p n).length<=n:=by
 simp only [sel,Yi];exact zI (List.length_filter_le _ _) zs
theorem sel_mem {x:Int}:x∈sel p n↔∃k:Nat,k<n/\p k=true/\x= (k:Int):=by
 simp only [sel,YA,Y5,YT];constructor
 ·rintro ⟨k,⟨h1,h2⟩,rfl⟩;exact ⟨k,h1,h2,rfl⟩
 ·rintro ⟨k,h1,h2,rfl⟩;exact ⟨k,⟨h1,h2⟩,rfl⟩
end
def Tab (w:World):Prop:=0<w.heap.size/\∀i,i<64->w.cell? ⟨0,i,N⟩=G (.int .u8 ((Lib.deBruijn64tab.getD i 0:Nat):Int))
theorem Tab.below {w w':World} {B:Nat} (h:Tab w) (hb:Below B w w') (hB:0<B):Tab w':=
 ⟨zH h.1 hb.size,λ i hi=>(hb.cell (p:=⟨0,i,N⟩) hB).trans (h.2 i hi)⟩
theorem Tab.later {w w':World} (h:Tab w) (hb:Bw w w'):Tab w':=h.below hb h.1
def lsb (x:Nat):Nat:=Lib.ctz 64 x
theorem ygh {x:Nat} (h0:x≠0) (hx:x<18446744073709551616):lsb x<64/\x.testBit (lsb x)=true/\∀i,i<lsb x->x.testBit i=false:=by
 obtain ⟨m,hm,hk⟩:=Lib.ctzFrom_spec 64 x (by omega) hx;have e:lsb x=Lib.ctzFrom 64 x:=by simp [lsb,Lib.ctz,h0]
 rw [e];obtain ⟨k,ae⟩:=zx (Lib.ctzFrom 64 x);rw [ae] at hm hk⊢;subst hm;refine ⟨hk,?_,λ i hi=>?_⟩
 ·rw [Nat.mul_comm,Nat.testBit_mul_two_pow];simp
 ·rw [Nat.mul_comm,Nat.testBit_mul_two_pow];simp;omega
theorem yy9 (x:Nat) (w:World) (h0:x≠0) (hx:x<18446744073709551616) (hT:Tab w) :
  H I 148 #[E Y x] w λ e w'=>e=Q (E T (lsb x))/\w=w':=by
 obtain ⟨hl,hk⟩:=Lib.lowest_bit 64 x h0 hx;have ag:lsb x<64:=hk;obtain ⟨af,ad⟩:=Lib.deBruijn64_at _ hk;obtain ⟨q,hq⟩:=zx (2 ^ Lib.ctz 64 x*285870213051353865%18446744073709551616/288230376151711744);rw [hq] at af ad;have ab:=hT.2 q af;rw [ad] at ab;have hz:((x:Int)==0)=false:=by simp;omega
 have aa:IntKind.u64.wrap (-(x:Int))= ((18446744073709551616-x:Nat):Int):=by rw [IntKind.wrap_u64];omega
 have ac:=ybo hx (b:=18446744073709551616-x) (by omega);have ah:IntKind.u64.wrap (bits .and Y (x:Int) (IntKind.u64.wrap (-(x:Int)))*285870213051353865)/288230376151711744= (q:Int):=by
  rw [aa,ac,show (18446744073709551616:Nat)-x=2 ^ 64-x from rfl,hl,IntKind.wrap_u64,<- hq];generalize 2 ^ Lib.ctz 64 x=y
  omega
 have ae:Lib.ctz 64 x<64:=hk;clear aa ac hl ad hq hT hk h0;go_enter Tryz.func148,Tryz.ntmps148
 go_wp2;go_ret;exact ⟨rfl,rfl⟩
def ycI (m:Nat):Int:=if m=0 then 0 else (lsb m:Int)
def ybY (m:Nat):Bool:=decide (m≠0)
theorem ydQ (m:Nat) (w:World) (hm:m<18446744073709551616) (hT:Tab w) :
  H I 90 #[E Y m] w λ e w'=>e=Q (Xt #[E T (ycI m),Xb (ybY m)])/\w=w':=by
 by_cases h0:m=0
 ·subst h0;go_enter Tryz.func90,Tryz.ntmps90
  go_wp2;go_ret2
  exact ⟨rfl,rfl⟩
 ·have h1:Hid (ycI m= (lsb m:Int)):=Yb h0;have h2:Hid (ybY m=true):=by show ybY m=true;simp [ybY,h0]
  have hz:((m:Int)==0)=false:=by simp;omega
  have Hc:=hid (yy9 m w h0 hm hT);clear h0;go_enter Tryz.func90,Tryz.ntmps90
  go_wp2_with (go_at_call 148;refine zm Hc ?_;rintro w' rfl)
  go_ret2
  rw [h1,h2];exact ⟨rfl,rfl⟩
def yjb (m n:Nat):Nat:=m/2 ^ n*2 ^ n
theorem yja {m n:Nat} (hm:m<18446744073709551616):yjb m n<18446744073709551616:=Nat.lt_of_le_of_lt (Nat.div_mul_le_self _ _) hm
theorem yoH (m n i:Nat):(yjb m n).testBit i= (decide (n<=i)&&m.testBit i):=by
 rw [yjb,Nat.testBit_mul_two_pow,Nat.testBit_div_two_pow];by_cases h:n<=i
 ·simp [h]
 ·simp [h]
def ybZ (m:Nat) (n:Int):Nat:=if n<0 then m else if 63<=n then 0 else yjb m (n.toNat+1)
theorem yr1 {m:Nat} {n:Int} (hm:m<18446744073709551616):ybZ m n<18446744073709551616:=by
 unfold ybZ;split
 ·exact hm
 ·split
  ·omega
  ·exact yja hm
theorem yet {m:Nat} (n:Int) (i:Nat) (hm:m<18446744073709551616):(ybZ m n).testBit i= (decide (n<(i:Int))&&m.testBit i):=by
 unfold ybZ;split
 ·simp;omega
 ·split
  ·by_cases h:64<=i
   ·rw [ydT hm h];simp
   ·simp;omega
  ·rw [yoH];congr 1
   simp;omega
theorem yuW (m:Nat) (n:Int) (w:World) (hm:m<18446744073709551616) (hT:Tab w) :
  H I 202 #[E Y m,E T n] w λ e w'=>e=Q (Xt #[E T (ycI (ybZ m n)),Xb (ybY (ybZ m n))])/\w=w':=by
 by_cases h0:n<0
 ·have h1:Hid (ybZ m n=m):=Yd h0;rw [h1];have Hc:=hid (ydQ m w hm hT);go_enter Tryz.func202,Tryz.ntmps202
  go_wp2_with (go_at_call 90;refine zm Hc ?_;rintro w' rfl)
  go_ret2
  exact ⟨rfl,rfl⟩
 by_cases h1:63<=n
 ·have h2:Hid (ybZ m n=0):=by show ybZ m n=0;rw [ybZ,Yb h0,Yd h1]
  rw [h2];go_enter Tryz.func202,Tryz.ntmps202
  go_wp2;go_ret2
  exact ⟨rfl,rfl⟩
 ·obtain ⟨k,rfl⟩:=Zo (by omega:0<=n);have h2:ybZ m (k:Int)=yjb m (k+1):=by rw [ybZ,Yb h0,Yb h1];rfl
  rw [h2];have Hc:=hid (ydQ (yjb m (k+1)) w (yja hm) hT);have hw:IntKind.u64.wrap ((m:Int)/2 ^ (k+1)*2 ^ (k+1))= ((yjb m (k+1):Nat):Int):=by
   have e:((m:Int)/2 ^ (k+1)*2 ^ (k+1))= ((yjb m (k+1):Nat):Int):=(by simp [yjb]);rw [e];exact ybT (yja hm)
  clear h2;go_enter Tryz.func202,Tryz.ntmps202
  go_wp2_with fail
  refine zm Hc ?_;rintro w' rfl;go_wp2;go_ret2
  exact ⟨rfl,rfl⟩
theorem ycL {a b:Nat} (ha:a<18446744073709551616) (hb:b<18446744073709551616):bits .andNot Y (a:Int) (b:Int)= ((mk (λ k=>a.testBit k && !b.testBit k):Nat):Int):=by
 show IntKind.u64.wrap ((BitVec.ofInt 64 (a:Int) &&& ~~~BitVec.ofInt 64 (b:Int)).toNat:Int)= _;have hl:(BitVec.ofInt 64 (a:Int) &&& ~~~BitVec.ofInt 64 (b:Int)).toNat<18446744073709551616:=BitVec.isLt _;rw [ybT hl];congr 1
 refine yf4 hl (λ i hi=>?_);rw [BitVec.testBit_toNat,BitVec.getLsbD_and,BitVec.getLsbD_not,<- BitVec.testBit_toNat,<- BitVec.testBit_toNat,ybp ha,ybp hb];simp [hi]
section
variable {args:Array Value} {P:Program} {v:Value} {W:World}
abbrev SpS (w:World) (x0 x1 x2:Int) (W:World):Prop:=
 W.cell? (Z w.heap.size 0 N)=G (E T x0)/\W.cell? (Z w.heap.size 1 N)=G (E T x1)/\W.cell? (Z w.heap.size 2 N)=G (E T x2)/\Bw w W/\w.heap.size<W.heap.size
theorem SpS.keep {w W':World} {x0 x1 x2:Int} (h:SpS w x0 x1 x2 W) (hb:Bw W W'):SpS w x0 x1 x2 W':=by
 obtain ⟨h1,h2,h3,h4,h5⟩:=h;exact ⟨(hb.cell (p:=Z w.heap.size 0 N) h5).trans h1,(hb.cell (p:=Z w.heap.size 1 N) h5).trans h2,(hb.cell (p:=Z w.heap.size 2 N) h5).trans h3,h4.trans (hb.mono (YY h5)),zH h5 hb.size⟩
theorem ywI {f:FuncId} {S:World->Prop} (h:H P f args W λ e w'=>e=Q v/\Bw W w') (hk:∀w',Bw W w'->S w') :
  H P f args W λ e w'=>e=Q v/\S w':=h.mono λ e w' ⟨h1,h2⟩=>⟨h1,hk w' h2⟩
theorem yfb {f:FuncId} (h:H P f args W λ e w'=>e=Q v/\W=w') :
  H P f args W λ e w'=>e=Q v/\Bw W w':=h.mono λ e w' ⟨h1,h2⟩=>⟨h1,by rw [h2];exact Ye _ _⟩
end
theorem ydN (x y:Nat):x&&&y= (x%256&&&y%256)+256*(x/256&&&y/256):=by
 have h1:=Nat.and_mod_two_pow (a:=x) (b:=y) (n:=8);have h2:=Nat.and_div_two_pow (a:=x) (b:=y) (n:=8);simp only [show (2:Nat) ^ 8=256 from rfl] at h1 h2;rw [<- h1,<- h2];omega
def ybv (c:Nat):Nat->Nat
 | 0=>0
 | n+1=>c+256*ybv c n
def sw1 (n x:Nat):Nat:=(x/2&&&ybv 0x55 n)+(x&&&ybv 0x55 n)
def sw2 (n x:Nat):Nat:=(x/4&&&ybv 0x33 n)+(x&&&ybv 0x33 n)
def sw3 (n x:Nat):Nat:=(x/16+x)&&&ybv 0x0f n
theorem yAo:∀a:Fin 256,∀r:Fin 2,((a.val/2+r.val*128)&&&0x55)= (a.val/2&&&0x55):=by decide +kernel
theorem yAn:∀a:Fin 256,∀r:Fin 4,((a.val/4+r.val*64)&&&0x33)= (a.val/4&&&0x33):=by decide +kernel
theorem ymI (n a b:Nat) (ha:a<256):sw1 (n+1) (a+256*b)= (((a/2&&&0x55)+(a&&&0x55))+256*sw1 n b):=by
 unfold sw1;rw [ydN ((a+256*b)/2),ydN (a+256*b)];simp only [ybv];have e1:(0x55+256*ybv 0x55 n)%256=0x55:=zo;have e2:(0x55+256*ybv 0x55 n)/256=ybv 0x55 n:=zo;have e3:(a+256*b)/2%256=a/2+b%2*128:=zo;have e4:(a+256*b)/2/256=b/2:=zo;have e5:(a+256*b)%256=a:=zo;have e6:(a+256*b)/256=b:=zo;rw [e1,e2,e3,e4,e5,e6];have h:=yAo ⟨a,ha⟩ ⟨b%2,by omega⟩;simp only at h;rw [h];omega
theorem ymH (n a b:Nat) (ha:a<256):sw2 (n+1) (a+256*b)= (((a/4&&&0x33)+(a&&&0x33))+256*sw2 n b):=by
 unfold sw2;rw [ydN ((a+256*b)/4),ydN (a+256*b)];simp only [ybv];have e1:(0x33+256*ybv 0x33 n)%256=0x33:=zo;have e2:(0x33+256*ybv 0x33 n)/256=ybv 0x33 n:=zo;have e3:(a+256*b)/4%256=a/4+b%4*64:=zo;have e4:(a+256*b)/4/256=b/4:=zo;have e5:(a+256*b)%256=a:=zo;have e6:(a+256*b)/256=b:=zo;rw [e1,e2,e3,e4,e5,e6];have h:=yAn ⟨a,ha⟩ ⟨b%4,by omega⟩;simp only at h;rw [h];omega
theorem yAm:∀a:Fin 256,∀r:Fin 16,a.val/16<=4->a.val%16<=4->((a.val/16+r.val*16+a.val)%256&&&0x0f)= ((a.val/16+a.val)&&&0x0f):=by decide +kernel
theorem ys1 (n a b:Nat) (ha:a<256) (h1:a/16<=4) (h2:a%16<=4) (h3:b%16<=4):sw3 (n+1) (a+256*b)= (((a/16+a)&&&0x0f)+256*sw3 n b):=by
 unfold sw3;rw [ydN];simp only [ybv];have e1:(0x0f+256*ybv 0x0f n)%256=0x0f:=zo;have e2:(0x0f+256*ybv 0x0f n)/256=ybv 0x0f n:=zo;have e3:((a+256*b)/16+(a+256*b))%256= (a/16+b%16*16+a)%256:=zo;have e4:((a+256*b)/16+(a+256*b))/256=b/16+b:=zo;rw [e1,e2,e3,e4];have h:=yAm ⟨a,ha⟩ ⟨b%16,by omega⟩ h1 h2;simp only at h;rw [h]
def yjm (a:Nat):Nat:=(a/2&&&0x55)+(a&&&0x55)
def yoT (a:Nat):Nat:=(a/4&&&0x33)+(a&&&0x33)
def yzV (a:Nat):Nat:=(a/16+a)&&&0x0f
theorem yft:∀a:Fin 256,yjm a.val<256/\yoT (yjm a.val)<256/\yoT (yjm a.val)/16<=4/\yoT (yjm a.val)%16<=4/\yzV (yoT (yjm a.val))=Lib.popAux 8 a.val/\Lib.popAux 8 a.val<=8:=by decide +kernel
def ymX:Nat->Nat->Nat
 | 0,_=>0
 | n+1,x=>Lib.popAux 8 (x%256)+256*ymX n (x/256)
theorem ys2 (n x:Nat) (hn:1<=n):sw2 n (sw1 n x)%16<=4:=by
 obtain ⟨k,rfl⟩:∃k,n=k+1:=⟨n-1,by omega⟩;have e:x=x%256+256*(x/256):=zo;obtain ⟨f1,f2,f3,f4,_⟩:=yft ⟨x%256,by omega⟩;simp only at f1 f2 f3 f4;rw [e,ymI _ _ _ zo];show sw2 (k+1) (yjm (x%256)+256*sw1 k (x/256))%16<=4;rw [ymH _ _ _ f1];show (yoT (yjm (x%256))+256*sw2 k (sw1 k (x/256)))%16<=4;omega
theorem yv0 (x:Nat):sw2 0 (sw1 0 x)=0:=by simp [sw1,sw2,ybv]
theorem yvk:∀n x:Nat,sw3 n (sw2 n (sw1 n x))=ymX n x
 | 0,x=>by simp [sw3,ybv,ymX]
 | n+1,x=>by
   obtain ⟨f1,f2,f3,f4,f5,f6⟩:=yft ⟨x%256,by omega⟩;simp only at f1 f2 f3 f4 f5;have e:x=x%256+256*(x/256):=zo;have hl:sw2 n (sw1 n (x/256))%16<=4:=by
    by_cases h:1<=n
    ·exact ys2 n _ h
    ·obtain rfl:n=0:=zo;rw [yv0];omega
   rw [ymX,<- f5,<- yvk n (x/256)];conv=>lhs;rw [e]
   rw [ymI _ _ _ zo];show sw3 (n+1) (sw2 (n+1) (yjm (x%256)+256*sw1 n (x/256)))= _;rw [ymH _ _ _ f1];show sw3 (n+1) (yoT (yjm (x%256))+256*sw2 n (sw1 n (x/256)))= _;rw [ys1 _ _ _ f2 f3 f4 hl];rfl
theorem yhQ:∀n x:Nat,Lib.popAux n x=Lib.popAux n (x%2 ^ n)
 | 0,x=>rfl
 | n+1,x=>by
   rw [Lib.popAux,Lib.popAux,yhQ n (x/2),Nat.pow_succ];have h1:x%(2 ^ n*2)%2=x%2:=Nat.mod_mod_of_dvd _ (Nat.dvd_mul_left 2 _);have h2:x%(2 ^ n*2)/2=x/2%2 ^ n:=(by rw [Nat.mul_comm,Nat.mod_mul_right_div_self]);rw [h1,h2]
theorem yfd:∀m n x:Nat,Lib.popAux (m+n) x=Lib.popAux m x+Lib.popAux n (x/2 ^ m)
 | 0,n,x=>by simp [Lib.popAux]
 | m+1,n,x=>by
   rw [show m+1+n= (m+n)+1 by omega,Lib.popAux,Lib.popAux,yfd m n,Nat.div_div_eq_div_mul,Nat.pow_succ,Nat.mul_comm 2,ZN]
def yze (n x:Nat):Nat:=match n with
 | 0=>0
 | n+1=>Lib.popAux 8 (x%256)+yze n (x/256)
theorem yqi:∀n x:Nat,yze n x=Lib.popAux (8*n) x
 | 0,x=>rfl
 | n+1,x=>by
   rw [yze,yqi n,show 8*(n+1)=8+8*n by omega,yfd 8,<- yhQ 8 x]
theorem yfK (x:Nat):Lib.popAux 8 (x%256)<=8:=(yft ⟨x%256,by omega⟩).2.2.2.2.2
theorem yru (x:Nat):ymX 8 x<651061555542690057/\
  (ymX 8 x+ymX 8 x/256+(ymX 8 x+ymX 8 x/256)/65536+(ymX 8 x+ymX 8 x/256+(ymX 8 x+ymX 8 x/256)/65536)/4294967296)%128=Lib.popAux 64 x:=by
 rw [<- yqi 8 x];simp only [ymX,yze];have h0:=yfK x;have h1:=yfK (x/256);have h2:=yfK (x/256/256);have h3:=yfK (x/256/256/256);have h4:=yfK (x/256/256/256/256);have h5:=yfK (x/256/256/256/256/256);have h6:=yfK (x/256/256/256/256/256/256);have h7:=yfK (x/256/256/256/256/256/256/256);generalize Lib.popAux 8 (x%256)=p0 at *
 generalize Lib.popAux 8 (x/256%256)=p1 at *
 generalize Lib.popAux 8 (x/256/256%256)=p2 at *
 generalize Lib.popAux 8 (x/256/256/256%256)=p3 at *
 generalize Lib.popAux 8 (x/256/256/256/256%256)=p4 at *
 generalize Lib.popAux 8 (x/256/256/256/256/256%256)=p5 at *
 generalize Lib.popAux 8 (x/256/256/256/256/256/256%256)=p6 at *
 generalize Lib.popAux 8 (x/256/256/256/256/256/256/256%256)=p7 at *
 clear x;refine ⟨by omega,?_⟩;generalize ht:p0+256*(p1+256*(p2+256*(p3+256*(p4+256*(p5+256*(p6+256*(p7+256*0)))))))=t
 have a1:t/256=p1+256*(p2+256*(p3+256*(p4+256*(p5+256*(p6+256*p7))))):=zo;obtain ⟨u,hu⟩:=zx (t+t/256);have a2:u= (p0+p1)+256*(p1+p2)+65536*((p2+p3)+256*(p3+p4)+65536*((p4+p5)+256*(p5+p6)+65536*((p6+p7)+256*p7))):=zo;rw [hu];have a3:u/65536= (p2+p3)+256*(p3+p4)+65536*((p4+p5)+256*(p5+p6)+65536*((p6+p7)+256*p7)):=zo;generalize hv:u+u/65536=v
 have a4:v= ((p0+p1+p2+p3)+256*(p1+p2+p3+p4)+65536*((p2+p3+p4+p5)+256*(p3+p4+p5+p6)))+4294967296*((p4+p5+p6+p7)+256*(p5+p6+p7)+65536*((p6+p7)+256*p7)):=zo;clear ht a1 hu a2 a3 hv;have a5:v/4294967296= (p4+p5+p6+p7)+256*(p5+p6+p7)+65536*((p6+p7)+256*p7):=zo;rw [a5,a4];have a6:(p0+p1+p2+p3)+256*(p1+p2+p3+p4)+65536*((p2+p3+p4+p5)+256*(p3+p4+p5+p6))+4294967296*((p4+p5+p6+p7)+256*(p5+p6+p7)+65536*((p6+p7)+256*p7))+((p4+p5+p6+p7)+256*(p5+p6+p7)+65536*((p6+p7)+256*p7))
   = (p0+(p1+(p2+(p3+(p4+(p5+(p6+p7)))))))+128*(2*(p1+p2+p3+p4)+512*((p2+p3+p4+p5)+256*(p3+p4+p5+p6))+33554432*((p4+p5+p6+p7)+256*(p5+p6+p7)+65536*((p6+p7)+256*p7))+2*(p5+p6+p7)+512*((p6+p7)+256*p7)):=zo
 rw [a6,Nat.add_mul_mod_self_left];exact Nat.mod_eq_of_lt zo
theorem yc8:ybv 0x55 8=6148914691236517205/\ybv 0x33 8=3689348814741910323/\ybv 0x0f 8=1085102592571150095:=by decide
theorem ydM (x c:Nat):x&&&c<=c:=Nat.and_le_right
theorem yx6 (x:Nat) (hx:x<18446744073709551616):IntKind.u64.wrap (bits .and Y ((x:Int)/2) 6148914691236517205+bits .and Y (x:Int) 6148914691236517205)= ((sw1 8 x:Nat):Int):=by
 have e:((x:Int)/2)= ((x/2:Nat):Int):=by simp
 have h1:=ybo (a:=x/2) (b:=6148914691236517205) zo zo;have h2:=ybo (a:=x) (b:=6148914691236517205) hx zo;have l1:=ydM (x/2) 6148914691236517205;have l2:=ydM x 6148914691236517205;rw [e,show (6148914691236517205:Int)= ((6148914691236517205:Nat):Int) from rfl,h1,h2,<- Int.natCast_add,ybT zo,sw1,yc8.1]
theorem yx5 (x:Nat) (hx:x<18446744073709551616):IntKind.u64.wrap (bits .and Y ((x:Int)/4) 3689348814741910323+bits .and Y (x:Int) 3689348814741910323)= ((sw2 8 x:Nat):Int):=by
 have e:((x:Int)/4)= ((x/4:Nat):Int):=by simp
 have h1:=ybo (a:=x/4) (b:=3689348814741910323) zo zo;have h2:=ybo (a:=x) (b:=3689348814741910323) hx zo;have l1:=ydM (x/4) 3689348814741910323;have l2:=ydM x 3689348814741910323;rw [e,show (3689348814741910323:Int)= ((3689348814741910323:Nat):Int) from rfl,h1,h2,<- Int.natCast_add,ybT zo,sw2,yc8.2.1]
theorem yx4 (x:Nat) (hx:x<=7378697629483820646):bits .and Y (IntKind.u64.wrap ((x:Int)/16+(x:Int))) 1085102592571150095= ((sw3 8 x:Nat):Int):=by
 have e:((x:Int)/16)= ((x/16:Nat):Int):=by simp
 have h1:=ybo (a:=x/16+x) (b:=1085102592571150095) zo zo;rw [e,<- Int.natCast_add,ybT zo,show (1085102592571150095:Int)= ((1085102592571150095:Nat):Int) from rfl,h1,sw3,yc8.2.2]
theorem yqh (x k:Nat) (c:Int) (hc:c= (k:Int)) (hx:x<=9223372036854775807):IntKind.u64.wrap ((x:Int)+(x:Int)/c)= ((x+x/k:Nat):Int):=by
 subst hc;have e:((x:Int)/(k:Int))= ((x/k:Nat):Int):=by simp
 have:x/k<=x:=Nat.div_le_self _ _
 rw [e,<- Int.natCast_add,ybT zo]
theorem yx3 (x:Nat) (hx:x<=9223372036854775807):bits .and T (x:Int) 127= ((x%128:Nat):Int):=by
 show IntKind.i64.wrap ((BitVec.ofInt 64 (x:Int)&&&BitVec.ofInt 64 (127:Int)).toNat:Int)= _;rw [BitVec.toNat_and,ybp zo,show (127:Int)= ((127:Nat):Int) from rfl,ybp zo,show (127:Nat)=2 ^ 7-1 from rfl,Nat.and_two_pow_sub_one_eq_mod];exact Yn _ zo
theorem yuT (x:Nat) (w:World) (hx:x<18446744073709551616):H I 187 #[E Y x] w λ e w'=>e=Q (E T (Lib.popAux 64 x:Nat))/\w=w':=by
 go_enter Tryz.func187,Tryz.ntmps187
 go_wp2_with fail
 refine Yh (v:=E T (Lib.popAux 64 x:Nat)) ?_ rfl ⟨rfl,rfl⟩;simp [results,Tryz.results187,go_sem];have a1:sw1 8 x<=12297829382473034410:=by unfold sw1;rw [yc8.1];have:=ydM (x/2) 6148914691236517205;have:=ydM x 6148914691236517205;omega
 have a2:sw2 8 (sw1 8 x)<=7378697629483820646:=by unfold sw2;rw [yc8.2.1];have:=ydM (sw1 8 x/4) 3689348814741910323;have:=ydM (sw1 8 x) 3689348814741910323;omega
 obtain ⟨f1,f2⟩:=yru x;rw [yx6 x hx,yx5 _ zo,yx4 _ a2,yvk,yqh _ 256 256 rfl zo,yqh _ 65536 65536 rfl zo,yqh _ 4294967296 4294967296 rfl zo];rw [IntWalk.wrap64_in _ zo,yx3 _ zo,f2]
theorem yjv (x:Nat) (w:World) (hx:x<18446744073709551616):H I 139 #[E Y x] w λ e w'=>e=Q (E T (Lib.popAux 64 x:Nat))/\w=w':=by
 have Hq:=hid (yuT x w hx);go_enter Tryz.func139,Tryz.ntmps139
 go_wp2_with fail
 refine zm Hq ?_;rintro w' rfl;go_wp2;go_ret;exact ⟨rfl,rfl⟩
def yq2 (m:Nat) (n:Nat):List Int:=((List.range n).filter m.testBit).map Int.ofNat
theorem yox (m n:Nat):yq2 m (n+1)=if m.testBit n then yq2 m n ++ [(n:Int)] else yq2 m n:=by
 unfold yq2;rw [ZL,Zb,Zl];by_cases h:m.testBit n <;> simp [h]
theorem yln (n m:Nat):Lib.popAux (n+1) m=Lib.popAux n m+(if m.testBit n then 1 else 0):=by
 rw [yfd n 1 m,Lib.popAux,Lib.popAux,Nat.testBit_eq_decide_div_mod_eq];simp;split <;> omega
theorem yj9 (m:Nat):∀n,(yq2 m n).length=Lib.popAux n m
 | 0=>rfl
 | n+1=>by
   rw [yox,yln,<- yj9 m n];by_cases h:m.testBit n <;> simp [h]
theorem yfa (m:Nat):(sel m.testBit 64).length=Lib.popAux 64 m:=yj9 m 64
theorem yi6 (m n:Nat):ya8 m (n:Int)=m.testBit n:=by simp [ya8]
abbrev wv (s:Nat->Nat):Value:= .agg #[E Y (s 0:Nat),E Y (s 1:Nat),E Y (s 2:Nat),E Y (s 3:Nat),E Y (s 4:Nat),E Y (s 5:Nat),E Y (s 6:Nat)]
def WCells (W:World) (b:Nat) (s:Nat->Nat):Prop:=∀i,i<7->W.cell? (Z b i N)=G (E Y (s i:Nat))
theorem WCells.below {W W':World} {b B:Nat} {s:Nat->Nat} (h:WCells W b s) (hb:Below B W W') (hB:b<B):WCells W' b s:=λ i hi=>(hb.cell (p:=Z b i N) hB).trans (h i hi)
theorem WCells.congr {W:World} {b:Nat} {s t:Nat->Nat} (h:WCells W b s) (e:∀i,i<7->s i=t i):WCells W b t:=λ i hi=>by rw [<- e i hi];exact h i hi
theorem WCells.all {W:World} {b:Nat} {s:Nat->Nat} (h:WCells W b s):W.cell? (Z b 0 N)=G (E Y (s 0:Nat))/\W.cell? (Z b 1 N)=G (E Y (s 1:Nat))/\W.cell? (Z b 2 N)=G (E Y (s 2:Nat))/\
  W.cell? (Z b 3 N)=G (E Y (s 3:Nat))/\W.cell? (Z b 4 N)=G (E Y (s 4:Nat))/\W.cell? (Z b 5 N)=G (E Y (s 5:Nat))/\W.cell? (Z b 6 N)=G (E Y (s 6:Nat)):=
 ⟨h 0 zo,h 1 zo,h 2 zo,h 3 zo,h 4 zo,h 5 zo,h 6 zo⟩
theorem WCells.set {W:World} {b i:Nat} {s:Nat->Nat} {v:Nat} (h:WCells W b s) (hi:i<7):WCells (W.setCell (Z b i N) (E Y v)) b (λ j=>if j=i then v else s j):=by
 intro j hj;by_cases e:j=i
 ·subst e;simp [go_sem,h j hj]
 ·simp [go_sem,h j hj,e]
def yc6 (i:Nat):Nat:=ybG 0 (399-64*(i:Int)) 1
theorem ytZ (i:Nat):yc6 i<18446744073709551616:=yaG _
def WFree (W:World) (b:Nat):Prop:=∀j,W.frozen? (Z b j N)=false
theorem WFree.below {W W':World} {b B:Nat} (h:WFree W b) (hb:Below B W W') (hB:b<B):WFree W' b:=λ i=>(hb.frozen (p:=Z b i N) hB).trans (h i)
theorem WFree.set {W:World} {b:Nat} (h:WFree W b) (p:Addr) (v:Value):WFree (W.setCell p v) b:=λ j=>by simp [go_sem,h j]
theorem ykC (w:World):H I 108 #[] w λ e w'=>e=Q (wv yc6)/\Bw w w':=by
 have c1:Hid (∀(i:Nat) W,(i:Int)<7->H I 106 #[E T 0,E T (399-(i:Int)*64),E T 1] W λ e w'=>e=Q (E Y (yc6 i))/\W=w'):=λ i W h=>by
  have:=ycw 0 (399-64*(i:Int)) 1 W zo zo;rw [Int.mul_comm] at this;have e:yc6 i=ybG 0 (399-(i:Int)*64) 1:=by rw [yc6,Int.mul_comm]
  rw [e];exact this
 go_enter Tryz.func108,Tryz.ntmps108
 go_wp2;go_loopw [3] (λ v wr=>∃i:Nat,v=E T i/\i<=7/\Hid (WCells wr (w.heap.size+1) (λ j=>if j<i then yc6 j else 0))/\Hid (WCells wr w.heap.size (λ _=>0))/\Hid (WFree wr (w.heap.size+1))/\Hid (WFree wr w.heap.size)/\Bw w wr/\wr.heap.size=w.heap.size+2) (λ v _=>7-(intOf v).toNat)
 case atStart=>
  refine ⟨0,rfl,by omega,λ j hj=>?_,λ j hj=>?_,λ j=>by simp [go_sem],λ j=>by simp [go_sem],yaa (yaa (Ye _ _) zg) zs,by simp⟩;rotate_left;rotate_left;all_goals
   have:j=0\/ j=1\/ j=2\/ j=3\/ j=4\/ j=5\/ j=6:=zo
   rcases this with rfl | rfl | rfl | rfl | rfl | rfl | rfl <;> simp [go_sem]
 case round=>
  obtain ⟨i,rfl,hi,hc,ab,hf,aa,hB,hsz⟩:=hrel;by_cases hlt:i<7
  ·have e1:=hc i hlt;have e2:=hf i;go_wp2_with fail
   refine zm (c1 i wr zo) ?_;rintro w1 rfl;go_wp2;refine ⟨⟨i+1,by go_num,by omega,?_,?_,?_,?_,yab hB zo,by simpa [go_sem] using hsz⟩,by simp [intOf];omega⟩
   ·exact (hc.set (v:=yc6 i) hlt).congr (λ j hj=>by
     by_cases e:j=i
     ·subst e;simp
     ·have:(j<i+1)= (j<i):=by simp;omega
      simp [e,this])
   ·exact λ j hj=>(zzJ (w:=wr) (a:=Z w.heap.size j N) (Ym _ _ _ _ zs)).trans (ab j hj)
   ·exact hf.set _ _
   ·exact aa.set _ _
  ·obtain rfl:i=7:=zo;have ae:WCells wr (w.heap.size+1) yc6:=hc.congr (λ j hj=>by simp [hj]);obtain ⟨r0,r1,r2,r3,r4,r5,r6⟩:=ae.all;obtain ⟨z0,z1,z2,z3,z4,z5,z6⟩:=ab.all;have f0:=aa 0;have f1:=aa 1;have f2:=aa 2;have f3:=aa 3;have f4:=aa 4;have f5:=aa 5;have f6:=aa 6;clear hc ab hf aa ae;go_wp2;refine Yh (v:=wv yc6) (by simp [results,Tryz.results108,go_sem,z0,z1,z2,z3,z4,z5,z6]) rfl ⟨rfl,?_⟩;exact yab (yab (yab (yab (yab (yab (yab hB zg) zg) zg) zg) zg) zg) zg
def inW (s:Nat->Nat) (i:Nat):Nat:=s i&&&yc6 i
theorem ylf {i:Nat} (h:i<7):i=0\/ i=1\/ i=2\/ i=3\/ i=4\/ i=5\/ i=6:=zo
theorem ye3 (w:World) (s:Nat->Nat) (t:TypeId):WCells (w.alloc (J #[E Y (s 0:Nat),E Y (s 1:Nat),E Y (s 2:Nat),E Y (s 3:Nat),E Y (s 4:Nat),E Y (s 5:Nat),E Y (s 6:Nat)] t)) w.heap.size s:=by
 intro i hi;rcases ylf hi with rfl | rfl | rfl | rfl | rfl | rfl | rfl <;> simp [go_sem]
theorem ypE (w:World) (s:Nat->Nat) (t:TypeId):WFree (w.alloc (J #[E Y (s 0:Nat),E Y (s 1:Nat),E Y (s 2:Nat),E Y (s 3:Nat),E Y (s 4:Nat),E Y (s 5:Nat),E Y (s 6:Nat)] t)) w.heap.size:=λ i=>by simp [go_sem]
theorem yi2:(Tryz.prog.info? 39).map (λ i=>(i.zero,i.size,i.bytes))=G (G (E Y 0),1,8):=by kernel_rfl
theorem yjU (s:Nat->Nat) (i:Nat) (h:i<7) (W:World):(Instr.index 40 (wv s) (E T i)).run I W= .ok (E Y (s i:Nat)) W:=by
 obtain ⟨i0,af,am,ai,al⟩:=info_parts yi2;rcases ylf h with rfl | rfl | rfl | rfl | rfl | rfl | rfl;all_goals
  simp [Instr.index,wv,go_sem,part,sizeOf,typeInfo,af,ai]
theorem yoV (s:Nat->Nat) (w:World) (hs:∀i,i<7->s i<18446744073709551616) :
  H I 196 #[wv s] w λ e w'=>e=Q (wv (inW s))/\Bw w w':=by
 have c1:=hid (λ W=>ykC W);obtain ⟨W0,ac⟩:=zx ((w.alloc (J #[E Y (s 0:Nat),E Y (s 1:Nat),E Y (s 2:Nat),E Y (s 3:Nat),E Y (s 4:Nat),E Y (s 5:Nat),E Y (s 6:Nat)] 40)).alloc (J #[E Y 0,E Y 0,E Y 0,E Y 0,E Y 0,E Y 0,E Y 0] 40));have q1:W0.heap.size=w.heap.size+2:=by rw [<- ac];simp
 have q2:Bw w W0:=by rw [<- ac];exact yaa (yaa (Ye _ _) zg) zs
 have q3:WCells W0 w.heap.size s:=by rw [<- ac];exact (ye3 w s _).below (yaa (Ye _ _) zg) zs
 have q4:WFree W0 w.heap.size:=by rw [<- ac];exact (ypE w s _).below (yaa (Ye _ _) zg) zs
 have q5:WCells W0 (w.heap.size+1) (λ _=>0):=by
  rw [<- ac];intro i hi;rcases ylf hi with rfl | rfl | rfl | rfl | rfl | rfl | rfl <;> simp [go_sem]
 have q6:WFree W0 (w.heap.size+1):=λ i=>by rw [<- ac];simp [go_sem]
 have an:=hid ac;have HS:=hid hs;have HQ:=hid (Ya q2 (Ya q3 (Ya q4 (Ya q5 q6))));clear ac hs q2 q3 q4 q5 q6;go_enter Tryz.func196,Tryz.ntmps196
 go_wp2_with fail
 rw [an];refine zm (c1 W0) ?_;rintro w1 ad;obtain ⟨q2,q3,q4,q5,q6⟩:=HQ.out;have s1:=ad.size;have r3:=hid (q3.below ad zo);have r4:=hid (q4.below ad zo);have r5:=hid (q5.below ad zo);have r6:=hid (q6.below ad zo);have r2:Hid (Bw w w1):=q2.trans (ad.mono zo);clear q2 q3 q4 q5 q6 ad;go_wp2;go_loopw [6] (λ v wr=>∃i:Nat,v=E T i/\i<=7/\Hid (WCells wr w.heap.size (λ j=>if j<i then inW s j else s j))/\Hid (WCells wr (w.heap.size+1) (λ _=>0))/\Hid (WFree wr w.heap.size)/\Hid (WFree wr (w.heap.size+1))/\Hid (Bw w wr)) (λ v _=>7-(intOf v).toNat)
 case atStart=>exact ⟨0,rfl,by omega,r3.congr (λ j hj=>by simp),r5,r4,r6,r2⟩
 case round=>
  obtain ⟨i,rfl,hi,hc,ab,hf,aa,hB⟩:=hrel;by_cases hlt:i<7
  ·have e1:wr.cell? (Z w.heap.size i N)=G (E Y (s i:Nat)):=(by have:=hc i hlt;simpa using this);have e2:=hf i;have ag:=hid (ybo (HS i hlt) (ytZ i));have done:∀W',W' =wr.setCell (Z w.heap.size i N) (E Y (bits .and Y (s i:Nat) (yc6 i:Nat)))->WCells W' w.heap.size (λ j=>if j<i+1 then inW s j else s j)/\WCells W' (w.heap.size+1) (λ _=>0)/\WFree W' w.heap.size/\WFree W' (w.heap.size+1)/\Bw w W':=by
    rintro W' rfl;rw [ag];refine ⟨(hc.set (v:=inW s i) hlt).congr (λ j hj=>?_),λ j hj=>(zzJ (w:=wr) (a:=Z (w.heap.size+1) j N) (Ym _ _ _ _ zs)).trans (ab j hj),hf.set _ _,aa.set _ _,yab hB zg⟩;by_cases e:j=i
    ·subst e;simp
    ·have:(j<i+1)= (j<i):=by simp;omega
     simp [e,this]
   have ah:=hid done;clear done;have ap:=λ W=>yjU yc6 i hlt W;clear hc ab hf aa hB;go_wp2;obtain ⟨d1,d2,d3,d4,d5⟩:=ah _ rfl;exact ⟨⟨i+1,by go_num,by omega,d1,d2,d3,d4,d5⟩,by simp [intOf];omega⟩
  ·obtain rfl:i=7:=zo;have ae:WCells wr w.heap.size (inW s):=hc.congr (λ j hj=>by simp [hj]);obtain ⟨r0,r1,r2,r3,r4,r5,r6⟩:=ae.all;obtain ⟨z0,z1,z2,z3,z4,z5,z6⟩:=ab.all;have f0:=aa 0;have f1:=aa 1;have f2:=aa 2;have f3:=aa 3;have f4:=aa 4;have f5:=aa 5;have f6:=aa 6;clear hc ab hf aa ae;go_wp2;refine Yh (v:=wv (inW s)) (by simp [results,Tryz.results196,go_sem,z0,z1,z2,z3,z4,z5,z6]) rfl ⟨rfl,?_⟩;exact yab (yab (yab (yab (yab (yab (yab hB (ZQ _ _)) (ZQ _ _)) (ZQ _ _)) (ZQ _ _)) (ZQ _ _)) (ZQ _ _)) (ZQ _ _)
def eqW (s t:Nat->Nat):Bool:=(List.range 7).all (λ i=>s i==t i)
theorem yqn (s:Nat->Nat) (i:Nat) (h:i<7) (W:World):(part 39 #[E Y (s 0:Nat),E Y (s 1:Nat),E Y (s 2:Nat),E Y (s 3:Nat),E Y (s 4:Nat),E Y (s 5:Nat),E Y (s 6:Nat)] (i*Tryz.prog.cellsOf 39)).run I W= .ok (E Y (s i:Nat)) W:=by
 rw [show Tryz.prog.cellsOf 39=1 by kernel_rfl];rcases ylf h with rfl | rfl | rfl | rfl | rfl | rfl | rfl;all_goals
  simp [go_sem,part]
theorem yoj (s t:Nat->Nat) (W:World):(binOp .eql 40 (wv s) (wv t)).run I W= .ok (Xb (eqW s t)) W:=by
 obtain ⟨i0,af,am,ai,al⟩:=info_parts yi2;rw [run_eql_struct,show (10000:Nat)=9999+1 from rfl,run_equalIn_array W 9999 _ _ Tryz.underlying40 af,eqW];have hl:∀i∈List.range 7,i<7:=λ i hi=>by simpa using hi
 generalize List.range 7=l at hl⊢
 have key:(Op.eqItems 9999 39 (Tryz.prog.cellsOf 39) #[E Y (s 0:Nat),E Y (s 1:Nat),E Y (s 2:Nat),E Y (s 3:Nat),E Y (s 4:Nat),E Y (s 5:Nat),E Y (s 6:Nat)]
   #[E Y (t 0:Nat),E Y (t 1:Nat),E Y (t 2:Nat),E Y (t 3:Nat),E Y (t 4:Nat),E Y (t 5:Nat),E Y (t 6:Nat)] l).run I W= .ok (l.all (λ i=>s i==t i)) W:=by
  induction l with
  | nil=>simp [Op.eqItems]
  | cons i l ih=>
    have hi:i<7:=hl i zs;have pe:(Op.equalIn 9999 39 (E Y (s i:Nat)) (E Y (t i:Nat))).run I W= .ok ((s i:Int)==(t i:Int)) W:=by
     rw [show (9999:Nat)=9998+1 from rfl,run_equalIn_int W 9998 39 Y Y _ _ Tryz.underlying39]
    simp only [Op.eqItems,ZC,yqn s i hi W,yqn t i hi W,pe,Zf,List.all_cons];have hb:((s i:Int)==(t i:Int))= (s i==t i):=(by rw [zze];simp;omega);rw [hb];cases hc:(s i==t i)
    ·simp
    ·simp only [Bool.not_true,Bool.false_eq_true,if_false,zzo];exact ih λ j hj=>hl j (by simp [hj])
 rw [key];rfl
def ywu (n:Int):Bool:=decide (0<=n)&&decide (n<400)
theorem yr3 (n:Int) (w:World):H I 211 #[E T n] w λ e w'=>e=Q (Xb (ywu n))/\w=w':=by
 unfold ywu;by_cases h0:0<=n;focus
  by_cases h1:n<400;rotate_left;rotate_left
 rotate_left 2;rotate_left;all_goals
  go_enter Tryz.func211,Tryz.ntmps211
  go_wp2;go_ret;exact ⟨ycq (by rw [zze];simp;omega),rfl⟩
abbrev BoxS (w:World) (s:Nat->Nat) (W:World):Prop:=
 W.cell? (Z w.heap.size 0 N)=G (E Y (s 0:Nat))/\W.cell? (Z w.heap.size 1 N)=G (E Y (s 1:Nat))/\W.cell? (Z w.heap.size 2 N)=G (E Y (s 2:Nat))/\W.cell? (Z w.heap.size 3 N)=G (E Y (s 3:Nat))/\
 W.cell? (Z w.heap.size 4 N)=G (E Y (s 4:Nat))/\W.cell? (Z w.heap.size 5 N)=G (E Y (s 5:Nat))/\W.cell? (Z w.heap.size 6 N)=G (E Y (s 6:Nat))/\Bw w W/\w.heap.size<W.heap.size
theorem BoxS.keep {w W W':World} {s:Nat->Nat} (h:BoxS w s W) (hb:Bw W W'):BoxS w s W':=by
 obtain ⟨h0,h1,h2,h3,h4,h5,h6,h7,h8⟩:=h;exact ⟨(hb.cell (p:=Z w.heap.size 0 N) h8).trans h0,(hb.cell (p:=Z w.heap.size 1 N) h8).trans h1,(hb.cell (p:=Z w.heap.size 2 N) h8).trans h2,(hb.cell (p:=Z w.heap.size 3 N) h8).trans h3,
  (hb.cell (p:=Z w.heap.size 4 N) h8).trans h4,(hb.cell (p:=Z w.heap.size 5 N) h8).trans h5,(hb.cell (p:=Z w.heap.size 6 N) h8).trans h6,h7.trans (hb.mono zo),zH h8 hb.size⟩
theorem yuK (s:Nat->Nat) (w:World) (hs:∀i,i<7->s i<18446744073709551616) :
  H I 156 #[wv s] w λ e w'=>e=Q (Xb (eqW (inW s) s))/\Bw w w':=by
 have c1:=hid (λ W=>yoV s W hs);have aq:=λ W=>yoj (inW s) s W;have ak:Bw w (w.alloc (J #[E Y (s 0:Nat),E Y (s 1:Nat),E Y (s 2:Nat),E Y (s 3:Nat),E Y (s 4:Nat),E Y (s 5:Nat),E Y (s 6:Nat)] 40)):=yaa (Ye _ _) zg;have ao:Hid (BoxS w s (w.alloc (J #[E Y (s 0:Nat),E Y (s 1:Nat),E Y (s 2:Nat),E Y (s 3:Nat),E Y (s 4:Nat),E Y (s 5:Nat),E Y (s 6:Nat)] 40)).drew):=by
  obtain ⟨r0,r1,r2,r3,r4,r5,r6⟩:=(ye3 w s 40).all;exact ⟨r0,r1,r2,r3,r4,r5,r6,ak.drew,by simp [go_sem]⟩
 have c2:=hid (λ W (h:BoxS w s W)=>ywI (c1 W) (λ _=>h.keep));clear ak;go_enter Tryz.func156,Tryz.ntmps156
 go_wp2_with fail
 go_region_held3 (λ w'=>BoxS w s w') (first | exact ao | assumption)
  (first
    | (go_at_call 196;refine zm (c2 _ (by assumption)) ?_;rintro w' hS))
 go_wp2;go_ret;exact ⟨rfl,(‹BoxS w s _›).2.2.2.2.2.2.2.1⟩
def ybM (s:Nat->Nat) (k:Nat):Bool:=(s (k/64)).testBit (k%64)
def yvw (s:Nat->Nat) (n:Int):Bool:=ywu n&&ybM s n.toNat
theorem yuL (s:Nat->Nat) (n:Int) (w:World) (hs:∀i,i<7->s i<18446744073709551616) :
  H I 179 #[wv s,E T n] w λ e w'=>e=Q (Xb (yvw s n))/\Bw w w':=by
 have c1:=hid (λ W=>yr3 n W);unfold yvw;by_cases hb:ywu n=true
 ·rw [hb] at c1⊢;rw [ywu] at hb;simp at hb;obtain ⟨k,rfl⟩:∃k:Nat,n=k:=⟨n.toNat,by omega⟩;have hk:k<400:=zo;have hc:=ye3 w s 40;have e1:=hc (k/64) zo;have c2:=hid (λ W=>yew (s (k/64)) ((k%64:Nat):Int) W (hs _ zo));rw [yi6,show ((k%64:Nat):Int)= (k:Int)%64 by simp] at c2;have hlt:k/64<7:=zo;clear hb hc;go_enter Tryz.func179,Tryz.ntmps179
  go_wp2_with fail
  refine zm (c1 _) ?_;rintro w' rfl;go_wp2_with fail
  refine zm (c2 _) ?_;rintro w' rfl;go_wp2;go_ret;exact ⟨by simp [ybM],yaa (Ye _ _) zg⟩
 ·have aj:ywu n=false:=by simpa using hb
  rw [aj] at c1⊢;clear hb aj;go_enter Tryz.func179,Tryz.ntmps179
  go_wp2_with fail
  refine zm (c1 _) ?_;rintro w' rfl;go_wp2;go_ret;exact ⟨rfl,yaa (Ye _ _) zg⟩
def ynm (t:Nat->Nat):Nat->Nat
 | 0=>0
 | n+1=>ynm t n+Lib.popAux 64 (t n)
theorem yq3 (t:Nat->Nat) (n:Nat):ynm t (n+1)=ynm t n+Lib.popAux 64 (t n):=rfl
theorem yq4 (t:Nat->Nat):∀n,ynm t n<=64*n
 | 0=>zG _
 | n+1=>by
   have:=yq4 t n;have h:Lib.popAux 64 (t n)<=64:=(by rw [<- yfa];exact yeh _ _);rw [ynm];omega
def yxB (l:List Int) (i k:Nat):Bool:=decide (((64*i+k:Nat):Int)∈l)&&decide (64*i+k<400)
def wof (l:List Int) (i:Nat):Nat:=mk (yxB l i)
theorem yva (l:List Int) (i:Nat):wof l i<18446744073709551616:=yaG _
theorem yvT (i:Nat):wof [] i=0:=by rw [wof,<- yct];exact ybm λ k _=>by simp [yxB]
theorem yxH (l:List Int) (n:Nat) (h:n<400):wof l (n/64)|||2 ^ (n%64)=wof (l ++ [(n:Int)]) (n/64):=by
 refine yf4 (ygM (yaG _) (ycD zo)) (λ i hi=>?_);rw [Y2,wof,yaW,Nat.testBit_two_pow,yxB,yxB,zze];simp only [Ys,zzX,zzY,YC,Yy];constructor
 ·rintro (⟨_,h1,h2⟩ | h1)
  ·exact ⟨.inl h1,h2⟩
  ·exact ⟨.inr zo,by omega⟩
 ·rintro ⟨h1 | h1,h2⟩
  ·exact .inl ⟨hi,h1,h2⟩
  ·exact .inr zo
theorem ypy (l:List Int) (n i:Nat) (h:i≠n/64):wof (l ++ [(n:Int)]) i=wof l i:=
 ybm λ k hk=>by
  rw [yxB,yxB,zze];simp only [zzX,zzY,YC,Yy];constructor
  ·rintro ⟨h1 | h1,h2⟩
   ·exact ⟨h1,h2⟩
   ·omega
  ·rintro ⟨h1,h2⟩;exact ⟨.inl h1,h2⟩
def cg (o:Nat):Nat:=o-o/1460+o/36524-o/146096
def cst (k:Nat):Nat:=365*k+k/4-k/100
def cen (k:Nat):Nat:=if k=399 then 146097 else cst (k+1)
theorem yxb (o:Nat):cg o<=cg (o+1):=by unfold cg;omega
theorem ylU (a:Nat):∀d,cg a<=cg (a+d)
 | 0=>zG _
 | d+1=>zI (ylU a d) (yxb (a+d))
theorem yxc:∀k,k<400->365*k<=cg (cst k)/\cg (cen k-1)<365*(k+1):=by decide +kernel
theorem yzU (k o:Nat) (hk:k<400) (h1:cst k<=o) (h2:o<cen k):cg o/365=k:=by
 obtain ⟨e1,e2⟩:=yxc k hk;have m1:=ylU (cst k) (o-cst k);have m2:=ylU o (cen k-1-o);rw [show cst k+(o-cst k)=o by omega] at m1;rw [show o+(cen k-1-o)=cen k-1 by omega] at m2;omega
theorem ynD (o:Nat):∀m,m<400->o<cen m->∃k,k<400/\cst k<=o/\o<cen k
 | 0,_,h=>⟨0,by omega,by simp [cst],h⟩
 | m+1,hm,h=>by
   by_cases h0:cst (m+1)<=o
   ·exact ⟨m+1,hm,h0,h⟩
   ·refine ynD o m zo ?_;unfold cen;rw [Yb zo];omega
def ybs (y:Int):Int:=y/4-(y-1)/4-(y/100-(y-1)/100)+(y/400-(y-1)/400)
theorem ycu (y:Int):ybs y=0\/ ybs y=1:=by unfold ybs;omega
theorem yq6 (y:Int):ybs y=1↔y%4=0/\(y%100≠0\/ y%400=0):=by unfold ybs;omega
def ylD (y:Int):Bool:=decide (y%4=0/\(y%100≠0\/ y%400=0))
theorem yq7 (y:Int):(ylD y=true/\ybs y=1)\/ (ylD y=false/\ybs y=0):=by
 have h:=yq6 y;rcases ycu y with h0 | h0
 ·refine .inr ⟨zzd λ hh=>?_,h0⟩;have:=h.mpr hh;omega
 ·exact .inl ⟨zzZ (h.mp h0),h0⟩
def ycx (y m:Int):Int:=if m=2 then 28+ybs y else if m=4\/ m=6\/ m=9\/ m=11 then 30 else 31
def msI (y:Int):Nat->Int
 | 0=>0 | 1=>0 | 2=>31 | 3=>59+ybs y | 4=>90+ybs y | 5=>120+ybs y | 6=>151+ybs y | 7=>181+ybs y | 8=>212+ybs y | 9=>243+ybs y | 10=>273+ybs y | 11=>304+ybs y | _=>334+ybs y
def ysI (y:Int):Int:=365*(y-1970)+(y-1)/4-(y-1)/100+(y-1)/400-477
theorem yiv (y:Int):ysI (y+1)=ysI y+365+ybs y:=by
 unfold ysI ybs;rw [show y+1-1=y by omega];omega
theorem ygg (y:Int) (m:Nat) (h1:1<=m) (h2:m<12):msI y (m+1)=msI y m+ycx y m:=by
 have:m=1\/ m=2\/ m=3\/ m=4\/ m=5\/ m=6\/ m=7\/ m=8\/ m=9\/ m=10\/ m=11:=zo
 rcases this with rfl | rfl | rfl | rfl | rfl | rfl | rfl | rfl | rfl | rfl | rfl <;> simp [msI,ycx] <;> omega
theorem ytF (y:Int):msI y 12+ycx y 12=365+ybs y:=by simp [msI,ycx];omega
theorem ycV (y m:Int):28<=ycx y m/\ycx y m<=31:=by
 have:=ycu y;unfold ycx;split
 ·omega
 ·split <;> omega
structure yhk (n y:Int) (m:Nat) (d:Int):Prop where
 y0:1970<=y
 y1:y<=2369
 m0:1<=m
 m1:m<=12
 d0:1<=d
 d1:d<=ycx y m
 sum:ysI y+msI y m+d-1=n
theorem yj2 {y:Int} {m:Nat} {d:Int} (h1:1<=m) (h2:m<=12) (d0:1<=d) (d1:d<=ycx y m):0<=msI y m+d-1/\msI y m+d-1<365+ybs y:=by
 have hl:=ycu y;have:m=1\/ m=2\/ m=3\/ m=4\/ m=5\/ m=6\/ m=7\/ m=8\/ m=9\/ m=10\/ m=11\/ m=12:=zo
 rcases this with rfl | rfl | rfl | rfl | rfl | rfl | rfl | rfl | rfl | rfl | rfl | rfl <;> simp [msI,ycx] at d1⊢<;> omega
theorem ymx (y:Int) (d:Nat):ysI y+365*d<=ysI (y+d):=by
 induction d with
 | zero=>simp
 | succ d ih=>
   have:=yiv (y+d);have hl:=ycu (y+d);rw [show y+((d+1:Nat):Int)=y+d+1 by omega];omega
theorem ypw {y z:Int} (h:y<z):ysI y+365+ybs y<=ysI z:=by
 have:=ymx (y+1) (z-(y+1)).toNat;have h2:=yiv y;rw [show y+1+((z-(y+1)).toNat:Int)=z by omega] at this;omega
theorem yvq {y:Int} {m k:Nat} (h1:1<=m) (h:m<k) (h2:k<=12):msI y m+ycx y m<=msI y k:=by
 have hl:=ycu y;rw [<- ygg y m h1 zo];obtain ⟨d,rfl⟩:∃d,k=m+1+d:=⟨k-(m+1),by omega⟩;induction d with
 | zero=>exact Zv _
 | succ d ih=>
   have:=ih zo zo;have h3:=ygg y (m+1+d) zo zo;have h4:=ycV y ((m+1+d:Nat):Int);rw [show m+1+(d+1)=m+1+d+1 by omega,h3];omega
theorem yhk.unique {n y z:Int} {m k:Nat} {d e:Int} (h:yhk n y m d) (g:yhk n z k e):y=z/\m=k/\d=e:=by
 obtain ⟨_,_,a1,a2,a3,a4,a5⟩:=h;obtain ⟨_,_,b1,b2,b3,b4,b5⟩:=g;have u:=yj2 a1 a2 a3 a4;have v:=yj2 b1 b2 b3 b4;have ai:y=z:=by
  rcases Int.lt_trichotomy y z with h | h | h
  ·have:=ypw h;omega
  ·exact h
  ·have:=ypw h;omega
 subst ai;have al:m=k:=by
  rcases Nat.lt_trichotomy m k with h | h | h
  ·have:=yvq (y:=y) a1 h b2;omega
  ·exact h
  ·have:=yvq (y:=y) b1 h a2;omega
 subst al;exact ⟨rfl,rfl,by omega⟩
def fN (n:Int):Int:=n+719468
def fO (n:Int):Int:=fN n%146097
def fK (n:Int):Int:=(fO n-fO n/1460+fO n/36524-fO n/146096)/365
def fL (n:Int):Int:=fO n-(fK n*365+fK n/4-fK n/100)
def fM (n:Int):Int:=(5*fL n+2)/153
def fD (n:Int):Int:=fL n-(153*fM n+2)/5+1
def fMo (n:Int):Int:=(fM n+2)%12+1
def fY (n:Int):Int:=fN n/146097*400+fK n+(if fMo n<=2 then 1 else 0)
theorem ywR (n:Int):∃k:Nat,k<400/\fK n=k/\(cst k:Int)<=fO n/\fO n<cen k:=by
 obtain ⟨o,ho⟩:∃o:Nat,fO n=o:=⟨(fO n).toNat,by unfold fO;omega⟩;have hlt:o<146097:=by unfold fO at ho;omega
 obtain ⟨k,hk,h1,h2⟩:=ynD o 399 zo (by simpa [cen] using hlt);refine ⟨k,hk,?_,by rw [ho];omega,by rw [ho];omega⟩;have:=yzU k o hk h1 h2;unfold fK;rw [ho];unfold cg at this;omega
theorem yoM (n:Int) (h0:0<=n) (h1:n<146097):∃m:Nat,fMo n=m/\yhk n (fY n) m (fD n)/\0<=fK n/\fK n<400/\0<=fL n/\fL n<366:=by
 obtain ⟨k,hk,eK,c1,c2⟩:=ywR n;have ac:(fN n/146097=4/\fO n=n+135080)\/ (fN n/146097=5/\fO n=n-11017):=by unfold fO fN;omega
 have ad:(cst k:Int)=365*k+k/4-k/100:=by unfold cst;omega
 have aa:(cen k:Int)=if k=399 then 146097 else 365*(k+1)+((k:Int)+1)/4-((k:Int)+1)/100:=by
  unfold cen cst;split <;> omega
 have hL:fL n=fO n-(365*k+(k:Int)/4-k/100):=by unfold fL;rw [eK];omega
 have av:0<=fL n:=zo;have au:fL n<366:=by split at aa <;> omega
 obtain ⟨L,ae⟩:=zx (fL n);have ag:∀e:Int,(e=4\/ e=5)->fN n/146097=e->(fN n/146097*400+fK n)=400*e+k:=by intro e _ h;rw [h,eK];omega
 obtain ⟨e,he,ap,aj⟩:∃e:Int,(e=4\/ e=5)/\fN n/146097=e/\fO n=n+719468-146097*e:=by
  rcases ac with ⟨a,b⟩ | ⟨a,b⟩
  ·exact ⟨4, .inl rfl,a,by omega⟩
  ·exact ⟨5, .inr rfl,a,by omega⟩
 have ak:fM n= (5*L+2)/153:=by unfold fM;rw [ae]
 obtain ⟨M,hM⟩:=zx (fM n);have ay:0<=M/\M<=11:=zo;have hD:fD n=L-(153*M+2)/5+1:=by unfold fD;rw [ae,hM]
 have ah:fMo n= (M+2)%12+1:=by unfold fMo;rw [hM]
 have hY:fY n=400*e+k+(if (M+2)%12+1<=2 then 1 else 0):=by unfold fY;rw [ah,ap,eK];split <;> omega
 rw [ae] at hL av au;rw [hM] at ak;rw [aj] at hL c1 c2;rw [ad] at c1;rw [aa] at c2;have fin:0<=fK n/\fK n<400/\0<=fL n/\fL n<366:=zo;refine ⟨((M+2)%12+1).toNat,by rw [ah];omega,?_,fin⟩;have:M=0\/ M=1\/ M=2\/ M=3\/ M=4\/ M=5\/ M=6\/ M=7\/ M=8\/ M=9\/ M=10\/ M=11:=zo
 have am:(k:Int)<=399:=zo;have an:(0:Int)<=k:=zo;obtain ⟨K,hK⟩:=zx ((k:Int));have aq:n+719468-146097*e<365*(K+1)+(K+1)/4-(K+1)/100+(if K=399 then 1 else 0):=by
  rw [<- hK];split at c2 <;> rename_i h5
  ·subst h5;simp;omega
  ·rw [Yb zo];omega
 rw [hK] at c1 hL hY am an;have ao:(if K=399 then (1:Int) else 0)=1/\K=399\/ (if K=399 then (1:Int) else 0)=0/\K≠399:=by
  by_cases h:K=399
  ·exact .inl ⟨Yd h,h⟩
  ·exact .inr ⟨Yb h,h⟩
 obtain ⟨Iq,hI⟩:=zx ((if K=399 then (1:Int) else 0));rw [hI] at aq ao;obtain ⟨Yq,ar⟩:=zx (400*e+K);have A:Yq/4=100*e+K/4/\Yq/100=4*e+K/100/\Yq/400=e:=zo;have B:(Yq+1)/4=100*e+(K+1)/4/\(Yq+1)/100=4*e+(K+1)/100/\(Yq+1)/400=e+Iq:=zo;have H1:ysI Yq+ybs Yq=365*(Yq-1970)+(100*e+K/4)-(4*e+K/100)+e-477:=by
  unfold ysI ybs;rw [A.1,A.2.1,A.2.2];omega
 have H2:ysI (Yq+1)=365*(Yq+1-1970)+(100*e+K/4)-(4*e+K/100)+e-477:=by
  unfold ysI;rw [show Yq+1-1=Yq by omega,A.1,A.2.1,A.2.2]
 have H3:ybs (Yq+1)= (K+1)/4-K/4-((K+1)/100-K/100)+Iq:=by
  unfold ybs;rw [show Yq+1-1=Yq by omega,A.1,A.2.1,A.2.2,B.1,B.2.1,B.2.2];omega
 have H4:2369<=Yq->146097<=ysI (Yq+1):=λ h=>by
  have h1:=ymx 2370 (Yq+1-2370).toNat;have h2:ysI 2370=146097:=by decide
  rw [show (2370:Int)+((Yq+1-2370).toNat:Int)=Yq+1 by omega] at h1;omega
 rw [hY,hD,ar];rcases this with rfl | rfl | rfl | rfl | rfl | rfl | rfl | rfl | rfl | rfl | rfl | rfl;all_goals
  refine ⟨?_,?_,by decide,by decide,?_,?_,?_⟩ <;> simp [ycx,msI] <;> omega
theorem yaQ {n:Int} (h0:0<=n) (h1:n<146097):1970<=fY n/\fY n<=2369/\1<=fMo n/\fMo n<=12/\1<=fD n/\fD n<=ycx (fY n) (fMo n):=by
 obtain ⟨m,e,hd,_⟩:=yoM n h0 h1;rw [e];exact ⟨hd.y0,hd.y1,by have:=hd.m0;omega,by have:=hd.m1;omega,hd.d0,hd.d1⟩
theorem yhl (a b:Int) (w:World) (ha:0<=a) (hb:1<=b) (ax:a<=9223372036854775807):H I 189 #[E T a,E T b] w λ e w'=>e=Q (E T (a/b))/\w=w':=by
 have h1:¬b<1:=zo;have h2:¬a%b<0:=by have:=ZM a (show b≠0 by omega);omega
 have h3:a/b<=a:=Int.ediv_le_self b ha;have h4:0<=a/b:=Int.ediv_nonneg ha zo;go_enter Tryz.func189,Tryz.ntmps189
 go_wp2;go_ret;exact ⟨rfl,rfl⟩
theorem yjt (a b:Int) (w:World) (ha:0<=a) (hb:1<=b):H I 160 #[E T a,E T b] w λ e w'=>e=Q (E T (a%b))/\w=w':=by
 have h1:¬b<1:=zo;have h2:¬a%b<0:=by have:=ZM a (show b≠0 by omega);omega
 go_enter Tryz.func160,Tryz.ntmps160
 go_wp2;go_ret;exact ⟨rfl,rfl⟩
theorem ynU (y:Int) (w:World) (h0:0<=y):H I 191 #[E T y] w λ e w'=>e=Q (Xb (ylD y))/\w=w':=by
 by_cases h4:y%4=0
 ·by_cases ab:y%100=0
  ·by_cases af:y%400=0
   ·have hr:Hid (ylD y=true):=zzZ zo;go_enter Tryz.func191,Tryz.ntmps191
    go_wp2;go_ret;exact ⟨by rw [hr];rfl,rfl⟩
   ·have hr:Hid (ylD y=false):=zzd zo;have hb:(y%400==0)=false:=(by simpa using af);go_enter Tryz.func191,Tryz.ntmps191
    go_wp2;go_ret;exact ⟨by rw [hr];rfl,rfl⟩
  ·have hr:Hid (ylD y=true):=zzZ zo;have hb:(y%100==0)=false:=(by simpa using ab);have aw:(y%100 != 0)=true:=(by simpa using ab);go_enter Tryz.func191,Tryz.ntmps191
   go_wp2;go_ret;exact ⟨by rw [hr];rfl,rfl⟩
 ·have hr:Hid (ylD y=false):=zzd zo;have hb:(y%4==0)=false:=by simpa using h4
  go_enter Tryz.func191,Tryz.ntmps191
  go_wp2;go_ret;exact ⟨by rw [hr];rfl,rfl⟩
theorem yxR {m:Int} (h1:1<=m) (h2:m<=12):m=1\/ m=2\/ m=3\/ m=4\/ m=5\/ m=6\/ m=7\/ m=8\/ m=9\/ m=10\/ m=11\/ m=12:=zo
theorem yd7 (y m:Int) (w:World) (h0:0<=y) (h1:1<=m) (h2:m<=12):H I 145 #[E T y,E T m] w λ e w'=>e=Q (E T (ycx y m))/\Bw w w':=by
 have c1:=hid (λ W=>ynU y W h0);have hl:=yq7 y;rcases yxR h1 h2 with rfl | rfl | rfl | rfl | rfl | rfl | rfl | rfl | rfl | rfl | rfl | rfl
 case inr.inl=>
  rcases hl with ⟨e1,e2⟩ | ⟨e1,e2⟩;all_goals
   have hr:ycx y 2=28+ybs y:=(by simp [ycx]);rw [e2] at hr;rw [e1] at c1;have Hr:=hid hr;go_enter Tryz.func145,Tryz.ntmps145
   go_wp2_with fail
   refine zm (c1 _) ?_;rintro w' rfl;go_wp2;go_ret;exact ⟨by rw [Hr];rfl,yaa (Ye _ _) zg⟩
 all_goals
  go_enter Tryz.func145,Tryz.ntmps145
  go_wp2;go_ret;exact ⟨by simp [ycx],yaa (Ye _ _) zg⟩
theorem yn0 (y m d:Int) (w:World) (h0:0<=y) (hy:y<=3000) (h1:1<=m) (h2:m<=12) (h3:1<=d) (h4:d<=ycx y m):H I 190 #[E T y,E T m,E T d] w λ e w'=>e=Q (Xb true)/\Bw w w':=by
 have c1:=hid (λ W=>yd7 y m W h0 h1 h2);obtain ⟨l,hl⟩:=zx (ycx y m);rw [hl] at c1 h4;go_enter Tryz.func190,Tryz.ntmps190
 go_wp2_with fail
 refine zm (c1 _) ?_;rintro w' hB;have HB:=hid hB;go_wp2;go_ret;exact ⟨ycq (by first | (simp;done) | (simp;omega)),HB⟩
theorem yjV {fn:Func} {t u v x:Tmp} (h:fn.results= #[.tmp t, .tmp u, .tmp v, .tmp x]) (tmps:Array Value) (P:Program) (w:World) :
  (results fn tmps).run P w= .ok (Xt #[tmps.getD t undef,tmps.getD u undef,tmps.getD v undef,tmps.getD x undef]) w:=by
 simp [results,h]
theorem ylP {n:Int} (h0:0<=n) (h1:n<146097):0<=fK n/\fK n<400/\0<=fL n/\fL n<366:=by
 obtain ⟨m,e,hd,h⟩:=yoM n h0 h1;exact h
theorem yhp (n:Int) (w:World) (h0:0<=n) (h1:n<146097):H I 142 #[E T n] w λ e w'=>e=Q (Xt #[E T (fY n),E T (fMo n),E T (fD n),Xb true])/\Bw w w':=by
 obtain ⟨y0,y1,m0,m1,d0,d1⟩:=yaQ h0 h1;obtain ⟨k0,k1,l0,l1⟩:=ylP h0 h1;have c1:=hid (λ W=>yhl n 365 W h0 zo zo);have c2:=hid (λ W=>yhl (n+719468) 146097 W zo zo zo);have c3:=hid (λ W=>yjt (n+719468) 146097 W zo zo);have c4:=hid (λ W=>yn0 (fY n) (fMo n) (fD n) W zo zo m0 m1 d0 d1);have eO:Hid ((n+719468)%146097=fO n):=rfl;have eN:Hid ((n+719468)/146097=fN n/146097):=rfl;have eK:Hid ((fO n-fO n/1460+fO n/36524-fO n/146096)/365=fK n):=rfl;have eL:Hid (fO n-(fK n*365+fK n/4-fK n/100)=fL n):=rfl;have eM:Hid ((5*fL n+2)/153=fM n):=rfl;have eD:Hid (fL n-(153*fM n+2)/5+1=fD n):=rfl;have af:Hid ((fM n+2)%12+1=fMo n):=rfl;have eY:Hid (fN n/146097*400+fK n+(if fMo n<=2 then 1 else 0)=fY n):=rfl;have bO:0<=fO n/\fO n<146097:=by unfold fO;omega
 have bN:0<=fN n/146097/\fN n/146097<=10:=by unfold fN;omega
 have bM:0<=fM n/\fM n<=12:=by unfold fM;omega
 obtain ⟨o,ho⟩:=zx (fO n);obtain ⟨er,aq⟩:=zx (fN n/146097);obtain ⟨k,hk⟩:=zx (fK n);obtain ⟨l,hl⟩:=zx (fL n);obtain ⟨mp,al⟩:=zx (fM n);obtain ⟨d,hd⟩:=zx (fD n);obtain ⟨mo,am⟩:=zx (fMo n);obtain ⟨y,hy⟩:=zx (fY n);rw [ho] at eO eK eL bO;rw [aq] at eN eY bN;rw [hk] at eK eL eY k0 k1;rw [hl] at eL eM eD l0 l1;rw [al] at eM eD af bM;rw [hd] at eD c4 d0 d1⊢;rw [am] at af eY c4 m0 m1 d1⊢;rw [hy] at eY c4 y0 y1 d1⊢;rw [eO] at c3;rw [eN] at c2;obtain ⟨o0,o1⟩:=bO;obtain ⟨e0,e1⟩:=bN;obtain ⟨aB,aA⟩:=bM;have q1:0<=n/365/\n/365<=1000:=zo;go_enter Tryz.func142,Tryz.ntmps142
 go_wp2_with fail
 refine zm (c1 _) ?_;rintro w' rfl;obtain ⟨az,ay⟩:=q1;go_wp2_with fail
 refine zm (c1 _) ?_;rintro w' rfl;go_wp2_with fail
 refine zm (c2 _) ?_;rintro w' rfl;go_wp2_with fail
 refine zm (c3 _) ?_;rintro w' rfl;have aH:=eK.out;have aG:=eL.out;have aF:=eM.out;have aI:=eD.out;have aw:=af.out;by_cases ah:mo<=2;all_goals
  have ag:=eY.out;first | rw [Yd ah] at ag | rw [Yb ah,Int.add_zero] at ag
  go_wp2_with fail
  refine zm (c4 _) ?_;rintro w' hB;have HB:=hid hB;go_wp2;refine Yh (yjV rfl _ _ _) rfl ?_;exact ⟨rfl,HB⟩
theorem yvn {n y:Int} {m:Nat} {d:Int} (h:yhk n y m d):msI y m+d=n-ysI y+1:=by have:=h.sum;omega
def fOr (n:Int):Int:=n-ysI (fY n)+1
theorem ynv {n:Int} (h0:0<=n) (h1:n<146097):msI (fY n) (fMo n).toNat+fD n=fOr n/\1<=fOr n/\fOr n<=365+ybs (fY n):=by
 obtain ⟨m,e,hd,_⟩:=yoM n h0 h1;have h:=yvn hd;have h2:=yj2 hd.m0 hd.m1 hd.d0 hd.d1;rw [e,YL];unfold fOr;omega
theorem yws (y:Int):msI y 1=0:=rfl
theorem ynZ (y:Int) (m:Nat) (d:Int) (w:World) (h0:0<=y) (hy:y<=3000) (h1:1<=m) (h2:m<=12) (h3:1<=d) (h4:d<=ycx y m) :
  H I 143 #[E T y,E T m,E T d] w λ e w'=>e=Q (Xt #[E T (msI y m+d),Xb true])/\Bw w w':=by
 have c1:=hid (yn0 y m d w h0 hy zo zo h3 h4);have c2:=hid (λ (k:Nat) W (a:1<=k) (b:k<=12)=>yd7 y k W h0 zo zo);have hn:=hid (λ k a b=>ygg y k a b);have hb:=ycV y m;have hl:=hid (λ k a b=>(yj2 (y:=y) (m:=k) (d:=1) a b zo (zp (ycV y k))));have ao:=hid (λ (k:Int)=>ycV y k);have aC:=ycu y;have ar:d<=31:=zo;go_enter Tryz.func143,Tryz.ntmps143
 go_wp2_with fail
 refine wp_scope_straight ?_;go_wp2_with fail
 refine zm c1 ?_;rintro w1 av;have ak:=hid av;go_wp2_with fail
 refine wp_label ?_;go_wp2_with fail
 go_loopw [8,9] (λ v i wr=>∃k:Nat,i=E T k/\1<=k/\k<=m/\v=E T (msI y k+d)/\Hid (Bw w wr)/\w.heap.size<=wr.heap.size) (λ _ i _=>(13-intOf i).toNat)
 case atStart=>exact ⟨1,rfl,by omega,h1,by rw [yws,Int.zero_add],ak,ak.size⟩
 case round=>
  obtain ⟨k,rfl,ae,aD,rfl,HB,hsz⟩:=hrel;have b1:=hl k ae zo;by_cases hk:k=m
  ·subst hk;have au:((k:Int)==(k:Int))=true:=(by simp);have aa:(k:Int)<=12:=zo;generalize hq:msI y k=q at b1⊢
   have Hq:=hid hq;go_wp2;simp only [Exit.noGoto];go_ret2
   exact ⟨by rw [Hq];rfl,HB⟩
  ·have aa:k<12:=zo;have au:((k:Int)==(m:Int))=false:=(by simp;omega);have aE:(k:Int)<=12:=zo;have ac:=hid (hn k ae aa);have aj:=hid (c2 k wr ae zo);have an:=ao k;obtain ⟨q,hq⟩:=zx (msI y k);obtain ⟨lk,ad⟩:=zx (ycx y k);rw [hq] at b1 ac⊢;rw [ad] at ac aj an;have ap:k<m:=zo;go_wp2_with fail
   refine zm aj ?_;rintro w2 ai;have ax:Hid (Bw w w2):=HB.trans (ai.mono hsz);have ab:w.heap.size<=w2.heap.size:=zI hsz ai.size;go_wp2;exact ⟨⟨k+1,by go_num,by omega,by omega,by rw [ac];congr 1;omega,ax,ab⟩,by simp [intOf];omega⟩
section
variable {B b o:Nat} {P:Program} {ty:TypeId} {W W' a:World}
abbrev yxW (n y m d b wk i1 i2 i3 i4:Int):Value:= .agg #[E T n,E T y,E T m,E T d,E T b,E T wk,E T i1,E T i2,E T i3,E T i4]
abbrev shv (n y m d o:Int):Value:=yxW n y m d (ycx y m-d+1) ((n%7+3)%7+1) ((d-1)/7+1) ((ycx y m-d)/7+1) ((o-1)/7+1) ((365+ybs y-o)/7+1)
def shN (n:Int):Value:=shv n (fY n) (fMo n) (fD n) (fOr n)
theorem yky (n:Int) (w:World) (h0:0<=n):H I 110 #[E T n] w λ e w'=>e=Q (E T ((n%7+3)%7+1))/\w=w':=by
 have c1:=hid (λ W=>yjt n 7 W h0 zo);have c2:=hid (λ W=>yjt (n%7+3) 7 W zo zo);have b1:0<=n%7/\n%7<7:=zo;have b2:0<=(n%7+3)%7/\(n%7+3)%7<7:=zo;generalize hq:(n%7+3)%7=q at c2 b2⊢
 obtain ⟨p,hp⟩:=zx (n%7);rw [hp] at c1 c2 b1;clear hp hq;go_enter Tryz.func110,Tryz.ntmps110
 go_wp2_with fail
 refine zm (c1 _) ?_;rintro w' rfl;go_wp2_with fail
 refine zm (c2 _) ?_;rintro w' rfl;go_wp2;go_ret;exact ⟨rfl,rfl⟩
theorem ykA (a l:Int) (w:World) (h1:1<=a) (h2:a<=l) (h3:l<=400):H I 192 #[E T a,E T l] w λ e w'=>e=Q (Xt #[E T ((a-1)/7+1),E T ((l-a)/7+1)])/\w=w':=by
 have b1:0<=(a-1)/7/\(a-1)/7<=400:=zo;have b2:0<=(l-a)/7/\(l-a)/7<=400:=zo;have n1:¬a<1:=zo;have n2:¬l<a:=zo;go_enter Tryz.func192,Tryz.ntmps192
 go_wp2;go_ret2
 exact ⟨rfl,rfl⟩
theorem yac {fn:Func} {p:Tmp} (h:fn.results= #[.cell p ty]) (tmps:Array Value) (w:World) (b o:Nat) (cs:List Value) (d:TypeDesc)
  (hp:tmps.getD p undef=R (G (Z b o N))) (hc:w.rangeAt b o cs) (hu:P.underlying ty=G d) (hd:d.isRow=true) (hi:(P.info? ty).map (·.size)=G cs.length) :
  (results fn tmps).run P w= .ok (.agg cs.toArray) w:=by
 have ae:tmps[p]?.getD undef=R (G (Z b o N)):=by simpa using hp
 simp [results,h,ae,asAddr,run_loadVar_mid w b o ty cs d hc hu hd hi]
theorem yaq {fn:Func} {p t:Tmp} (h:fn.results= #[.cell p ty, .tmp t]) (tmps:Array Value) (w:World) (b o:Nat) (cs:List Value) (d:TypeDesc)
  (hp:tmps.getD p undef=R (G (Z b o N))) (hc:w.rangeAt b o cs) (hu:P.underlying ty=G d) (hd:d.isRow=true) (hi:(P.info? ty).map (·.size)=G cs.length) :
  (results fn tmps).run P w= .ok (Xt #[.agg cs.toArray,tmps.getD t undef]) w:=by
 have ae:tmps[p]?.getD undef=R (G (Z b o N)):=by simpa using hp
 simp [results,h,ae,asAddr,run_loadVar_mid w b o ty cs d hc hu hd hi]
theorem yaB (hb:B<=b):∀(vs:List Value) (o:Nat) (w:World),Below B a w->Below B a (w.setCells b o vs)
 | [],_,_,h=>h
 | v::vs,o,w,h=>by rw [World.setCells];exact yaB hb vs (o+1) _ (yab h hb)
theorem yiJ {cs:List Value} (h:W.rangeAt b o cs) (hb:b<W.heap.size) (x:Obj):(W.alloc x).rangeAt b o cs:=λ j v hv=>
 ((yaa (Ye _ W) zg).cell (p:=Z b (o+j) N) hb).trans (h j v hv)
theorem ydd {n:Nat} (h:W.there b o n) (hb:Below B W W') (hB:b<B):W'.there b o n:=λ j hj=>by
 obtain ⟨h1,h2⟩:=h j hj;exact ⟨by rw [hb.cell (p:=Z b (o+j) N) hB];exact h1,(hb.frozen (p:=Z b (o+j) N) hB).trans h2⟩
def Z10 (W:World) (b:Nat):Prop:=∀i,i<10->W.cell? (Z b i N)=G (E T 0)/\W.frozen? (Z b i N)=false
theorem Z10.below (h:Z10 W b) (hb:Below B W W') (hB:b<B):Z10 W' b:=λ i hi=>⟨(hb.cell (p:=Z b i N) hB).trans (h i hi).1,(hb.frozen (p:=Z b i N) hB).trans (h i hi).2⟩
theorem ypv (w:World) (t:TypeId):Z10 (w.alloc (J #[E T 0,E T 0,E T 0,E T 0,E T 0,E T 0,E T 0,E T 0,E T 0,E T 0] t)) w.heap.size:=by
 intro i hi;have:i=0\/ i=1\/ i=2\/ i=3\/ i=4\/ i=5\/ i=6\/ i=7\/ i=8\/ i=9:=zo
 rcases this with rfl | rfl | rfl | rfl | rfl | rfl | rfl | rfl | rfl | rfl <;> exact ⟨by simp [go_sem],by simp [go_sem]⟩
theorem Z10.there (h:Z10 W b):W.there b 0 10:=λ j hj=>by
 rw [zzn];exact ⟨by rw [(h j hj).1];rfl,(h j hj).2⟩
theorem Z10.all (h:Z10 W b):(W.cell? (Z b 0 N)=G (E T 0)/\W.cell? (Z b 1 N)=G (E T 0)/\W.cell? (Z b 2 N)=G (E T 0)/\W.cell? (Z b 3 N)=G (E T 0)/\W.cell? (Z b 4 N)=G (E T 0)/\
  W.cell? (Z b 5 N)=G (E T 0)/\W.cell? (Z b 6 N)=G (E T 0)/\W.cell? (Z b 7 N)=G (E T 0)/\W.cell? (Z b 8 N)=G (E T 0)/\W.cell? (Z b 9 N)=G (E T 0))/\
  (W.frozen? (Z b 0 N)=false/\W.frozen? (Z b 1 N)=false/\W.frozen? (Z b 2 N)=false/\W.frozen? (Z b 3 N)=false/\W.frozen? (Z b 4 N)=false/\
  W.frozen? (Z b 5 N)=false/\W.frozen? (Z b 6 N)=false/\W.frozen? (Z b 7 N)=false/\W.frozen? (Z b 8 N)=false/\W.frozen? (Z b 9 N)=false):=
 ⟨⟨(h 0 zo).1,(h 1 zo).1,(h 2 zo).1,(h 3 zo).1,(h 4 zo).1,(h 5 zo).1,(h 6 zo).1,(h 7 zo).1,(h 8 zo).1,(h 9 zo).1⟩,
  (h 0 zo).2,(h 1 zo).2,(h 2 zo).2,(h 3 zo).2,(h 4 zo).2,(h 5 zo).2,(h 6 zo).2,(h 7 zo).2,(h 8 zo).2,(h 9 zo).2⟩
theorem ypT (h:Z10 W b) (vs:List Value) (hl:vs.length=10):(W.setCells b 0 vs).rangeAt b 0 vs:=Zd _ _ _ _ (by rw [hl];exact h.there)
abbrev ten (W:World) (b:Nat) (v0 v1 v2 v3 v4 v5 v6 v7 v8 v9:Value):World:=
 (((((((((W.setCell (Z b 0 N) v0).setCell (Z b 1 N) v1).setCell (Z b 2 N) v2).setCell (Z b 3 N) v3).setCell (Z b 4 N) v4).setCell (Z b 5 N) v5).setCell (Z b 6 N) v6).setCell (Z b 7 N) v7).setCell (Z b 8 N) v8).setCell (Z b 9 N) v9
theorem yvi (W:World) (b:Nat) (v0 v1 v2 v3 v4 v5 v6 v7 v8 v9:Value):ten W b v0 v1 v2 v3 v4 v5 v6 v7 v8 v9=W.setCells b 0 [v0,v1,v2,v3,v4,v5,v6,v7,v8,v9]:=rfl
theorem ymF (W:World) (b:Nat) (v0 v1 v2 v3 v4 v5 v6 v7 v8 v9:Value):(ten W b v0 v1 v2 v3 v4 v5 v6 v7 v8 v9).heap.size=W.heap.size:=by simp [ten]
theorem yjL (h:Below B a W) (hb:B<=b) (v0 v1 v2 v3 v4 v5 v6 v7 v8 v9:Value):Below B a (ten W b v0 v1 v2 v3 v4 v5 v6 v7 v8 v9):=by
 rw [yvi];exact yaB hb _ _ _ h
theorem yvj (h:Z10 W b) (v0 v1 v2 v3 v4 v5 v6 v7 v8 v9:Value):(ten W b v0 v1 v2 v3 v4 v5 v6 v7 v8 v9).rangeAt b 0 [v0,v1,v2,v3,v4,v5,v6,v7,v8,v9]:=by
 rw [yvi];exact ypT h _ rfl
theorem yvY (h:Z10 W b) (hb:b<W.heap.size) (o:Obj) (v0 v1 v2 v3 v4 v5 v6 v7 v8 v9:Value):((ten W b v0 v1 v2 v3 v4 v5 v6 v7 v8 v9).alloc o).rangeAt b 0 [v0,v1,v2,v3,v4,v5,v6,v7,v8,v9]:=
 yiJ (yvj h _ _ _ _ _ _ _ _ _ _) (by rw [ymF];exact hb) o
theorem yn8 (h:Below B a W) (hb:B<=b) (hs:B<=W.heap.size) (o:Obj) (v0 v1 v2 v3 v4 v5 v6 v7 v8 v9:Value):Below B a ((ten W b v0 v1 v2 v3 v4 v5 v6 v7 v8 v9).alloc o):=
 yaa (yjL h hb _ _ _ _ _ _ _ _ _ _) (by rw [ymF];exact hs)
theorem yap (w:World) (l:List Value) (t:TypeId):(w.alloc (J l.toArray t)).rangeAt w.heap.size 0 l:=λ j v hv=>by
 obtain ⟨hj,e⟩:=zzq.1 hv;rw [zzn];simp [go_sem,hj,e]
theorem yaL (w:World) (cs:Array Value) (t:TypeId):(w.alloc (J cs t)).there w.heap.size 0 cs.size:=λ j hj=>by
 rw [zzn];refine ⟨?_,by simp [go_sem]⟩;simp [go_sem,hj]
theorem ykc:(Tryz.prog.info? 83).map (·.size)=G 10:=by kernel_rfl
theorem yhL (n y m d o:Int) (w:World) (ap:0<=n) (aJ:n<200000) (aH:1970<=y) (aG:y<=2400) (ar:1<=m) (aq:m<=12) (aA:1<=d) (al:d<=ycx y m) (ao:1<=o) (aj:o<=365+ybs y) :
  H I 144 #[E T n,E T y,E T m,E T d,E T o] w λ e w'=>e=Q (shv n y m d o)/\Bw w w':=by
 have c1:=hid (λ W=>yd7 y m W zo ar aq);have c2:=hid (λ W=>ynU y W zo);have c3:=hid (λ W=>yky n W ap);have av:=ycV y m;have c4:=hid (λ W=>ykA d (ycx y m) W aA al zo);have hl:=yq7 y;have c5:=hid (λ W=>ykA o (365+ybs y) W ao aj (by rcases hl with h | h <;> omega));unfold shv;generalize au:ycx y m=l at c1 c4 al av⊢
 generalize am:(n%7+3)%7+1=wd at c3⊢
 generalize az:(d-1)/7+1=i1 at c4⊢
 generalize ay:(l-d)/7+1=i2 at c4⊢
 generalize ax:(o-1)/7+1=i3 at c5⊢
 generalize aw:(365+ybs y-o)/7+1=i4 at c5⊢
 clear au am az ay ax aw;have HZ:=hid (ypv w 83);rcases hl with ⟨e1,e2⟩ | ⟨e1,e2⟩;all_goals
  rw [e1] at c2;rw [e2] at c5;first | rw [show (365:Int)+1=366 from rfl] at c5 | rw [show (365:Int)+0=365 from rfl] at c5
  clear e1 e2 aj;go_enter Tryz.func144,Tryz.ntmps144
  go_wp2_with fail
  refine zm (c1 _) ?_;rintro w1 aa;have ab:=HZ.below aa zs;have ah:Hid (Bw w w1):=(yaa (Ye _ _) zg).trans (aa.mono zs);have ad:w.heap.size<w1.heap.size:=by have:=aa.size;simp at this;omega
  have aI:w.heap.size≠w1.heap.size:=zo;have aD:=hid ab;obtain ⟨⟨z0,z1,z2,z3,z4,z5,z6,z7,z8,z9⟩,f0,f1,f2,f3,f4,f5,f6,f7,f8,f9⟩:=ab.all;clear ab;clear aa HZ c1;go_wp2_with fail
  refine zm (c2 _) ?_;rintro w' rfl;go_wp2_with fail
  refine zm (c3 _) ?_;rintro w' rfl;go_wp2_with fail
  refine zm (c4 _) ?_;rintro w' rfl;go_wp2_with fail
  refine zm (c5 _) ?_;rintro w' rfl;go_wp2;refine Yh (yac rfl _ _ w.heap.size 0 _ _ rfl (yvY aD ad _ _ _ _ _ _ _ _ _ _ _) Tryz.underlying83 rfl ykc) rfl ⟨rfl,yn8 ah zg zo _ _ _ _ _ _ _ _ _ _ _⟩
theorem ykH (n:Int) (w:World) (h0:0<=n) (h1:n<146097):H I 124 #[E T n] w λ e w'=>e=Q (Xt #[shN n,Xb true])/\Bw w w':=by
 obtain ⟨y0,y1,m0,m1,d0,d1⟩:=yaQ h0 h1;obtain ⟨g1,g2,g3⟩:=ynv h0 h1;have hm:((fMo n).toNat:Int)=fMo n:=zo;have c1:=hid (λ W=>yhp n W h0 h1);have c2:Hid (∀W,H I 143 #[E T (fY n),E T (fMo n),E T (fD n)] W λ e w'=>e=Q (Xt #[E T (fOr n),Xb true])/\Bw W w'):=λ W=>by
  have:=ynZ (fY n) (fMo n).toNat (fD n) W zo zo zo zo d0 (by rw [hm];exact d1);rw [hm,g1] at this;exact this
 have c3:Hid (∀W,H I 144 #[E T n,E T (fY n),E T (fMo n),E T (fD n),E T (fOr n)] W λ e w'=>e=Q (shN n)/\Bw W w'):=λ W=>yhL n _ _ _ _ W h0 zo y0 zo m0 m1 d0 d1 g2 g3;have ai:Hid (∃a0 a1 a2 a3 a4 a5 a6 a7 a8 a9:Int,shN n=yxW a0 a1 a2 a3 a4 a5 a6 a7 a8 a9):=⟨_,_,_,_,_,_,_,_,_,_,rfl⟩;obtain ⟨a0,a1,a2,a3,a4,a5,a6,a7,a8,a9,hs⟩:=ai.out;rw [hs] at c3⊢;obtain ⟨y,hy⟩:=zx (fY n);obtain ⟨mo,ak⟩:=zx (fMo n);obtain ⟨d,hd⟩:=zx (fD n);obtain ⟨o,ho⟩:=zx (fOr n);rw [hy,ak,hd] at c1 c2 c3;rw [ho] at c2 c3;have HZ:=hid (ypv w 83);clear y0 y1 m0 m1 d0 d1 g1 g2 g3 hm hs ai hy ak hd ho;go_enter Tryz.func124,Tryz.ntmps124
 go_wp2_with fail
 refine zm (c1 _) ?_;rintro w1 aa;have ab:=hid (HZ.below aa zs);have ah:Hid (Bw w w1):=(yaa (Ye _ _) zg).trans (aa.mono zs);have ad:w.heap.size<w1.heap.size:=by have:=aa.size;simp at this;omega
 clear aa;go_wp2_with fail
 refine zm (c2 _) ?_;rintro w2 ac;have aB:=hid (ab.below ac ad);have aF:Hid (Bw w w2):=ah.trans (ac.mono zo);have an:w.heap.size<w2.heap.size:=by have:=ac.size;omega
 clear ac;go_wp2_with fail
 refine zm (c3 _) ?_;rintro w3 ag;have af:=aB.below ag an;have aE:Hid (Bw w w3):=aF.trans (ag.mono zo);have aC:=hid af;obtain ⟨⟨z0,z1,z2,z3,z4,z5,z6,z7,z8,z9⟩,f0,f1,f2,f3,f4,f5,f6,f7,f8,f9⟩:=af.all;clear ag af;go_wp2;refine Yh (yaq rfl _ _ w.heap.size 0 _ _ rfl (yvj aC _ _ _ _ _ _ _ _ _ _) Tryz.underlying83 rfl ykc) rfl ⟨rfl,yjL aE zg _ _ _ _ _ _ _ _ _ _⟩
end
def yxD (s:Int):Bool:=decide (0<=s/\s<86400)
theorem yhg (s:Int) (w:World) (h0:0<=s) (h1:s<86400):H I 137 #[E T s] w λ e w'=>e=Q (Xt #[E T (s/3600),E T (s/60%60),E T (s%60),Xb true])/\w=w':=by
 go_enter Tryz.func137,Tryz.ntmps137
 go_wp2;exact Yh (v:=Xt #[E T (s/3600),E T (s/60%60),E T (s%60),Xb true]) (by simp [results,Tryz.results137,go_sem]) rfl ⟨rfl,rfl⟩
def ydc (s:Int) (hs ms ss:Nat):Bool:=yxD s&&(ya8 hs (s/3600)&&(ya8 ms (s/60%60)&&ya8 ss (s%60)))
def ycb (t:Int):Bool:=decide (0<=t/\t<12622780800)
theorem ycY (t:Int):(ycb t=true/\0<=t/\t<12622780800)\/ (ycb t=false/\(t<0\/ 12622780800<=t)):=by
 by_cases h:0<=t/\t<12622780800
 ·exact .inl ⟨zzZ h,h⟩
 ·exact .inr ⟨zzd h,by omega⟩
theorem yhj (t:Int) (w:World):H I 158 #[E T t] w λ e w'=>e=Q (Xb (ycb t))/\w=w':=by
 rcases ycY t with ⟨e,h0,h⟩ | ⟨e,h | h⟩;rotate_left 2;have h0:0<=t:=zo;all_goals
  rw [e];clear e;go_enter Tryz.func158,Tryz.ntmps158
  go_wp2;go_ret;exact ⟨by first | rfl | exact ycq (by simp;omega),rfl⟩
theorem yb0 (t:Int) (w:World) (h0:0<=t) (h1:t<12622780800):H I 181 #[E T t] w λ e w'=>e=Q (Xt #[E T (t/86400),E T (t%86400),Xb true])/\w=w':=by
 have c1:=hid (yhj t w);rw [show ycb t=true from zzZ ⟨h0,h1⟩] at c1;go_enter Tryz.func181,Tryz.ntmps181
 go_wp2_with fail
 refine zm c1 ?_;rintro w' rfl;go_wp2;refine Yh (results_tmp3 rfl _ _ _) rfl ?_;exact ⟨rfl,rfl⟩
theorem ygr (t:Int) (w:World) (h:ycb t=false):H I 181 #[E T t] w λ e w'=>e=Q (Xt #[E T 0,E T 0,Xb false])/\w=w':=by
 have c1:=hid (yhj t w);rw [h] at c1;clear h;go_enter Tryz.func181,Tryz.ntmps181
 go_wp2_with fail
 refine zm c1 ?_;rintro w' rfl;go_wp2;refine Yh (results_tmp3 rfl _ _ _) rfl ?_;exact ⟨rfl,rfl⟩
def wkN (n:Int):Int:=n/7+(if 4<=n%7 then 1 else 0)
theorem yhd (n:Int) (w:World) (h0:0<=n) (h1:n<200000):H I 151 #[E T n] w λ e w'=>e=Q (E T (wkN n))/\w=w':=by
 have c1:=hid (yhl n 7 w h0 zo zo);have c2:=hid (yjt n 7 w h0 zo);have b1:0<=n/7/\n/7<200000:=zo;have hr:Hid (wkN n=n/7+(if 4<=n%7 then 1 else 0)):=rfl;obtain ⟨q,hq⟩:=zx (n/7);obtain ⟨m,hm⟩:=zx (n%7);rw [hq] at c1 b1 hr;rw [hm] at c2 hr;clear hq hm;by_cases h4:4<=m;focus
  rw [Yd h4] at hr
 rotate_left;focus
  rw [Yb h4,Int.add_zero] at hr
 rotate_left;all_goals
  go_enter Tryz.func151,Tryz.ntmps151
  go_wp2_with fail
  refine zm c1 ?_;rintro w' rfl;go_wp2_with fail
  refine zm c2 ?_;rintro w' rfl;go_wp2;go_ret;exact ⟨by rw [hr];rfl,rfl⟩
def yav (u:Int):Int:=if u=0 then 1 else if u=1 then 60 else if u=2 then 3600 else 0
theorem ye4 (u:Int):u=0\/ u=1\/ u=2\/ (u≠0/\u≠1/\u≠2/\yav u=0):=by
 by_cases h0:u=0
 ·exact .inl h0
 ·by_cases h1:u=1
  ·exact .inr (.inl h1)
  ·by_cases h2:u=2
   ·exact .inr (.inr (.inl h2))
   ·exact .inr (.inr (.inr ⟨h0,h1,h2,by simp [yav,h0,h1,h2]⟩))
theorem ydn (u:Int) (w:World):H I 96 #[E T u] w λ e w'=>e=Q (E T (yav u))/\Bw w w':=by
 rcases ye4 u with rfl | rfl | rfl | ⟨h0,h1,h2,h3⟩
 case inr.inr.inr=>
  rw [h3];clear h3;by_cases hn:u<0
  ·go_enter Tryz.func96,Tryz.ntmps96
   go_wp2;go_ret;exact ⟨rfl,yaa (Ye _ _) zg⟩
  ·have h3:3<=u:=zo;clear h0 h1 h2;go_enter Tryz.func96,Tryz.ntmps96
   go_wp2;go_ret;exact ⟨rfl,yaa (Ye _ _) zg⟩
 all_goals
  go_enter Tryz.func96,Tryz.ntmps96
  go_wp2;go_ret;exact ⟨rfl,yaa (Ye _ _) zg⟩
def whD (u n:Int):Int:=if u=3 then n else if u=4 then wkN n else if u=5 then 12*fY n+fMo n-1 else fY n
def whU (u t:Int):Int:=if u=0 then t else if u=1 then t/60 else if u=2 then t/3600 else whD u (t/86400)
theorem yvb {n:Int} (h0:0<=n) (h1:n<146097):0<=wkN n/\wkN n<30000:=by unfold wkN;split <;> omega
theorem yvd {u n:Int} (h0:0<=n) (h1:n<146097):0<=whD u n/\whD u n<200000:=by
 obtain ⟨y0,y1,m0,m1,_⟩:=yaQ h0 h1;have:=yvb h0 h1;unfold whD;split
 ·omega
 ·split
  ·omega
  ·split <;> omega
theorem yxJ {u t:Int} (h0:0<=t) (h1:t<12622780800):0<=whU u t/\whU u t<12622780800:=by
 have:=yvd (u:=u) (n:=t/86400) zo zo;unfold whU;split
 ·omega
 ·split
  ·omega
  ·split <;> omega
theorem ykO (u n:Int) (w:World) (ak:3<=u) (ag:u<=6) (h0:0<=n) (h1:n<146097):H I 210 #[E T u,shN n] w λ e w'=>e=Q (E T (whD u n))/\Bw w w':=by
 obtain ⟨y0,y1,m0,m1,_⟩:=yaQ h0 h1;have c1:=hid (λ W=>yhd n W h0 zo);have ac:u=3\/ u=4\/ u=5\/ u=6:=zo;have hr:Hid (whD 3 n=n/\whD 4 n=wkN n/\whD 5 n=12*fY n+fMo n-1/\whD 6 n=fY n):=⟨rfl,rfl,rfl,rfl⟩;unfold shN shv yxW;obtain ⟨a4,h4⟩:=zx (ycx (fY n) (fMo n)-fD n+1);obtain ⟨a5,h5⟩:=zx ((n%7+3)%7+1);obtain ⟨a6,h6⟩:=zx ((fD n-1)/7+1);obtain ⟨a7,h7⟩:=zx ((ycx (fY n) (fMo n)-fD n)/7+1);obtain ⟨a8,h8⟩:=zx ((fOr n-1)/7+1);obtain ⟨a9,h9⟩:=zx ((365+ybs (fY n)-fOr n)/7+1);rw [h4,h5,h6,h7,h8,h9];clear h4 h5 h6 h7 h8 h9;obtain ⟨y,hy⟩:=zx (fY n);obtain ⟨m,hm⟩:=zx (fMo n);obtain ⟨d,hd⟩:=zx (fD n);rw [hy,hm] at hr;rw [hy] at y0 y1;rw [hm] at m0 m1;rw [hy,hm,hd];clear hy hm hd ak ag;rcases ac with rfl | rfl | rfl | rfl
 case inr.inl=>
  rw [hr.2.1];go_enter Tryz.func210,Tryz.ntmps210
  go_wp2_with fail
  refine zm (c1 _) ?_;rintro w' rfl;go_wp2;go_ret;exact ⟨rfl,yaa (Ye _ _) zg⟩
 focus
  rw [hr.1]
 rotate_left;focus
  rw [hr.2.2.1]
 rotate_left;focus
  rw [hr.2.2.2]
 rotate_left;all_goals
  go_enter Tryz.func210,Tryz.ntmps210
  go_wp2;go_ret;exact ⟨rfl,yaa (Ye _ _) zg⟩
theorem ypD {u t:Int} (h:3<=u):whU u t=whD u (t/86400):=by
 unfold whU;rw [Yb zo,Yb zo,Yb zo]
theorem yoX (u t:Int) (w:World) (ak:0<=u) (ag:u<=6) (h0:0<=t) (h1:t<12622780800) :
  H I 184 #[E T u,E T t] w λ e w'=>e=Q (Xt #[E T (whU u t),Xb true])/\Bw w w':=by
 have c1:=hid (yb0 t w h0 h1);have c2:=hid (λ W=>ydn u W);have c3:=hid (λ W=>ykH (t/86400) W zo zo);have ah:∃a0 a1 a2 a3 a4 a5 a6 a7 a8 a9:Int,shN (t/86400)=yxW a0 a1 a2 a3 a4 a5 a6 a7 a8 a9:=⟨_,_,_,_,_,_,_,_,_,_,rfl⟩;by_cases h3:3<=u
 ·rw [ypD h3];have hz:yav u=0:=by unfold yav;rw [Yb zo,Yb zo,Yb zo]
  have c4:=hid (λ W=>ykO u (t/86400) W h3 ag zo zo);rw [hz] at c2;have aw:0<=t/86400:=zo;have av:t/86400<146097:=zo;obtain ⟨q,hq⟩:=zx (t/86400);simp only [hq] at c1 c3 c4 ah aw av⊢;obtain ⟨a0,a1,a2,a3,a4,a5,a6,a7,a8,a9,hs⟩:=ah;have q4:0<=t%86400/\t%86400<=12622780800:=zo;simp only [hs] at c3 c4;have ay:¬u<0:=zo;have ax:¬7<=u:=zo;clear hq hz hs;go_enter Tryz.func184,Tryz.ntmps184
  go_wp2_with fail
  refine zm c1 ?_;rintro w' rfl;go_wp2_with fail
  refine zm (c2 _) ?_;rintro w1 aa;have ab:=hid aa;clear aa;go_wp2_with fail
  refine zm (c3 _) ?_;rintro w2 ae;have af:Hid (Bw w w2):=zu ab ae;clear ae;go_wp2_with fail
  refine zm (c4 _) ?_;rintro w3 aq;have aB:Hid (Bw w w3):=(yaa af af.size).trans (aq.mono (by have:=af.size;simp;omega));clear aq;go_wp2;go_ret2
  exact ⟨rfl,aB⟩
 ·have ac:u=0\/ u=1\/ u=2:=zo;clear c3 ah ak ag h3;have q1:0<=t/60/\t/60<=12622780800:=zo;have q2:0<=t/3600/\t/3600<=12622780800:=zo;have q3:0<=t/86400/\t/86400<=12622780800:=zo;have q4:0<=t%86400/\t%86400<=12622780800:=zo;rcases ac with rfl | rfl | rfl
  ·have al:Hid (∀W,H I 96 #[E T 0] W λ e w'=>e=Q (E T 1)/\Bw W w'):=c2.out;rw [show whU 0 t=t from rfl];clear c2;go_enter Tryz.func184,Tryz.ntmps184
   go_wp2_with fail
   refine zm c1 ?_;rintro w' rfl;go_wp2_with fail
   refine zm (al _) ?_;rintro w1 aa;have ab:=hid aa;clear aa;go_wp2;go_ret2
   exact ⟨by simp,ab⟩
  focus
   have al:Hid (∀W,H I 96 #[E T 1] W λ e w'=>e=Q (E T 60)/\Bw W w'):=c2.out;rw [show whU 1 t=t/60 from rfl]
  rotate_left;focus
   have al:Hid (∀W,H I 96 #[E T 2] W λ e w'=>e=Q (E T 3600)/\Bw W w'):=c2.out;rw [show whU 2 t=t/3600 from rfl]
  rotate_left;all_goals
   clear c2;go_enter Tryz.func184,Tryz.ntmps184
   go_wp2_with fail
   refine zm c1 ?_;rintro w' rfl;go_wp2_with fail
   refine zm (al _) ?_;rintro w1 aa;have ab:=hid aa;clear aa;go_wp2;go_ret2
   exact ⟨rfl,ab⟩
theorem yie (u t:Int) (w:World) (h:ycb t=false):H I 184 #[E T u,E T t] w λ e w'=>e=Q (Xt #[E T 0,Xb false])/\Bw w w':=by
 have c1:=hid (ygr t w h);clear h;go_enter Tryz.func184,Tryz.ntmps184
 go_wp2_with fail
 refine zm c1 ?_;rintro w' rfl;go_wp2;go_ret2
 exact ⟨rfl,Ye _ _⟩
theorem yoY (u t:Int) (w:World) (h:u<0\/ 6<u):H I 184 #[E T u,E T t] w λ e w'=>e=Q (Xt #[E T 0,Xb false])/\Bw w w':=by
 rcases ycY t with ⟨e,h0,h1⟩ | ⟨e,_⟩
 ·have c1:=hid (yb0 t w h0 h1);have q3:0<=t/86400/\t/86400<=12622780800:=zo;have q4:0<=t%86400/\t%86400<=12622780800:=zo;clear e;rcases h with h | h;rotate_left;focus
   have ay:¬u<0:=zo;have ax:7<=u:=zo
  rotate_left;all_goals
   go_enter Tryz.func184,Tryz.ntmps184
   go_wp2_with fail
   refine zm c1 ?_;rintro w' rfl;go_wp2;go_ret2
   exact ⟨rfl,Ye _ _⟩
 ·exact yie u t w e
def unB (u:Int):Bool:=decide (0<=u/\u<=6)
def ybB (u t:Int):Bool:=unB u&&ycb t
def ybh (u t:Int):Int:=if ybB u t then whU u t else 0
theorem yjJ (u:Int):(unB u=true/\0<=u/\u<=6)\/ (unB u=false/\(u<0\/ 6<u)):=by
 by_cases h:0<=u/\u<=6
 ·exact .inl ⟨zzZ h,h⟩
 ·exact .inr ⟨zzd h,by omega⟩
theorem yjG (u t:Int):0<=ybh u t/\ybh u t<12622780800:=by
 unfold ybh ybB;rcases ycY t with ⟨e,h0,h1⟩ | ⟨e,_⟩
 ·rw [e,Y7];split
  ·exact yxJ h0 h1
  ·omega
 ·rw [e,Y3,Yb zs];omega
theorem yif (u t:Int) (w:World):H I 184 #[E T u,E T t] w λ e w'=>e=Q (Xt #[E T (ybh u t),Xb (ybB u t)])/\Bw w w':=by
 unfold ybh ybB;rcases yjJ u with ⟨e1,u0,u1⟩ | ⟨e1,hu⟩
 ·rcases ycY t with ⟨e2,h0,h1⟩ | ⟨e2,h⟩
  ·rw [e1,e2];exact yoX u t w u0 u1 h0 h1
  ·rw [e1,e2];exact yie u t w e2
 ·rw [e1,Yv];exact yoY u t w hu
def stepB (s d:Int):Bool:=decide (1<=s)&&decide (d%s=0)
def onB (u s a t:Int):Bool:=ybB u a&&(ybB u t&&stepB s (ybh u t-ybh u a))
theorem ypS (d s:Int):(d.tmod s==0)=decide (d%s=0):=by
 rw [zze,beq_iff_eq,zzY,<- Int.dvd_iff_tmod_eq_zero,<- Int.dvd_iff_emod_eq_zero]
theorem yiF (n:Int):∃a0 a1 a2 a3 a4 a5 a6 a7 a8 a9:Int,shN n=yxW a0 a1 a2 a3 a4 a5 a6 a7 a8 a9:=⟨_,_,_,_,_,_,_,_,_,_,rfl⟩
theorem yxp (n:Int) (w:World):H I 207 #[shN n] w λ e w'=>e=Q (Xb false)/\Bw w w':=by
 obtain ⟨a0,a1,a2,a3,a4,a5,a6,a7,a8,a9,hs⟩:=yiF n;rw [hs];clear hs;go_enter Tryz.func207,Tryz.ntmps207
 go_wp2;go_ret;exact ⟨rfl,yaa (Ye _ _) zg⟩
theorem yxo (n:Int) (w:World):H I 208 #[shN n] w λ e w'=>e=Q (Xb true)/\Bw w w':=by
 obtain ⟨a0,a1,a2,a3,a4,a5,a6,a7,a8,a9,hs⟩:=yiF n;rw [hs];clear hs;go_enter Tryz.func208,Tryz.ntmps208
 go_wp2;go_ret;exact ⟨rfl,yaa (Ye _ _) zg⟩
structure yvS (W:World) (b3 b7 b4:Nat) (u a s:Int):Prop where
 c3:W.cell? (Z b3 0 N)=G (E T u)
 c7:W.cell? (Z b7 0 N)=G (E T a)
 c4:W.cell? (Z b4 0 N)=G (E T s)
 l3:b3<W.heap.size
 l7:b7<W.heap.size
 l4:b4<W.heap.size
theorem yvS.keep {W W':World} {b3 b7 b4:Nat} {u a s:Int} (h:yvS W b3 b7 b4 u a s) (hs:W.heap.size<=W'.heap.size) (hb:∀b,b=b3\/ b=b7\/ b=b4->W'.heap[b]? =W.heap[b]?):yvS W' b3 b7 b4 u a s:=
 ⟨(zzJ (w:=W) (a:=Z b3 0 N) (hb b3 (.inl rfl))).trans h.c3,(zzJ (w:=W) (a:=Z b7 0 N) (hb b7 (.inr (.inl rfl)))).trans h.c7,(zzJ (w:=W) (a:=Z b4 0 N) (hb b4 (.inr (.inr rfl)))).trans h.c4,
   zH h.l3 hs,zH h.l7 hs,zH h.l4 hs⟩
theorem yvS.below {W W':World} {b3 b7 b4:Nat} {u a s:Int} (h:yvS W b3 b7 b4 u a s) (hb:Bw W W'):yvS W' b3 b7 b4 u a s:=
 h.keep hb.size (λ b az=>by
  rcases az with rfl | rfl | rfl
  ·exact hb.block _ h.l3
  ·exact hb.block _ h.l7
  ·exact hb.block _ h.l4)
abbrev ShC (W:World) (b:Nat) (a0 a1 a2 a3 a4 a5 a6 a7 a8 a9:Int):Prop:=
 W.cell? (Z b 0 N)=G (E T a0)/\W.cell? (Z b 1 N)=G (E T a1)/\W.cell? (Z b 2 N)=G (E T a2)/\W.cell? (Z b 3 N)=G (E T a3)/\W.cell? (Z b 4 N)=G (E T a4)/\
 W.cell? (Z b 5 N)=G (E T a5)/\W.cell? (Z b 6 N)=G (E T a6)/\W.cell? (Z b 7 N)=G (E T a7)/\W.cell? (Z b 8 N)=G (E T a8)/\W.cell? (Z b 9 N)=G (E T a9)
theorem ShC.below {W W':World} {b B:Nat} {a0 a1 a2 a3 a4 a5 a6 a7 a8 a9:Int} (h:ShC W b a0 a1 a2 a3 a4 a5 a6 a7 a8 a9) (hb:Below B W W') (hB:b<B):ShC W' b a0 a1 a2 a3 a4 a5 a6 a7 a8 a9:=by
 obtain ⟨h0,h1,h2,h3,h4,h5,h6,h7,h8,h9⟩:=h;exact ⟨(hb.cell (p:=Z b 0 N) hB).trans h0,(hb.cell (p:=Z b 1 N) hB).trans h1,(hb.cell (p:=Z b 2 N) hB).trans h2,(hb.cell (p:=Z b 3 N) hB).trans h3,(hb.cell (p:=Z b 4 N) hB).trans h4,
  (hb.cell (p:=Z b 5 N) hB).trans h5,(hb.cell (p:=Z b 6 N) hB).trans h6,(hb.cell (p:=Z b 7 N) hB).trans h7,(hb.cell (p:=Z b 8 N) hB).trans h8,(hb.cell (p:=Z b 9 N) hB).trans h9⟩
theorem ycB (w:World) (t:TypeId) (a0 a1 a2 a3 a4 a5 a6 a7 a8 a9:Int):ShC (w.alloc (J #[E T a0,E T a1,E T a2,E T a3,E T a4,E T a5,E T a6,E T a7,E T a8,E T a9] t)) w.heap.size a0 a1 a2 a3 a4 a5 a6 a7 a8 a9:=by
 refine ⟨?_,?_,?_,?_,?_,?_,?_,?_,?_,?_⟩ <;> simp [go_sem]
abbrev S3 (w:World) (b3 b7 b4:Nat) (u a s a0 a1 a2 a3 a4 a5 a6 a7 a8 a9:Int) (W:World):Prop:=
 W.cell? (Z b3 0 N)=G (E T u)/\W.cell? (Z b7 0 N)=G (E T a)/\W.cell? (Z b4 0 N)=G (E T s)/\ShC W w.heap.size a0 a1 a2 a3 a4 a5 a6 a7 a8 a9/\
 (b3<W.heap.size/\b7<W.heap.size/\b4<W.heap.size)/\Bw w W/\w.heap.size<W.heap.size
theorem S3.keep {w W W':World} {b3 b7 b4:Nat} {u a s a0 a1 a2 a3 a4 a5 a6 a7 a8 a9:Int} (h:S3 w b3 b7 b4 u a s a0 a1 a2 a3 a4 a5 a6 a7 a8 a9 W) (hb:Bw W W'):S3 w b3 b7 b4 u a s a0 a1 a2 a3 a4 a5 a6 a7 a8 a9 W':=by
 obtain ⟨h1,h2,h3,h4,⟨l1,l2,l3⟩,h5,h6⟩:=h;exact ⟨(hb.cell (p:=Z b3 0 N) l1).trans h1,(hb.cell (p:=Z b7 0 N) l2).trans h2,(hb.cell (p:=Z b4 0 N) l3).trans h3,h4.below hb h6,⟨zH l1 hb.size,zH l2 hb.size,zH l3 hb.size⟩,h5.trans (hb.mono zo),zH h6 hb.size⟩
theorem yas {P:Program} {f:FuncId} {args:Array Value} {W:World} {v:Value} {S:World->Prop} (h:H P f args W λ e w'=>e=Q v/\Bw W w') (hk:∀w',Bw W w'->S w') :
  H P f args W λ e w'=>e=Q v/\S w':=h.mono λ e w' ⟨h1,h2⟩=>⟨h1,hk w' h2⟩
theorem yr6 (n u a s:Int) (b3 b7 b4:Nat) (w:World) (h0:0<=n) (h1:n<146097) (ak:3<=u) (ag:u<=6) (hs:1<=s) (au:s<=9223372036854775807) (aG:0<=a) (aF:a<12622780800) (hB:yvS w b3 b7 b4 u a s) :
  H I 209 #[shN n,R (G (Z b3 0 N)),R (G (Z b7 0 N)),R (G (Z b4 0 N))] w λ e w'=>e=Q (Xb (stepB s (whD u n-a)))/\Bw w w':=by
 have c1:Hid (∀W,H I 210 #[E T u,shN n] W λ e w'=>e=Q (E T (whD u n))/\Bw W w'):=λ W=>ykO u n W ak ag h0 h1;have bd:=yvd (u:=u) h0 h1;have hr:Hid (stepB s (whD u n-a)= ((whD u n-a).tmod s==0)):=by show _ = _;rw [stepB,zzZ hs,zzo,ypS]
 obtain ⟨a0,a1,a2,a3,a4,a5,a6,a7,a8,a9,ah⟩:=yiF n;rw [ah] at c1⊢;generalize hx:whD u n=x at c1 bd hr⊢
 clear ah hx;have aA:Hid (S3 w b3 b7 b4 u a s a0 a1 a2 a3 a4 a5 a6 a7 a8 a9 (w.alloc (J #[E T a0,E T a1,E T a2,E T a3,E T a4,E T a5,E T a6,E T a7,E T a8,E T a9] 83)).drew):=by
  have hb:=yaa (o:=J #[E T a0,E T a1,E T a2,E T a3,E T a4,E T a5,E T a6,E T a7,E T a8,E T a9] 83) (Ye w.heap.size w) zg;have h2:=hB.below hb;exact ⟨h2.c3,h2.c7,h2.c4,ycB w _ _ _ _ _ _ _ _ _ _ _,⟨h2.l3,h2.l7,h2.l4⟩,hb.drew,by show _<(World.alloc _ _).heap.size;simp⟩
 have c2:=hid (λ W (h:S3 w b3 b7 b4 u a s a0 a1 a2 a3 a4 a5 a6 a7 a8 a9 W)=>yas (c1 W) (λ _=>h.keep));clear hB c1;have aC:¬s=0:=zo;go_enter Tryz.func209,Tryz.ntmps209
 go_wp2_with fail
 go_region_held3 (λ w'=>S3 w b3 b7 b4 u a s a0 a1 a2 a3 a4 a5 a6 a7 a8 a9 w') (first | exact aA | assumption)
  (first
    | (go_at_call 210;refine zm (c2 _ (by assumption)) ?_;rintro w' hS))
 go_wp2;go_ret;refine ⟨?_,(‹S3 w b3 b7 b4 u a s a0 a1 a2 a3 a4 a5 a6 a7 a8 a9 _›).2.2.2.2.2.1⟩;rw [hr];refine ycq ?_;rw [IntKind.wrap_i64];congr 2
 omega
def UDV (W:World) (lo:Nat) (u s a:Int) (fv:Value):Prop:=
 ((ybB u a=false\/ s<1)/\fv=Xf (.func 207) #[] #[])\/
 (ybB u a=true/\1<=s/\(0<yav u\/ s=1)/\fv=Xf (.func 208) #[] #[])\/
 (ybB u a=true/\1<=s/\yav u=0/\∃b3 b7 b4,fv=Xf (.func 209) #[] #[R (G (Z b3 0 N)),R (G (Z b7 0 N)),R (G (Z b4 0 N))]/\yvS W b3 b7 b4 u (ybh u a) s/\lo<=b3/\lo<=b7/\lo<=b4)
def ydx (u s a n:Int):Bool:=ybB u a&&(decide (1<=s)&&(decide (0<yav u\/ s=1)||stepB s (whD u n-ybh u a)))
theorem ydg (u:Int):0<yav u\/ yav u=0:=by unfold yav;split;omega;split;omega;split <;> omega
theorem ygz {u:Int} (h:yav u=0) (h0:0<=u):3<=u:=by
 unfold yav at h;split at h
 ·omega
 ·split at h
  ·omega
  ·split at h <;> omega
theorem yr4 (u s a:Int) (w:World) (hs:-9223372036854775808<=s/\s<=9223372036854775807) :
  H I 177 #[E T u,E T s,E T a] w λ e w'=>∃fv,e=Q fv/\UDV w' w.heap.size u s a fv/\Bw w w':=by
 have c1:=hid (λ W=>yif u a W);have c2:=hid (λ W=>ydn u W);obtain ⟨W0,ai⟩:=zx ((w.alloc (J #[E T u] 3)).alloc (J #[E T s] 2));have q1:W0.heap.size=w.heap.size+2:=by rw [<- ai];simp
 have q2:Bw w W0:=by rw [<- ai];exact yaa (yaa (Ye _ _) zg) zs
 have q3:W0.cell? (Z w.heap.size 0 N)=G (E T u):=by rw [<- ai];simp [go_sem]
 have q4:W0.cell? (Z (w.heap.size+1) 0 N)=G (E T s):=by rw [<- ai];simp [go_sem]
 have ap:=hid ai;have Qq:=hid (Ya q1 (Ya q2 (Ya q3 q4)));clear ai q1 q2 q3 q4;cases hb:ybB u a
 ·rw [hb] at c1;have hv:Hid (ybB u a=false\/ s<1):= .inl hb;clear hb;go_enter Tryz.func177,Tryz.ntmps177
  go_wp2_with fail
  rw [ap];refine zm (c1 _) ?_;rintro w1 aa;have ab:Hid (Bw w w1):=Qq.2.1.trans (aa.mono (zp Qq.out.1));clear aa;go_wp2;go_ret;exact ⟨_,rfl, .inl ⟨hv,rfl⟩,yaa ab ab.size⟩
 ·rw [hb] at c1;have Hb:=hid hb;clear hb;by_cases h1:s<1
  ·have hv:Hid (ybB u a=false\/ s<1):= .inr h1;obtain ⟨x,hx⟩:=zx (ybh u a);rw [hx] at c1;clear hx;go_enter Tryz.func177,Tryz.ntmps177
   go_wp2_with fail
   rw [ap];refine zm (c1 _) ?_;rintro w1 aa;have ab:Hid (Bw w w1):=Qq.2.1.trans (aa.mono (zp Qq.out.1));have e4:=(aa.cell (p:=Z (w.heap.size+1) 0 N) (by have:=Qq.1;simp only [];omega)).trans Qq.2.2.2;have e3:=(aa.cell (p:=Z w.heap.size 0 N) (by have:=Qq.1;simp only [];omega)).trans Qq.2.2.1;have an:(w1.alloc (J #[E T x] 2)).cell? (Z (w.heap.size+1) 0 N)=G (E T s):=((yaa (Ye _ w1) zg).cell (p:=Z (w.heap.size+1) 0 N) (by have:=aa.size;have:=Qq.1;simp only [];omega)).trans e4;have ao:(w1.alloc (J #[E T x] 2)).cell? (Z w.heap.size 0 N)=G (E T u):=((yaa (Ye _ w1) zg).cell (p:=Z w.heap.size 0 N) (by have:=aa.size;have:=Qq.1;simp only [];omega)).trans e3;clear aa;go_wp2;go_ret;exact ⟨_,rfl, .inl ⟨hv,rfl⟩,yaa ab ab.size⟩
  ·have am:Hid (1<=s):=(by show 1<=s;omega);have hz:=ydg u;obtain ⟨z,aj⟩:=zx (yav u);have Hz:=hid aj;rw [aj] at c2 hz;clear aj;obtain ⟨x,hx⟩:=zx (ybh u a);have Hx:=hid hx;rw [hx] at c1;clear hx;go_enter Tryz.func177,Tryz.ntmps177
   go_wp2_with fail
   rw [ap];refine zm (c1 _) ?_;rintro w1 aa;have ab:Hid (Bw w w1):=Qq.2.1.trans (aa.mono (zp Qq.out.1));have e3:=(aa.cell (p:=Z w.heap.size 0 N) (by have:=Qq.1;simp only [];omega)).trans Qq.2.2.1;have e4:=(aa.cell (p:=Z (w.heap.size+1) 0 N) (by have:=Qq.1;simp only [];omega)).trans Qq.2.2.2;have aD:w.heap.size+2<=w1.heap.size:=(by have:=aa.size;have:=Qq.1;omega);have an:(w1.alloc (J #[E T x] 2)).cell? (Z (w.heap.size+1) 0 N)=G (E T s):=((yaa (Ye _ w1) zg).cell (p:=Z (w.heap.size+1) 0 N) (by have:=aa.size;have:=Qq.1;simp only [];omega)).trans e4;have ao:(w1.alloc (J #[E T x] 2)).cell? (Z w.heap.size 0 N)=G (E T u):=((yaa (Ye _ w1) zg).cell (p:=Z w.heap.size 0 N) (by have:=aa.size;have:=Qq.1;simp only [];omega)).trans e3;clear aa;go_wp2_with fail
   refine zm (c2 _) ?_;rintro w2 ae;have f3:=(ae.cell (p:=Z w.heap.size 0 N) (by simp;omega)).trans ao;have f4:=(ae.cell (p:=Z (w.heap.size+1) 0 N) (by simp;omega)).trans an;have f7:=(ae.cell (p:=Z w1.heap.size 0 N) zs).trans (show (w1.alloc (J #[E T x] 2)).cell? (Z w1.heap.size 0 N)=G (E T x) by simp [go_sem]);have af:Hid (Bw w w2):=(yaa ab ab.size).trans (ae.mono (by simp;omega));have au:w1.heap.size+1<=w2.heap.size:=(by have:=ae.size;simpa using this);have F:=hid (Ya f3 (Ya f4 f7));clear ae e3 e4 f3 f7 ao an;rcases hz with hz | hz
   ·go_wp2;go_ret;exact ⟨_,rfl, .inr (.inl ⟨Hb,am, .inl (by rw [Hz];exact hz),rfl⟩),af⟩
   ·by_cases ad:s=1
    ·have aH:=hid ad;subst ad;have aj:¬0<z:=zo;go_wp2;go_ret;exact ⟨_,rfl, .inr (.inl ⟨Hb,am, .inr rfl,rfl⟩),af⟩
    ·have aE:(s==1)=false:=(by simpa using ad);have aj:¬0<z:=zo;have ar:=hid hz;clear ad hz;go_wp2;go_ret;exact ⟨_,rfl, .inr (.inr ⟨Hb,am,by rw [Hz,ar],_,_,_,rfl,⟨F.1,by rw [Hx];exact F.2.2,F.2.1,by omega,by omega,by omega⟩,zG _,by omega,by omega⟩),af⟩
structure Cl where
 m:Nat->Nat
 or:Bool
 oin:Int
 oback:Bool
 od:Nat->Nat
 ys:Nat->Nat
 unit:Int
 step:Int
 anchor:Int
 fr:Int
 un:Int
def yaA (x:Int):Prop:=-9223372036854775808<=x/\x<=9223372036854775807
structure Cl.Ok (c:Cl):Prop where
 m:∀i,i<7->c.m i<18446744073709551616
 od:∀i,i<8->c.od i<18446744073709551616
 ys:∀i,i<7->c.ys i<18446744073709551616
 oin:yaA c.oin
 unit:yaA c.unit
 step:yaA c.step
 anchor:yaA c.anchor
 fr:yaA c.fr
 un:yaA c.un
abbrev yae (c:Cl):List Value:= [.int Y (c.m 0:Nat), .int Y (c.m 1:Nat), .int Y (c.m 2:Nat), .int Y (c.m 3:Nat), .int Y (c.m 4:Nat), .int Y (c.m 5:Nat), .int Y (c.m 6:Nat), .bool c.or, .int T c.oin, .bool c.oback,
 .int Y (c.od 0:Nat), .int Y (c.od 1:Nat), .int Y (c.od 2:Nat), .int Y (c.od 3:Nat), .int Y (c.od 4:Nat), .int Y (c.od 5:Nat), .int Y (c.od 6:Nat), .int Y (c.od 7:Nat),
 .int Y (c.ys 0:Nat), .int Y (c.ys 1:Nat), .int Y (c.ys 2:Nat), .int Y (c.ys 3:Nat), .int Y (c.ys 4:Nat), .int Y (c.ys 5:Nat), .int Y (c.ys 6:Nat), .int T c.unit, .int T c.step, .int T c.anchor, .int T c.fr, .int T c.un]
abbrev clv (c:Cl):Value:= .agg (yae c).toArray
abbrev ycF (oin:Int) (oback:Bool) (od:Nat->Nat):List Value:= [.int T oin, .bool oback, .int Y (od 0:Nat), .int Y (od 1:Nat), .int Y (od 2:Nat), .int Y (od 3:Nat), .int Y (od 4:Nat), .int Y (od 5:Nat), .int Y (od 6:Nat), .int Y (od 7:Nat)]
abbrev ypp (oin:Int) (oback:Bool) (od:Nat->Nat):Value:= .agg (ycF oin oback od).toArray
theorem yxQ {n:Nat} (h:n<18446744073709551616):(Lit.int Y (n:Int)).wf=true:=by
 simp [Lit.wf,show IntKind.u64.min=0 from rfl,show IntKind.u64.max=18446744073709551615 from rfl];omega
theorem yvv {n:Int} (h:yaA n):(Lit.int T n).wf=true:=by
 obtain ⟨h0,h1⟩:=h;simp [Lit.wf,show IntKind.i64.min= -9223372036854775808 from rfl,show IntKind.i64.max=9223372036854775807 from rfl];omega
abbrev yls (oin:Int) (oback:Bool) (od:Nat->Nat):List Lit:= [.int T oin, .bool oback, .int Y (od 0:Nat), .int Y (od 1:Nat), .int Y (od 2:Nat), .int Y (od 3:Nat), .int Y (od 4:Nat), .int Y (od 5:Nat), .int Y (od 6:Nat), .int Y (od 7:Nat)]
theorem ynF:Tryz.prog.cellsOf 57=10:=by kernel_rfl
theorem ynH:Tryz.prog.cellsOf 41=8:=by kernel_rfl
theorem yvI:Tryz.prog.cellsOf 40=7:=by kernel_rfl
theorem yrP:Tryz.prog.cellsOf 39=1:=by kernel_rfl
theorem ynG:Tryz.prog.cellsOf 3=1:=by kernel_rfl
theorem ygn:Tryz.prog.cellsOf 2=1:=by kernel_rfl
theorem ylW:Tryz.prog.cellsOf 4=1:=by kernel_rfl
theorem yqX (d:Nat) {n:Nat} (h:n<18446744073709551616):Tryz.prog.keyLits (d+1) 39 [.int Y (n:Int)]=G [.int Y n]:=by
 simp only [Program.keyLits,Tryz.underlying39,yxQ h,and_self,if_true]
theorem ynl (d:Nat) {n:Int} (h:yaA n):Tryz.prog.keyLits (d+1) 3 [.int T n]=G [.int T n]:=by
 simp only [Program.keyLits,Tryz.underlying3,yvv h,and_self,if_true]
theorem ynk (d:Nat) {n:Int} (h:yaA n):Tryz.prog.keyLits (d+1) 2 [.int T n]=G [.int T n]:=by
 simp only [Program.keyLits,Tryz.underlying2,yvv h,and_self,if_true]
theorem yq1 (d:Nat) (b:Bool):Tryz.prog.keyLits (d+1) 4 [.bool b]=G [.bool b]:=by
 simp only [Program.keyLits,Tryz.underlying4]
theorem yx0:List.range 8= [0,1,2,3,4,5,6,7]:=rfl
theorem yx1:List.range 7= [0,1,2,3,4,5,6]:=rfl
theorem ygR (d:Nat) (od:Nat->Nat) (h:∀i,i<8->od i<18446744073709551616) :
  Tryz.prog.keyLits (d+2) 41 [.int Y (od 0:Nat), .int Y (od 1:Nat), .int Y (od 2:Nat), .int Y (od 3:Nat), .int Y (od 4:Nat), .int Y (od 5:Nat), .int Y (od 6:Nat), .int Y (od 7:Nat)] =
   G [.int Y (od 0:Nat), .int Y (od 1:Nat), .int Y (od 2:Nat), .int Y (od 3:Nat), .int Y (od 4:Nat), .int Y (od 5:Nat), .int Y (od 6:Nat), .int Y (od 7:Nat)]:=by
 unfold Program.keyLits;simp only [Tryz.underlying41];simp [ynH,yrP,yx0,yqX,h]
theorem yyo (d:Nat) (od:Nat->Nat) (h:∀i,i<7->od i<18446744073709551616) :
  Tryz.prog.keyLits (d+2) 40 [.int Y (od 0:Nat), .int Y (od 1:Nat), .int Y (od 2:Nat), .int Y (od 3:Nat), .int Y (od 4:Nat), .int Y (od 5:Nat), .int Y (od 6:Nat)] =
   G [.int Y (od 0:Nat), .int Y (od 1:Nat), .int Y (od 2:Nat), .int Y (od 3:Nat), .int Y (od 4:Nat), .int Y (od 5:Nat), .int Y (od 6:Nat)]:=by
 unfold Program.keyLits;simp only [Tryz.underlying40];simp [yvI,yrP,yx1,yqX,h]
theorem ynj (d:Nat) (oin:Int) (oback:Bool) (od:Nat->Nat) (h0:yaA oin) (h:∀i,i<8->od i<18446744073709551616):Tryz.prog.keyLits (d+3) 57 (ycF oin oback od)=G (yls oin oback od):=by
 unfold Program.keyLits;simp only [Tryz.underlying57];simp [ynF,ynH,ynG,ylW,ynl,yq1,h0];rw [ygR d od h];rfl
theorem yyy:Tryz.prog.keyTypeAt 4 57=true:=by kernel_rfl
theorem yrt (oin:Int) (oback:Bool) (od:Nat->Nat):(ypp oin oback od).formed I 57=true:=by
 unfold Value.formed;simp only [Tryz.underlying57,ynF];rfl
def yuB (n:Nat) (p:Nat->Bool):Bool:=(List.range n).all p
theorem allR_iff {n:Nat} {p:Nat->Bool}:yuB n p=true↔∀i,i<n->p i=true:=by
 rw [yuB,List.all_eq_true];simp
def ygL (oin:Int) (oback:Bool) (od:Nat->Nat) (ab:Int) (aa:Bool) (ac:Nat->Nat):Bool:=decide (oin=ab)&&(decide (oback=aa)&&yuB 8 (λ i=>od i==ac i))
theorem ykq {i:Nat} (h:i<8):i=0\/ i=1\/ i=2\/ i=3\/ i=4\/ i=5\/ i=6\/ i=7:=zo
theorem yAk {p:Nat->Prop}:(∀i,i<8->p i)↔p 0/\p 1/\p 2/\p 3/\p 4/\p 5/\p 6/\p 7:=
 ⟨λ h=>⟨h 0 zo,h 1 zo,h 2 zo,h 3 zo,h 4 zo,h 5 zo,h 6 zo,h 7 zo⟩,λ ⟨h0,h1,h2,h3,h4,h5,h6,h7⟩ i hi=>by
  rcases ykq hi with rfl | rfl | rfl | rfl | rfl | rfl | rfl | rfl <;> assumption⟩
theorem ylC {q:IntKind} {a b:Int}:(Lit.int q a=Lit.int q b)↔a=b:=⟨λ h=>by injection h,λ h=>by rw [h]⟩
theorem ytL {a b:Bool}:(Lit.bool a=Lit.bool b)↔a=b:=⟨λ h=>by injection h,λ h=>by rw [h]⟩
theorem ylr (oin:Int) (oback:Bool) (od:Nat->Nat) (ab:Int) (aa:Bool) (ac:Nat->Nat):yls oin oback od=yls ab aa ac↔(oin=ab/\oback=aa/\∀i,i<8->od i=ac i):=by
 rw [yAk];simp only [List.cons.injEq,ylC,ytL,Int.natCast_inj,and_true]
theorem yj0 (oin:Int) (oback:Bool) (od:Nat->Nat) (ab:Int) (aa:Bool) (ac:Nat->Nat):ygL oin oback od ab aa ac=true↔(oin=ab/\oback=aa/\∀i,i<8->od i=ac i):=by
 simp only [ygL,zzX,zzY,allR_iff,beq_iff_eq]
theorem yug (oin:Int) (oback:Bool) (od:Nat->Nat) (ab:Int) (aa:Bool) (ac:Nat->Nat) (w:World) (h0:yaA oin) (h:∀i,i<8->od i<18446744073709551616) (ag:yaA ab) (h':∀i,i<8->ac i<18446744073709551616) :
  (Op.equalIn 10000 57 (ypp oin oback od) (ypp ab aa ac)).run I w= .ok (ygL oin oback od ab aa ac) w:=by
 obtain ⟨r,hr,hi⟩:=run_equalIn_deep 9996 4 57 yyy w 4 4 _ _ _ _ (yrt oin oback od) (yrt ab aa ac) (ynj 1 oin oback od h0 h) (ynj 1 ab aa ac ag h');have e:r=ygL oin oback od ab aa ac:=by rw [zze,hi,yj0,ylr]
 rw [<- e];exact hr
theorem ywU (oin:Int) (oback:Bool) (od:Nat->Nat) (ab:Int) (aa:Bool) (ac:Nat->Nat) (w:World) (h0:yaA oin) (h:∀i,i<8->od i<18446744073709551616) (ag:yaA ab) (h':∀i,i<8->ac i<18446744073709551616) :
  (binOp .eql 57 (ypp oin oback od) (ypp ab aa ac)).run I w= .ok (.bool (ygL oin oback od ab aa ac)) w:=by
 rw [run_eql_struct,yug _ _ _ _ _ _ w h0 h ag h'];rfl
def ybw (m:Nat) (lo hi:Int):Bool:=yuB 64 (λ n=>!m.testBit n||decide (lo<=(n:Int)/\(n:Int)<=hi))
def yi0 (x y:Nat):Nat:=mk (λ k=>x.testBit k && !y.testBit k)
theorem yoy {x y:Nat}:yi0 x y=0↔∀k,k<64->x.testBit k=true->y.testBit k=true:=by
 constructor
 ·intro h k hk hx;have:=congrArg (λ z=>z.testBit k) h;simp only [yi0,yaW,YV,hx,zzZ hk,zzo,Bool.not_eq_false'] at this;exact this
 ·intro h;rw [yi0,<- yct];refine ybm λ k hk=>?_;cases hx:x.testBit k
  ·rfl
  ·rw [h k hk hx];rfl
theorem yc9 {m:Nat} {lo hi:Int}:ybw m lo hi=true↔∀k,k<64->m.testBit k=true->lo<=(k:Int)/\(k:Int)<=hi:=by
 rw [ybw,allR_iff];refine forall_congr' λ k=>forall_congr' λ hk=>?_;cases m.testBit k <;> simp
theorem yjP {lo hi:Int} {k:Nat} (hk:k<64):(ybG lo hi 1).testBit k=decide (lo<=(k:Int)/\(k:Int)<=hi):=by
 rw [ybG,yaW,zzZ hk,zzo,yd9];rw [zze,zzY,zzY];constructor
 ·rintro ⟨_,h1,h2,_⟩;exact ⟨h1,h2⟩
 ·rintro ⟨h1,h2⟩;exact ⟨by omega,h1,h2,by omega⟩
theorem yka (m:Nat) (lo hi:Int):(yi0 m (ybG lo hi 1)=0)= (ybw m lo hi=true):=by
 rw [eq_iff_iff,yoy,yc9];refine forall_congr' λ k=>forall_congr' λ hk=>?_;rw [yjP hk,zzY]
def yfe (l:List (Nat × Nat)):List Value:=l.flatMap λ p=> [.int Y (p.1:Nat), .int Y (p.2:Nat)]
theorem yqo (l:List (Nat × Nat)):(yfe l).length=l.length*2:=by
 induction l with
 | nil=>rfl
 | cons x l ih=>simp only [yfe,ZZ,YG,Yu,YS] at ih⊢;rw [ih];omega
theorem yjY:∀(l:List (Nat × Nat)) (k:Nat) (hk:k<l.length),(yfe l)[k*2]? =G (.int Y (l[k].1:Nat))/\(yfe l)[k*2+1]? =G (.int Y (l[k].2:Nat))
 | x::l,0,_=>by simp [yfe]
 | x::l,k+1,hk=>by
   have e:yfe (x::l)= [.int Y (x.1:Nat), .int Y (x.2:Nat)]++yfe l:=(by simp [yfe]);obtain ⟨h1,h2⟩:=yjY l k (by simpa using hk);refine ⟨?_,?_⟩
   ·rw [e,Yl (by simp;omega),show (k+1)*2 - [Value.int Y (x.1:Nat), .int Y (x.2:Nat)].length=k*2 by simp;omega,h1];simp
   ·rw [e,Yl (by simp;omega),show (k+1)*2+1 - [Value.int Y (x.1:Nat), .int Y (x.2:Nat)].length=k*2+1 by simp;omega,h2];simp
theorem Sl.atPair {w:World} {a:Option Addr} {l:List (Nat × Nat)} (h:Sl w a (yfe l)) {k:Nat} (hk:k<l.length) :
  ∃b off,a=G (Z b off N)/\b<w.heap.size/\∀j (h:j<l.length),w.cell? ⟨b,off+j*2,N⟩=G (.int Y (l[j].1:Nat))/\w.cell? ⟨b,off+j*2+1,N⟩=G (.int Y (l[j].2:Nat)):=by
 obtain ⟨b,off,rfl,hlt,hc⟩:=Sl.at h (k:=k*2) (by rw [yqo];omega);refine ⟨b,off,rfl,hlt,λ j hj=>?_⟩;have hg:=yjY l j hj;have get:∀m v,(yfe l)[m]? =G v->w.cell? (Z b (off+m) N)=G v:=by
  intro m v hm;obtain ⟨al,hv⟩:=zzq.1 hm;rw [hc m al,hv]
 exact ⟨get _ _ hg.1,by rw [ZN];exact get _ _ hg.2⟩
def ycS (l:List (Nat × Nat)):Bool:=l.all (λ p=>yi0 p.1 p.2==0)
theorem yl2 (a:Option Addr) (cap:Nat) (l:List (Nat × Nat)) (w:World) (hl:l.length<=1000) (hs:Sl w a (yfe l)) (hb:∀p∈l,p.1<18446744073709551616/\p.2<18446744073709551616) :
  H I 154 #[Xs a l.length cap] w λ e w'=>e=Q (.bool (ycS l))/\Bw w w':=by
 have Hs:=hid hs;have Hb:=hid hb;have ap:(l.length:Int)<=1000:=zo;clear hs hb hl;go_enter Tryz.func154,Tryz.ntmps154
 go_wp2;go_loopw [7] (λ i wr=>∃k:Nat,i= .int T k/\k<=l.length/\Hid (ycS (l.take k)=true)/\Hid (Bw w wr)) (λ i _=>l.length-(intOf i).toNat)
 case atStart=>exact ⟨0,rfl,by omega,by show _ = _;simp [ycS],Ye _ _⟩
 case round=>
  obtain ⟨k,rfl,hk,hI,HB⟩:=hrel;by_cases hlt:k<l.length
  ·obtain ⟨b,off,rfl,ai,hc⟩:=Hs.atPair hlt;obtain ⟨e1,e2⟩:=hc k hlt;have ak:=(HB.cell (p:=⟨b,off+k*2,N⟩) ai).trans e1;have aj:=(HB.cell (p:=⟨b,off+k*2+1,N⟩) ai).trans e2;have af:=Hb l[k] (zzr hlt);have ht:=hid (yal l k hlt);have ae:=hid (zzr hlt);obtain ⟨p,hp⟩:=zx (l[k]);rw [hp] at ak aj af ht ae;have ad:=hid (ycL af.1 af.2);have hz:Hid (yi0 p.1 p.2=mk (λ k=>p.1.testBit k && !p.2.testBit k)):=rfl;rw [<- hz] at ad;clear hc hp e1 e2 hz af;obtain ⟨x,y⟩:=p;simp only [] at ak aj ad;obtain ⟨q,hq⟩:=zx (yi0 x y);rw [hq] at ad;have Hq:=hid hq;clear hq;by_cases h0:q=0
   ·have ao:Hid (ycS (l.take (k+1))=true):=by
     show _ = _;rw [ht,ycS,List.all_append];have:=hI.out;rw [ycS] at this;rw [this];simp [Hq.out,h0]
    subst h0;have ar:((0:Nat):Int)=0:=rfl;have an:=ad.out;go_wp2;exact ⟨⟨k+1,by go_num,by omega,ao,yaa HB HB.size⟩,by simp [intOf];omega⟩
   ·have hr:Hid (ycS l=false):=by
     show _ = _;rw [ycS,List.all_eq_false];exact ⟨_,ae,by simp [Hq.out,h0]⟩
    have aq:((q:Int)==0)=false:=(by simp;omega);have am:((q:Int) != 0)=true:=(by simp;omega);have an:=ad.out;clear h0;go_wp2;go_ret;exact ⟨by rw [hr];rfl,yaa HB HB.size⟩
  ·have ah:l.take k=l:=YU zo;rw [ah] at hI;clear ah;go_wp2;go_ret;exact ⟨by rw [hI];rfl,HB⟩
section
variable {k n:Nat} {p:Nat->Bool}
def yd8 (od:Nat->Nat) (aa:Int):Bool:=decide (od 0=0)&&yuB 8 (λ i=>ybw (od i) 1 aa)
def yqs (oin:Int) (oback:Bool) (od:Nat->Nat):Bool:=
 if oin=0 then !oback&&yd8 od 0 else if oin=1 then yd8 od 5 else if oin=2 then yd8 od 53 else false
theorem yku (m:Nat) (hm:m<18446744073709551616):ybw m 1 0=true↔m=0:=by
 rw [yc9];constructor
 ·intro h;apply Nat.eq_of_testBit_eq;intro i;rw [YV];by_cases hi:i<64
  ·cases hb:m.testBit i
   ·rfl
   ·have:=h i hi hb;omega
  ·exact ydT hm zo
 ·rintro rfl k hk h;rw [YV] at h;cases h
theorem ypZ (od:Nat->Nat) (h:∀i,i<8->od i<18446744073709551616):yd8 od 0=true↔∀i,i<8->od i=0:=by
 rw [yd8,zzX,zzY,allR_iff];constructor
 ·rintro ⟨_,h2⟩ i hi;exact (yku _ (h i hi)).mp (h2 i hi)
 ·intro h2;exact ⟨h2 0 zo,λ i hi=>(yku _ (h i hi)).mpr (h2 i hi)⟩
theorem ylj (s:Nat->Nat) (i:Nat) (h:i<8) (W:World):(Instr.index 41 (.agg #[E Y (s 0:Nat),E Y (s 1:Nat),E Y (s 2:Nat),E Y (s 3:Nat),E Y (s 4:Nat),E Y (s 5:Nat),E Y (s 6:Nat),E Y (s 7:Nat)]) (E T i)).run I W= .ok (E Y (s i:Nat)) W:=by
 obtain ⟨i0,aq,ax,am,aw⟩:=info_parts yi2;rcases ykq h with rfl | rfl | rfl | rfl | rfl | rfl | rfl | rfl;all_goals
  simp [Instr.index,go_sem,part,sizeOf,typeInfo,aq,am]
theorem yuc (h:∀j,j<k->p j=true) (hk:p k=true):∀j,j<k+1->p j=true:=λ j hj=>by
 by_cases e:j=k
 ·rw [e];exact hk
 ·exact h j zo
theorem yxk (hk:k<n) (h:¬p k=true):yuB n p=false:=by
 cases hb:yuB n p
 ·rfl
 ·exact absurd (allR_iff.mp hb k hk) h
theorem yuA (hn:n<=k) (h:∀j,j<k->p j=true):yuB n p=true:=allR_iff.mpr (λ i hi=>h i zo)
theorem yyE (od:Nat->Nat):(Value.agg #[E Y (od 0:Nat),E Y (od 1:Nat),E Y (od 2:Nat),E Y (od 3:Nat),E Y (od 4:Nat),E Y (od 5:Nat),E Y (od 6:Nat),E Y (od 7:Nat)]).formed I 41=true:=by
 unfold Value.formed;simp only [Tryz.underlying41,ynH];rfl
theorem yAs:Tryz.prog.keyTypeAt 2 41=true:=by kernel_rfl
theorem yyO (od:Nat->Nat) (h:∀i,i<8->od i<18446744073709551616) (W:World) :
  (Op.equalIn 9999 41 (.agg #[E Y (od 0:Nat),E Y (od 1:Nat),E Y (od 2:Nat),E Y (od 3:Nat),E Y (od 4:Nat),E Y (od 5:Nat),E Y (od 6:Nat),E Y (od 7:Nat)])
    (.agg #[E Y 0,E Y 0,E Y 0,E Y 0,E Y 0,E Y 0,E Y 0,E Y 0])).run I W= .ok (yd8 od 0) W:=by
 obtain ⟨r,hr,hi⟩:=run_equalIn_deep 9997 2 41 yAs W 3 3 _ _ _ _ (yyE od) (yyE (λ _=>0)) (ygR 1 od h) (ygR 1 (λ _=>0) (λ _ _=>by omega));have e:r=yd8 od 0:=by
  rw [zze,hi,ypZ od h,yAk];simp only [List.cons.injEq,ylC,Int.natCast_inj,and_true]
 rw [<- e];exact hr
theorem yfX (aa o1:Int) (oback:Bool) (od:Nat->Nat) (w:World) (ab:(aa=5/\o1= (1:Int))\/ (aa=53/\o1=2)) (h:∀i,i<8->od i<18446744073709551616) :
  H I 155 #[ypp o1 oback od] w λ e w'=>e=Q (Xb (yd8 od aa))/\Bw w w':=by
 have Hq:=hid h;have ai:=h 0 zo;clear h;have c1:Hid (∀W,H I 106 #[E T 1,E T aa,E T 1] W λ e w'=>e=Q (E Y (ybG 1 aa 1:Nat))/\W=w'):=λ W=>ycw 1 aa 1 W zo zo;have ak:=hid (λ k hk W=>ylj od k hk W);have hB:Hid (Bw w (w.alloc (Obj.cells (ycF o1 oback od).toArray 57))):=yaa (Ye _ _) zg;obtain ⟨W1,ah⟩:=zx (w.alloc (Obj.cells (ycF o1 oback od).toArray 57));have al:=hid ah;rw [ah] at hB;clear ah;by_cases hz:od 0=0
 ·have ac:(((od 0:Nat):Int) != 0)=false:=by simp;omega
  obtain ⟨tb,ag⟩:∃tb:Nat->Bool,tb=λ i=>ybw (od i) 1 aa:=⟨_,rfl⟩;have hT:Hid (yd8 od aa=yuB 8 tb):=by show _ = _;rw [yd8,zzZ hz,zzo,ag]
  rw [hT];obtain ⟨V,hV⟩:=zx (Value.agg #[E Y (od 0:Nat),E Y (od 1:Nat),E Y (od 2:Nat),E Y (od 3:Nat),E Y (od 4:Nat),E Y (od 5:Nat),E Y (od 6:Nat),E Y (od 7:Nat)]);have HV:=hid hV;rw [hV] at ak;have av:=hid ac;have ad:Hid (∀k,(hk:k<8)->∃q:Nat,bits .andNot Y ((od k:Nat):Int) ((ybG 1 aa 1:Nat):Int)=q/\(q=0↔tb k=true)):=λ k hk=>
   ⟨yi0 (od k) (ybG 1 aa 1),ycL (Hq k hk) (yaG _),by rw [yka,ag]⟩
  clear hT hz ai hV ac ag;rcases ab with ⟨rfl,rfl⟩ | ⟨rfl,rfl⟩;all_goals
   have ac:=av.out;go_enter Tryz.func155,Tryz.ntmps155
   go_wp2_with fail
   rw [HV];clear ac;rw [al];go_loopw [23] (λ i wr=>∃k:Nat,i=E T k/\k<=8/\Hid (∀j,j<k->tb j=true)/\wr=W1) (λ i _=>8-(intOf i).toNat)
   case atStart=>exact ⟨0,rfl,by omega,λ j hj=>by omega,rfl⟩
   case round=>
    obtain ⟨k,rfl,hk,hI,rfl⟩:=hrel;by_cases hlt:k<8
    ·have ap:=ak k hlt;obtain ⟨q,ao,ae⟩:=ad k hlt;have ay:(k:Int)<8:=zo;by_cases h0:q=0
     ·have au:=hid (yuc hI (ae.mp h0));subst h0;rw [Int.natCast_zero] at ao;have aA:=hid ae;clear ae;go_wp2_with fail
      refine zm (c1 _) ?_;rintro w' rfl;go_wp2;exact ⟨⟨k+1,by go_num,by omega,au,trivial⟩,by simp [intOf];omega⟩
     ·have aj:=λ h=>h0 (ae.mpr h);have hr:=hid (yxk (p:=tb) hlt aj);clear aj;have az:((q:Int) != 0)=true:=(by simp;omega);clear ae h0;go_wp2_with fail
      refine zm (c1 _) ?_;rintro w' rfl;go_wp2;go_ret;exact ⟨by rw [hr];rfl,hB⟩
    ·have hr:=hid (yuA (n:=8) (show 8<=k by omega) hI);go_wp2;go_ret;exact ⟨by rw [hr];rfl,hB⟩
 ·have hr:Hid (yd8 od aa=false):=by show _ = _;rw [yd8,zzd hz,Yv]
  rw [hr];have ac:(((od 0:Nat):Int) != 0)=true:=by simp;omega
  clear hz ai;rcases ab with ⟨rfl,rfl⟩ | ⟨rfl,rfl⟩;all_goals
   go_enter Tryz.func155,Tryz.ntmps155
   go_wp2;go_ret;rw [al];exact ⟨rfl,hB⟩
theorem ykX (oin:Int) (oback:Bool) (od:Nat->Nat) (w:World) (h0:yaA oin) (h:∀i,i<8->od i<18446744073709551616) :
  H I 155 #[ypp oin oback od] w λ e w'=>e=Q (Xb (yqs oin oback od))/\Bw w w':=by
 have af:oin=0\/ oin=1\/ oin=2\/ (oin≠0/\oin≠1/\oin≠2):=zo;rcases af with rfl | rfl | rfl | ⟨n0,n1,n2⟩
 ·have ar:=λ W=>yyO od h W;have hr:Hid (yqs 0 oback od= (!oback&&yd8 od 0)):=rfl;rw [hr];generalize an:yd8 od 0=r at ar⊢
  clear an h hr;cases r <;> cases oback
  all_goals
   go_enter Tryz.func155,Tryz.ntmps155
   go_wp2;go_ret;exact ⟨by first | rfl | exact ycq zs,yaa (Ye _ _) zg⟩
 ·exact yfX 5 1 oback od w (.inl ⟨rfl,rfl⟩) h
 ·exact yfX 53 2 oback od w (.inr ⟨rfl,rfl⟩) h
 ·have hr:Hid (yqs oin oback od=false):=by show _ = _;rw [yqs,Yb n0,Yb n1,Yb n2]
  have b0:(oin==0)=false:=by simpa using n0
  have b1:(oin==1)=false:=by simpa using n1
  have b2:(oin==2)=false:=by simpa using n2
  rw [hr];clear h n0 n1 n2;go_enter Tryz.func155,Tryz.ntmps155
  go_wp2;go_ret;exact ⟨rfl,yaa (Ye _ _) zg⟩
end
section
variable {b b3:Nat} {W w:World}
theorem ykz (w:World):H I 107 #[] w λ e w'=>e=Q (.agg #[E T 0,E T 12622780799])/\Bw w w':=by
 go_enter Tryz.func107,Tryz.ntmps107
 go_wp2;refine Yh (yac rfl _ _ w.heap.size 0 _ _ rfl (yap w _ _) Tryz.underlying126 rfl zk) rfl ⟨rfl,yaa (Ye _ _) zg⟩
def ycO (i:Nat):Nat:=if i<2 then ybG 0 59 1 else if i=2 then ybG 0 23 1 else if i=3 then ybG 1 12 1 else if i=6 then ybG 1 7 1 else ybG 1 31 1
def fullCl:Cl:={m:=ycO,or:=false,oin:=0,oback:=false,od:=λ _=>0,ys:=yc6,unit:=0,step:=1,anchor:=0,fr:=0,un:=12622780799}
theorem yh1:(Tryz.prog.info? 59).map (·.size)=G 30:=by kernel_rfl
theorem ys3 (W:World) (b:Nat) (cs:List Value) (hl:cs.length=30) (h1:cs.all (·.oneCell')=true) (ht:W.there b 0 30) :
  (Instr.storeAt 59 (R (G (Z b 0 N))) (.agg cs.toArray)).run I W= .ok () (W.setCells b 0 cs):=by
 have:=Zy (P:=I) W b 0 59 cs.toArray (by rw [Yp,hl];exact ht) (by rw [Yp,hl];exact yh1) (by simpa using h1);exact this
def yaV (W:World) (b:Nat) (cs:List Value):World:=W.setCells b 0 cs
def ymJ (v u:Value):Sem Unit:=Instr.storeAt 59 v u
theorem ya3 (v u:Value):Instr.storeAt 59 v u=ymJ v u:=rfl
theorem yaE (W:World) (b:Nat) (x0 x1 x2 x3 x4 x5 x6 oi d0 d1 d2 d3 d4 d5 d6 d7 y0 y1 y2 y3 y4 y5 y6 u st an fr un:Int) (o ob:Bool) (ht:W.there b 0 30) :
  (ymJ (R (G (Z b 0 N))) (.agg #[E Y x0,E Y x1,E Y x2,E Y x3,E Y x4,E Y x5,E Y x6,Xb o,E T oi,Xb ob,E Y d0,E Y d1,E Y d2,E Y d3,E Y d4,E Y d5,E Y d6,E Y d7,E Y y0,E Y y1,E Y y2,E Y y3,E Y y4,E Y y5,E Y y6,E T u,E T st,E T an,E T fr,E T un])).run I W= .ok () (yaV W b [E Y x0,E Y x1,E Y x2,E Y x3,E Y x4,E Y x5,E Y x6,Xb o,E T oi,Xb ob,E Y d0,E Y d1,E Y d2,E Y d3,E Y d4,E Y d5,E Y d6,E Y d7,E Y y0,E Y y1,E Y y2,E Y y3,E Y y4,E Y y5,E Y y6,E T u,E T st,E T an,E T fr,E T un]):=
 ys3 W b [E Y x0,E Y x1,E Y x2,E Y x3,E Y x4,E Y x5,E Y x6,Xb o,E T oi,Xb ob,E Y d0,E Y d1,E Y d2,E Y d3,E Y d4,E Y d5,E Y d6,E Y d7,E Y y0,E Y y1,E Y y2,E Y y3,E Y y4,E Y y5,E Y y6,E T u,E T st,E T an,E T fr,E T un] rfl rfl ht
attribute [local go_sem ↓] ya3
attribute [local go_sem] yaE
abbrev FuS (w:World) (b3:Nat) (W:World):Prop:=
 W.there w.heap.size 0 30/\W.cell? (Z b3 0 N)=G (E T 0)/\W.cell? (Z b3 1 N)=G (E T 12622780799)/\Bw w W/\(w.heap.size<W.heap.size/\b3<W.heap.size)
theorem FuS.keep {W':World} (h:FuS w b3 W) (hb:Bw W W'):FuS w b3 W':=by
 obtain ⟨h1,h2,h3,h4,h5,h6⟩:=h;exact ⟨ydd h1 hb h5,(hb.cell (p:=Z b3 0 N) h6).trans h2,(hb.cell (p:=Z b3 1 N) h6).trans h3,h4.trans (hb.mono zo),zH h5 hb.size,zH h6 hb.size⟩
theorem FuS.put (h:FuS w b3 W) (ad:b3≠w.heap.size) (cs:List Value):FuS w b3 (yaV W w.heap.size cs):=by
 obtain ⟨h1,h2,h3,h4,h5,h6⟩:=h;have hb:=yaB (zG w.heap.size) cs 0 W h4;have hsz:W.heap.size<=(W.setCells w.heap.size 0 cs).heap.size:=(World.keptBut_setCells w.heap.size (may:=λ _=>True) cs 0 W (λ _ _=>trivial)).size;exact ⟨World.there_setCells h1 _ _ _,by rw [yaV,World.cell?_setCells_out _ _ _ _ _ (λ e=>absurd e ad)];exact h2,by rw [yaV,World.cell?_setCells_out _ _ _ _ _ (λ e=>absurd e ad)];exact h3,hb,zH h5 hsz,zH h6 hsz⟩
theorem yaI (cs:List Value) (hl:cs.length=30) (h:W.there b 0 30):(yaV W b cs).rangeAt b 0 cs:=Zd _ _ _ _ (by rw [hl];exact h)
theorem yaD {B:Nat} {a:World} (h:Below B a W) (hb:B<=b) (cs:List Value):Below B a (yaV W b cs):=yaB hb cs 0 W h
theorem ycR (w:World):H I 50 #[] w λ e w'=>e=Q (clv fullCl)/\Bw w w':=by
 have c0:=hid (λ W=>ykz W);have c1:Hid (∀W,H I 106 #[E T 0,E T 59,E T 1] W λ e w'=>e=Q (E Y (ycO 0:Nat))/\W=w'):=λ W=>ycw 0 59 1 W zo zo;have c2:Hid (∀W,H I 106 #[E T 1,E T 31,E T 1] W λ e w'=>e=Q (E Y (ycO 4:Nat))/\W=w'):=λ W=>ycw 1 31 1 W zo zo;have c3:Hid (∀W,H I 106 #[E T 0,E T 23,E T 1] W λ e w'=>e=Q (E Y (ycO 2:Nat))/\W=w'):=λ W=>ycw 0 23 1 W zo zo;have c4:Hid (∀W,H I 106 #[E T 1,E T 12,E T 1] W λ e w'=>e=Q (E Y (ycO 3:Nat))/\W=w'):=λ W=>ycw 1 12 1 W zo zo;have c5:Hid (∀W,H I 106 #[E T 1,E T 7,E T 1] W λ e w'=>e=Q (E Y (ycO 6:Nat))/\W=w'):=λ W=>ycw 1 7 1 W zo zo;have c6:=hid (λ W=>ykC W);go_enter Tryz.func50,Tryz.ntmps50
 go_wp2_with fail
 refine zm (c1 _) ?_;rintro w' rfl;go_wp2_with fail
 refine zm (c2 _) ?_;rintro w' rfl;go_wp2_with fail
 refine zm (c0 _) ?_;rintro w1 ac;have ae:((w.alloc (J ((List.replicate 7 (Value.int Y 0)) ++ [Value.bool false,E T 0,Xb false]++(List.replicate 15 (Value.int Y 0))++(List.replicate 5 (Value.int T 0))).toArray 59)).there w.heap.size 0 30):=yaL w _ _;have aa:=ydd ae ac zs;have ah:Hid (Bw w w1):=(yaa (Ye _ _) zg).trans (ac.mono zs);have af:w.heap.size<w1.heap.size:=by have:=ac.size;simp at this;omega
 have hn:=yaa (o:=J #[E T 0,E T 12622780799] 126) (Ye w1.heap.size w1) zg;have ag:Hid (FuS w w1.heap.size (w1.alloc (J #[E T 0,E T 12622780799] 126)).drew):=
  ⟨ydd aa hn.drew af,by show (w1.alloc _).cell? _ = _;simp [go_sem],by show (w1.alloc _).cell? _ = _;simp [go_sem],ah.trans (hn.drew.mono zo),by show _<(w1.alloc _).heap.size;simp;omega,by show _<(w1.alloc _).heap.size;simp⟩
 have d3:=hid (λ W (h:FuS w w1.heap.size W)=>yas (yfb (c3 W)) (λ _=>h.keep));have d4:=hid (λ W (h:FuS w w1.heap.size W)=>yas (yfb (c4 W)) (λ _=>h.keep));have d5:=hid (λ W (h:FuS w w1.heap.size W)=>yas (yfb (c5 W)) (λ _=>h.keep));have d6:=hid (λ W (h:FuS w w1.heap.size W)=>yas (c6 W) (λ _=>h.keep));have ab:w1.heap.size≠w.heap.size:=zo;go_wp2_with fail
 go_region_held3 (λ w'=>FuS w w1.heap.size w') (first | with_reducible exact ag.out | with_reducible assumption | (refine FuS.put (by assumption) ab _))
  (first
    | (go_at_call 106;(first | with_reducible refine (d3.out _ (by assumption)).mono ?_ | with_reducible refine (d4.out _ (by assumption)).mono ?_ | with_reducible refine (d5.out _ (by assumption)).mono ?_);rintro e w' ⟨rfl,hS⟩)
    | (go_at_call 108;refine zm (d6 _ (by assumption)) ?_;rintro w' hS))
 go_wp2;refine Yh (yac rfl _ _ w.heap.size 0 _ _ rfl (yaI _ rfl hS.1) Tryz.underlying59 rfl yh1) rfl ⟨rfl,yaD hS.2.2.2.1 zg _⟩
end
section
variable {c:Cl} {b:Nat} {W:World}
def yeH (m:Nat->Nat):Bool:=ybw (m 0) 0 59&&(ybw (m 1) 0 59&&(ybw (m 2) 0 23&&(ybw (m 3) 1 12&&(ybw (m 4) 1 31&&(ybw (m 5) 1 31&&ybw (m 6) 1 7)))))
def yb2 (c:Cl):Bool:=yeH c.m&&(yqs c.oin c.oback c.od&&(eqW (inW c.ys) c.ys&&(unB c.unit&&(decide (1<=c.step)&&ycb c.anchor))))
theorem yk7 (m:Nat->Nat):ycS [(m 0,ycO 0),(m 1,ycO 1),(m 2,ycO 2),(m 3,ycO 3),(m 4,ycO 4),(m 5,ycO 5),(m 6,ycO 6)]=yeH m:=by
 have e:∀x lo hi,(yi0 x (ybG lo hi 1)==0)=ybw x lo hi:=λ x lo hi=>by
  rw [zze,beq_iff_eq,yka]
 have f0:ycO 0=ybG 0 59 1:=rfl;have f1:ycO 1=ybG 0 59 1:=rfl;have f2:ycO 2=ybG 0 23 1:=rfl;have f3:ycO 3=ybG 1 12 1:=rfl;have f4:ycO 4=ybG 1 31 1:=rfl;have f5:ycO 5=ybG 1 31 1:=rfl;have f6:ycO 6=ybG 1 7 1:=rfl;simp only [ycS,List.all_cons,List.all_nil,Y7,yeH,f0,f1,f2,f3,f4,f5,f6,e]
abbrev nameL:List Value:= [.string {data:=#[83,69,67,79,78,68,76,89]}, .string {data:=#[77,73,78,85,84,69,76,89]}, .string {data:=#[72,79,85,82,76,89]}, .string {data:=#[68,65,73,76,89]}, .string {data:=#[87,69,69,75,76,89]}, .string {data:=#[77,79,78,84,72,76,89]}, .string {data:=#[89,69,65,82,76,89]}]
theorem yso (w:World):H I 197 #[] w λ e w'=>e=Q (.agg nameL.toArray)/\Bw w w':=by
 go_enter Tryz.func197,Tryz.ntmps197
 go_wp2;refine Yh (yac rfl _ _ w.heap.size 0 _ _ rfl (yap w _ _) Tryz.underlying277 rfl zk) rfl ⟨rfl,yaa (Ye _ _) zg⟩
theorem ywK:(Tryz.prog.info? 9).map (λ i=>(i.zero,i.size,i.bytes))=G (G (.string {data:=#[]}),1,16):=by kernel_rfl
theorem ygF (V:Value) (hV:V= .agg nameL.toArray) (W:World):(Instr.index 277 V (E T 0)).run I W= .ok (.string {data:=#[83,69,67,79,78,68,76,89]}) W/\(Instr.index 277 V (E T 1)).run I W= .ok (.string {data:=#[77,73,78,85,84,69,76,89]}) W/\(Instr.index 277 V (E T 2)).run I W= .ok (.string {data:=#[72,79,85,82,76,89]}) W/\(Instr.index 277 V (E T 3)).run I W= .ok (.string {data:=#[68,65,73,76,89]}) W/\(Instr.index 277 V (E T 4)).run I W= .ok (.string {data:=#[87,69,69,75,76,89]}) W/\(Instr.index 277 V (E T 5)).run I W= .ok (.string {data:=#[77,79,78,84,72,76,89]}) W/\(Instr.index 277 V (E T 6)).run I W= .ok (.string {data:=#[89,69,65,82,76,89]}) W:=by
 obtain ⟨i0,aO,aV,aH,aU⟩:=info_parts ywK;rw [hV];refine ⟨?_,?_,?_,?_,?_,?_,?_⟩ <;> simp [Instr.index,go_sem,part,sizeOf,typeInfo,aO,aH]
theorem ynT (u:Int) (w:World):H I 157 #[E T u] w λ e w'=>(∃s:ByteArray,e=Q (.string s)/\(s.toList == [])= !unB u)/\Bw w w':=by
 obtain ⟨V,hV⟩:∃V:Value,V= .agg nameL.toArray:=⟨_,rfl⟩;have c1:Hid (∀W,H I 197 #[] W λ e w'=>e=Q V/\Bw W w'):=λ W=>by rw [hV];exact yso W
 have aN:=hid (λ W=>ygF V hV W);clear hV;rcases yjJ u with ⟨e,h0,h1⟩ | ⟨e,h⟩
 ·rw [e];have ad:u=0\/ u=1\/ u=2\/ u=3\/ u=4\/ u=5\/ u=6:=zo;clear e h0 h1;rcases ad with rfl | rfl | rfl | rfl | rfl | rfl | rfl;all_goals
   go_enter Tryz.func157,Tryz.ntmps157
   go_wp2_with fail
   refine zm (c1 _) ?_;rintro w1 aa;have ap:=hid aa;obtain ⟨i0,i1,i2,i3,i4,i5,i6⟩:=aN w1;clear aa;go_wp2;go_ret;exact ⟨⟨_,rfl,by kernel_rfl⟩,ap⟩
 ·rw [e];clear e;rcases h with h | h;rotate_left;focus
   have h0:¬u<0:=zo;have h7:7<=u:=zo
  rotate_left;all_goals
   go_enter Tryz.func157,Tryz.ntmps157
   go_wp2;go_ret;exact ⟨⟨_,rfl,by kernel_rfl⟩,Ye _ _⟩
def ClB (W:World) (b:Nat) (c:Cl):Prop:=W.rangeAt b 0 (yae c)
theorem ClB.below {W':World} {B:Nat} (h:ClB W b c) (hb:Below B W W') (hB:b<B):ClB W' b c:=λ j v hv=>(hb.cell (p:=Z b (0+j) N) hB).trans (h j v hv)
theorem yeo (w:World) (c:Cl) (t:TypeId):ClB (w.alloc (J (yae c).toArray t)) w.heap.size c:=yap w _ _
theorem ClB.at (h:ClB W b c) (j:Nat) {v:Value} (hv:(yae c)[j]? =G v):W.cell? (Z b j N)=G v:=by
 have:=h j v hv;rwa [zzn] at this
theorem ClB.masks (h:ClB W b c):W.cell? (Z b 0 N)=G (E Y (c.m 0:Nat))/\W.cell? (Z b 1 N)=G (E Y (c.m 1:Nat))/\W.cell? (Z b 2 N)=G (E Y (c.m 2:Nat))/\
  W.cell? (Z b 3 N)=G (E Y (c.m 3:Nat))/\W.cell? (Z b 4 N)=G (E Y (c.m 4:Nat))/\W.cell? (Z b 5 N)=G (E Y (c.m 5:Nat))/\W.cell? (Z b 6 N)=G (E Y (c.m 6:Nat)):=
 ⟨h.at 0 rfl,h.at 1 rfl,h.at 2 rfl,h.at 3 rfl,h.at 4 rfl,h.at 5 rfl,h.at 6 rfl⟩
theorem ClB.ord (h:ClB W b c):W.cell? (Z b 8 N)=G (E T c.oin)/\W.cell? (Z b 9 N)=G (Xb c.oback)/\W.cell? (Z b 10 N)=G (E Y (c.od 0:Nat))/\W.cell? (Z b 11 N)=G (E Y (c.od 1:Nat))/\
  W.cell? (Z b 12 N)=G (E Y (c.od 2:Nat))/\W.cell? (Z b 13 N)=G (E Y (c.od 3:Nat))/\W.cell? (Z b 14 N)=G (E Y (c.od 4:Nat))/\W.cell? (Z b 15 N)=G (E Y (c.od 5:Nat))/\
  W.cell? (Z b 16 N)=G (E Y (c.od 6:Nat))/\W.cell? (Z b 17 N)=G (E Y (c.od 7:Nat)):=
 ⟨h.at 8 rfl,h.at 9 rfl,h.at 10 rfl,h.at 11 rfl,h.at 12 rfl,h.at 13 rfl,h.at 14 rfl,h.at 15 rfl,h.at 16 rfl,h.at 17 rfl⟩
theorem ClB.years (h:ClB W b c):W.cell? (Z b 18 N)=G (E Y (c.ys 0:Nat))/\W.cell? (Z b 19 N)=G (E Y (c.ys 1:Nat))/\W.cell? (Z b 20 N)=G (E Y (c.ys 2:Nat))/\W.cell? (Z b 21 N)=G (E Y (c.ys 3:Nat))/\
  W.cell? (Z b 22 N)=G (E Y (c.ys 4:Nat))/\W.cell? (Z b 23 N)=G (E Y (c.ys 5:Nat))/\W.cell? (Z b 24 N)=G (E Y (c.ys 6:Nat)):=
 ⟨h.at 18 rfl,h.at 19 rfl,h.at 20 rfl,h.at 21 rfl,h.at 22 rfl,h.at 23 rfl,h.at 24 rfl⟩
theorem ClB.tail (h:ClB W b c):W.cell? (Z b 25 N)=G (E T c.unit)/\W.cell? (Z b 26 N)=G (E T c.step)/\W.cell? (Z b 27 N)=G (E T c.anchor)/\W.cell? (Z b 28 N)=G (E T c.fr)/\W.cell? (Z b 29 N)=G (E T c.un):=
 ⟨h.at 25 rfl,h.at 26 rfl,h.at 27 rfl,h.at 28 rfl,h.at 29 rfl⟩
theorem ybV {cs:List Value} (h:W.rangeAt b 0 cs) (hb:b<W.heap.size):Sl W (G (Z b 0 N)) cs:= .inr ⟨b,0,rfl,hb,λ j hj=>h j _ (zzp hj)⟩
attribute [local go_sem ↓] ya3
attribute [local go_sem] yaE
abbrev zL:List Value:= [E Y 0,E Y 0,E Y 0,E Y 0,E Y 0,E Y 0,E Y 0,Xb false,E T 0,Xb false,E Y 0,E Y 0,E Y 0,E Y 0,E Y 0,E Y 0,E Y 0,E Y 0,E Y 0,E Y 0,E Y 0,E Y 0,E Y 0,E Y 0,E Y 0,E T 0,E T 0,E T 0,E T 0,E T 0]
theorem yfD (c:Cl) (w:World) (hc:c.Ok):H I 105 #[clv c] w λ e w'=>e=Q (Xb (yb2 c))/\Bw w w':=by
 have c0:=hid (λ W=>ycR W);obtain ⟨F,hF⟩:=zx fullCl;have HF:Hid (∀i,F.m i=ycO i):=λ i=>by rw [<- hF];rfl
 rw [hF] at c0;clear hF;have hC:=hid (yeo w c 59);have aP:Hid (Bw w (w.alloc (J (yae c).toArray 59))):=yaa (Ye _ _) zg;have cO:=hid (λ W=>ykX c.oin c.oback c.od W hc.oin hc.od);have cY:=hid (λ W=>yuK c.ys W hc.ys);have cN:=hid (λ W=>ynT c.unit W);have cM:=hid (λ W=>yhj c.anchor W);have ac:Hid (yb2 c= (yeH c.m&&(yqs c.oin c.oback c.od&&(eqW (inW c.ys) c.ys&&(unB c.unit&&(decide (1<=c.step)&&ycb c.anchor)))))):=rfl;rw [ac];obtain ⟨b1,ai⟩:=zx (yeH c.m);obtain ⟨b2,aw⟩:=zx (yqs c.oin c.oback c.od);obtain ⟨b3,av⟩:=zx (eqW (inW c.ys) c.ys);obtain ⟨b4,au⟩:=zx (unB c.unit);obtain ⟨b6,ar⟩:=zx (ycb c.anchor);obtain ⟨b5,ah⟩:=zx (decide (1<=c.step));rw [ai];have aQ:=hid ai;rw [aw] at cO⊢;rw [av] at cY⊢;rw [au] at cN⊢;rw [ar] at cM⊢;rw [ah];have ag:=hid ah;clear ai aw av au ah ar ac;go_enter Tryz.func105,Tryz.ntmps105
 go_wp2_with fail
 refine zm (c0 _) ?_;rintro w1 aa;have ay:=hC.below aa zs;have ap:Hid (Bw w w1):=aP.trans (aa.mono zs);have aM:w.heap.size<w1.heap.size:=by have:=aa.size;simp at this;omega
 clear aa;have aq:(w1.alloc (J zL.toArray 59)).there w1.heap.size 0 30:=yaL w1 _ _;have ax:ClB (yaV (w1.alloc (J zL.toArray 59)) w1.heap.size (yae F)) w1.heap.size F:=yaI _ rfl aq;have al:Bw w1 (yaV (w1.alloc (J zL.toArray 59)) w1.heap.size (yae F)):=yaD (yaa (Ye _ _) zg) zg _;have ak:=ay.below al aM;obtain ⟨r0,r1,r2,r3,r4,r5,r6⟩:=ak.masks;obtain ⟨s0,s1,s2,s3,s4,s5,s6⟩:=ax.masks;have an:=hid al;have aA:=hid ak;obtain ⟨W2,aj⟩:=zx (yaV (w1.alloc (J zL.toArray 59)) w1.heap.size (yae F));have aR:=hid aj;rw [aj] at an aA;have aT:Hid (Bw w W2):=ap.trans (an.mono zo);have aL:w.heap.size<W2.heap.size:=by have:=an.size;omega
 have hm:=hc.m;have cW:Hid (H I 154 #[Xs (G (Z W2.heap.size 0 N)) 7 7] (W2.alloc (J #[E Y (c.m 0:Nat),E Y (F.m 0:Nat),E Y (c.m 1:Nat),E Y (F.m 1:Nat),E Y (c.m 2:Nat),E Y (F.m 2:Nat),E Y (c.m 3:Nat),E Y (F.m 3:Nat),
   E Y (c.m 4:Nat),E Y (F.m 4:Nat),E Y (c.m 5:Nat),E Y (F.m 5:Nat),E Y (c.m 6:Nat),E Y (F.m 6:Nat)] 245)) λ e w'=>e=Q (Xb (yeH c.m))/\Below (W2.heap.size+1) (W2.alloc (J #[E Y (c.m 0:Nat),E Y (F.m 0:Nat),E Y (c.m 1:Nat),E Y (F.m 1:Nat),E Y (c.m 2:Nat),E Y (F.m 2:Nat),E Y (c.m 3:Nat),E Y (F.m 3:Nat),
   E Y (c.m 4:Nat),E Y (F.m 4:Nat),E Y (c.m 5:Nat),E Y (F.m 5:Nat),E Y (c.m 6:Nat),E Y (F.m 6:Nat)] 245)) w'):=by
  have h:=yl2 (G (Z W2.heap.size 0 N)) 7 [(c.m 0,F.m 0),(c.m 1,F.m 1),(c.m 2,F.m 2),(c.m 3,F.m 3),(c.m 4,F.m 4),(c.m 5,F.m 5),(c.m 6,F.m 6)]
   (W2.alloc (J #[E Y (c.m 0:Nat),E Y (F.m 0:Nat),E Y (c.m 1:Nat),E Y (F.m 1:Nat),E Y (c.m 2:Nat),E Y (F.m 2:Nat),E Y (c.m 3:Nat),E Y (F.m 3:Nat),
     E Y (c.m 4:Nat),E Y (F.m 4:Nat),E Y (c.m 5:Nat),E Y (F.m 5:Nat),E Y (c.m 6:Nat),E Y (F.m 6:Nat)] 245)) zs (ybV (yap W2 _ _) zs) (by
     have hf:∀i,F.m i<18446744073709551616:=λ i=>by rw [HF i];unfold ycO;repeat (first | exact yaG _ | split)
     intro p hp;simp only [YF,ZF,or_false] at hp;rcases hp with rfl | rfl | rfl | rfl | rfl | rfl | rfl <;> exact ⟨hm _ zo,hf _⟩)
  (try unfold Bw at h);rw [HF 0,HF 1,HF 2,HF 3,HF 4,HF 5,HF 6,yk7,zzN] at h
  rw [HF 0,HF 1,HF 2,HF 3,HF 4,HF 5,HF 6];exact h
 rw [aQ] at cW;clear ax al ak ay aj hm;go_wp2_with fail
 rw [aR];clear r0 r1 r2 r3 r4 r5 r6 s0 s1 s2 s3 s4 s5 s6 aq;refine zm cW ?_;rintro w3 az;have ab:Hid (Bw W2 w3):=(yaa (Ye _ _) zg).trans (az.mono zo);have aG:Hid (Bw w w3):=aT.trans (ab.mono zo);have aD:=hid (aA.below ab aL);have aK:w.heap.size<w3.heap.size:=by have:=ab.size;omega
 obtain ⟨o0,o1,o2,o3,o4,o5,o6,o7,o8,o9⟩:=aD.ord;clear az cW;cases b1
 ·go_wp2;go_ret;exact ⟨rfl,aG⟩
 go_wp2_with fail
 refine zm (cO _) ?_;rintro w4 af;have aF:Hid (Bw w w4):=aG.trans (af.mono zo);have aC:=hid (aD.below af aK);have aJ:w.heap.size<w4.heap.size:=by have:=af.size;omega
 obtain ⟨y0,y1,y2,y3,y4,y5,y6⟩:=aC.years;clear af o0 o1 o2 o3 o4 o5 o6 o7 o8 o9;cases b2
 ·go_wp2;go_ret;exact ⟨rfl,aF⟩
 go_wp2_with fail
 refine zm (cY _) ?_;rintro w5 ae;have aE:Hid (Bw w w5):=aF.trans (ae.mono zo);have aB:=hid (aC.below ae aJ);have aI:w.heap.size<w5.heap.size:=by have:=ae.size;omega
 obtain ⟨t0,t1,t2,t3,t4⟩:=aB.tail;clear ae y0 y1 y2 y3 y4 y5 y6;cases b3
 ·go_wp2;go_ret;exact ⟨rfl,aE⟩
 go_wp2_with fail
 refine (cN _).mono ?_;rintro e w6 ⟨⟨s,rfl,aW⟩,am⟩;have ao:Hid (Bw w w6):=aE.trans (am.mono zo);have aS:=hid (aB.below am aI);obtain ⟨u0,u1,u2,u3,u4⟩:=aS.tail;clear am t0 t1 t2 t3 t4;cases b4
 ·go_wp2;go_ret;exact ⟨rfl,ao⟩
 by_cases h1:1<=c.step
 ·obtain rfl:true=b5:=by rw [<- ag,zzZ h1]
  clear ag;go_wp2_with fail
  refine zm (cM _) ?_;rintro w' rfl;go_wp2;go_ret;exact ⟨rfl,ao⟩
 ·obtain rfl:false=b5:=by rw [<- ag,zzd h1]
  clear ag;go_wp2;go_ret;exact ⟨rfl,ao⟩
end
def shq (s:Nat->Int):Value:= .agg #[E T (s 0),E T (s 1),E T (s 2),E T (s 3),E T (s 4),E T (s 5),E T (s 6),E T (s 7),E T (s 8),E T (s 9)]
def yxz (oin:Int) (oback:Bool) (s:Nat->Int):Int:=if oin=1 then (if oback then s 7 else s 6) else (if oback then s 9 else s 8)
def ypq (oin:Int) (oback:Bool) (od:Nat->Nat) (s:Nat->Int):Bool:=if oin=0 then true else ya8 (od (s 5).toNat) (yxz oin oback s)
abbrev ShS (W:World) (b:Nat) (s:Nat->Int):Prop:=ShC W b (s 0) (s 1) (s 2) (s 3) (s 4) (s 5) (s 6) (s 7) (s 8) (s 9)
abbrev ybi (s:Nat->Int):List Value:= [E T (s 0),E T (s 1),E T (s 2),E T (s 3),E T (s 4),E T (s 5),E T (s 6),E T (s 7),E T (s 8),E T (s 9)]
def shF (n:Int) (i:Nat):Int:=match i with
 | 0=>n | 1=>fY n | 2=>fMo n | 3=>fD n | 4=>ycx (fY n) (fMo n)-fD n+1 | 5=>(n%7+3)%7+1 | 6=>(fD n-1)/7+1 | 7=>(ycx (fY n) (fMo n)-fD n)/7+1 | 8=>(fOr n-1)/7+1 | _=>(365+ybs (fY n)-fOr n)/7+1
theorem ya7 (n:Int):shq (shF n)=shN n:=rfl
theorem ygA (n:Int):1<=shF n 5/\shF n 5<=7:=by show 1<=(n%7+3)%7+1/\(n%7+3)%7+1<=7;omega
theorem yxV {n:Int} (h0:0<=n) (h1:n<146097):0<=shF n 1/\shF n 1<100000:=by
 have:=yaQ h0 h1;show 0<=fY n/\fY n<100000;omega
def yds (m:Nat) (t:Int):Nat:=m&&&ybG 0 t 1
theorem yfs {m:Nat} (t:Int) (hm:m<18446744073709551616):yds m t<18446744073709551616:=yhb (b:=ybG 0 t 1) hm
theorem yg9 (m:Nat) (t:Int) (k:Nat):(yds m t).testBit k= (m.testBit k&&(decide (k<64)&&decide ((k:Int)<=t))):=by
 rw [yds,Nat.testBit_and,ybG,yaW];congr 2
 rw [yd9,zze];simp only [zzY];omega
theorem ynW (hs ms ss:Nat) (w:World) (hh:hs<18446744073709551616) (hm:ms<18446744073709551616) (aa:ss<18446744073709551616) :
  H I 138 #[E Y hs,E Y ms,E Y ss] w λ e w'=>e=Q (Xt #[E Y (yds hs 23),E Y (yds ms 59),E Y (yds ss 59)])/\w=w':=by
 have e1:=hid (ybo hh (yaG (yd9 0 23 1)));have e2:=hid (ybo hm (yaG (yd9 0 59 1)));have e3:=hid (ybo aa (yaG (yd9 0 59 1)));have H1:=hid (ycw 0 23 1 w zo zo);have H2:=hid (ycw 0 59 1 w zo zo);go_enter Tryz.func138,Tryz.ntmps138
 go_wp2_with fail
 refine zm H2 ?_;rintro w' rfl;go_wp2_with fail
 refine zm H1 ?_;rintro w' rfl;go_wp2;refine Yh (v:=Xt #[E Y (yds hs 23),E Y (yds ms 59),E Y (yds ss 59)]) ?_ rfl ⟨rfl,rfl⟩;simp [results,Tryz.results138,go_sem];exact ⟨e1,e2,e3⟩
section
variable {m:Nat}
theorem ygB (p:Nat->Bool) (k:Nat) (hk:p k=true):∀Nq,k<Nq->∃bs,sel p Nq=sel p k++(k:Int)::bs
 | 0,h=>by omega
 | Nq+1,h=>by
   by_cases e:k=Nq
   ·subst e;exact ⟨[],yeg hk⟩
   ·obtain ⟨bs,hb⟩:=ygB p k hk Nq zo;by_cases hp:p Nq=true
    ·exact ⟨bs ++ [(Nq:Int)],by rw [yeg hp,hb];simp⟩
    ·exact ⟨bs,by rw [yhM (by simpa using hp),hb]⟩
theorem yiG {p:Nat->Bool} {n:Nat} (h:∀i,i<n->p i=false):sel p n= []:=by
 cases e:sel p n with
 | nil=>rfl
 | cons x xs=>
   have hx:x∈sel p n:=(by rw [e];simp);obtain ⟨k,hk,hp,_⟩:=sel_mem.mp hx;rw [h k hk] at hp;cases hp
def ydB (n:Int):List Int->Int
 | []=>-1
 | x::xs=>if n<x then x else ydB n xs
theorem yhD (n:Int):∀l:List Int,(∀x∈l,¬n<x)->ydB n l= -1
 | [],_=>rfl
 | x::xs,h=>by rw [ydB,Yb (h x zs),yhD n xs (λ y hy=>h y (by simp [hy]))]
theorem ymD (n y:Int) (bs:List Int) (hy:n<y):∀l:List Int,(∀x∈l,¬n<x)->ydB n (l++y::bs)=y
 | [],_=>by simp [ydB,hy]
 | x::xs,h=>by
   rw [YH,ydB,Yb (h x zs),ymD n y bs hy xs (λ z hz=>h z (by simp [hz]))]
theorem yvU (n:Int) (hm:m<18446744073709551616) (h:ybZ m n=0):ydB n (sel m.testBit 64)= -1:=by
 refine yhD n _ (λ x hx hlt=>?_);obtain ⟨k,hk,hp,rfl⟩:=sel_mem.mp hx;have:=yet n k hm;rw [h,hp] at this;simp at this;omega
theorem ysV (n:Int) (hm:m<18446744073709551616) (h:ybZ m n≠0):ydB n (sel m.testBit 64)= (lsb (ybZ m n):Int):=by
 obtain ⟨h1,h2,h3⟩:=ygh h (yr1 hm);generalize hk:lsb (ybZ m n)=k at h1 h2 h3⊢
 rw [yet n k hm] at h2;simp only [zzX,zzY] at h2;obtain ⟨bs,hb⟩:=ygB m.testBit k h2.2 64 h1;rw [hb];refine ymD n k bs h2.1 _ (λ x hx hlt=>?_);obtain ⟨j,hj,hp,rfl⟩:=sel_mem.mp hx;have:=h3 j hj;rw [yet n j hm,hp] at this;simp at this;omega
theorem yt7 (h:m=0):sel m.testBit 64= []:=yiG (λ i _=>by subst h;simp)
theorem yrv (hm:m<18446744073709551616) (h:m≠0):∃bs,sel m.testBit 64= (lsb m:Int)::bs:=by
 obtain ⟨h1,h2,h3⟩:=ygh h hm;obtain ⟨bs,hb⟩:=ygB m.testBit (lsb m) h2 64 h1;rw [yiG h3] at hb;exact ⟨bs,hb⟩
end
section
open Go.RowKit Go.ChangeShapes Go.WideShapes
inductive Leaf where
 | int (k:IntKind)
 | bool
def Leaf.ok:Leaf->Value->Prop
 | .int k,v=>∃n,v= .int k n/\(Lit.int k n).wf=true
 | .bool,v=>∃b,v= .bool b
def oks:List Leaf->List Value->Prop
 | [],[]=>True
 | k::ks,v::vs=>k.ok v/\oks ks vs
 | _,_=>False
theorem yff:∀{ks ls:List Leaf} {cs ds:List Value},oks ks cs->oks ls ds->oks (ks++ls) (cs++ds)
 | [],_,[],_,_,h=>h
 | k::ks,ls,v::vs,ds,h,h'=>⟨h.1,yff h.2 h'⟩
 | [],_,_::_,_,h,_=>h.elim
 | _::_,_,[],_,h,_=>h.elim
def ygV (P:Program) (g:TypeId->Option (List Leaf)):List Field->Nat->Option (List Leaf)
 | [],_=>G []
 | f::fs,o=>(g f.type).bind λ l=>if f.offset=o/\l.length=P.cellsOf f.type then (ygV P g fs (o+l.length)).map (l ++ ·) else N
def yfN (P:Program):Nat->TypeId->Option (List Leaf)
 | 0,_=>N
 | m+1,t=>
   match P.underlying t with
   | some (.int k)=>G [.int k]
   | some .bool=>G [.bool]
   | some (.struct fs)=>(ygV P (yfN P m) fs.toList 0).bind λ l=>if l.length=P.cellsOf t then G l else N
   | some (.array n e)=>(yfN P m e).bind λ l=>if l.length=P.cellsOf e/\n*P.cellsOf e=P.cellsOf t then G (List.replicate n l).flatten else N
   | _=>N
section
variable {Hq:Type} {enc:TypeId × Value->Hq} {P:Program} {w:World} {base:Nat} {spare:Nat->Bool} {held:Bool}
theorem yoA {g:TypeId->Option (List Leaf)} {n:Nat} {cs:List Value}
  (hg:∀t ks c (x:DataW Hq × List MemPlace),g t=G ks->DataW.trod enc P w base spare held n t c=G x->oks ks c) :
  ∀(fs:List Field) (o:Nat) (ks:List Leaf),ygV P g fs o=G ks->
   (∀f∈fs,∃x:DataW Hq × List MemPlace,DataW.trod enc P w base spare held n f.type ((cs.drop f.offset).take (P.cellsOf f.type))=G x)->cs.length=o+ks.length->oks ks (cs.drop o):=by
 intro fs;induction fs with
 | nil=>
   intro o ks h _ hl;simp [ygV] at h;subst h;rw [List.drop_of_length_le (by simp at hl;omega)];trivial
 | cons f fs ih=>
   intro o ks h hx hl;simp only [ygV,Option.bind_eq_some_iff] at h;obtain ⟨l,ar,h⟩:=h;split at h
   ·rename_i hc;obtain ⟨ho,aa⟩:=hc;simp only [Option.map_eq_some_iff] at h;obtain ⟨r,hr,rfl⟩:=h;obtain ⟨x,an⟩:=hx f zs;have h1:=hg _ _ _ _ ar an;rw [ho,<- aa] at h1;have h2:=ih (o+l.length) r hr (λ f hf=>hx f (by simp [hf])) (by simp at hl;omega);have:=yff h1 h2;rw [<- List.drop_drop] at this;rwa [Zg] at this
   ·cases h
theorem ywi (l:List Leaf) (cs:List Value):∀(n:Nat),cs.length=n*l.length->(∀i,i<n->oks l ((cs.drop (i*l.length)).take l.length))->oks (List.replicate n l).flatten cs:=by
 intro n;induction n generalizing cs with
 | zero=>intro h _;simp at h;subst h;trivial
 | succ n ih=>
   intro h hx;rw [List.replicate_succ,List.flatten_cons];have h0:=hx 0 zo;simp only [ZJ,List.drop_zero] at h0;have h1:=ih (cs.drop l.length) (by rw [List.length_drop,h,Zk];omega) (λ i hi=>by
    have:=hx (i+1) zo;rw [List.drop_drop];rwa [Zk,Nat.add_comm] at this)
   have:=yff h0 h1;rwa [Zg] at this
theorem ydI:∀(m:Nat) {t:TypeId} {ks:List Leaf} {ac:Nat} {cs:List Value} {x:DataW Hq × List MemPlace},yfN P m t=G ks->DataW.trod enc P w base spare held ac t cs=G x->oks ks cs
 | 0,_,_,_,_,_,h,_=>by simp [yfN] at h
 | m+1,t,ks,ac,cs,x,h,hx=>by
   unfold yfN at h;split at h
   ·rename_i k ht;obtain ⟨n,rfl,_,hw⟩:=DataW.trod_int ht hx;cases h;exact ⟨⟨n,rfl,hw⟩,trivial⟩
   ·rename_i ht;obtain ⟨b,rfl,_⟩:=DataW.trod_bool ht hx;cases h;exact ⟨⟨b,rfl⟩,trivial⟩
   ·rename_i fs ht;obtain ⟨xs,n,rfl,_,aa,ah,hf⟩:=DataW.trod_struct ht hx;simp only [Option.bind_eq_some_iff] at h;obtain ⟨l,hl,h⟩:=h;split at h
    ·rename_i hc;cases h;have:=yoA (cs:=cs) (enc:=enc) (P:=P) (w:=w) (base:=base) (spare:=spare) (held:=held) (n:=n) (λ t ks c x h1 h2=>ydI m h1 h2) fs.toList 0 ks hl (λ f au=>by
      obtain ⟨i,hi,rfl⟩:=Zt au;have h3:=hf i fs.toList[i] (by simp at hi⊢);have aq:i<xs.length:=(by rw [ah];simpa using hi);rw [zzp aq] at h3;exact ⟨_,h3⟩) zo
     simpa using this
    ·cases h
   ·rename_i n e ht;obtain ⟨xs,m',rfl,_,aa,ah,hf⟩:=DataW.trod_array ht hx;simp only [Option.bind_eq_some_iff] at h;obtain ⟨l,hl,h⟩:=h;split at h
    ·rename_i hc;cases h;refine ywi l cs n (by rw [aa,<- hc.2,hc.1]) (λ i hi=>?_);have h3:=hf i hi;rw [zzp zo] at h3;rw [hc.1];exact ydI m hl h3
    ·cases h
   ·cases h
theorem yt5 {n s:Nat} {C:Nat->List Value} (hC:∀i,i<n->(C i).length=s):((List.range n).flatMap C).length=n*s/\
  ∀i r,i<n->r<s->((List.range n).flatMap C)[i*s+r]? = (C i)[r]?:=by
 induction n with
 | zero=>exact ⟨by simp,λ i r hi=>by omega⟩
 | succ n ih=>
   obtain ⟨h1,h2⟩:=ih (λ i hi=>hC i zo);rw [ZL,ZE];refine ⟨by simp [h1,hC n zo,Nat.succ_mul],λ i r hi hr=>?_⟩;by_cases ak:i<n
   ·rw [Yo,h2 i r ak hr];rw [h1];calc i*s+r<i*s+s:=zo
     _ = (i+1)*s:=by rw [Zk]
     _<=n*s:=Nat.mul_le_mul_right _ ak
   ·obtain rfl:i=n:=zo;rw [Yl (by rw [h1];omega),h1,Zn];simp
theorem yj1 {t e:TypeId} {ac m:Nat} {ks:List Leaf} {v:Value} {x:DataW Hq × List MemPlace} (ht:P.underlying t=G (.slice e)) (hk:yfN P m e=G ks) (ai:ks.length=P.cellsOf e) (ae:0<ks.length)
  (h:DataW.trod enc P w base spare held ac t [v]=G x) :
  ∃(a:Option Addr) (n cap:Nat) (cells:List Value),v=Xs a n cap/\n<=cap/\cap<=maxLen/\cells.length=n*ks.length/\Sl w a cells/\(a=N->cap=0)/\∀i,i<n->oks ks ((cells.drop (i*ks.length)).take ks.length):=by
 rcases Go.Deep.open_slice ht h with ⟨h1,_⟩ | ⟨a,len,cap,mm,nn,D,Pl,h1,hb,hl,hm,ap,rfl,hx⟩
 ·simp at h1;subst h1;exact ⟨N,0,0,[],rfl,zG _,by unfold maxLen;omega,by simp, .inl rfl,λ _=>rfl,λ i hi=>by omega⟩
 ·simp at h1;subst h1;have aw:len<=mm:=by rw [ap];split <;> omega
  obtain ⟨C,hC⟩:=Go.Deep.choose_lt (α:=List Value) (p:=λ i c=>w.cells? base (a.add (i*P.cellsOf e)) (P.cellsOf e)=G c/\DataW.trod enc P w base spare held nn e c=G (D i,Pl i)) (λ i hi=>hx i hi);have ag:∀i,i<len->(C i).length=ks.length:=λ i hi=>by rw [ai];exact (World.cells?_some (hC i zo).1).2.1
  obtain ⟨af,al⟩:=yt5 ag;refine ⟨G a,len,cap,(List.range len).flatMap C,rfl,hl,hm,af,?_,λ h=>(by cases h),?_⟩
  ·rcases ZT len with h0 | h0
   ·subst h0;exact .inl rfl
   ·obtain ⟨_,_,av⟩:=World.cells?_some (hC 0 zo).1;have ab:=av 0 zo;rw [zzp (by rw [ag 0 h0];omega)] at ab;have ao:(a.add (0*P.cellsOf e)).add 0=a:=(by simp [Addr.add]);rw [ao] at ab;have ad:=World.cell?_spot ab;obtain ⟨b,off,am⟩:=a;simp at ad;subst ad;refine .inr ⟨b,off,rfl,World.block_lt_of_cell? w _ ab,λ j hj=>?_⟩;rw [af] at hj;have hi:j/ks.length<len:=Nat.div_lt_of_lt_mul (by rwa [Nat.mul_comm] at hj);have hr:j%ks.length<ks.length:=Nat.mod_lt _ ae;have aj:j/ks.length*ks.length+j%ks.length=j:=(by rw [Nat.mul_comm];exact Nat.div_add_mod _ _);have h1:=al _ _ hi hr;rw [aj] at h1;obtain ⟨_,_,hc⟩:=World.cells?_some (hC _ (by omega:j/ks.length<mm)).1;have h2:=hc (j%ks.length) zo;rw [Addr.add_lit,Addr.add_lit,<- ai,ZN,aj,<- h1,zzp (by rw [af];exact hj)] at h2;exact h2
  ·intro i hi;have e:(((List.range len).flatMap C).drop (i*ks.length)).take ks.length=C i:=by
    apply List.ext_getElem?;intro r;by_cases hr:r<ks.length
    ·rw [List.getElem?_take_of_lt hr,List.getElem?_drop,al i r hi hr]
    ·rw [List.getElem?_eq_none (by rw [YX];omega),List.getElem?_eq_none (by rw [ag i hi];omega)]
   rw [e];exact ydI m hk (hC i zo).2
end
theorem yve {n:Int} (h:(Lit.int T n).wf=true):-9223372036854775808<=n/\n<=9223372036854775807:=by
 have h1:IntKind.i64.min= -9223372036854775808:=by decide
 have h2:=h;simp [Lit.wf,h1] at h2;exact h2
theorem yzp {n:Int} (h:(Lit.int .u8 n).wf=true):∃m:Nat,n= (m:Int)/\m<256:=by
 have h1:IntKind.u8.min=0:=by decide
 have h3:IntKind.u8.max=255:=by decide
 have h2:=h;simp [Lit.wf,h1,h3] at h2;exact ⟨n.toNat,by omega,by omega⟩
def yxw (l:List Nat):List Value:=l.map λ (n:Nat)=>Value.int Y (n:Int)
theorem ym3:∀{cells:List Value} {n:Nat},cells.length=n*1->(∀i,i<n->oks [.int T] ((cells.drop (i*1)).take 1))->∃l:List Int,cells=yaR l/\l.length=n/\∀x∈l,-9223372036854775808<=x/\x<=9223372036854775807
 | [],n,h,_=>⟨[],rfl,by simp at h;simp [h],by simp⟩
 | v::cells,0,h,_=>by simp at h
 | v::cells,n+1,h,hk=>by
   obtain ⟨l,e,hl,hb⟩:=ym3 (cells:=cells) (n:=n) (by simp at h⊢;omega) (λ i hi=>by have:=hk (i+1) zo;simpa using this);have h0:=hk 0 zo;simp at h0;obtain ⟨⟨x,rfl,hw⟩,_⟩:=h0;exact ⟨x::l,by rw [e];rfl,by simp [hl],λ y hy=>by
    rcases YF.1 hy with rfl | hy
    ·exact yve hw
    ·exact hb y hy⟩
end
theorem ygv (l:List Nat):(yxw l).length=l.length:=by simp [yxw]
theorem Sl.atU64 {w:World} {a:Option Addr} {l:List Nat} (h:Sl w a (yxw l)) {k:Nat} (hk:k<l.length) :
  ∃b off,a=G (Z b off N)/\b<w.heap.size/\∀j (h:j<l.length),w.cell? (Z b (off+j) N)=G (E Y l[j]):=by
 obtain ⟨b,off,rfl,hlt,hc⟩:=Sl.at h (k:=k) (by rw [ygv];exact hk);refine ⟨b,off,rfl,hlt,λ j hj=>?_⟩;rw [hc j (by rw [ygv];exact hj)];simp [yxw]
def yhw (m:Nat) (l:List Nat):Nat:=l.foldl (λ x y=>x&&&y) m
def yzj (l:List Nat):Nat:=if l.length=0 then 0 else yhw 18446744073709551615 l
theorem yt2 {m:Nat} (hm:m<18446744073709551616):∀l:List Nat,yhw m l<18446744073709551616:=by
 intro l;induction l generalizing m with
 | nil=>exact hm
 | cons x xs ih=>exact ih (yhb (b:=x) hm)
theorem yoI (m:Nat) (l:List Nat) (k:Nat) (hk:k<l.length):yhw m (l.take k)&&&l[k]=yhw m (l.take (k+1)):=by
 rw [List.take_add_one,zzp hk,yhw,yhw,Zp];rfl
theorem yu0 (a:Option Addr) (cap:Nat) (l:List Nat) (w:World) (hl:l.length<=9223372036854775807) (hs:Sl w a (yxw l)) (hb:∀x∈l,x<18446744073709551616) :
  H I 164 #[Xs a l.length cap] w λ e w'=>e=Q (Xf (.func 201) #[] #[R (G (Z w.heap.size 0 N))])/\
   w'.cell? (Z w.heap.size 0 N)=G (E Y (yzj l))/\Bw w w'/\w.heap.size<w'.heap.size:=by
 go_enter Tryz.func164,Tryz.ntmps164
 by_cases h0:l.length=0
 ·have hr:Hid (yzj l=0):=Yd h0;go_wp2;go_loopw [5,11] (λ _ i wr=>i=E T 0/\wr=w.alloc (J #[E Y 0] 39)) (λ _ _ _=>0)
  case atStart=>exact ⟨rfl,rfl⟩
  case round=>
   obtain ⟨rfl,rfl⟩:=hrel;go_wp2;go_ret;refine ⟨rfl,?_,yaa (Ye _ _) zg,by simp [go_sem]⟩;rw [hr];simp [go_sem]
 ·have hr:Hid (yzj l=yhw 18446744073709551615 l):=Yb h0;go_wp2;go_loopw [5,11] (λ _ i wr=>∃k:Nat,i=E T k/\k<=l.length/\wr.cell? (Z w.heap.size 0 N)=G (E Y (yhw 18446744073709551615 (l.take k)))/\wr.frozen? (Z w.heap.size 0 N)=false/\Bw w wr/\w.heap.size<wr.heap.size) (λ _ i _=>l.length-(intOf i).toNat)
  case atStart=>exact ⟨0,rfl,by omega,by simp [go_sem,yhw],by simp [go_sem],yaa (Ye _ _) zg,by simp [go_sem]⟩
  case round=>
   obtain ⟨k,rfl,hk,aa,af,hB,hlt⟩:=hrel;by_cases ab:k<l.length
   ·obtain ⟨b,off,rfl,ag,hc⟩:=hs.atU64 ab;have e1:=(hB.cell (p:=Z b (off+k) N) ag).trans (hc k ab);have hf:=hid (yoI 18446744073709551615 l k ab);have hM:=yt2 (m:=18446744073709551615) zo (l.take k);have hx:=hb l[k] zs;obtain ⟨x,ad⟩:=zx (l[k]);obtain ⟨M,ah⟩:=zx (yhw 18446744073709551615 (l.take k));rw [ad] at e1 hf hx;rw [ah] at hf aa hM;have ac:=hid (ybo hM hx);have ai:b≠w.heap.size:=zo;go_wp2;exact ⟨⟨k+1,by go_num,by omega,by rw [<- hf,ac];simp [go_sem,aa],by simp [go_sem,af],yab hB zg,by simpa [go_sem] using hlt⟩,by simp [intOf];omega⟩
   ·have ae:l.take k=l:=YU zo;rw [ae] at aa;have aj:Hid (k=l.length):=(by show k=l.length;omega);go_wp2;go_ret;exact ⟨rfl,by rw [hr];exact aa,hB,hlt⟩
section
variable {args:Array Value} {n:Nat} {O:Nat->Prop} {r:Option Nat} {P:Program} {y:Value} {W W':World}
abbrev WF (r:Option Nat):Fence:={fn:=λ _=>True,depth:=N,alive:=false,round:=r}
theorem wf_calls {f:FuncId} {w:World} {Rq:Ending->World->Prop}:CallsIn (WF r) n P f args w Rq↔H P f args w Rq:=callsIn_wide (n:=n)
def CallV (P:Program) (y:Value) (args:Array Value) (W:World) (Rq:Ending->World->Prop):Prop:=
 (∃f cap,y=Xf (.func f) #[] cap/\(∀args w,(callFunc f args).run P w= .ok (.enter f args) w)/\H P f (args++cap) W Rq)\/
 (∃l fn tmps assign body,y= .func (.yield l) #[] #[]/\(Instr.yield l args).run P W= .ok (.round l fn tmps assign body) W/\∀n,RoundIn (WF N) n P l fn tmps assign body W Rq)
theorem CallV.mono {Rq R':Ending->World->Prop} (h:CallV P y args W Rq) (hr:∀e w',Rq e w'->R' e w'):CallV P y args W R':=by
 rcases h with ⟨f,cap,h1,h2,h3⟩ | ⟨l,fn,tmps,assign,body,h1,h2,h3⟩
 ·exact .inl ⟨f,cap,h1,h2,h3.mono hr⟩
 ·exact .inr ⟨l,fn,tmps,assign,body,h1,h2,λ n=>(h3 n).mono hr⟩
theorem ylX {aa:Array Oper} {rest:List Oper} {o:Oper} {a:Act} {Qq:Exit->Act->World->Prop} (s x:Operand) (t:TypeId)
  (ac:o.guard=N) (ho:o.op= .call {callee:= .value s,args:=#[x],argTypes:=#[t]}) {u:Value} (hs:a.eval s=y) (hx:a.eval x=u) {Rq:Ending->World->Prop}
  (h:CallV P y #[u] W Rq) (hK:∀e W',Rq e W'->∃v,e=Q v/\wpListIn (WF r) n P aa Qq rest (a.put o.dst v) W') :
  wpListIn (WF r) n P aa Qq (o::rest) a W:=by
 refine wpListIn_plain ac λ K ab=>?_;unfold Oper.wpIn;refine ⟨λ _ _=>trivial,?_⟩;rw [Oper.semAt_plain (WF r) _ _ (by rw [ho];intro c hc;cases hc)];rcases h with ⟨f,cap,rfl,he,hc⟩ | ⟨l,fn,tmps,assign,body,rfl,hy,hc⟩
 ·simp [execOp,ho,resolve,invoke,hs,hx,he,Deferred.ofValue];rw [Oper.uponIn_enter];refine ⟨λ h=>(by cases h),wf_calls.mpr ((show H P f (#[u]++cap) W Rq from hc).mono λ e w' hr=>?_)⟩;obtain ⟨v,rfl,hw⟩:=hK e w' hr;exact ab _ _ hw
 ·simp [execOp,ho,resolve,invoke,hs,hx,hy,Deferred.ofValue];rw [Oper.uponIn_round];refine ⟨λ h=>(by cases h),RoundIn.mono (hc _) λ e w' hr=>?_⟩;obtain ⟨v,rfl,hw⟩:=hK e w' hr;exact ab _ _ hw
structure Eff (O:Nat->Prop) (W W':World):Prop where
 os:W'.os=W.os
 tape:W'.tape=W.tape
 output:W'.output=W.output
 size:W.heap.size<=W'.heap.size
 block:∀k,k<W.heap.size->¬O k->W'.heap[k]? =W.heap[k]?
theorem Eff.refl (O:Nat->Prop) (W:World):Eff O W W:=⟨rfl,rfl,rfl,zG _,λ _ _ _=>rfl⟩
theorem Eff.trans {O':Nat->Prop} {A B C:World} (h:Eff O A B) (k:Eff O' B C) (hO:∀b,O' b->O b\/ A.heap.size<=b):Eff O A C:=
 ⟨k.os.trans h.os,k.tape.trans h.tape,k.output.trans h.output,zI h.size k.size,λ i hi hn=>
  (k.block i (zH hi h.size) (λ ho=>by rcases hO i ho with h1 | h1;exact hn h1;omega)).trans (h.block i hi hn)⟩
theorem Eff.cell (h:Eff O W W') {p:Addr} (hp:p.block<W.heap.size) (hn:¬O p.block):W'.cell? p=W.cell? p:=zzJ (w:=W) (h.block p.block hp hn)
theorem Eff.of_below (h:Bw W W'):Eff O W W':=⟨h.os,h.tape,h.output,h.size,λ k hk _=>h.block k hk⟩
theorem Eff.below {B:Nat} (h:Eff O W W') (hO:∀b,O b->B<=b) (hB:B<=W.heap.size):Below B W W':=
 ⟨h.os,h.tape,h.output,h.size,λ k hk=>h.block k zo (λ ho=>by have:=hO k ho;omega)⟩
structure yvR (P:Program) (y:Value) (xs:List Int) (Jq Jx:Nat->(Nat->Prop)->World->Prop):Prop where
 stab:∀k O W W',Jq k O W->W.heap.size<=W'.heap.size->(∀b,O b->W'.heap[b]? =W.heap[b]?)->Jq k O W'
 stabx:∀k O W W',Jx k O W->W.heap.size<=W'.heap.size->(∀b,O b->W'.heap[b]? =W.heap[b]?)->Jx k O W'
 lt:∀k O W,Jq k O W->∀b,O b->b<W.heap.size
 ltx:∀k O W,Jx k O W->∀b,O b->b<W.heap.size
 call:∀k O W,(hk:k<xs.length)->Jq k O W->CallV P y #[E T xs[k]] W λ e W'=>∃O':Nat->Prop,(∀b,O b->O' b)/\(∀b,O' b->O b\/ W.heap.size<=b)/\Eff O W W'/\
  ((e=Q (Xb true)/\Jq (k+1) O' W')\/ (e=Q (Xb false)/\Jx (k+1) O' W'))
def yzk (xs:List Int) (Jq Jx:Nat->(Nat->Prop)->World->Prop) (O:Nat->Prop) (W:World) (W':World):Prop:=
 ∃O':Nat->Prop,(∀b,O b->O' b)/\(∀b,O' b->O b\/ W.heap.size<=b)/\Eff O W W'/\(Jq xs.length O' W'\/ ∃k,1<=k/\k<=xs.length/\Jx k O' W')
end
section
variable {m:Nat} {p:Nat->Bool}
theorem yaO (p:Nat->Bool):∀n,(sel p n).Pairwise (·< ·)
 | 0=>by simp [ymN]
 | n+1=>by
   by_cases h:p n=true
   ·rw [yeg h,List.pairwise_append];refine ⟨yaO p n,by simp,λ x hx y hy=>?_⟩;obtain ⟨k,hk,_,rfl⟩:=sel_mem.mp hx;obtain rfl:y= (n:Int):=(by simpa using hy);omega
   ·rw [yhM (by simpa using h)];exact yaO p n
theorem yhC (n:Int) (r:List Int):∀l:List Int,(∀x∈l,¬n<x)->ydB n (l++r)=ydB n r
 | [],_=>rfl
 | x::xs,h=>by rw [YH,ydB,Yb (h x zs),yhC n r xs (λ z hz=>h z (by simp [hz]))]
theorem yn4 {l:List Int} (h:l.Pairwise (·< ·)) (k:Nat) (hk:k<l.length):ydB l[k] l=if hn:k+1<l.length then l[k+1] else -1:=by
 have h1:ydB l[k] l=ydB l[k] (l.drop (k+1)):=by
  have ab:∀x,(∀y∈l.take (k+1),¬x<y)->ydB x l=ydB x (l.drop (k+1)):=λ x hx=>by
   have:=yhC x (l.drop (k+1)) (l.take (k+1)) hx;rwa [Zg] at this
  refine ab _ (λ x hx=>?_);obtain ⟨j,hj,rfl⟩:=List.mem_take_iff_getElem.mp hx;have ac:j<=k:=zo;rcases ZK j k with aa | aa
  ·have:=List.pairwise_iff_getElem.mp h j k zo hk aa;omega
  ·obtain rfl:j=k:=zo;omega
 rw [h1];by_cases hn:k+1<l.length
 ·rw [dif_pos hn,Zw hn,ydB,Yd (List.pairwise_iff_getElem.mp h k (k+1) hk hn zo)]
 ·rw [dif_neg hn,List.drop_of_length_le zo];rfl
theorem yoc {n:Nat} (k:Nat) (hk:k<(sel p n).length):0<=(sel p n)[k]:=by
 obtain ⟨j,_,_,e⟩:=sel_mem.mp (zzr hk);omega
theorem ywq (hm:m<18446744073709551616) (k:Nat) (hk:k<(sel m.testBit 64).length) :
  ybY (ybZ m (sel m.testBit 64)[k])=decide (k+1<(sel m.testBit 64).length)/\ycI (ybZ m (sel m.testBit 64)[k])= (sel m.testBit 64).getD (k+1) 0:=by
 have hw:=yn4 (yaO m.testBit 64) k hk;by_cases ha:ybZ m (sel m.testBit 64)[k]=0
 ·rw [yvU _ hm ha] at hw;have hn:¬k+1<(sel m.testBit 64).length:=λ hn=>by
   rw [dif_pos hn] at hw;have:=yoc (k+1) hn;omega
  rw [ha];refine ⟨by simp [ybY,hn],?_⟩;rw [Yz,List.getElem?_eq_none zo];rfl
 ·rw [ysV _ hm ha] at hw;have hn:k+1<(sel m.testBit 64).length:=Decidable.byContradiction λ hn=>by
   rw [dif_neg hn] at hw;omega
  rw [dif_pos hn] at hw;refine ⟨by simp [ybY,hn,ha],?_⟩;rw [ycI,Yb ha,hw,Yz,zzp hn];rfl
theorem ytM (hm:m<18446744073709551616):ybY m=decide (0<(sel m.testBit 64).length)/\ycI m= (sel m.testBit 64).getD 0 0:=by
 by_cases h0:m=0
 ·rw [yt7 h0];simp [ybY,ycI,h0]
 ·obtain ⟨bs,hb⟩:=yrv hm h0;rw [hb];simp [ybY,ycI,h0]
attribute [local go_sem] Yw
theorem Tab.eff {O:Nat->Prop} {W W':World} (h:Tab W) (hE:Eff O W W') (hn:¬O 0):Tab W':=
 ⟨zH h.1 hE.size,λ i hi=>(hE.cell (p:=⟨0,i,N⟩) h.1 hn).trans (h.2 i hi)⟩
def yzt:Value->Nat
 | Xb true=>1
 | _=>0
theorem yjQ (k:Nat) (hk:k<(sel p 64).length):0<=(sel p 64)[k]/\(sel p 64)[k]<=63:=by
 obtain ⟨j,hj,_,e⟩:=sel_mem.mp (zzr hk);omega
theorem ys6 (k:Nat) (hj:k<(sel p 64).length) (hk:k+1<(sel p 64).length):(sel p 64)[k]<(sel p 64)[k+1]:=
 List.pairwise_iff_getElem.mp (yaO p 64) k (k+1) zo hk zo
end
theorem Yc : type_of% @World.putObj_heap_other := @World.putObj_heap_other
theorem Yg : type_of% @World.putObj_size := @World.putObj_size
theorem YM : type_of% @run_takeDeferred := @run_takeDeferred
theorem Y1 : type_of% @World.alloc_heap_new := @World.alloc_heap_new
theorem ZH : type_of% @World.putObj_heap_same := @World.putObj_heap_same
abbrev ycQ:=Nat->(Nat->Prop)->World->Prop
structure yaM (O O':Nat->Prop) (W W':World):Prop where
 sub:∀b,O b->O' b
 new:∀b,O' b->O b\/ W.heap.size<=b
 eff:Eff O W W'
theorem yaM.refl (O:Nat->Prop) (W:World):yaM O O W W:=⟨λ _ h=>h,λ _ h=> .inl h,Eff.refl O W⟩
theorem yaM.trans {O O' O2:Nat->Prop} {A B C:World} (h:yaM O O' A B) (k:yaM O' O2 B C):yaM O O2 A C:=
 ⟨λ b hb=>k.sub b (h.sub b hb),λ b hb=>by
  rcases k.new b hb with h1 | h1
  ·exact h.new b h1
  ·exact .inr (zI h.eff.size h1),h.eff.trans k.eff h.new⟩
theorem Eff.wide {O O':Nat->Prop} {W W':World} (h:Eff O W W') (hs:∀b,O b->O' b):Eff O' W W':=
 ⟨h.os,h.tape,h.output,h.size,λ k hk hn=>h.block k hk (λ ho=>hn (hs k ho))⟩
theorem Eff.putObj {O:Nat->Prop} {W W':World} (h:Eff O W W') {l:Nat} (hl:O l\/ W.heap.size<=l) (o:Obj):Eff O W (W'.putObj l o):=
 ⟨h.os,h.tape,h.output,by rw [Yg];exact h.size,λ k hk hn=>(Yc (λ e=>by subst e;rcases hl with h1 | h1;exact hn h1;omega)).trans (h.block k hk hn)⟩
def ybI (Iq:ycQ):Prop:=∀k O W W',Iq k O W->W.heap.size<=W'.heap.size->(∀b,O b->W'.heap[b]? =W.heap[b]?)->Iq k O W'
def LtO (Iq:ycQ):Prop:=∀k O W,Iq k O W->∀b,O b->b<W.heap.size
def ymh (Iq:ycQ) (Ix:Code->ycQ) (k:Nat) (O:Nat->Prop) (W:World):Exit->Act->World->Prop
 | .normal,_,W'=>∃O',yaM O O' W W'/\Iq (k+1) O' W'
 | .ret,_,W'=>∃O',yaM O O' W W'/\Ix .ret (k+1) O' W'
 | .exit id,_,W'=>∃O',yaM O O' W W'/\Ix (.exit id) (k+1) O' W'
 | .goto t,_,W'=>∃O',yaM O O' W W'/\Ix (.goto t) (k+1) O' W'
 | .panic _,_,_=>False
 | .outgrown,_,_=>False
def RJ (rc:Loop) (l:Nat) (Dk:Option Nat) (Iq:ycQ):ycQ:=λ k O W=>
 ∃O1:Nat->Prop,(∀b,O b↔O1 b\/ b=l\/ Dk=G b)/\¬O1 l/\(∀d,Dk=G d->¬O1 d/\d≠l/\W.heap[d]? =G (.deferred (G [])))/\Iq k O1 W/\W.heap[l]? =G (.loop rc)
theorem RJ.stab {rc:Loop} {l:Nat} {Dk:Option Nat} {Iq:ycQ} (hI:ybI Iq):ybI (RJ rc l Dk Iq):=by
 rintro k O W W' ⟨O1,h1,h2,h3,h4,h5⟩ hs hO;exact ⟨O1,h1,h2,λ d hd=>⟨(h3 d hd).1,(h3 d hd).2.1,(hO d ((h1 d).mpr (.inr (.inr hd)))).trans (h3 d hd).2.2⟩,hI k O1 W W' h4 hs (λ b hb=>hO b ((h1 b).mpr (.inl hb))),(hO l ((h1 l).mpr (.inr (.inl rfl)))).trans h5⟩
theorem yam {W:World} {b:Nat} {o:Obj} (h:W.heap[b]? =G o):b<W.heap.size:=(YZ.1 h).1
theorem RJ.lt {rc:Loop} {l:Nat} {Dk:Option Nat} {Iq:ycQ} (hI:LtO Iq):LtO (RJ rc l Dk Iq):=by
 rintro k O W ⟨O1,h1,h2,h3,h4,h5⟩ b hb;rcases (h1 b).mp hb with h | rfl | h
 ·exact hI k O1 W h4 b h
 ·exact yam h5
 ·exact yam (h3 b h).2.2
theorem yek {r:Option Nat} {m m':Nat} {P:Program} {l:Nat} {f:FuncId} {tmps:Array Value} {assign body:Code} {w:World} {Rq:Ending->World->Prop}
  (h:RoundIn (WF r) m P l f tmps assign body w Rq):RoundIn (WF N) m' P l f tmps assign body w Rq:=⟨trivial,λ c cs _=>h.2 c cs (λ d hd=>by cases hd)⟩
abbrev yaj (fn:FuncId) (tmps:Array Value) (ps:Array Tmp) (assign body:Code) (D:Nat) (st:LoopState) (pe:Option Code):Loop:={state:=st,pending:=pe,fn:=fn,tmps:=tmps,params:=ps,assign:=assign,body:=body,defers:=D}
structure yfC (P:Program) (y:Value) (xs:List Int) (Jq Jx:ycQ) (O0:Nat->Prop) (W0:World):Prop where
 form:∃f fi cap,y= .func f fi cap
 stab:ybI Jq
 stabx:ybI Jx
 lt:LtO Jq
 ltx:LtO Jx
 call:∀k O W,(hk:k<xs.length)->Jq k O W->yaM O0 O W0 W->CallV P y #[E T xs[k]] W λ e W'=>∃O':Nat->Prop,(∀b,O b->O' b)/\(∀b,O' b->O b\/ W.heap.size<=b)/\Eff O W W'/\
  ((e=Q (Xb true)/\Jq (k+1) O' W')\/ (e=Q (Xb false)/\Jx (k+1) O' W'))
theorem yvR.two {P:Program} {y:Value} {xs:List Int} {Jq Jx:ycQ} (h:yvR P y xs Jq Jx) (hy:∃f fi cap,y= .func f fi cap) (O0:Nat->Prop) (W0:World):yfC P y xs Jq Jx O0 W0:=
 ⟨hy,h.stab,h.stabx,h.lt,h.ltx,λ k O W hk hj _=>h.call k O W hk hj⟩
theorem yaM.cell {O O':Nat->Prop} {W W':World} (h:yaM O O' W W') {b:Nat} (hb:b<W.heap.size) (hn:¬O b) (i:Nat):W'.cell? (Z b i N)=W.cell? (Z b i N):=h.eff.cell (p:=Z b i N) hb hn
theorem yaM.not {O O':Nat->Prop} {W W':World} (h:yaM O O' W W') {b:Nat} (hb:b<W.heap.size) (hn:¬O b):¬O' b:=λ h1=>by
 rcases h.new b h1 with h2 | h2
 ·exact hn h2
 ·omega
theorem yfM {P:Program} {n:Nat} {fn:FuncId} {tmps:Array Value} {ps:Array Tmp} {assign body:Code} {D l:Nat} {Dk:Option Nat} (xs:List Int) (aC:ps.size=1)
  {Iq:ycQ} {Ix:Code->ycQ} (hI:ybI Iq) (aq:∀c,ybI (Ix c)) (az:LtO Iq) (ao:∀c,LtO (Ix c)) (A:Nat->(Nat->Prop)->Act->World->Prop) (hA:∀l o k O a' W,(∃r,W.heap[l]? =G (.loop r))->¬O l->A k O a' W->A k O a' (W.putObj l o))
  (Ow O0:Nat->Prop) (w W1:World) (a1:w.heap.size<=l) (aD:∀O O1 W,(∀b,O b↔O1 b\/ b=l\/ Dk=G b)->yaM O0 O W1 W->yaM Ow O1 w W)
  (aa:∀k O W (K:Act->World->Prop) (hk:k<xs.length),Iq k O W->yaM Ow O w W->(∀a' O' W',yaM O O' W W'->A k O' a' W'->K a' W')->
    assign.wpIn (WF (G l)) n P (Exit.then K (λ _ _ _=>False)) {tmps:=(ps.zip #[E T xs[k]]).foldl (λ t (p,v)=>t.setIfInBounds p v) tmps,defers:= []} W)
  (af:∀k O a' W,(hk:k<xs.length)->yaM Ow O w W->(∃r,W.heap[l]? =G (.loop r))->¬O l->A k O a' W->body.wpIn (WF (G l)) n P (ymh Iq Ix k O W) a' W) :
  yfC P (.func (.yield l) #[] #[]) xs (RJ (yaj fn tmps ps assign body D .ready N) l Dk Iq) (λ k O W=>∃c,RJ (yaj fn tmps ps assign body D .done (G c)) l Dk (Ix c) k O W) O0 W1 where
 form:=⟨_,_,_,rfl⟩
 stab:=RJ.stab hI
 stabx:=λ k O W W' ⟨c,h⟩ hs hO=>⟨c,RJ.stab (aq c) k O W W' h hs hO⟩
 lt:=RJ.lt az
 ltx:=λ k O W ⟨c,h⟩=>RJ.lt (ao c) k O W h
 call:=by
  rintro k O W hk ⟨O1,hO,aA,hD,hi,hl⟩ be;have hG:=aD O O1 W hO be;have hlt:=yam hl;have hy:=run_yield (P:=P) (args:=#[E T xs[k]]) hl (by simp [aC]);refine .inr ⟨l,_,_,_,_,rfl,hy,λ m=>yek (r:=N) (m:=n) (roundIn_of_wpIn trivial ?_)⟩;refine aa k O1 W _ hk hi hG ?_;intro a' O2 Wa ar ha;have aJ:=(ar.eff.block l hlt aA).trans hl;have aZ:∀d,Dk=G d->Wa.heap[d]? =G (.deferred (G [])):=λ d hd=>(ar.eff.block d (yam (hD d hd).2.2) (hD d hd).1).trans (hD d hd).2.2;have ac:∀b,b<W.heap.size->¬O1 b->¬O2 b:=λ b hb hn h=>by
   rcases ar.new b h with h1 | h1
   ·exact hn h1
   ·omega
  have al:=ac l hlt aA;have a2:=ar.eff.size;refine ⟨_,run_beginRound aJ rfl,?_⟩;obtain ⟨Wb,ay⟩:=zx (Wa.putObj l (.loop (yaj fn tmps ps assign body D .busy N)));have bi:Wb.heap.size=Wa.heap.size:=by rw [<- ay];exact Yg
  have a9:∀b,b≠l->Wb.heap[b]? =Wa.heap[b]?:=λ b hb=>by rw [<- ay];exact Yc hb
  have aE:Wb.heap[l]? =G (.loop (yaj fn tmps ps assign body D .busy N)):=by rw [<- ay];exact ZH (yam aJ)
  have bf:Eff O W Wb:=by rw [<- ay];exact (ar.eff.wide (λ b hb=>(hO b).mpr (.inl hb))).putObj (.inl ((hO l).mpr (.inr (.inl rfl)))) _
  have aQ:=hG.trans ar;have hb:=af k O2 a' Wb hk ⟨aQ.sub,aQ.new,by rw [<- ay];exact aQ.eff.putObj (.inr a1) _⟩ ⟨_,aE⟩ al (by rw [<- ay];exact hA _ _ _ _ _ _ ⟨_,aJ⟩ al ha);rw [ay];refine wpIn_mono hb ?_;have fin:∀(ab:Option Code) (O3:Nat->Prop) (W3:World),yaM O2 O3 Wb W3->∀(X:ycQ),ybI X->X (k+1) O3 W3->∃O':Nat->Prop,(∀b,O b->O' b)/\(∀b,O' b->O b\/ W.heap.size<=b)/\
    (Instr.endRound l ab).run P W3= .ok (Xb ab.isNone) (W3.putObj l (.loop (yaj fn tmps ps assign body D (if ab.isNone then .ready else .done) ab)))/\Eff O W (W3.putObj l (.loop (yaj fn tmps ps assign body D (if ab.isNone then .ready else .done) ab)))/\
    RJ (yaj fn tmps ps assign body D (if ab.isNone then .ready else .done) ab) l Dk X (k+1) O' (W3.putObj l (.loop (yaj fn tmps ps assign body D (if ab.isNone then .ready else .done) ab))):=λ ab O3 W3 ai X hX hx=>by
   have aU:=(ai.eff.block l (yam aE) al).trans aE;have am:∀b,b<Wb.heap.size->¬O2 b->¬O3 b:=λ b hb hn h=>by
    rcases ai.new b h with h1 | h1
    ·exact hn h1
    ·omega
   have ag:=run_endRound (P:=P) ab aU;refine ⟨λ b=>O3 b\/ b=l\/ Dk=G b,λ b hb=>?_,λ b hb=>?_,?_,?_,O3,λ b=>Y6,am l (yam aE) al,λ d hd=>?_,?_,?_⟩
   ·rcases (hO b).mp hb with h | h
    ·exact .inl (ai.sub b (ar.sub b h))
    ·exact .inr h
   ·rcases hb with h | h
    ·rcases ai.new b h with h1 | h1
     ·rcases ar.new b h1 with h2 | h2
      ·exact .inl ((hO b).mpr (.inl h2))
      ·exact .inr h2
     ·exact .inr zo
    ·exact .inl ((hO b).mpr (.inr h))
   ·exact ag
   ·refine Eff.putObj (bf.trans (ai.eff) λ b hb=>?_) (.inl ((hO l).mpr (.inr (.inl rfl)))) _;rcases ar.new b hb with h2 | h2
    ·exact .inl ((hO b).mpr (.inl h2))
    ·exact .inr h2
   ·obtain ⟨d1,d2,d3⟩:=hD d hd;have aW:=ac d (yam d3) d1;have aV:d<Wb.heap.size:=(by have:=yam (aZ d hd);omega);exact ⟨am d aV aW,d2,(Yc d2).trans ((ai.eff.block d aV aW).trans ((a9 d d2).trans (aZ d hd)))⟩
   ·exact hX _ _ _ _ hx (by rw [Yg];exact zG _) (λ b hb=>Yc (λ e=>am l (yam aE) al (e ▸ hb)))
   ·exact ZH (yam aU)
  rintro e a3 W3 hp;cases e with
  | normal=>
    obtain ⟨O3,ai,aw⟩:=hp;obtain ⟨O',h1,h2,h3,h4,h5⟩:=fin N O3 W3 ai Iq hI aw;exact ⟨_,_,h3,O',h1,h2,h4, .inl ⟨rfl,h5⟩⟩
  | ret=>
    obtain ⟨O3,ai,aw⟩:=hp;obtain ⟨O',h1,h2,h3,h4,h5⟩:=fin (G .ret) O3 W3 ai _ (aq _) aw;exact ⟨_,_,h3,O',h1,h2,h4, .inr ⟨rfl,_,h5⟩⟩
  | exit id=>
    obtain ⟨O3,ai,aw⟩:=hp;obtain ⟨O',h1,h2,h3,h4,h5⟩:=fin (G (.exit id)) O3 W3 ai _ (aq _) aw;exact ⟨_,_,h3,O',h1,h2,h4, .inr ⟨rfl,_,h5⟩⟩
  | goto t=>
    obtain ⟨O3,ai,aw⟩:=hp;obtain ⟨O',h1,h2,h3,h4,h5⟩:=fin (G (.goto t)) O3 W3 ai _ (aq _) aw;exact ⟨_,_,h3,O',h1,h2,h4, .inr ⟨rfl,_,h5⟩⟩
  | panic ch=>exact hp.elim
  | outgrown=>exact hp.elim
def yfV (P:Program) (gf:Nat) (lb:Array Value) (xs:List Int) (Ow:Nat->Prop) (w:World):Prop:=
 ∀(y:Value) (Jq Jx:ycQ) (O:Nat->Prop) (W:World),(∀b,O b->Ow b\/ w.heap.size<=b)->Bw w W->yfC P y xs Jq Jx O W->Jq 0 O W->H P gf (#[y]++lb) W λ e W'=>(∃v,e=Q v)/\yzk xs Jq Jx O W W'
theorem ybj {P:Program} {n:Nat} {g:Operand} {ps:Array Tmp} {assign body:Code} {Qq:Exit->Act->World->Prop} {a:Act} {w:World} {gf:Nat} {lb:Array Value}
  (hg:a.eval g=Xf (.func gf) #[] lb) (eg:∀args w,(callFunc gf args).run P w= .ok (.enter gf args) w) (xs:List Int) (Ow:Nat->Prop) (aC:ps.size=1) (av:yfV P gf lb xs Ow w)
  (Iq:ycQ) (Ix:Code->ycQ) (hI:ybI Iq) (aq:∀c,ybI (Ix c)) (az:LtO Iq) (ao:∀c,LtO (Ix c)) (h0:Iq 0 Ow w) (A:Nat->(Nat->Prop)->Act->World->Prop) (hA:∀l o k O a' W,(∃r,W.heap[l]? =G (.loop r))->¬O l->A k O a' W->A k O a' (W.putObj l o))
  (aa:∀l k O W (K:Act->World->Prop) (hk:k<xs.length),Iq k O W->yaM Ow O w W->(∀a' O' W',yaM O O' W W'->A k O' a' W'->K a' W')->
    assign.wpIn (WF (G l)) n P (Exit.then K (λ _ _ _=>False)) {tmps:=(ps.zip #[E T xs[k]]).foldl (λ t (p,v)=>t.setIfInBounds p v) a.tmps,defers:= []} W)
  (af:∀l k O a' W,(hk:k<xs.length)->yaM Ow O w W->w.heap.size<=l->(∃r,W.heap[l]? =G (.loop r))->¬O l->A k O a' W->body.wpIn (WF (G l)) n P (ymh Iq Ix k O W) a' W)
  (an:∀O' W',yaM Ow O' w W'->Iq xs.length O' W'->W'.heap[w.heap.size]? =G (.deferred (G []))->¬O' w.heap.size->Qq .normal {a with defers:={target:= .collected w.heap.size,args:=#[]} ::a.defers} W')
  (ak:∀c k O' W',1<=k->k<=xs.length->yaM Ow O' w W'->Ix c k O' W'->W'.heap[w.heap.size]? =G (.deferred (G []))->¬O' w.heap.size->
    c.wpIn (WF N) n P Qq {a with defers:={target:= .collected w.heap.size,args:=#[]} ::a.defers} W') :
  (Code.rangeFunc g ps assign body).wpIn (WF N) n P Qq a w:=by
 refine wpIn_rangeFunc ?_;intro fn a8;obtain ⟨W1,au⟩:=zx ((w.alloc (.deferred (G []))).alloc (.loop (yaj fn a.tmps ps assign body w.heap.size .ready N)));have aF:W1.heap[w.heap.size+1]? =G (.loop (yaj fn a.tmps ps assign body w.heap.size .ready N)):=by
  rw [<- au];have:=Y1 (w.alloc (.deferred (G []))) (.loop (yaj fn a.tmps ps assign body w.heap.size .ready N));(try unfold Bw at this);rwa [zzN] at this
 have ah:Bw w W1:=by rw [<- au];exact ((Ye _ w).alloc zg _).alloc zs _
 have bd:W1.heap[w.heap.size]? =G (.deferred (G [])):=by
  rw [<- au];exact (Y4 _ _ _ zs).trans (Y1 w _)
 have hlt:=az 0 Ow w h0;have hJ:RJ (yaj fn a.tmps ps assign body w.heap.size .ready N) (w.heap.size+1) (G w.heap.size) Iq 0 (λ b=>Ow b\/ b=w.heap.size+1\/ G w.heap.size=G b) W1:=
  ⟨Ow,λ b=>Y6,λ h=>by have:=hlt _ h;omega,λ d hd=>by cases hd;exact ⟨λ h=>by have:=hlt _ h;omega,by omega,bd⟩,hI 0 Ow w W1 h0 ah.size (λ b hb=>ah.block b (hlt b hb)),aF⟩
 have a6:=yam aF;have hC:=yfM (P:=P) (n:=n) (fn:=fn) (tmps:=a.tmps) (D:=w.heap.size) (l:=w.heap.size+1) (Dk:=G w.heap.size) xs aC hI aq az ao A hA Ow (λ b=>Ow b\/ b=w.heap.size+1\/ G w.heap.size=G b) w W1 zo (λ O O1 W hO hG=>⟨λ b hb=>by
   have aN:=hlt b hb;rcases (hO b).mp (hG.sub b (.inl hb)) with h | h | h
   ·exact h
   ·omega
   ·cases h;omega,λ b hb=>by
   rcases hG.new b ((hO b).mpr (.inl hb)) with (h | h | h) | h
   ·exact .inl h
   ·exact .inr zo
   ·cases h;exact .inr zo
   ·exact .inr (zp ah.size),(Eff.of_below (O:=Ow) ah).trans hG.eff λ b hb=>by
   rcases hb with h | h | h
   ·exact .inl h
   ·exact .inr zo
   ·cases h;exact .inr zo⟩) (aa (w.heap.size+1)) (λ k O a' W hk hG=>af (w.heap.size+1) k O a' W hk hG zo)
 have ad:=av _ _ _ _ W1 (λ b hb=>by rcases hb with h | h | h;exact .inl h;exact .inr zo;exact .inr (by cases h;omega)) ah hC hJ;refine ⟨w.heap.size+1,[{target:= .collected w.heap.size,args:=#[]}],W1,{target:= .fn (.func gf) lb,args:=#[.func (.yield (w.heap.size+1)) #[] #[]]},W1,gf,
  #[.func (.yield (w.heap.size+1)) #[] #[]]++lb,W1,?_,?_,λ _ _=>trivial,?_,(λ h=>nomatch h),?_⟩
 ·rw [<- au];exact run_enterLoop_outer _ _ _ _ _
 ·simp only [resolve,hg];simp [go_sem]
 ·simp [invoke,go_sem,eg]
 ·refine wf_calls.mpr (ad.mono ?_);have ap:∀(X:ycQ) (k:Nat) (O':Nat->Prop) (W2:World) (st:LoopState) (pe:Option Code),ybI X->st≠ .busy->(∀b,Ow b->O' b)->(∀b,O' b->(Ow b\/ b=w.heap.size+1\/ G w.heap.size=G b)\/ W1.heap.size<=b)->
    Eff (λ b=>Ow b\/ b=w.heap.size+1\/ G w.heap.size=G b) W1 W2->RJ (yaj fn a.tmps ps assign body w.heap.size st pe) (w.heap.size+1) (G w.heap.size) X k O' W2->
    (Instr.endLoop (w.heap.size+1)).run P W2= .ok pe (W2.putObj (w.heap.size+1) (.loop (yaj fn a.tmps ps assign body w.heap.size .exhausted pe)))/\∃O2,yaM Ow O2 w (W2.putObj (w.heap.size+1) (.loop (yaj fn a.tmps ps assign body w.heap.size .exhausted pe)))/\X k O2 (W2.putObj (w.heap.size+1) (.loop (yaj fn a.tmps ps assign body w.heap.size .exhausted pe)))/\
      (W2.putObj (w.heap.size+1) (.loop (yaj fn a.tmps ps assign body w.heap.size .exhausted pe))).heap[w.heap.size]? =G (.deferred (G []))/\¬O2 w.heap.size:=by
   rintro X k O' W2 st pe hX aH ae ac hE ⟨O1,hO,aA,hD,hi,hl⟩;have hr:=run_endLoop (P:=P) hl aH;refine ⟨hr,O1,⟨λ b hb=>?_,λ b hb=>?_,?_⟩,hX _ _ _ _ hi (by rw [Yg];exact zG _) (λ b hb=>Yc (λ e=>aA (e ▸ hb))),(Yc zo).trans (hD _ rfl).2.2,(hD _ rfl).1⟩
   ·have aN:=hlt b hb;rcases (hO b).mp (ae b hb) with h | h | h
    ·exact h
    ·omega
    ·cases h;omega
   ·rcases ac b ((hO b).mpr (.inl hb)) with (h | h | h) | h
    ·exact .inl h
    ·exact .inr zo
    ·cases h;exact .inr zo
    ·exact .inr (zp ah.size)
   ·refine Eff.putObj ((Eff.of_below (O:=Ow) ah).trans hE λ b hb=>?_) (.inr zo) _;rcases hb with h | h | h
    ·exact .inl h
    ·exact .inr zo
    ·cases h;exact .inr zo
  rintro e W2 ⟨⟨v,rfl⟩,O',ae,ac,hE,ag⟩;rcases ag with hj | ⟨k,aL,aK,c,hj⟩
  ·obtain ⟨h1,O2,h2,h3,h4,h5⟩:=ap Iq xs.length O' W2 .ready N hI zs (λ b hb=>ae b (.inl hb)) ac hE hj;exact ⟨N,_,h1,an O2 _ h2 h3 h4 h5⟩
  ·obtain ⟨h1,O2,h2,h3,h4,h5⟩:=ap (Ix c) k O' W2 .done (G c) (aq c) zs (λ b hb=>ae b (.inl hb)) ac hE hj;exact ⟨G c,_,h1,ak c k O2 _ aL aK h2 h3 h4 h5⟩
theorem yfJ {P:Program} {n:Nat} {g:Operand} {ps:Array Tmp} {assign body:Code} {Qq:Exit->Act->World->Prop} {a:Act} {w:World} {gf:Nat} {lb:Array Value} {l₀:Nat}
  (hl₀:∃r₀,w.heap[l₀]? =G (.loop r₀)) (hg:a.eval g=Xf (.func gf) #[] lb) (eg:∀args w,(callFunc gf args).run P w= .ok (.enter gf args) w) (xs:List Int) (Ow:Nat->Prop) (aC:ps.size=1) (av:yfV P gf lb xs Ow w)
  (Iq:ycQ) (Ix:Code->ycQ) (hI:ybI Iq) (aq:∀c,ybI (Ix c)) (az:LtO Iq) (ao:∀c,LtO (Ix c)) (h0:Iq 0 Ow w) (A:Nat->(Nat->Prop)->Act->World->Prop) (hA:∀l o k O a' W,(∃r,W.heap[l]? =G (.loop r))->¬O l->A k O a' W->A k O a' (W.putObj l o))
  (aa:∀l k O W (K:Act->World->Prop) (hk:k<xs.length),Iq k O W->yaM Ow O w W->(∀a' O' W',yaM O O' W W'->A k O' a' W'->K a' W')->
    assign.wpIn (WF (G l)) n P (Exit.then K (λ _ _ _=>False)) {tmps:=(ps.zip #[E T xs[k]]).foldl (λ t (p,v)=>t.setIfInBounds p v) a.tmps,defers:= []} W)
  (af:∀l k O a' W,(hk:k<xs.length)->yaM Ow O w W->w.heap.size<=l->(∃r,W.heap[l]? =G (.loop r))->¬O l->A k O a' W->body.wpIn (WF (G l)) n P (ymh Iq Ix k O W) a' W)
  (an:∀O' W',yaM Ow O' w W'->Iq xs.length O' W'->Qq .normal a W')
  (ak:∀c k O' W',1<=k->k<=xs.length->yaM Ow O' w W'->Ix c k O' W'->c.wpIn (WF (G l₀)) n P Qq a W') :
  (Code.rangeFunc g ps assign body).wpIn (WF (G l₀)) n P Qq a w:=by
 refine wpIn_rangeFunc ?_;intro fn a8;obtain ⟨r₀,hr₀⟩:=hl₀;obtain ⟨W1,au⟩:=zx (w.alloc (.loop (yaj fn a.tmps ps assign body r₀.defers .ready N)));have aF:W1.heap[w.heap.size]? =G (.loop (yaj fn a.tmps ps assign body r₀.defers .ready N)):=by rw [<- au];exact Y1 w _
 have ah:Bw w W1:=by rw [<- au];exact (Ye _ w).alloc zg _
 have hlt:=az 0 Ow w h0;have hJ:RJ (yaj fn a.tmps ps assign body r₀.defers .ready N) w.heap.size N Iq 0 (λ b=>Ow b\/ b=w.heap.size\/ N=G b) W1:=
  ⟨Ow,λ b=>Y6,λ h=>by have:=hlt _ h;omega,λ d hd=>(by cases hd),hI 0 Ow w W1 h0 ah.size (λ b hb=>ah.block b (hlt b hb)),aF⟩
 have a6:=yam aF;have hC:=yfM (P:=P) (n:=n) (fn:=fn) (tmps:=a.tmps) (D:=r₀.defers) (l:=w.heap.size) (Dk:=N) xs aC hI aq az ao A hA Ow (λ b=>Ow b\/ b=w.heap.size\/ N=G b) w W1 zg (λ O O1 W hO hG=>⟨λ b hb=>by
   have aN:=hlt b hb;rcases (hO b).mp (hG.sub b (.inl hb)) with h | h | h
   ·exact h
   ·omega
   ·exact absurd h zs,λ b hb=>by
   rcases hG.new b ((hO b).mpr (.inl hb)) with (h | h | h) | h
   ·exact .inl h
   ·exact .inr zo
   ·cases h
   ·exact .inr (zp ah.size),(Eff.of_below (O:=Ow) ah).trans hG.eff λ b hb=>by
   rcases hb with h | h | h
   ·exact .inl h
   ·exact .inr zo
   ·exact absurd h zs⟩) (aa w.heap.size) (λ k O a' W hk hG=>af w.heap.size k O a' W hk hG zg)
 have ad:=av _ _ _ _ W1 (λ b hb=>by rcases hb with h | h | h;exact .inl h;exact .inr zo;cases h) ah hC hJ;refine ⟨w.heap.size,[],W1,{target:= .fn (.func gf) lb,args:=#[.func (.yield w.heap.size) #[] #[]]},W1,gf,
  #[.func (.yield w.heap.size) #[] #[]]++lb,W1,?_,?_,λ _ _=>trivial,?_,(λ h=>nomatch h),?_⟩
 ·rw [<- au];exact run_enterLoop_inner hr₀ _ _ _ _ _
 ·simp only [resolve,hg];simp [go_sem]
 ·simp [invoke,go_sem,eg]
 ·refine wf_calls.mpr (ad.mono ?_);have ap:∀(X:ycQ) (k:Nat) (O':Nat->Prop) (W2:World) (st:LoopState) (pe:Option Code),ybI X->st≠ .busy->(∀b,Ow b->O' b)->(∀b,O' b->(Ow b\/ b=w.heap.size\/ N=G b)\/ W1.heap.size<=b)->
    Eff (λ b=>Ow b\/ b=w.heap.size\/ N=G b) W1 W2->RJ (yaj fn a.tmps ps assign body r₀.defers st pe) w.heap.size N X k O' W2->
    (Instr.endLoop w.heap.size).run P W2= .ok pe (W2.putObj w.heap.size (.loop (yaj fn a.tmps ps assign body r₀.defers .exhausted pe)))/\∃O2,yaM Ow O2 w (W2.putObj w.heap.size (.loop (yaj fn a.tmps ps assign body r₀.defers .exhausted pe)))/\X k O2 (W2.putObj w.heap.size (.loop (yaj fn a.tmps ps assign body r₀.defers .exhausted pe))):=by
   rintro X k O' W2 st pe hX aH ae ac hE ⟨O1,hO,aA,hD,hi,hl⟩;have hr:=run_endLoop (P:=P) hl aH;refine ⟨hr,O1,⟨λ b hb=>?_,λ b hb=>?_,?_⟩,hX _ _ _ _ hi (by rw [Yg];exact zG _) (λ b hb=>Yc (λ e=>aA (e ▸ hb)))⟩
   ·have aN:=hlt b hb;rcases (hO b).mp (ae b hb) with h | h | h
    ·exact h
    ·omega
    ·cases h
   ·rcases ac b ((hO b).mpr (.inl hb)) with (h | h | h) | h
    ·exact .inl h
    ·exact .inr zo
    ·cases h
    ·exact .inr (zp ah.size)
   ·refine Eff.putObj ((Eff.of_below (O:=Ow) ah).trans hE λ b hb=>?_) (.inr zo) _;rcases hb with h | h | h
    ·exact .inl h
    ·exact .inr zo
    ·cases h
  rintro e W2 ⟨⟨v,rfl⟩,O',ae,ac,hE,ag⟩;rcases ag with hj | ⟨k,aL,aK,c,hj⟩
  ·obtain ⟨h1,O2,h2,h3⟩:=ap Iq xs.length O' W2 .ready N hI zs (λ b hb=>ae b (.inl hb)) ac hE hj;exact ⟨N,_,h1,an O2 _ h2 h3⟩
  ·obtain ⟨h1,O2,h2,h3⟩:=ap (Ix c) k O' W2 .done (G c) (aq c) zs (λ b hb=>ae b (.inl hb)) ac hE hj;exact ⟨G c,_,h1,ak c k O2 _ aL aK h2 h3⟩
section
attribute [local go_sem] Yw
theorem yju (m b:Nat) (y:Value) (Jq Jx:Nat->(Nat->Prop)->World->Prop) (O:Nat->Prop) (W:World) (hm:m<18446744073709551616) (hC:yfC I y (sel m.testBit 64) Jq Jx O W) (hJ:Jq 0 O W)
  (hb:b<W.heap.size) (aM:¬O b) (ax:W.cell? (Z b 0 N)=G (E Y m)) (hT:Tab W) (aO:¬O 0) :
  H I 201 #[y,R (G (Z b 0 N))] W λ e W'=>(∃v,e=Q v)/\yzk (sel m.testBit 64) Jq Jx O W W':=by
 refine (wf_calls (r:=N) (n:=1)).mp ?_;have HC:=hid hC;have HT:=hid hT;have HJ:=hid hJ;have HO:=hid aM;have bg:=hid aO;have hl:=ytM hm;have cn:=hid (λ k hk=>ywq hm k hk);have cb:=hid (λ k hk=>yjQ (p:=m.testBit) k hk);have cl:=hid (λ k hj hk=>ys6 (p:=m.testBit) k hj hk);have c1:=hid (λ W (h:Tab W)=>ydQ m W hm h);have c2:=hid (λ n W (h:Tab W)=>yuW m n W hm h);rw [hl.1,hl.2] at c1;generalize bh:sel m.testBit 64=l at HC c1 cn cb cl⊢
 gi_enter Tryz.func201,Tryz.ntmps201
 gi_wp2_with fail
 refine (wf_calls.mpr (c1 _ HT)).mono ?_;rintro e w' ⟨rfl,rfl⟩;gi_wp2_with fail
 gi_loopw [3,4] (λ nv ok wr=>∃(k:Nat) (O':Nat->Prop),nv=E T (l.getD k 0)/\ok=Xb (decide (k<l.length))/\k<=l.length/\Hid (Jq k O' wr/\(∀b,O b->O' b)/\(∀b,O' b->O b\/ W.heap.size<=b)/\Eff O W wr)) (λ nv ok wr=>yzt ok*(64-intOf nv).toNat)
 case atStart=>exact ⟨0,O,rfl,rfl,by omega,HJ,λ _ h=>h,λ _ h=> .inl h,Eff.refl _ _⟩
 case round=>
  obtain ⟨k,O',rfl,rfl,hk,hI⟩:=hrel;by_cases hlt:k<l.length
  ·obtain ⟨x,hx⟩:=zx (l[k]);have a7:l.getD k 0=x:=(by rw [Yz,zzp hlt];exact hx);have aI:decide (k<l.length)=true:=(by simp [hlt]);have aY:=cb k hlt;have aT:=cn k hlt;have ad:=HC.call k O' wr hlt hI.1 ⟨hI.2.1,hI.2.2.1,hI.2.2.2⟩;rw [hx] at aY aT ad;have a0:=hid aT;have aG:=hid ad;have Hx:=hid hx;obtain ⟨x1,x2⟩:=aY;rw [a7,aI];gi_wp2_with (refine ylX (.tmp 17) (.tmp 18) _ rfl rfl rfl rfl aG ?_)
   rintro e W2 O2 bb bc hE ag;have aR:Eff O W W2:=hI.2.2.2.trans hE hI.2.2.1;have aX:=(aR.cell (p:=Z b 0 N) hb HO).trans ax;have ba:=hid (HT.eff aR bg);have aB:Hid ((∀b,O b->O2 b)/\(∀b,O2 b->O b\/ W.heap.size<=b)/\Eff O W W2):=⟨λ b h=>bb b (hI.2.1 b h),λ b h=>by
    rcases bc b h with h1 | h1
    ·exact hI.2.2.1 b h1
    ·have:=hI.2.2.2.size;exact .inr zo,aR⟩
   rcases ag with ⟨rfl,aP⟩ | ⟨rfl,aP⟩
   ·have aS:=hid aP;refine ⟨_,rfl,?_⟩;gi_wp2_with fail
    refine (wf_calls.mpr (c2 x _ ba)).mono ?_;rintro e w' ⟨rfl,rfl⟩;rw [a0.1,a0.2];gi_wp2
    refine ⟨⟨k+1,O2,by rw [Yz],rfl,by omega,aS,aB.1,aB.2.1,aB.2.2⟩,?_⟩;by_cases h2:k+1<l.length
    ·have h3:=cl k hlt h2;rw [Hx] at h3;have h4:=cb (k+1) h2;simp only [h2,decide_true,yzt,intOf,zzp h2,ZP];omega
    ·simp only [h2,decide_false,yzt,intOf];omega
   ·have aS:=hid aP;refine ⟨_,rfl,?_⟩;gi_wp2
    refine Yh (YO rfl _ _ _) rfl ?_;exact ⟨⟨_,rfl⟩,O2,aB.1,aB.2.1,aB.2.2, .inr ⟨k+1,by omega,by omega,aS⟩⟩
  ·have aI:decide (k<l.length)=false:=(by simp;omega);obtain rfl:k=l.length:=zo;rw [aI];gi_wp2
   go_end0
   exact ⟨⟨_,rfl⟩,O',hI.2.1,hI.2.2.1,hI.2.2.2, .inl hI.1⟩
theorem yb7 (m b:Nat) (Ow:Nat->Prop) (w:World) (hm:m<18446744073709551616) (hb:b<w.heap.size) (aM:¬Ow b) (ax:w.cell? (Z b 0 N)=G (E Y m)) (hT:Tab w) (aO:¬Ow 0) :
  yfV I 201 #[R (G (Z b 0 N))] (sel m.testBit 64) Ow w:=by
 intro y Jq Jx O W hO hB hC hJ;exact yju m b y Jq Jx O W hm hC hJ (zH hb hB.size) (λ h=>by rcases hO b h with h1 | h1;exact aM h1;omega) ((hB.cell (p:=Z b 0 N) hb).trans ax) (hT.later hB) (λ h=>by rcases hO _ h with h1 | h1;exact aO h1;have:=hT.1;omega)
end
theorem ybO {F:Fence} {n:Nat} {P:Program} {Qq:Exit->Act->World->Prop} {a:Act} {w:World} {c:Code} (h:c.wpIn F n P (Exit.noGoto Qq) a w):(Code.scope c).wpIn F n P Qq a w:=by
 intro b k cs a4 hb hr;have h0:(lone (b.atR a (.code (.scope c)::k)) cs w).fenced P F:=fenced_calm hb hr rfl;have s1:step P (lone (b.atR a (.code (.scope c)::k)) cs w)= .next (lone (b.atR a (.code c :: .inScope c::k)) cs w):=step_lone_go (by simp [stepG,stepG.exec,Frame.atR]);obtain ⟨e,a₁,w₁,hq,aj⟩:=h b (.inScope c::k) cs a4 hb hr;cases e with
 | normal=>exact ⟨.normal,a₁,w₁,hq, .head h0 s1 (StepsIn.trans aj (.one (fenced_calm hb hr rfl) (step_lone_go (by simp [stepG,stepG.exec,Frame.atR]))))⟩
 | exit id=>exact ⟨.exit id,a₁,w₁,hq, .of_steps (.one h0 s1) (show ArrivesIn _ P _ b k cs (.exit id) a₁ w₁ from ⟨λ k' hk=>aj.1 k' (by simpa [exitTo] using hk),λ a5 hk=>aj.2 a5 (by simpa [exitTo] using hk)⟩)⟩
 | goto l=>exact hq.elim
 | ret=>exact ⟨_,a₁,w₁,hq, .of_steps (.one h0 s1) aj⟩
 | panic ch=>exact ⟨_,a₁,w₁,hq, .of_steps (.one h0 s1) aj⟩
 | outgrown=>exact ⟨_,a₁,w₁,hq, .of_steps (.one h0 s1) aj⟩
theorem yaJ {w w':World} {base:Nat} {e:TypeId} {s:Nat} {v:Value} {n:Nat} {xs:List Value} (h:w.ownsRow base e s v n xs) (hb:∀b,v.ownBlock=G b->w'.heap[b]? =w.heap[b]?):w'.ownsRow base e s v n xs:=by
 refine ⟨h.1,?_⟩;rcases h.2 with h | ⟨g,cap,aa,rfl,hg,hc,r⟩
 ·exact .inl h
 ·exact .inr ⟨g,cap,aa,rfl,hg,(hb g rfl).trans hc,r⟩
theorem ybl {w:World} {base:Nat} {e:TypeId} {s:Nat} {v:Value} {n:Nat} {xs:List Value} (h:w.ownsRow base e s v n xs) {b:Nat} (hv:v.ownBlock=G b):base<=b/\b<w.heap.size:=by
 rcases h.2 with ⟨rfl,_⟩ | ⟨g,cap,aa,rfl,hg,hc,r⟩
 ·cases hv
 ·obtain rfl:g=b:=by simpa [Value.ownBlock] using hv
  exact ⟨hg,(YZ.1 hc).1⟩
def CollJ (bg bm base:Nat) (mv:Value) (xs:List Int) (k:Nat) (O:Nat->Prop) (W:World):Prop:=
 ∃v,W.cell? (Z bg 0 N)=G v/\W.cell? (Z bm 0 N)=G mv/\W.ownsRow base 3 1 v k (yaR (xs.take k))/\W.frozen? (Z bg 0 N)=false/\bg<base/\bm<base/\bg≠bm/\base<=W.heap.size/\
  O bg/\O bm/\(∀b,v.ownBlock=G b->O b)/\(∀b,O b->b<W.heap.size)
theorem CollJ.stab {bg bm base:Nat} {mv:Value} {xs:List Int} {k:Nat} {O:Nat->Prop} {W W':World} (h:CollJ bg bm base mv xs k O W) (hs:W.heap.size<=W'.heap.size) (hO:∀b,O b->W'.heap[b]? =W.heap[b]?):CollJ bg bm base mv xs k O W':=by
 obtain ⟨v,h1,h2,h3,h4,h5,h6,h7,h8,g1,g2,g3,g4⟩:=h;exact ⟨v,(zzJ (w:=W) (a:=Z bg 0 N) (hO bg g1)).trans h1,(zzJ (w:=W) (a:=Z bm 0 N) (hO bm g2)).trans h2,yaJ h3 (λ b hb=>hO b (g3 b hb)),
  (zzM (w:=W) (a:=Z bg 0 N) (hO bg g1)).trans h4,h5,h6,h7,by omega,g1,g2,g3,λ b hb=>by have:=g4 b hb;omega⟩
theorem CollJ.lt {bg bm base:Nat} {mv:Value} {xs:List Int} {k:Nat} {O:Nat->Prop} {W:World} (h:CollJ bg bm base mv xs k O W):∀b,O b->b<W.heap.size:=by
 obtain ⟨v,h1,h2,h3,h4,h5,h6,h7,h8,g1,g2,g3,g4⟩:=h;exact g4
def CollK (bg base:Nat) (xs:List Int) (k:Nat) (O:Nat->Prop) (W:World):Prop:=
 ∃v,W.cell? (Z bg 0 N)=G v/\W.ownsRow base 3 1 v k (yaR (xs.take k))/\W.frozen? (Z bg 0 N)=false/\bg<base/\base<=W.heap.size/\
  O bg/\(∀b,v.ownBlock=G b->O b)/\(∀b,O b->b<W.heap.size)
theorem CollK.stab {bg base:Nat} {xs:List Int} {k:Nat} {O:Nat->Prop} {W W':World} (h:CollK bg base xs k O W) (hs:W.heap.size<=W'.heap.size) (hO:∀b,O b->W'.heap[b]? =W.heap[b]?):CollK bg base xs k O W':=by
 obtain ⟨v,h1,h3,h4,h5,h8,g1,g3,g4⟩:=h;exact ⟨v,(zzJ (w:=W) (a:=Z bg 0 N) (hO bg g1)).trans h1,yaJ h3 (λ b hb=>hO b (g3 b hb)),
  (zzM (w:=W) (a:=Z bg 0 N) (hO bg g1)).trans h4,h5,by omega,g1,g3,λ b hb=>by have:=g4 b hb;omega⟩
theorem CollK.lt {bg base:Nat} {xs:List Int} {k:Nat} {O:Nat->Prop} {W:World} (h:CollK bg base xs k O W):∀b,O b->b<W.heap.size:=by
 obtain ⟨v,h1,h3,h4,h5,h8,g1,g3,g4⟩:=h;exact g4
theorem yuz {m:Nat} (hm:m<18446744073709551616):yzj [m]=m:=by
 show 18446744073709551615&&&m=m;rw [Nat.and_comm];exact Nat.and_two_pow_sub_one_of_lt_two_pow (n:=64) hm
abbrev BkS (w:World) (bg:Nat) (a:Option Addr) (cap:Nat) (xs:List Int) (W:World):Prop:=
 W.cell? (Z bg 0 N)=G (Xs a xs.length cap)/\Sl W a (yaR xs)/\Bw w W/\bg<W.heap.size
theorem BkS.keep {w W W':World} {bg:Nat} {a:Option Addr} {cap:Nat} {xs:List Int} (h:BkS w bg a cap xs W) (hb:Bw W W'):BkS w bg a cap xs W':=by
 obtain ⟨h1,h2,h3,h4⟩:=h;exact ⟨(hb.cell (p:=Z bg 0 N) h4).trans h1,h2.below hb,zu h3 hb,zH h4 hb.size⟩
section
attribute [local go_sem] Yw
theorem yb8:∀args w,(callFunc 201 args).run I w= .ok (.enter 201 args) w:=Go.Proofs.enters_of Tryz.func201 zk rfl
theorem yaF {B:Nat} {A W:World} (h:Below B A W) {l:Nat} (hl:B<=l) (o:Obj):Below B A (W.putObj l o):=
 ⟨h.os,h.tape,h.output,by rw [Yg];exact h.size,λ k hk=>(Yc zo).trans (h.block k hk)⟩
end
def ydq (h m:Int) (S:List Int):List Int:=S.map (λ s=>3600*h+60*m+s)
def yaS (h:Int) (M S:List Int):List Int:=M.flatMap (λ m=>ydq h m S)
def yeB (Hq M S:List Int):List Int:=Hq.flatMap (λ h=>yaS h M S)
theorem ytG {Hq M S:List Int} {x:Int}:x∈yeB Hq M S↔∃h m s,h∈Hq/\m∈M/\s∈S/\x=3600*h+60*m+s:=by
 simp only [yeB,yaS,ydq,Zi,YA];constructor
 ·rintro ⟨h,hh,m,hm,s,hs,rfl⟩;exact ⟨h,m,s,hh,hm,hs,rfl⟩
 ·rintro ⟨h,m,s,hh,hm,hs,rfl⟩;exact ⟨h,hh,m,hm,s,hs,rfl⟩
theorem ydY (h m:Int) (S:List Int):(ydq h m S).length=S.length:=by simp [ydq]
theorem ydh (h:Int) (M S:List Int):(yaS h M S).length=M.length*S.length:=by
 induction M with
 | nil=>simp [yaS]
 | cons m M ih=>
   have:yaS h (m::M) S=ydq h m S++yaS h M S:=by simp [yaS]
   rw [this,YG,ih,ydY,Yu,Zk];omega
theorem ymO (Hq M S:List Int):(yeB Hq M S).length=Hq.length*(M.length*S.length):=by
 induction Hq with
 | nil=>simp [yeB]
 | cons h Hq ih=>
   have:yeB (h::Hq) M S=yaS h M S++yeB Hq M S:=by simp [yeB]
   rw [this,YG,ih,ydh,Yu,Zk];omega
theorem yli {Hq M S:List Int} (hH:Hq.Pairwise (·< ·)) (hM:M.Pairwise (·< ·)) (hS:S.Pairwise (·< ·)) (bM:∀m∈M,0<=m/\m<=59) (bS:∀s∈S,0<=s/\s<=59):(yeB Hq M S).Pairwise (·< ·):=by
 have row:∀h m,(ydq h m S).Pairwise (·< ·):=λ h m=>List.pairwise_map.mpr (hS.imp (λ {a b} ah=>by omega));have aa:∀h m x,x∈ydq h m S->3600*h+60*m<=x/\x<3600*h+60*m+60:=λ h m x hx=>by
  obtain ⟨s,hs,rfl⟩:=List.mem_map.mp hx;have:=bS s hs;omega
 have ad:∀h (M':List Int),M'.Pairwise (·< ·)->(yaS h M' S).Pairwise (·< ·):=λ h M' ae=>by
  induction M' with
  | nil=>simp [yaS]
  | cons m M' ih=>
    have e:yaS h (m::M') S=ydq h m S++yaS h M' S:=(by simp [yaS]);rw [e,List.pairwise_append];rw [ZI] at ae;refine ⟨row h m,ih ae.2,λ x hx y hy=>?_⟩;obtain ⟨m2,af,hy⟩:=List.mem_flatMap.mp hy;have h1:=aa h m x hx;have h2:=aa h m2 y hy;have:=ae.1 m2 af;omega
 have ab:∀h x,x∈yaS h M S->3600*h<=x/\x<3600*h+3600:=λ h x hx=>by
  obtain ⟨m,hm,hx⟩:=List.mem_flatMap.mp hx;have h1:=aa h m x hx;have:=bM m hm;omega
 induction Hq with
 | nil=>simp [yeB]
 | cons h Hq ih=>
   have e:yeB (h::Hq) M S=yaS h M S++yeB Hq M S:=(by simp [yeB]);rw [e,List.pairwise_append];rw [ZI] at hH;refine ⟨ad h M hM,ih hH.2,λ x hx y hy=>?_⟩;obtain ⟨h2,ag,hy⟩:=List.mem_flatMap.mp hy;have h1:=ab h x hx;have h3:=ab h2 y hy;have:=hH.1 h2 ag;omega
theorem ylw {m:Nat} {x:Int}:x∈sel m.testBit 64↔∃k:Nat,k<64/\m.testBit k=true/\x= (k:Int):=sel_mem
theorem yrm {m:Nat} {n:Int} (hm:m<18446744073709551616):ya8 m n=true↔n∈sel m.testBit 64:=by
 rw [ylw];simp only [ya8,zzX,zzY];constructor
 ·rintro ⟨h1,h2⟩;refine ⟨n.toNat,?_,h2,by omega⟩;rcases ZK n.toNat 64 with h | h
  ·exact h
  ·rw [ydT hm h] at h2;cases h2
 ·rintro ⟨k,_,hb,rfl⟩;exact ⟨by omega,by simpa using hb⟩
def yzg (a b c:Nat):Nat:=Lib.popAux 64 a*Lib.popAux 64 b*Lib.popAux 64 c
theorem yiL (m:Nat):Lib.popAux 64 m<=64:=by rw [<- yfa];exact yeh _ _
theorem yuO (hs ms ss:Nat) (w:World) (hh:hs<18446744073709551616) (hm:ms<18446744073709551616) (ac:ss<18446744073709551616) :
  H I 82 #[E Y hs,E Y ms,E Y ss] w λ e w'=>e=Q (E T (yzg (yds hs 23) (yds ms 59) (yds ss 59):Nat))/\w=w':=by
 have c1:=hid (λ W=>yjv (yds hs 23) W (yfs 23 hh));have c2:=hid (λ W=>yjv (yds ms 59) W (yfs 59 hm));have c3:=hid (λ W=>yjv (yds ss 59) W (yfs 59 ac));have Hh:=hid (ynW hs ms ss w hh hm ac);unfold yzg;have p1:=yiL (yds hs 23);have p2:=yiL (yds ms 59);have p3:=yiL (yds ss 59);obtain ⟨x,ex⟩:=zx (Lib.popAux 64 (yds hs 23));obtain ⟨y,ey⟩:=zx (Lib.popAux 64 (yds ms 59));obtain ⟨z,ez⟩:=zx (Lib.popAux 64 (yds ss 59));rw [ex] at p1 c1⊢;rw [ey] at p2 c2⊢;rw [ez] at p3 c3⊢;have m1:x*y<=4096:=Nat.mul_le_mul p1 p2;have m2:x*y*z<=262144:=Nat.mul_le_mul m1 p3;have m3:(x:Int)*(y:Int)= ((x*y:Nat):Int):=by simp
 have m4:((x*y:Nat):Int)*(z:Int)= ((x*y*z:Nat):Int):=by simp
 have w1:wrap64 ((x:Int)*(y:Int))= ((x*y:Nat):Int):=by rw [m3];exact w64 _ zo
 have w2:wrap64 (((x*y:Nat):Int)*(z:Int))= ((x*y*z:Nat):Int):=by rw [m4];exact w64 _ zo
 have W1:=hid w1;have W2:=hid w2;clear ex ey ez m3 m4 w1 w2 hh hm ac;go_enter Tryz.func82,Tryz.ntmps82
 go_wp2_with fail
 refine zm Hh ?_;rintro w' rfl;go_wp2_with fail
 refine zm (c1 w) ?_;rintro w' rfl;go_wp2_with fail
 refine zm (c2 w) ?_;rintro w' rfl;go_wp2_with fail
 refine zm (c3 w) ?_;rintro w' rfl;go_wp2;go_ret;exact ⟨by have h:=W2.out;simp at h⊢;exact h,rfl⟩
theorem yc0 (m:Nat) (t:Nat) {x:Int} (hx:x∈sel (yds m t).testBit 64):0<=x/\x<=t:=by
 obtain ⟨k,hk,hb,rfl⟩:=sel_mem.mp hx;rw [yg9] at hb;simp at hb;omega
def ycC (hs ms ss:Nat):List Int:=yeB (sel (yds hs 23).testBit 64) (sel (yds ms 59).testBit 64) (sel (yds ss 59).testBit 64)
theorem yiH (hs ms ss:Nat):(ycC hs ms ss).Pairwise (·< ·):=
 yli (yaO _ 64) (yaO _ 64) (yaO _ 64) (λ x hx=>yc0 ms 59 hx) (λ x hx=>yc0 ss 59 hx)
theorem yoe (hs ms ss:Nat):yzg (yds hs 23) (yds ms 59) (yds ss 59)= (ycC hs ms ss).length:=by
 rw [ycC,ymO,yzg,yfa,yfa,yfa,Nat.mul_assoc]
section
variable {b:Nat} {f:Nat->Nat} {W:World}
theorem yqb {α:Type} (v:α): [v]=List.replicate 1 v:=rfl
theorem ymS {α:Type} (v:α) (n:Nat):v::List.replicate n v=List.replicate (n+1) v:=rfl
theorem yqc {α:Type} (v:α) (n m:Nat):(List.replicate n v).append (List.replicate m v)=List.replicate (n+m) v:=List.replicate_append_replicate
theorem yzo:Tryz.zeroCells163= (List.replicate 1350 (Value.int Y 0)).toArray:=by
 simp only [Tryz.zeroCells163,yqb,ymS,yqc,Nat.reduceAdd]
theorem zcw:Tryz.zeroCells161= (List.replicate 1350 (Value.int Y 0)).toArray:=by
 simp only [Tryz.zeroCells161,yqb,ymS,yqc,Nat.reduceAdd]
def DC (W:World) (b:Nat) (f:Nat->Nat):Prop:=∀i,i<1350->W.cell? (Z b i N)=G (E Y (f i:Nat))
theorem DC.below {W':World} {B:Nat} (h:DC W b f) (hb:Below B W W') (hB:b<B):DC W' b f:=λ i hi=>(hb.cell (p:=Z b i N) hB).trans (h i hi)
theorem DC.set {i:Nat} {v:Nat} (h:DC W b f) (hi:i<1350):DC (W.setCell (Z b i N) (E Y v)) b (λ j=>if j=i then v else f j):=by
 intro j hj;by_cases e:j=i
 ·subst e;simp [go_sem,h j hj]
 ·simp [go_sem,h j hj,e]
theorem DC.congr {g:Nat->Nat} (h:DC W b f) (e:∀i,i<1350->f i=g i):DC W b g:=λ i hi=>by rw [<- e i hi];exact h i hi
theorem ynI (W:World) (n:Nat) (v:Value) (t:TypeId) (i:Nat) (hi:i<n):(W.alloc (J (List.replicate n v).toArray t)).cell? (Z W.heap.size i N)=G v:=by simp [go_sem,hi]
theorem yyQ (W:World):DC (W.alloc (J Tryz.zeroCells163 163)) W.heap.size (λ _=>0):=λ i hi=>by
 rw [yzo];exact ynI W 1350 _ _ i hi
def ycX (n:Int):Bool:=decide (0<=n)&&decide (n<86400)
theorem yeP (k:Nat):ycX (k:Int)=decide (k<86400):=by rw [ycX,zze];simp only [zzX,zzY];omega
theorem ycz {n:Int} (h:ycX n=true):∃k:Nat,n=k/\k<86400:=by
 rw [ycX] at h;simp only [zzX,zzY] at h;exact ⟨n.toNat,by omega,by omega⟩
def yxC (f:Nat->Nat) (n:Int):Bool:=ycX n&&ybM f n.toNat
theorem yeZ (n:Int) (w:World):H I 89 #[E T n] w λ e w'=>e=Q (Xb (ycX n))/\w=w':=by
 unfold ycX;by_cases h0:0<=n
 ·by_cases h1:n<86400
  ·rw [zzZ h0,zzZ h1];go_enter Tryz.func89,Tryz.ntmps89
   go_wp2;go_ret;exact ⟨rfl,rfl⟩
  ·rw [zzZ h0,zzd h1];go_enter Tryz.func89,Tryz.ntmps89
   go_wp2;go_ret;exact ⟨rfl,rfl⟩
 ·rw [zzd h0,Yv];go_enter Tryz.func89,Tryz.ntmps89
  go_wp2;go_ret;exact ⟨rfl,rfl⟩
theorem ynY (b:Nat) (f:Nat->Nat) (n:Int) (w:World) (hc:DC w b f) (hf:∀i,i<1350->f i<18446744073709551616) :
  H I 69 #[R (G (Z b 0 N)),E T n] w λ e w'=>e=Q (Xb (yxC f n))/\w=w':=by
 have c1:=hid (λ W=>yeZ n W);unfold yxC;by_cases hb:ycX n=true
 ·rw [hb] at c1⊢;obtain ⟨k,rfl,hk⟩:=ycz hb;have e1:=hc (k/64) zo;have c2:=hid (λ W=>yew (f (k/64)) ((k%64:Nat):Int) W (hf _ zo));rw [yi6,show ((k%64:Nat):Int)= (k:Int)%64 by simp] at c2;have hlt:k/64<1350:=zo;go_enter Tryz.func69,Tryz.ntmps69
  go_wp2_with fail
  refine zm (c1 _) ?_;rintro w' rfl;go_wp2_with fail
  refine zm (c2 _) ?_;rintro w' rfl;go_wp2;go_ret;exact ⟨by simp [ybM],rfl⟩
 ·have aa:ycX n=false:=by simpa using hb
  rw [aa] at c1⊢;go_enter Tryz.func69,Tryz.ntmps69
  go_wp2_with fail
  refine zm (c1 _) ?_;rintro w' rfl;go_wp2;go_ret;exact ⟨rfl,rfl⟩
theorem yu6 (n:Int) (w:World):H I 69 #[R N,E T n] w λ e w'=>e=Q (Xb false)/\w=w':=by
 go_enter Tryz.func69,Tryz.ntmps69
 go_wp2;go_ret;exact ⟨rfl,rfl⟩
theorem yuH (b:Nat) (f:Nat->Nat) (i:Nat) (w:World) (hc:DC w b f) (hi:i<1350) :
  H I 126 #[R (G (Z b 0 N)),E T i] w λ e w'=>e=Q (E Y (f i:Nat))/\w=w':=by
 have e1:=hc i hi;go_enter Tryz.func126,Tryz.ntmps126
 go_wp2;go_ret;exact ⟨rfl,rfl⟩
theorem yuG (i:Nat) (w:World):H I 126 #[R N,E T i] w λ e w'=>e=Q (E Y (0:Nat))/\w=w':=by
 go_enter Tryz.func126,Tryz.ntmps126
 go_wp2;go_ret;exact ⟨rfl,rfl⟩
end
def yjz (x:(Nat->Nat) × Nat) (n:Int):(Nat->Nat) × Nat:=
 if ycX n && !ybM x.1 n.toNat then (λ j=>if j=n.toNat/64 then x.1 (n.toNat/64)|||2 ^ (n.toNat%64) else x.1 j,x.2+1) else x
def yon (f:Nat->Nat) (l:List Int):(Nat->Nat) × Nat:=l.foldl yjz (f,0)
theorem yqe (f:Nat->Nat) (l:List Int) (k:Nat) (h:k<l.length):yon f (l.take (k+1))=yjz (yon f (l.take k)) l[k]:=by
 rw [yon,yon,yal l k h,Zp];rfl
theorem ysg (b:Nat) (f:Nat->Nat) (a:Option Addr) (cap:Nat) (l:List Int) (w:World) (hl:l.length<=9223372036854775807) (hs:Sl w a (yaR l)) (ag:l≠ []->∀g off,a=G (Z g off N)->g≠b)
  (hc:DC w b f) (al:∀i,w.frozen? (Z b i N)=false) (hf:∀i,i<1350->f i<18446744073709551616) :
  H I 212 #[R (G (Z b 0 N)),Xs a l.length cap] w λ e w'=>e=Q (E T ((yon f l).2:Nat))/\DC w' b (yon f l).1/\(∀i,w'.frozen? (Z b i N)=false)/\
   Eff (λ x=>x=b) w w':=by
 have Hs:=hid hs;have aq:=hid ag;have Hc:=hid hc;have ar:=hid al;have Hf:=hid hf;have c1:=hid (λ n W=>yeZ n W);have aw:(l.length:Int)<=9223372036854775807:=zo;clear hs ag hc al hf hl;go_enter Tryz.func212,Tryz.ntmps212
 go_wp2;go_loopw [5,12] (λ m i wr=>∃k:Nat,i=E T k/\m=E T ((yon f (l.take k)).2:Nat)/\k<=l.length/\Hid (DC wr b (yon f (l.take k)).1/\(∀i,wr.frozen? (Z b i N)=false)/\(∀i,i<1350->(yon f (l.take k)).1 i<18446744073709551616)/\(yon f (l.take k)).2<=k)/\Hid (Eff (λ x=>x=b) w wr)) (λ _ i _=>l.length-(intOf i).toNat)
 case atStart=>exact ⟨0,rfl,rfl,by omega,⟨Hc,ar,Hf,zG _⟩,Eff.refl _ _⟩
 case round=>
  obtain ⟨k,rfl,rfl,hk,HJ,HE⟩:=hrel;by_cases hlt:k<l.length
  ·obtain ⟨g,off,rfl,hb,am⟩:=Hs.atInt hlt;have e1:=(HE.cell (p:=Z g (off+k) N) hb (aq (λ e=>by rw [e] at hlt;simp at hlt) g off rfl)).trans (am k hlt);have aa:=hid (yqe f l k hlt);obtain ⟨x,hx⟩:=zx (l[k]);rw [hx] at e1 aa;generalize hp:yon f (l.take k)=p at HJ aa⊢
   clear am hx hp;by_cases hd:ycX x=true
   ·have hm:=hid (c1 x);rw [hd] at hm;have hh:=hid (ynY b p.1 x wr HJ.1 HJ.2.2.1);obtain ⟨n,rfl,hn⟩:=ycz hd;have hq:yxC p.1 (n:Int)=ybM p.1 n:=(by rw [yxC,hd];rfl);rw [hq] at hh;by_cases ae:ybM p.1 n=true
    ·rw [ae] at hh;have he:Hid (yjz p (n:Int)=p):=(by show _ = _;rw [yjz,YL,ae];simp);clear ae hq hd;have ao:(n:Int)<87000:=zo;clear hn;go_wp2_with fail
     refine zm (hm _) ?_;rintro w' rfl;go_wp2_with fail
     refine zm hh ?_;rintro w' rfl;go_wp2;exact ⟨⟨k+1,by go_num,by rw [aa,he],by omega,by rw [aa,he];exact ⟨HJ.1,HJ.2.1,HJ.2.2.1,by have:=HJ.2.2.2;omega⟩,HE⟩,by simp [intOf];omega⟩
    ·have ai:ybM p.1 n=false:=(by simpa using ae);rw [ai] at hh;have he:Hid (yjz p (n:Int)= (λ j=>if j=n/64 then p.1 (n/64)|||2 ^ (n%64) else p.1 j,p.2+1)):=(by show _ = _;rw [yjz,YL,hd,ai];rfl);have hi:n/64<1350:=zo;have e2:=HJ.1 (n/64) hi;have e3:=HJ.2.1 (n/64);have ao:(n:Int)<87000:=zo;have ap:(p.2:Int)+1<=9223372036854775807:=(by have:=HJ.2.2.2;omega);clear ae ai hq hd hn;go_wp2_with fail
     refine zm (hm _) ?_;rintro w' rfl;go_wp2_with fail
     refine zm hh ?_;rintro w' rfl;go_wp2_with fail
     go_region
     have af:n%64<64:=Nat.mod_lt _ zo;have ah:=ybD (HJ.2.2.1 (n/64) hi) (ycD af);rw [<- yb9 af] at ah;rw [ah];have ab:=ygM (HJ.2.2.1 (n/64) hi) (ycD af);generalize hv:p.1 (n/64)|||2 ^ (n%64)=v at ab he⊢
     have done:DC (wr.setCell ⟨b,n/64,N⟩ (E Y v)).drew b (yjz p (n:Int)).1/\(∀i,(wr.setCell ⟨b,n/64,N⟩ (E Y v)).drew.frozen? (Z b i N)=false)/\(∀i,i<1350->(yjz p (n:Int)).1 i<18446744073709551616)/\(yjz p (n:Int)).2<=k+1:=by
      rw [he];refine ⟨HJ.1.set hi,λ i=>by simp [go_sem,HJ.out.2.1 i],λ i hi=>?_,by have:=HJ.2.2.2;simp only [];omega⟩;simp only [];split
      ·exact ab
      ·exact HJ.2.2.1 i hi
     have aj:=hid done;have av:Hid (Eff (λ x=>x=b) w (wr.setCell ⟨b,n/64,N⟩ (E Y v)).drew):=by
      have h:=HE.out;refine ⟨h.os,h.tape,h.output,?_,λ j hj hn=>?_⟩
      ·show w.heap.size<=(wr.setCell ⟨b,n/64,N⟩ (E Y v)).heap.size;simpa [go_sem] using h.size
      ·exact (Ym _ _ _ _ (by simpa using hn)).trans (h.block j hj hn)
     have h2:(yjz p (n:Int)).2=p.2+1:=(by rw [he]);have H2:=hid h2;clear done ah af hv ab h2;go_wp2;exact ⟨⟨k+1,by go_num,by rw [aa,H2];go_num,by omega,by rw [aa];exact aj,av⟩,by simp [intOf];omega⟩
   ·have ac:ycX x=false:=(by simpa using hd);have hm:=hid (c1 x);rw [ac] at hm;have he:Hid (yjz p x=p):=(by show _ = _;rw [yjz,ac];rfl);clear hd ac;go_wp2_with fail
    refine zm (hm _) ?_;rintro w' rfl;go_wp2;exact ⟨⟨k+1,by go_num,by rw [aa,he],by omega,by rw [aa,he];exact ⟨HJ.1,HJ.2.1,HJ.2.2.1,by have:=HJ.2.2.2;omega⟩,HE⟩,by simp [intOf];omega⟩
  ·have ak:l.take k=l:=YU zo;rw [ak] at HJ⊢;clear ak;go_wp2;go_ret;exact ⟨rfl,HJ.1,HJ.2.1,HE⟩
theorem yti (x:(Nat->Nat) × Nat) (n:Int) (k:Nat) (hk:k<86400):ybM (yjz x n).1 k= (ybM x.1 k||decide ((k:Int)=n)):=by
 rw [yjz];by_cases hd:ycX n=true
 ·obtain ⟨j,rfl,hj⟩:=ycz hd;rw [hd,YL];cases hb:ybM x.1 j
  ·simp only [Bool.not_false,Bool.and_self,if_true];rw [ybM,ybM];by_cases e:k/64=j/64
   ·have e2:decide (j%64=k%64)=decide ((k:Int)= (j:Int)):=by
     rw [zze,zzY,zzY];omega
    simp only [e,if_true,Y2,Nat.testBit_two_pow,e2]
   ·have h2:decide ((k:Int)= (j:Int))=false:=zzd zo;simp only [e,if_false,h2,Bool.or_false]
  ·simp only [Bool.not_true,Y3,Bool.false_eq_true,if_false];by_cases e:k=j
   ·subst e;rw [hb];rfl
   ·rw [zzd zo,Bool.or_false]
 ·have ac:ycX n=false:=by simpa using hd
  have ag:¬(k:Int)=n:=λ e=>by
   subst e;rw [yeP,zzZ hk] at ac;cases ac
  rw [ac,zzd ag];simp
theorem ykk (k:Nat) (hk:k<86400):∀(l:List Int) (x:(Nat->Nat) × Nat),ybM (l.foldl yjz x).1 k= (ybM x.1 k||decide ((k:Int)∈l))
 | [],x=>by simp
 | n::l,x=>by
   rw [List.foldl_cons,ykk k hk l,yti x n k hk,Bool.or_assoc];congr 1
   rw [zze];simp
theorem ymV (f:Nat->Nat) (l:List Int) (k:Nat) (hk:k<86400):ybM (yon f l).1 k= (ybM f k||decide ((k:Int)∈l)):=ykk k hk l (f,0)
theorem ywa (x:(Nat->Nat) × Nat) (n:Int) (hx:∀i,i<1350->x.1 i<18446744073709551616):∀i,i<1350->(yjz x n).1 i<18446744073709551616:=by
 intro i hi;rw [yjz];split
 ·rename_i h;simp only [zzX] at h;obtain ⟨j,rfl,hj⟩:=ycz h.1;rw [YL];simp only [];split
  ·exact ygM (hx _ zo) (ycD (Nat.mod_lt _ zo))
  ·exact hx i hi
 ·exact hx i hi
theorem ynt:∀(l:List Int) (x:(Nat->Nat) × Nat),(∀i,i<1350->x.1 i<18446744073709551616)->∀i,i<1350->(l.foldl yjz x).1 i<18446744073709551616
 | [],x,hx=>hx
 | n::l,x,hx=>ynt l _ (ywa x n hx)
theorem yqf (f:Nat->Nat) (l:List Int) (hf:∀i,i<1350->f i<18446744073709551616):∀i,i<1350->(yon f l).1 i<18446744073709551616:=ynt l _ hf
theorem yan (W:World) (c:Array Value) (t:TypeId) (i:Nat):(W.alloc (J c t)).frozen? (Z W.heap.size i N)=false:=by simp [go_sem]
def DiscAt (W:World) (b:Nat) (q:Nat->Bool):Prop:=∃f:Nat->Nat,DC W b f/\(∀i,W.frozen? (Z b i N)=false)/\(∀i,i<1350->f i<18446744073709551616)/\(∀k,k<86400->ybM f k=q k)/\b<W.heap.size
theorem DiscAt.below {W W':World} {b B:Nat} {q:Nat->Bool} (h:DiscAt W b q) (hb:Below B W W') (hB:b<B):DiscAt W' b q:=by
 obtain ⟨f,h1,h2,h3,h4,h5⟩:=h;exact ⟨f,h1.below hb hB,λ i=>(hb.frozen (p:=Z b i N) hB).trans (h2 i),h3,h4,zH h5 hb.size⟩
def ye1 (l:List Int) (k:Nat):Bool:=decide ((k:Int)∈l)
theorem yjx (a:Option Addr) (cap:Nat) (l:List Int) (w:World) (hl:l.length<=9223372036854775807) (hs:Sl w a (yaR l)) :
  H I 193 #[Xs a l.length cap] w λ e w'=>e=Q (R (G (Z w.heap.size 0 N)))/\DiscAt w' w.heap.size (ye1 l)/\Bw w w':=by
 obtain ⟨W1,ad⟩:=zx (w.alloc (J Tryz.zeroCells163 163));have q1:DC W1 w.heap.size (λ _=>0):=by rw [<- ad];exact yyQ w
 have q2:∀i,W1.frozen? (Z w.heap.size i N)=false:=λ i=>by rw [<- ad];exact yan w _ _ i
 have q3:Bw w W1:=by rw [<- ad];exact yaa (Ye _ _) zg
 have q4:W1.heap.size=w.heap.size+1:=by rw [<- ad];simp
 have c1:Hid (H I 212 #[R (G (Z w.heap.size 0 N)),Xs a l.length cap] W1 λ e w'=>(∃n:Nat,e=Q (E T n))/\DiscAt w' w.heap.size (ye1 l)/\Eff (λ x=>x=w.heap.size) W1 w'):=by
  refine (ysg w.heap.size (λ _=>0) a cap l W1 hl (hs.below q3) ?_ q1 q2 (λ _ _=>by omega)).mono λ e w' ⟨h1,h2,h3,h4⟩=>⟨⟨_,h1⟩,⟨_,h2,h3,yqf _ _ (λ _ _=>by omega),λ k hk=>?_,by have:=h4.size;omega⟩,h4⟩
  ·rintro hl g off rfl;obtain ⟨g',an,e,hb,_⟩:=hs.atInt (k:=0) (List.length_pos_iff.mpr hl);cases e;omega
  ·rw [ymV _ _ k hk,ybM,YV,YR];rfl
 have au:=hid ad;have Q3:=hid q3;clear ad q1 q2 q3 hs;go_enter Tryz.func193,Tryz.ntmps193
 go_wp2_with fail
 rw [au];refine c1.mono ?_;rintro e w2 ⟨⟨n,rfl⟩,hd,hE⟩;have Hd:=hid hd;have HE:=hid hE;clear hd hE;go_wp2;go_ret;exact ⟨rfl,Hd,Q3.trans (HE.below (by rintro b rfl;exact zG _) zo)⟩
def MC (W:World) (b:Nat) (l:List Int):Prop:=∀j,j<86400->W.cell? (Z b j N)=G (Xb (ye1 l j))
theorem MC.below {W W':World} {b B:Nat} {l:List Int} (h:MC W b l) (hb:Below B W W') (hB:b<B):MC W' b l:=λ j hj=>(hb.cell (p:=Z b j N) hB).trans (h j hj)
def yak (q:Nat->Bool):List Int:=sel q 86400
section
variable {ok:Bool} {n:Int} {p q:Nat->Bool}
theorem yuv {a b:Nat} (ha:a<18446744073709551616) (hb:b<18446744073709551616):bits .xor Y (a:Int) (b:Int)= ((a ^^^ b:Nat):Int):=by
 show IntKind.u64.wrap ((BitVec.ofInt 64 (a:Int) ^^^ BitVec.ofInt 64 (b:Int)).toNat:Int)= _;rw [BitVec.toNat_xor,ybp ha,ybp hb];exact ybT (Nat.xor_lt_two_pow (n:=64) ha hb)
def dv:Option Nat->Value
 | none=>R N
 | some b=>R (G (Z b 0 N))
def DW (W:World):Option Nat->(Nat->Nat)->Prop
 | none,f=>f=λ _=>0
 | some b,f=>DC W b f
theorem ykx (d:Option Nat) (f:Nat->Nat) (i:Nat) (w:World) (hc:DW w d f) (hi:i<1350) :
  H I 126 #[dv d,E T i] w λ e w'=>e=Q (E Y (f i:Nat))/\w=w':=by
 match d,hc with
 | none,hc=>rw [show f=λ _=>0 from hc];exact yuG i w
 | some b,hc=>exact yuH b f i w hc hi
theorem ykS (x y:Nat) (w:World) (hx:x<18446744073709551616) (hy:y<18446744073709551616) :
  H I 71 #[E Y x,E Y y] w λ e w'=>e=Q (E Y (x ^^^ y:Nat))/\w=w':=by
 have h:=hid (yuv hx hy);go_enter Tryz.func71,Tryz.ntmps71
 go_wp2;go_ret;rw [h];exact ⟨rfl,rfl⟩
def FirstOf (p:Nat->Bool) (n:Int) (ok:Bool):Prop:=
 (ok=true/\∃k:Nat,n=k/\k<86400/\p k=true/\∀j,j<k->p j=false)\/ (ok=false/\n=0/\∀j,j<86400->p j=false)
theorem FirstOf.unique {n':Int} {ag:Bool} (h:FirstOf p n ok) (h':FirstOf p n' ag):n=n'/\ok=ag:=by
 rcases h with ⟨rfl,k,rfl,hk,h1,h2⟩ | ⟨rfl,rfl,h2⟩ <;> rcases h' with ⟨rfl,k',rfl,aj,ad,af⟩ | ⟨rfl,rfl,af⟩
 ·refine ⟨?_,rfl⟩;rcases Nat.lt_trichotomy k k' with h | h | h
  ·rw [af k h] at h1;cases h1
  ·rw [h]
  ·rw [h2 k' h] at ad;cases ad
 ·rw [af k hk] at h1;cases h1
 ·rw [h2 k' aj] at ad;cases ad
 ·exact ⟨rfl,rfl⟩
theorem yh6 (h:Nat->Nat) (k:Nat) (hk:k<1350) (hz:∀j,j<k->h j=0) (hb:h k<18446744073709551616) (hl:ybY (h k)=true):FirstOf (ybM h) ((k:Int)*64+ycI (h k)) true:=by
 have h0:h k≠0:=by simpa [ybY] using hl
 obtain ⟨h1,h2,h3⟩:=ygh h0 hb;refine .inl ⟨rfl,k*64+lsb (h k),by rw [ycI,Yb h0];simp,by omega,?_,λ j hj=>?_⟩
 ·rw [ybM,show (k*64+lsb (h k))/64=k by omega,show (k*64+lsb (h k))%64=lsb (h k) by omega];exact h2
 ·rw [ybM];by_cases e:j/64=k
  ·rw [e];exact h3 _ zo
  ·rw [hz (j/64) zo,YV]
theorem yhY {m:Nat} (hm:m<18446744073709551616):0<=ycI m/\ycI m<64:=by
 rw [ycI];split
 ·omega
 ·rename_i h0;have:=(ygh h0 hm).1;omega
theorem yh7 (h:Nat->Nat) (hz:∀j,j<1350->h j=0):FirstOf (ybM h) 0 false:=by
 refine .inr ⟨rfl,rfl,λ j hj=>?_⟩;rw [ybM,hz (j/64) zo,YV]
theorem yq5 (fn:Nat) (ak:fn=102\/ fn=71) (h:Nat->Nat) (d e:Option Nat) (f g:Nat->Nat) (w:World) (hT:Tab w) (hd:DW w d f) (he:DW w e g) (ah:∀i,i<1350->h i<18446744073709551616)
  (h3:∀i,i<1350->H I fn #[E Y (f i:Nat),E Y (g i:Nat)] w λ e w'=>e=Q (E Y (h i:Nat))/\w=w') :
  H I 70 #[dv d,dv e,Xf (.func fn) #[] #[]] w λ r w'=>(∃n ok,r=Q (Xt #[E T n,Xb ok])/\FirstOf (ybM h) n ok)/\w=w':=by
 have c1:=hid (λ i hi=>ykx d f i w hd hi);have c2:=hid (λ i hi=>ykx e g i w he hi);have c4:=hid (λ m hm=>ydQ m w hm hT);have hw:=hid ah;have e3:=hid h3;obtain ⟨dp,ac⟩:=zx (dv d);obtain ⟨ep,ab⟩:=zx (dv e);rw [ac] at c1⊢;rw [ab] at c2⊢;clear ac ab hd he hT h3 ah;rcases ak with rfl | rfl;all_goals
  go_enter Tryz.func70,Tryz.ntmps70
  go_wp2;go_loopw [11] (λ i wr=>∃k:Nat,i=E T k/\Hid (k<=1350)/\Hid (∀j,j<k->h j=0)/\wr=w) (λ i _=>1350-(intOf i).toNat)
  case atStart=>exact ⟨0,rfl,Zm _,λ j hj=>by omega,rfl⟩
  case round=>
   obtain ⟨k,rfl,hk,hz,rfl⟩:=hrel;by_cases hlt:(k:Int)<1350
   ·have aa:k<1350:=zo;have d1:=hid (c1 k aa);have d2:=hid (c2 k aa);have d3:=hid (e3 k aa);have d4:=hid (c4 _ (hw k aa));have ai:=hid (yh6 h k aa hz (hw k aa));obtain ⟨b1,b2⟩:=yhY (hw k aa);have am:=hid aa;have al:Hid (ybY (h k)=false->h k=0):=λ h=>(by simpa [ybY] using h);obtain ⟨L,hL⟩:=zx (ycI (h k));rw [hL] at d4 ai b1 b2;clear aa hL;cases hB:ybY (h k)
    ·rw [hB] at d4;have ae:Hid (∀j,j<k+1->h j=0):=λ j hj=>by
      by_cases e:j=k
      ·rw [e];exact al hB
      ·exact hz j zo
     clear hB;go_wp2_with fail
     refine zm d1 ?_;rintro w' rfl;go_wp2_with fail
     refine zm d2 ?_;rintro w' rfl;go_wp2_with fail
     refine zm d3 ?_;rintro w' rfl;go_wp2_with fail
     refine zm d4 ?_;rintro w' rfl;go_wp2;exact ⟨⟨k+1,by go_num,am,ae,by trivial⟩,by simp [intOf];omega⟩
    ·rw [hB] at d4;have hr:=hid (ai hB);clear hB;go_wp2_with fail
     refine zm d1 ?_;rintro w' rfl;go_wp2_with fail
     refine zm d2 ?_;rintro w' rfl;go_wp2_with fail
     refine zm d3 ?_;rintro w' rfl;go_wp2_with fail
     refine zm d4 ?_;rintro w' rfl;go_wp2;go_ret2
     exact ⟨⟨_,_,rfl,hr⟩,rfl⟩
   ·have ae:Hid (FirstOf (ybM h) 0 false):=yh7 h (λ j hj=>hz j zo);go_wp2;go_ret2
    exact ⟨⟨_, .inl ⟨rfl,ae⟩⟩,rfl⟩
theorem ygW (d e:Option Nat) (f g:Nat->Nat) (w:World) (hT:Tab w) (hd:DW w d f) (he:DW w e g) (hf:∀i,i<1350->f i<18446744073709551616) (hg:∀i,i<1350->g i<18446744073709551616) :
  H I 70 #[dv d,dv e,Xf (.func 71) #[] #[]] w λ r w'=>(∃n ok,r=Q (Xt #[E T n,Xb ok])/\FirstOf (ybM (λ i=>f i ^^^ g i)) n ok)/\w=w':=
 yq5 _ (.inr rfl) _ d e f g w hT hd he (λ i hi=>Nat.xor_lt_two_pow (n:=64) (hf i hi) (hg i hi)) λ i hi=>ykS (f i) (g i) w (hf i hi) (hg i hi)
theorem FirstOf.congr (h:FirstOf p n ok) (e:∀k,k<86400->p k=q k):FirstOf q n ok:=by
 rcases h with ⟨h1,k,h2,h3,h4,h5⟩ | ⟨h1,h2,h3⟩
 ·exact .inl ⟨h1,k,h2,h3,by rw [<- e k h3];exact h4,λ j hj=>by rw [<- e j zo];exact h5 j hj⟩
 ·exact .inr ⟨h1,h2,λ j hj=>by rw [<- e j hj];exact h3 j hj⟩
def DiscV (W:World):Option Nat->(Nat->Bool)->Prop
 | none,q=>∀k,k<86400->q k=false
 | some b,q=>DiscAt W b q
theorem DiscV.words {W:World} {d:Option Nat} (h:DiscV W d q):∃f,DW W d f/\(∀i,i<1350->f i<18446744073709551616)/\∀k,k<86400->ybM f k=q k:=by
 match d,h with
 | none,h=>exact ⟨λ _=>0,rfl,λ _ _=>by show 0<_;omega,λ k hk=>by rw [ybM,YV];exact (h k hk).symm⟩
 | some b,⟨f,h1,h2,h3,h4,h5⟩=>exact ⟨f,h1,h3,h4⟩
theorem ysM (f g:Nat->Nat) (k:Nat):ybM (λ i=>f i ^^^ g i) k= (ybM f k != ybM g k):=by
 rw [ybM,ybM,ybM,Nat.testBit_xor]
theorem yhm (d e:Option Nat) (p q:Nat->Bool) (w:World) (hT:Tab w) (hd:DiscV w d p) (he:DiscV w e q) :
  H I 27 #[dv d,dv e] w λ r w'=>(∃n ok,r=Q (Xt #[E T n,Xb ok])/\FirstOf (λ k=>p k != q k) n ok)/\w=w':=by
 obtain ⟨f,f1,f2,f3⟩:=hd.words;obtain ⟨g,g1,g2,g3⟩:=he.words;have c1:=hid (ygW d e f g w hT f1 g1 f2 g2);have hb:Hid (∀k,k<86400->ybM (λ i=>f i ^^^ g i) k= (p k != q k)):=λ k hk=>by rw [ysM,f3 k hk,g3 k hk]
 obtain ⟨dp,ac⟩:=zx (dv d);obtain ⟨ep,ab⟩:=zx (dv e);rw [ac] at c1⊢;rw [ab] at c1⊢;clear ac ab hd he hT f1 f2 f3 g1 g2 g3;go_enter Tryz.func27,Tryz.ntmps27
 go_wp2_with fail
 refine c1.mono ?_;rintro r w' ⟨⟨n,ok,rfl,hF⟩,rfl⟩;have HF:=hid hF;clear hF;go_wp2;go_ret2
 exact ⟨⟨n,ok,rfl,HF.congr hb⟩,rfl⟩
theorem ypn (d e:Option Nat) (p q:Nat->Bool) (w:World) (hT:Tab w) (hd:DiscV w d p) (he:DiscV w e q) :
  H I 81 #[dv d,dv e] w λ r w'=>(∃n ok,r=Q (Xb !ok)/\FirstOf (λ k=>p k != q k) n ok)/\w=w':=by
 have c1:=hid (yhm d e p q w hT hd he);obtain ⟨dp,ac⟩:=zx (dv d);obtain ⟨ep,ab⟩:=zx (dv e);rw [ac] at c1⊢;rw [ab] at c1⊢;clear ac ab hd he hT;go_enter Tryz.func81,Tryz.ntmps81
 go_wp2_with fail
 refine c1.mono ?_;rintro r w' ⟨⟨n,ok,rfl,hF⟩,rfl⟩;have HF:=hid hF;clear hF;go_wp2;go_ret;exact ⟨⟨n,ok,rfl,HF⟩,rfl⟩
end
section
variable {b:Nat} {f:Nat->Nat} {O:Nat->Prop} {W W':World}
def yAg (f:Nat->Nat):Value:= .agg ((List.range 1350).map (λ i=>Value.int Y (f i:Nat))).toArray
theorem yiI (cs:Array Value) (v:Value) (i:Nat) (h:i<1350) (hc:cs[i]? =G v) (W:World):(Instr.index 161 (.agg cs) (E T i)).run I W= .ok v W:=by
 obtain ⟨i0,ar,ax,ao,aw⟩:=info_parts yi2;simp [Instr.index,go_sem,part,sizeOf,typeInfo,ar,ao,h,hc]
theorem yhs (f:Nat->Nat) (i:Nat) (h:i<1350) (W:World):(Instr.index 161 (yAg f) (E T i)).run I W= .ok (E Y (f i:Nat)) W:=by
 refine yiI _ _ i h ?_ W;rw [List.getElem?_toArray,Y9,List.getElem?_range h];rfl
theorem ynA (h:DC W b f):W.rangeAt b 0 ((List.range 1350).map (λ i=>Value.int Y (f i:Nat))):=λ j v hv=>by
 obtain ⟨hj,e⟩:=zzq.1 hv;simp at hj e;rw [zzn,h j hj,<- e]
theorem yi3:(Tryz.prog.info? 161).map (·.size)=G 1350:=by kernel_rfl
theorem DC.eff (h:DC W b f) (hE:Eff O W W') (hb:b<W.heap.size) (hn:¬O b):DC W' b f:=λ i hi=>(hE.cell (p:=Z b i N) hb hn).trans (h i hi)
theorem Eff.frozen (h:Eff O W W') {p:Addr} (hp:p.block<W.heap.size) (hn:¬O p.block):W'.frozen? p=W.frozen? p:=zzM (w:=W) (h.block p.block hp hn)
theorem Eff.set (h:Eff O W W') (hb:O b) (i:Nat) (v:Value):Eff O W (W'.setCell (Z b i N) v):=
 ⟨h.os,h.tape,h.output,by simpa [go_sem] using h.size,λ k hk hn=>(Ym _ _ _ _ (λ e=>hn (by subst e;exact hb))).trans (h.block k hk hn)⟩
theorem Eff.drew (h:Eff O W W'):Eff O W W'.drew:=⟨h.os,h.tape,h.output,h.size,h.block⟩
abbrev DIn:=Option Nat × (Nat->Nat)
def dvs (ds:List DIn):List Value:=ds.map λ d=>dv d.1
theorem Sl.atD {w:World} {a:Option Addr} {l:List DIn} (h:Sl w a (dvs l)) {k:Nat} (hk:k<l.length) :
  ∃b off,a=G (Z b off N)/\b<w.heap.size/\∀j (h:j<l.length),w.cell? (Z b (off+j) N)=G (dv l[j].1):=by
 obtain ⟨b,off,rfl,hlt,hc⟩:=Sl.at h (k:=k) (by rw [dvs,Yi];exact hk);refine ⟨b,off,rfl,hlt,λ j hj=>?_⟩;rw [hc j (by rw [dvs,Yi];exact hj)];simp [dvs]
structure DOk (W:World) (b:Nat) (d:DIn):Prop where
 words:DW W d.1 d.2
 bd:∀i,i<1350->d.2 i<18446744073709551616
 apart:∀c,d.1=G c->c≠b/\c<W.heap.size
theorem DOk.eff {d:DIn} (h:DOk W b d) (hE:Eff (λ x=>x=b) W W'):DOk W' b d:=by
 obtain ⟨h1,h2,h3⟩:=h;refine ⟨?_,h2,λ c e=>⟨(h3 c e).1,zH (h3 c e).2 hE.size⟩⟩;match d,h1,h3 with
 | (N,f),h1,h3=>exact h1
 | (G c,f),h1,h3=>exact DC.eff h1 hE (h3 c rfl).2 (h3 c rfl).1
def orL (f:Nat->Nat) (ds:List DIn):Nat->Nat:=ds.foldl (λ f d i=>f i|||d.2 i) f
theorem ytr (f:Nat->Nat) (l:List DIn) (k:Nat) (h:k<l.length):orL f (l.take (k+1))=λ i=>orL f (l.take k) i|||l[k].2 i:=by
 rw [orL,yal l k h,Zp];rfl
structure Upd (b:Nat) (f:Nat->Nat) (W W':World):Prop where
 words:DC W' b f
 free:∀i,W'.frozen? (Z b i N)=false
 bd:∀i,i<1350->f i<18446744073709551616
 eff:Eff (λ x=>x=b) W W'
theorem Upd.congr {g:Nat->Nat} (h:Upd b f W W') (e:∀i,i<1350->f i=g i):Upd b g W W':=
 ⟨h.words.congr e,h.free,λ i hi=>by rw [<- e i hi];exact h.bd i hi,h.eff⟩
theorem Upd.set (h:Upd b f W W') {i:Nat} (hi:i<1350) {v:Nat} (hv:v<18446744073709551616):Upd b (λ j=>if j=i then v else f j) W (W'.setCell (Z b i N) (E Y v)):=
 ⟨h.words.set hi,λ j=>by simp [go_sem,h.free j],λ j hj=>by
  show (if j=i then v else f j)<_;split
  ·exact hv
  ·exact h.bd j hj,h.eff.set rfl i _⟩
theorem Upd.drew (h:Upd b f W W'):Upd b f W W'.drew:=⟨h.words,h.free,h.bd,h.eff.drew⟩
theorem ysB (b:Nat) (f:Nat->Nat) (a:Option Addr) (cap:Nat) (ds:List DIn) (w:World) (hl:ds.length<=9223372036854775807) (hs:Sl w a (dvs ds)) (ah:ds≠ []->∀g off,a=G (Z g off N)->g≠b)
  (hd:∀d∈ds,DOk w b d) (hu:Upd b f w w) :
  H I 194 #[R (G (Z b 0 N)),Xs a ds.length cap] w λ e w'=>(∃v,e=Q v)/\Upd b (orL f ds) w w':=by
 have Hs:=hid hs;have au:=hid ah;have Hd:=hid hd;have Hu:=hid hu;have ay:(ds.length:Int)<=9223372036854775807:=zo;clear hs ah hd hu hl;go_enter Tryz.func194,Tryz.ntmps194
 go_wp2;go_loopw [12] (λ i wr=>∃k:Nat,i=E T k/\k<=ds.length/\Hid (Upd b (orL f (ds.take k)) w wr)) (λ i _=>ds.length-(intOf i).toNat)
 case atStart=>exact ⟨0,rfl,by omega,Hu⟩
 case round=>
  obtain ⟨k,rfl,hk,HJ⟩:=hrel;by_cases hlt:k<ds.length
  ·obtain ⟨g,off,rfl,hb,al⟩:=Hs.atD hlt;have e1:=(HJ.eff.cell (p:=Z g (off+k) N) hb (au (λ e=>by rw [e] at hlt;simp at hlt) g off rfl)).trans (al k hlt);have ac:=hid (ytr f ds k hlt);have ab:=hid ((Hd ds[k] (zzr hlt)).eff HJ.eff);obtain ⟨p,hp⟩:=zx (orL f (ds.take k));rw [hp] at HJ ac;obtain ⟨d,ak⟩:=zx (ds[k]);rw [ak] at e1 ac ab;clear al hp ak;obtain ⟨dc,g2⟩:=d;cases dc with
   | none=>
     have hz:Hid (g2=λ _=>0):=ab.words;have af:Hid (Upd b (orL f (ds.take (k+1))) w wr):=by
      show Upd _ _ _ _;rw [ac];exact HJ.congr (λ i _=>by simp only [hz.out,Nat.or_zero])
     have an:wr.cell? (Z g (off+k) N)=G (R N):=e1;clear e1 HJ ac ab;go_wp2;exact ⟨⟨k+1,by go_num,by omega,af⟩,by simp [intOf];omega⟩
   | some c=>
     have hW:DC wr c g2:=ab.words;have am:=hid ab.bd;have ag:=hid (ynA hW);have aj:=hid (λ i hi W=>yhs g2 i hi W);have an:wr.cell? (Z g (off+k) N)=G (R (G (Z c 0 N))):=e1;clear e1 hW ab;go_wp2_with (refine wpList_load_mid rfl 161 (.tmp 20) rfl c 0 rfl _ _ ag Tryz.underlying161 rfl (by rw [Yi,ZB];exact yi3) ?_)
     obtain ⟨V,hV⟩:=zx (yAg g2);rw [show Value.agg ((List.range 1350).map (λ i=>Value.int Y (g2 i:Nat))).toArray=V from hV];rw [hV] at aj;clear hV an ag;go_wp2_with fail
     go_loopw [22] (λ i wq=>∃j:Nat,i=E T j/\j<=1350/\Hid (Upd b (λ i=>if i<j then p i|||g2 i else p i) w wq)) (λ i _=>1350-(intOf i).toNat)
     case atStart=>exact ⟨0,rfl,by omega,HJ.congr (λ i _=>by simp)⟩
     case round=>
      obtain ⟨j,rfl,hj,HI⟩:=hrel;by_cases aa:j<1350
      ·have aq:=aj j aa;have e2:wr.cell? (Z b j N)=G (E Y (p j:Nat)):=(by have:=HI.words j aa;simpa using this);have e3:=HI.free j;have ad:=HI.bd j aa;simp only [Nat.lt_irrefl,if_false] at ad;have ap:=hid (ybD ad (am j aa));have ae:=hid (ygM ad (am j aa));have az:(j:Int)<1350:=zo;clear ad;go_wp2_with fail
       go_region
       rw [ap];have av:Hid (Upd b (λ i=>if i<j+1 then p i|||g2 i else p i) w (wr.setCell (Z b j N) (E Y (p j|||g2 j:Nat))).drew):=by
        refine ((HI.set aa ae).congr (λ i _=>?_)).drew;by_cases e:i=j
        ·subst e;simp
        ·have:(i<j+1)= (i<j):=by simp;omega
         simp [e,this]
       clear e2 e3 aq;go_wp2;exact ⟨⟨j+1,by go_num,by omega,av⟩,by simp [intOf];omega⟩
      ·obtain rfl:j=1350:=zo;have af:Hid (Upd b (orL f (ds.take (k+1))) w wr):=by
        show Upd _ _ _ _;rw [ac];exact HI.congr (λ i hi=>by simp [hi])
       go_wp2;exact ⟨⟨k+1,by go_num,by omega,af⟩,by simp [intOf];omega⟩
  ·have ai:ds.take k=ds:=YU zo;rw [ai] at HJ;clear ai;go_wp2;go_end0
   exact ⟨⟨_,rfl⟩,HJ⟩
theorem Eff.setCells (hb:O b):∀(vs:List Value) (o:Nat) (W':World),Eff O W W'->Eff O W (W'.setCells b o vs)
 | [],_,_,h=>h
 | v::vs,o,W',h=>by rw [World.setCells];exact Eff.setCells hb vs (o+1) _ (h.set hb o v)
theorem Upd.there (h:Upd b f W W'):W'.there b 0 (List.replicate 1350 (Value.int Y 0)).toArray.size:=λ j hj=>by
 rw [Yp,List.length_replicate] at hj;rw [zzn];exact ⟨by rw [h.words j hj];rfl,h.free j⟩
theorem Upd.zero (h:Upd b f W W'):Upd b (λ _=>0) W (W'.setCells b 0 (List.replicate 1350 (Value.int Y 0))):=by
 refine ⟨λ i hi=>?_,λ i=>by rw [Zj];exact h.free i,λ _ _=>by omega,Eff.setCells (O:=λ x=>x=b) rfl _ _ _ h.eff⟩;have:=ZW b (List.replicate 1350 (Value.int Y 0)) 0 W' (λ j hj=>by rw [List.length_replicate] at hj;rw [zzn,h.words j hj];rfl) i (by rw [List.length_replicate];exact hi);rw [zzn,List.getElem_replicate] at this;exact this
theorem Upd.there' (h:Upd b f W W') (g:Nat->Nat):W'.there b 0 ((List.range 1350).map (λ i=>Value.int Y (g i:Nat))).toArray.size:=λ j hj=>by
 rw [Yp,Yi,ZB] at hj;rw [zzn];exact ⟨by rw [h.words j hj];rfl,h.free j⟩
theorem Upd.all (h:Upd b f W W') (g:Nat->Nat):DC (W'.setCells b 0 ((List.range 1350).map (λ i=>Value.int Y (g i:Nat)))) b g/\Eff (λ x=>x=b) W (W'.setCells b 0 ((List.range 1350).map (λ i=>Value.int Y (g i:Nat)))):=by
 refine ⟨λ i hi=>?_,Eff.setCells (O:=λ x=>x=b) rfl _ _ _ h.eff⟩;have:=ZW b ((List.range 1350).map (λ i=>Value.int Y (g i:Nat))) 0 W' (λ j hj=>by rw [Yi,ZB] at hj;rw [zzn,h.words j hj];rfl) i (by rw [Yi,ZB];exact hi);rw [zzn,List.getElem_map,List.getElem_range] at this;exact this
theorem yrD (W:World):DC (W.alloc (J Tryz.zeroCells161 161)) W.heap.size (λ _=>0):=λ i hi=>by
 rw [zcw];exact ynI W 1350 _ _ i hi
end
section
open Go.RowKit Go.Maps
attribute [local go_sem] Yw
variable {k l:Nat} {O:Nat->Prop} {W W':World}
theorem yof (h m:Int) (S:List Int) (k:Nat) (hk:k<S.length):(ydq h m S)[k]? =G (3600*h+60*m+S[k]):=by
 simp [ydq,List.getElem?_eq_getElem hk]
theorem ygD (h:Int) (S:List Int) (k:Nat) (hk:k<S.length):∀(M:List Int) (j:Nat) (hj:j<M.length),(yaS h M S)[j*S.length+k]? =G (3600*h+60*M[j]+S[k])
 | m::M,0,_=>by
   have e:yaS h (m::M) S=ydq h m S++yaS h M S:=(by simp [yaS]);rw [e,Yo (by rw [ydY];omega),ZJ,zzn,yof h m S k hk];rfl
 | m::M,j+1,hj=>by
   have e:yaS h (m::M) S=ydq h m S++yaS h M S:=(by simp [yaS]);have e2:(j+1)*S.length+k=S.length+(j*S.length+k):=(by rw [Zk];omega);rw [e,e2,Yl (by rw [ydY];omega),ydY,Zn,ygD h S k hk M j (by simpa using hj)];rfl
theorem yjR (M S:List Int) (j k:Nat) (hj:j<M.length) (hk:k<S.length):∀(Hq:List Int) (i:Nat) (hi:i<Hq.length),(yeB Hq M S)[i*(M.length*S.length)+j*S.length+k]? =G (3600*Hq[i]+60*M[j]+S[k])
 | h::Hq,0,_=>by
   have e:yeB (h::Hq) M S=yaS h M S++yeB Hq M S:=(by simp [yeB]);have hlt:j*S.length+k<M.length*S.length:=by
    have:(j+1)*S.length<=M.length*S.length:=Nat.mul_le_mul_right _ hj
    rw [Zk] at this;omega
   rw [e,ZJ,zzn,Yo (by rw [ydh];exact hlt),ygD h S k hk M j hj];rfl
 | h::Hq,i+1,hi=>by
   have e:yeB (h::Hq) M S=yaS h M S++yeB Hq M S:=(by simp [yeB]);have e2:(i+1)*(M.length*S.length)+j*S.length+k=M.length*S.length+(i*(M.length*S.length)+j*S.length+k):=(by rw [Zk];omega);rw [e,e2,Yl (by rw [ydh];omega),ydh,Zn,yjR M S j k hj hk Hq i (by simpa using hi)];rfl
theorem ys8 (Hq M S:List Int) (i j k:Nat) (hi:i<Hq.length) (hj:j<M.length) (hk:k<S.length) :
  ∃h:i*(M.length*S.length)+j*S.length+k<(yeB Hq M S).length,(yeB Hq M S)[i*(M.length*S.length)+j*S.length+k]=3600*Hq[i]+60*M[j]+S[k]:=by
 obtain ⟨h,e⟩:=zzq.1 (yjR M S j k hj hk Hq i hi);exact ⟨h,e⟩
theorem yaC {o:Obj} {b i:Nat} {v:Value} (hr:∃r,W.heap[l]? =G (.loop r)) (h:W.cell? (Z b i N)=G v):(W.putObj l o).cell? (Z b i N)=G v:=by
 refine (zzJ (w:=W) (a:=Z b i N) (Yc (λ e=>?_))).trans h;obtain ⟨r,hr⟩:=hr;simp only at e;subst e;rw [World.cell?] at h;simp [hr] at h
theorem yd6 (m:Nat) (W:World) (hm:m<18446744073709551616):H I 164 #[Xs (G (Z W.heap.size 0 N)) 1 1] (W.alloc (J #[E Y m] 39)) λ e w'=>
  e=Q (Xf (.func 201) #[] #[R (G (Z (W.heap.size+1) 0 N))])/\w'.cell? (Z (W.heap.size+1) 0 N)=G (E Y m)/\Bw W w'/\W.heap.size+1<w'.heap.size:=by
 have h:=yu0 (G (Z W.heap.size 0 N)) 1 [m] (W.alloc (J #[E Y m] 39)) zs (.inr ⟨W.heap.size,0,rfl,by simp,λ j hj=>by simp [yxw] at hj⊢;subst hj;simp [go_sem]⟩) (by simpa using hm);(try unfold Bw at h);rw [yuz hm,zzN] at h
 exact h.mono λ e w' ⟨h1,h2,h3,h4⟩=>⟨h1,h2,(yaa (Ye _ _) zg).trans (h3.mono zo),h4⟩
theorem yaM.of_below (h:Bw W W'):yaM O O W W':=⟨λ _ h=>h,λ _ h=> .inl h,Eff.of_below h⟩
theorem yb5 {Iq:ycQ} (hI:ybI Iq) (hl:LtO Iq) (h:Iq k O W) (hb:Bw W W'):Iq k O W':=hI k O W W' h hb.size (λ b bA=>hb.block b (hl k O W h b bA))
theorem ybJ {Iq:ycQ} (hI:ybI Iq) (h:Iq k O W) (hn:¬O l) (o:Obj):Iq k O (W.putObj l o):=
 hI k O W _ h (by rw [Yg];exact zG _) (λ b hb=>Yc (λ e=>hn (e ▸ hb)))
theorem yl3 (a b c bh bm bs:Nat) (y:Value) (Jq Jx:ycQ) (O:Nat->Prop) (W:World) (ha:a<18446744073709551616) (hb:b<18446744073709551616) (hc:c<18446744073709551616)
  (hC:yfC I y (yeB (sel a.testBit 64) (sel b.testBit 64) (sel c.testBit 64)) Jq Jx O W) (hJ:Jq 0 O W)
  (bw:bh<W.heap.size) (bv:bm<W.heap.size) (bu:bs<W.heap.size) (bq:¬O bh) (a0:¬O bm) (aZ:¬O bs)
  (a4:W.cell? (Z bh 0 N)=G (E Y a)) (a3:W.cell? (Z bm 0 N)=G (E Y b)) (a2:W.cell? (Z bs 0 N)=G (E Y c)) (hT:Tab W) (a5:¬O 0) :
  H I 221 #[y,R (G (Z bh 0 N)),R (G (Z bm 0 N)),R (G (Z bs 0 N))] W λ e W'=>(∃v,e=Q v)/\yzk (yeB (sel a.testBit 64) (sel b.testBit 64) (sel c.testBit 64)) Jq Jx O W W':=by
 obtain ⟨yf,yi,yc,rfl⟩:=hC.form;have HC:=hid hC;have HT:=hid hT;have b5:=hT.1;have HN:=hid (Ya a0 (Ya aZ a5));obtain ⟨W1,aA⟩:=zx (W.alloc (J #[.func yf yi yc] 131));have q3:W1.heap.size=W.heap.size+1:=by rw [<- aA];simp
 have q4:Bw W W1:=by rw [<- aA];exact yaa (Ye _ _) zg
 have q5:W1.cell? (Z W.heap.size 0 N)=G (.func yf yi yc):=by rw [<- aA];simp [go_sem]
 have aM:=yd6 a W1 ha;rw [q3] at aM;have HM:=hid aM;have bN:=hid aA;have ey:=hid q5;have bt:=(q4.cell (p:=Z bh 0 N) bw).trans a4;have Q4:=hid q4;have Hm:=hid a3;have Hs:=hid a2;have HJ:=hid hJ;have hlt:=hC.lt 0 O W hJ;have be:=hid hlt;have lH:=yeh a.testBit 64;have lM:=yeh b.testBit 64;have lS:=yeh c.testBit 64;have bH:=hid (λ k hk=>yjQ (p:=a.testBit) k hk);have bM:=hid (λ k hk=>yjQ (p:=b.testBit) k hk);have bS:=hid (λ k hk=>yjQ (p:=c.testBit) k hk);have ad:=hid (λ b' Ow w (h1:b'<w.heap.size) h2 h3 h4 h5=>yb7 a b' Ow w ha h1 h2 h3 h4 h5);have ac:=hid (λ b' Ow w (h1:b'<w.heap.size) h2 h3 h4 h5=>yb7 b b' Ow w hb h1 h2 h3 h4 h5);have ab:=hid (λ b' Ow w (h1:b'<w.heap.size) h2 h3 h4 h5=>yb7 c b' Ow w hc h1 h2 h3 h4 h5);obtain ⟨Hq,eH⟩:=zx (sel a.testBit 64);obtain ⟨M,eM⟩:=zx (sel b.testBit 64);obtain ⟨S,eS⟩:=zx (sel c.testBit 64);rw [eH] at lH bH ad HC⊢;rw [eM] at lM bM ac HC⊢;rw [eS] at lS bS ab HC⊢;clear eH eM eS aM hC hT bq a0 aZ a5 q4 q5 a4 a3 a2 aA hJ hlt;refine (wf_calls (r:=N) (n:=1)).mp ?_;refine callsIn_of_wp_marks Tryz.func221 rfl trivial ?_ rfl;simp only [Tryz.ntmps221,Yp,Yu,YS,Nat.reduceAdd,Nat.reduceSub,YE,YD,YQ,YJ,Y0,YH];gi_wp2_with fail
 refine ybO ?_;rw [bN];gi_wp2_with fail
 refine wpIn_label ?_;gi_wp2_with fail
 refine (wf_calls.mpr HM).mono ?_;rintro e w1 ⟨rfl,a1,aJ,br⟩;have aC:Bw W w1:=Q4.trans (aJ.mono zo);have aq:=hid aC;have aF:Hid (yaM O O W w1):=yaM.of_below aC;have bE:=hid ((aJ.cell (p:=Z W.heap.size 0 N) (by simp only [];omega)).trans ey);have bT:Hid (Jq 0 O w1):=yb5 HC.stab HC.lt HJ aC;have aW:=hid (ad (W.heap.size+2) O w1 br (λ h=>by have:=be _ h;omega) a1 (HT.later aC) HN.2.2);clear a1 aJ aC;gi_wp2_with fail
 refine ybj (gf:=201) (lb:=#[R (G (Z (W.heap.size+2) 0 N))]) rfl yb8 Hq O rfl aW
  (λ i O W=>Jq (i*(M.length*S.length)) O W) (λ c i O W=>c= .exit 0/\∃q,1<=q/\q<=(yeB Hq M S).length/\Jx q O W)
  (λ k O W W' h hs hO=>HC.stab _ O W W' h hs hO) (λ c k O W W' h hs hO=>⟨h.1,by obtain ⟨q,h1,h2,h3⟩:=h.2;exact ⟨q,h1,h2,HC.stabx _ O W W' h3 hs hO⟩⟩)
  (λ k O W h=>HC.lt _ O W h) (λ c k O W h=>by obtain ⟨_,q,h1,h2,h3⟩:=h;exact HC.ltx _ O W h3) (by simpa using bT.out)
  (λ i O a' W'=>Jq (i*(M.length*S.length)) O W'/\∃bx h,Hq[i]? =G h/\W'.cell? (Z bx 0 N)=G (E T h)/\¬O bx/\bx<W'.heap.size/\
    a' = {tmps:=#[.func yf yi yc,R (G (Z bh 0 N)),R (G (Z bm 0 N)),R (G (Z bs 0 N)),R (G (Z W.heap.size 0 N)),R (G (Z bx 0 N)),undef,undef,E Y a,Xs (G (Z (W.heap.size+1) 0 N)) 1 1,Xf (.func 201) #[] #[R (G ⟨W.heap.size+1+1,0,N⟩)],E T h,undef,undef,undef,undef,undef,undef,undef,undef,undef,undef,undef,undef,undef,undef,undef,undef,undef,undef],defers:= []})
  (λ l o k O a' W' hr hn h=>⟨ybJ HC.stab h.1 hn o,by obtain ⟨bx,h,h0,h1,h2,h3,h4⟩:=h.2;exact ⟨bx,h,h0,yaC hr h1,h2,by rw [Yg];exact h3,h4⟩⟩) ?assign ?body ?done ?stop
 case assign=>
  intro l i O2 W2 K hi aj af hK;have an:=HC.lt _ _ _ aj;gi_wp2
  have ah:Bw W2 (W2.alloc (J #[E T Hq[i]] 3)):=yaa (Ye _ _) zg;exact hK _ O2 _ (yaM.of_below ah) ⟨yb5 HC.stab HC.lt aj ah,W2.heap.size,Hq[i],zzp hi,by simp [go_sem],λ h=>by have:=an _ h;omega,by simp,rfl⟩
 case done=>
  intro O2 W2 af aj hD aH;have hG:=aF.trans af;have bB:Jq (yeB Hq M S).length O2 W2:=by rw [ymO];exact aj
  gi_wp2
  rw [Zc];refine ⟨by simp, .inl ⟨_,_,rfl,YM hD,?_⟩⟩;exact ⟨_,YO rfl _ _ _,⟨_,rfl⟩,O2,hG.sub,hG.new,hG.eff.putObj (.inr (zp aq.out.size)) _, .inl (ybJ HC.stab bB aH _)⟩
 case stop=>
  rintro c i O2 W2 b4 b3 af ⟨rfl,q,ay,ax,aj⟩ hD aH;have hG:=aF.trans af;gi_wp2
  rw [Zc];refine ⟨by simp, .inl ⟨_,_,rfl,YM hD,?_⟩⟩;exact ⟨_,YO rfl _ _ _,⟨_,rfl⟩,O2,hG.sub,hG.new,hG.eff.putObj (.inr (zp aq.out.size)) _, .inr ⟨q,ay,ax,ybJ HC.stabx aj aH _⟩⟩
 case body=>
  rintro l i O2 a' W2 hi af hl aG bW ⟨aj,bx,h,eh,ch,nh,lh,rfl⟩;have aX:W.heap.size<w1.heap.size:=zo;have nO:¬O W.heap.size:=λ h=>by have:=be _ h;omega
  have a8:=(af.cell aX nO 0).trans bE.out;have bI:=(af.cell zo HN.1 0).trans ((aq.cell (p:=Z bm 0 N) bv).trans Hm);have a9:=(af.cell zo HN.2.1 0).trans ((aq.cell (p:=Z bs 0 N) bu).trans Hs);have aL:=(HT.later aq).eff af.eff HN.2.2;have ap:=hid (Ya (af.not aX nO) (Ya (af.not (b:=bs) zo HN.2.1) (af.not (b:=0) (zp ((HT.later aq).1)) HN.2.2)));have bn:=af.eff.size;have an:=HC.lt _ _ _ aj;have bV:Hid (yaM O O2 W W2):=aF.trans af;have bi:=hid (yd6 b W2 hb);have bR:=hid aj;clear HM aF ad aW af aj;gi_wp2_with fail
  refine (wf_calls.mpr bi).mono ?_;rintro e w3 ⟨rfl,az,aa,aI⟩;have aw:∃r,w3.heap[l]? =G (.loop r):=by obtain ⟨r,hr⟩:=aG;exact ⟨r,(aa.block l (yam hr)).trans hr⟩
  have aT:Hid (yaM O2 O2 W2 w3):=yaM.of_below aa;have aV:=hid (ac (W2.heap.size+1) O2 w3 aI (λ h=>by have:=an _ h;omega) az (aL.later aa) ap.2.2);have bQ:Hid (Jq (i*(M.length*S.length)) O2 w3):=yb5 HC.stab HC.lt bR aa;have bD:=hid ((aa.cell (p:=Z W.heap.size 0 N) (by simp only [];omega)).trans a8);have bG:=hid ((aa.cell (p:=Z bs 0 N) (by simp only [];omega)).trans a9);have bL:=hid ((aa.cell (p:=Z bx 0 N) lh).trans ch);have bf:=hid (aL.later aa);have bl:=aa.size;clear az aa a8 bI a9 ch aL bi;gi_wp2_with fail
  refine yfJ (gf:=201) (lb:=#[R (G (Z (W2.heap.size+1) 0 N))]) aw rfl yb8 M O2 rfl aV
   (λ j O W=>Jq (i*(M.length*S.length)+j*S.length) O W) (λ c j O W=>c= .exit 0/\∃q,1<=q/\q<=(yeB Hq M S).length/\Jx q O W)
   (λ k O W W' h hs hO=>HC.stab _ O W W' h hs hO) (λ c k O W W' h hs hO=>⟨h.1,by obtain ⟨q,h1,h2,h3⟩:=h.2;exact ⟨q,h1,h2,HC.stabx _ O W W' h3 hs hO⟩⟩)
   (λ k O W h=>HC.lt _ O W h) (λ c k O W h=>by obtain ⟨_,q,h1,h2,h3⟩:=h;exact HC.ltx _ O W h3) (by simpa using bQ.out)
   (λ j O a' W'=>Jq (i*(M.length*S.length)+j*S.length) O W'/\∃bz m,M[j]? =G m/\W'.cell? (Z bz 0 N)=G (E T m)/\¬O bz/\bz<W'.heap.size/\
     a' = {tmps:=#[.func yf yi yc,R (G (Z bh 0 N)),R (G (Z bm 0 N)),R (G (Z bs 0 N)),R (G (Z W.heap.size 0 N)),R (G (Z bx 0 N)),R (G (Z bz 0 N)),undef,E Y a,Xs (G (Z (W.heap.size+1) 0 N)) 1 1,Xf (.func 201) #[] #[R (G ⟨W.heap.size+1+1,0,N⟩)],E T h,E Y b,Xs (G (Z W2.heap.size 0 N)) 1 1,Xf (.func 201) #[] #[R (G (Z (W2.heap.size+1) 0 N))],E T m,undef,undef,undef,undef,undef,undef,undef,undef,undef,undef,undef,undef,undef,undef],defers:= []})
   (λ l o k O a' W' hr hn h=>⟨ybJ HC.stab h.1 hn o,by obtain ⟨bx,h,h0,h1,h2,h3,h4⟩:=h.2;exact ⟨bx,h,h0,yaC hr h1,h2,by rw [Yg];exact h3,h4⟩⟩) ?assign2 ?body2 ?done2 ?stop2
  case assign2=>
   intro l j O4 W4 K hj ai ae hK;have am:=HC.lt _ _ _ ai;gi_wp2
   have ah:Bw W4 (W4.alloc (J #[E T M[j]] 3)):=yaa (Ye _ _) zg;exact hK _ O4 _ (yaM.of_below ah) ⟨yb5 HC.stab HC.lt ai ah,W4.heap.size,M[j],zzp hj,by simp [go_sem],λ h=>by have:=am _ h;omega,by simp,rfl⟩
  case done2=>
   intro O4 W4 ae ai;gi_wp2
   exact ⟨O4,aT.trans ae,by show Jq ((i+1)*(M.length*S.length)) O4 W4;rw [show (i+1)*(M.length*S.length)=i*(M.length*S.length)+M.length*S.length from Zk _ _];exact ai⟩
  case stop2=>
   rintro c j O4 W4 b2 b1 ae ⟨rfl,q,ay,ax,ai⟩;gi_wp2
   exact ⟨O4,aT.trans ae,rfl,q,ay,ax,ai⟩
  case body2=>
   rintro l2 j O4 a' W4 hj ae bY av bp ⟨ai,bz,m,em,cm,nm,lm,rfl⟩;have a7:=(ae.cell zo ap.1 0).trans bD.out;have bF:=(ae.cell zo ap.2.1 0).trans bG.out;have ba:=(ae.cell (b:=bx) zo nh 0).trans bL.out;have a6:=bf.eff ae.eff ap.2.2;have aQ:=hid (Ya (ae.not (b:=W.heap.size) zo ap.1) (Ya (ae.not (b:=bx) zo nh) (ae.not (b:=0) (zp bf.out.1) ap.2.2)));have bk:=ae.eff.size;have am:=HC.lt _ _ _ ai;have bU:Hid (yaM O O4 W W4):=bV.trans (aT.trans ae);have bg:=hid (yd6 c W4 hc);have bP:=hid ai;clear ac aV ae ai;gi_wp2_with fail
   refine (wf_calls.mpr bg).mono ?_;rintro e w5 ⟨rfl,az,aa,aI⟩;have au:∃r,w5.heap[l2]? =G (.loop r):=(by obtain ⟨r,hr⟩:=av;exact ⟨r,(aa.block l2 (yam hr)).trans hr⟩);have aS:Hid (yaM O4 O4 W4 w5):=yaM.of_below aa;have aU:=hid (ab (W4.heap.size+1) O4 w5 aI (λ h=>by have:=am _ h;omega) az (a6.later aa) aQ.2.2);have bO:Hid (Jq (i*(M.length*S.length)+j*S.length) O4 w5):=yb5 HC.stab HC.lt bP aa;have bC:=hid ((aa.cell (p:=Z W.heap.size 0 N) (by simp only [];omega)).trans a7);have bK:=hid ((aa.cell (p:=Z bx 0 N) (by simp only [];omega)).trans ba);have bJ:=hid ((aa.cell (p:=Z bz 0 N) lm).trans cm);have bj:=aa.size;clear az aa a7 bF ba cm a6 bg;gi_wp2_with fail
   refine yfJ (gf:=201) (lb:=#[R (G (Z (W4.heap.size+1) 0 N))]) au rfl yb8 S O4 rfl aU
    (λ k O W=>Jq (i*(M.length*S.length)+j*S.length+k) O W) (λ c k O W=>c= .exit 0/\∃q,1<=q/\q<=(yeB Hq M S).length/\Jx q O W)
    (λ k O W W' h hs hO=>HC.stab _ O W W' h hs hO) (λ c k O W W' h hs hO=>⟨h.1,by obtain ⟨q,h1,h2,h3⟩:=h.2;exact ⟨q,h1,h2,HC.stabx _ O W W' h3 hs hO⟩⟩)
    (λ k O W h=>HC.lt _ O W h) (λ c k O W h=>by obtain ⟨_,q,h1,h2,h3⟩:=h;exact HC.ltx _ O W h3) (by simpa using bO.out)
    (λ k O a' W'=>Jq (i*(M.length*S.length)+j*S.length+k) O W'/\∃s,S[k]? =G s/\
      a' = {tmps:=#[.func yf yi yc,R (G (Z bh 0 N)),R (G (Z bm 0 N)),R (G (Z bs 0 N)),R (G (Z W.heap.size 0 N)),R (G (Z bx 0 N)),R (G (Z bz 0 N)),E T s,E Y a,Xs (G (Z (W.heap.size+1) 0 N)) 1 1,Xf (.func 201) #[] #[R (G ⟨W.heap.size+1+1,0,N⟩)],E T h,E Y b,Xs (G (Z W2.heap.size 0 N)) 1 1,Xf (.func 201) #[] #[R (G (Z (W2.heap.size+1) 0 N))],E T m,E Y c,Xs (G (Z W4.heap.size 0 N)) 1 1,Xf (.func 201) #[] #[R (G (Z (W4.heap.size+1) 0 N))],E T s,undef,undef,undef,undef,undef,undef,undef,undef,undef,undef],defers:= []})
    (λ l o k O a' W' hr hn h=>⟨ybJ HC.stab h.1 hn o,h.2⟩) ?assign3 ?body3 ?done3 ?stop3
   case assign3=>
    intro l k O6 W6 K hk al ak hK;gi_wp2
    exact hK _ O6 _ (yaM.refl _ _) ⟨al,S[k],zzp hk,rfl⟩
   case done3=>
    intro O6 W6 ak al;gi_wp2
    exact ⟨O6,aS.trans ak,by show Jq (i*(M.length*S.length)+(j+1)*S.length) O6 W6;rw [show i*(M.length*S.length)+(j+1)*S.length=i*(M.length*S.length)+j*S.length+S.length by rw [Zk];omega];exact al⟩
   case stop3=>
    rintro c k O6 W6 b0 bZ ak ⟨rfl,q,ay,ax,al⟩;gi_wp2
    exact ⟨O6,aS.trans ak,rfl,q,ay,ax,al⟩
   case body3=>
    rintro l3 k O6 a' W6 hk ak bX aY bo ⟨al,s,es,rfl⟩;have b6:=(ak.cell (b:=W.heap.size) zo aQ.1 0).trans bC.out;have b8:=(ak.cell (b:=bx) zo aQ.2.1 0).trans bK.out;have b7:=(ak.cell (b:=bz) zo nm 0).trans bJ.out;obtain ⟨ao,ar⟩:=ys8 Hq M S i j k hi hj hk;have ag:=HC.call _ O6 W6 ao al (bU.trans (aS.trans ak));obtain ⟨_,aP⟩:=zzq.1 eh;obtain ⟨_,aO⟩:=zzq.1 em;obtain ⟨_,aN⟩:=zzq.1 es;have bd:=bH i hi;have bc:=bM j hj;have bb:=bS k hk;rw [aP] at bd;rw [aO] at bc;rw [aN] at bb;rw [ar,aP,aO,aN,show 3600*h+60*m+s=h*3600+m*60+s by omega] at ag;have aD:=hid ag;have aR:=hid ao;obtain ⟨x1,x2⟩:=bd;obtain ⟨x3,x4⟩:=bc;obtain ⟨x5,x6⟩:=bb;clear ag ao ar aP aO aN al ak ab aU;gi_wp2_with (refine ylX (.tmp 20) (.tmp 27) _ rfl rfl rfl rfl aD ?_)
    rintro e W7 O7 h1 h2 h3 aK;rcases aK with ⟨rfl,aB⟩ | ⟨rfl,aB⟩
    ·have aE:Hid (yaM O6 O7 W6 W7/\Jq (i*(M.length*S.length)+j*S.length+(k+1)) O7 W7):=⟨⟨h1,h2,h3⟩,aB⟩;clear h1 h2 h3 aB;refine ⟨_,rfl,?_⟩;gi_wp2
     exact ⟨O7,aE.1,aE.2⟩
    ·have aE:Hid (yaM O6 O7 W6 W7/\∃q,1<=q/\q<=(yeB Hq M S).length/\Jx q O7 W7):=⟨⟨h1,h2,h3⟩,_,by omega,Nat.succ_le_of_lt aR,aB⟩;clear h1 h2 h3 aB;refine ⟨_,rfl,?_⟩;gi_wp2
     exact ⟨O7,aE.1,rfl,aE.2⟩
end
section
open Go.RowKit Go.Maps
theorem ylh (p:Nat->Bool) (a:Nat):∀b,sel p (a+b)=sel p a++(sel (λ k=>p (a+k)) b).map (λ x=>(a:Int)+x)
 | 0=>by simp [ymN]
 | b+1=>by
   rw [<- ZN];by_cases h:p (a+b)=true
   ·rw [yeg h,yeg (p:=λ k=>p (a+k)) h,ylh p a b,Zl,List.append_assoc];simp
   ·have h':p (a+b)=false:=(by simpa using h);rw [yhM h',yhM (p:=λ k=>p (a+k)) h',ylh p a b]
theorem ygC {p q:Nat->Bool} {n:Nat} (h:∀i,i<n->p i=q i):sel p n=sel q n:=by
 induction n with
 | zero=>rfl
 | succ n ih=>
   have e:=ih (λ i hi=>h i zo);cases hp:p n
   ·rw [yhM hp,yhM (by rw [<- h n zo];exact hp),e]
   ·rw [yeg hp,yeg (by rw [<- h n zo];exact hp),e]
def yjF (t:Nat->Nat) (i:Nat):List Int:=(sel (t i).testBit 64).map (λ x=>((64*i:Nat):Int)+x)
def yb3 (t:Nat->Nat):Nat->List Int
 | 0=> []
 | n+1=>yb3 t n++yjF t n
theorem ygs (t:Nat->Nat):∀n,yb3 t n=sel (ybM t) (64*n)
 | 0=>rfl
 | n+1=>by
   rw [yb3,ygs t n,show 64*(n+1)=64*n+64 by omega,ylh,yjF];congr 1
   congr 1
   refine ygC (λ i hi=>?_);rw [ybM,show (64*n+i)/64=n by omega,show (64*n+i)%64=i by omega]
theorem yjE (t:Nat->Nat):∀n,(yb3 t n).length=ynm t n
 | 0=>rfl
 | n+1=>by rw [yb3,YG,yjE t n,yjF,Yi,yfa,ynm]
theorem ymy (t:Nat->Nat):∀n i k,i<n->(hk:k<(sel (t i).testBit 64).length)->(yb3 t n)[(yb3 t i).length+k]? =G (((64*i:Nat):Int)+(sel (t i).testBit 64)[k])
 | 0,i,k,hi,hk=>by omega
 | n+1,i,k,hi,hk=>by
   have hl:(yjF t i).length= (sel (t i).testBit 64).length:=(by simp [yjF]);rcases ZK i n with h | h
   ·have aa:∀m,(yb3 t i).length+(yjF t i).length<=(yb3 t (i+1+m)).length:=λ m=>by
     induction m with
     | zero=>rw [Nat.add_zero,yb3,YG];exact zG _
     | succ m ih=>rw [<- ZN,yb3,YG];omega
    have h2:=aa (n-i-1);rw [show i+1+(n-i-1)=n by omega] at h2;rw [yb3,Yo zo];exact ymy t n i k h hk
   ·obtain rfl:i=n:=zo;rw [yb3,Yl zo,Zn,yjF,Y9,zzp hk];rfl
end
section
open Go.RowKit Go.Maps
attribute [local go_sem] Yw
variable {Ds:List Nat} {O:Nat->Prop} {w w':World}
def marks (Ds:List Nat):List Deferred:=Ds.map λ D=>{target:= .collected D,args:=#[]}
theorem ya6 {F:Fence} {n:Nat} {P:Program} {fn:Func} {tmps:Array Value} {Rq:Ending->World->Prop} {u:FrameMode} (hu:u≠ .run):∀(Ds:List Nat) (w:World),Ds.Nodup->(∀D∈Ds,w.heap[D]? =G (.deferred (G [])))->
  (∀w':World,w'.os=w.os->w'.tape=w.tape->w'.output=w.output->w'.heap.size=w.heap.size->(∀b,b ∉ Ds->w'.heap[b]? =w.heap[b]?)->LeavesInM F n P fn tmps Rq [] u w')->LeavesInM F n P fn tmps Rq (marks Ds) u w
 | [],w,_,_,h=>h w rfl rfl rfl rfl (λ _ _=>rfl)
 | D::Ds,w,hn,hD,h=>by
   rw [Zz] at hn;refine ⟨hu, .inl ⟨D,_,rfl,YM (hD D zs),?_⟩⟩;refine ya6 hu Ds _ hn.2 (λ Eq1 hE=>(Yc (λ e=>hn.1 (by rw [<- e];exact hE))).trans (hD Eq1 (by simp [hE]))) (λ w' h1 h2 h3 h4 h5=>h w' h1 h2 h3 (by rw [h4,Yg]) (λ b hb=>?_));simp only [YF,not_or] at hb;exact (h5 b hb.2).trans (Yc hb.1)
theorem yhJ {Iq:ycQ} (hI:ybI Iq) {k:Nat} (h:Iq k O w) (hn:∀D∈Ds,¬O D) (hs:w'.heap.size=w.heap.size) (hb:∀b,b ∉ Ds->w'.heap[b]? =w.heap[b]?):Iq k O w':=
 hI k O w w' h zo (λ b ab=>hb b (λ h2=>hn b h2 ab))
theorem ydK {W:World} (h:Eff O W w) (hn:∀D∈Ds,W.heap.size<=D) (h1:w'.os=w.os) (h2:w'.tape=w.tape) (h3:w'.output=w.output) (hs:w'.heap.size=w.heap.size) (hb:∀b,b ∉ Ds->w'.heap[b]? =w.heap[b]?):Eff O W w':=
 ⟨h1.trans h.os,h2.trans h.tape,h3.trans h.output,by rw [hs];exact h.size,λ k hk aa=>(hb k (λ h4=>by have:=hn k h4;omega)).trans (h.block k hk aa)⟩
end
