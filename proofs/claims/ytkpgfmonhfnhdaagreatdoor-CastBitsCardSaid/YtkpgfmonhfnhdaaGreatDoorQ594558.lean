/-
  The words and small laws that all proofs of this seat use: a slice in memory that reads as a list ('Sl'), what an append does ('app1'), facts hidden from the walk. No condition.
  Masks as natural numbers below 2^64 given by their bits, and what Go's bit operations on uint64 make of them.
  What mask.Has, mask.Of, feriaref02.Has and feriaref02.Of compute.
  What mask.Span and feriaref02.Span compute: the mask of the numbers of a span that are a step apart.
  What feriaref02.Span and feriaref02.List compute.
-/
import Derived.OrdersHeld
import Derived.BigRegion
import Derived.Deep.RegionHeld
import Derived.Test.YtkpgfmonhfnhdaaGreatDoorRows
import Derived.WalkKit
import Derived.ProofKit
import Derived.Deep.QuietTactic
import Derived.BigQuiet
set_option maxRecDepth 100000
set_option maxHeartbeats 25600000
namespace Go.Proofs.YtkpgfmonhfnhdaaGreatDoor
set_option linter.unusedVariables false
section
open Go.RowKit
theorem zP : (∀ (a : Act) (d : Tmp) (v : Value), a.put (some d) v = { a with tmps := a.tmps.setIfInBounds d v }) ∧ (∀ (a : Act) (v : Value), a.put none v = a) ∧ (type_of% @List.getElem_toArray.{0}) ∧ (type_of% @List.getElem_cons_succ.{0}) ∧ (type_of% @List.getElem_cons_zero.{0}) ∧ (type_of% @List.setIfInBounds_toArray.{0}) ∧ (type_of% @List.set_cons_zero.{0}) ∧ (type_of% @List.set_cons_succ.{0}) := ⟨fun _ _ _ => rfl, fun _ _ => rfl, @List.getElem_toArray.{0}, @List.getElem_cons_succ.{0}, @List.getElem_cons_zero.{0}, @List.setIfInBounds_toArray.{0}, @List.set_cons_zero.{0}, @List.set_cons_succ.{0}⟩
theorem zT {P : Program} {ops : Array Oper} {Q : Exit → Act → World → Prop} {md : Region.Mode} {S : World → Prop} (i : Nat) {oi : Oper} {v : Value} {fuel : Nat} {listed : Array Bool} {a : Act} {w : World} (hy : ∀ w, S w → (execOp a.eval oi).run P w = .ok (.value v) w) (h : wpAnyH P md ops Q S fuel (listed.setIfInBounds i true) (a.put oi.dst v) w) (hi : ops[i]? = some oi := by rfl)
  (hs : Region.noSelect ops = true := by kernel_rfl) (hf : Region.free md ops listed i = true := by kernel_rfl) (hr : (Region.ready md ops listed).contains i = true := by kernel_rfl) (hQ : ∀ c a w, Q (.panic c) (a.put oi.dst v) w → Q (.panic c) a w := by exact fun _ _ _ h => h) (hw : Region.wanted oi (yielded ops a.tmps) = true := by rfl) (hS : S w := by assumption) : wpAnyH P md ops Q S (fuel + 1) listed a w := wpAnyH_take hi hs hf hr hQ (Or.inl ⟨hw, hy⟩) hS h
theorem zS {P : Program} {ops : Array Oper} {Q : Exit → Act → World → Prop} {md : Region.Mode} {S : World → Prop} (i : Nat) {oi : Oper} {fuel : Nat} {listed : Array Bool} {a : Act} {w : World} (h : wpAnyH P md ops Q S fuel (listed.setIfInBounds i true) (a.put oi.dst undef) w) (hi : ops[i]? = some oi := by rfl)
  (hs : Region.noSelect ops = true := by kernel_rfl) (hf : Region.free md ops listed i = true := by kernel_rfl) (hr : (Region.ready md ops listed).contains i = true := by kernel_rfl) (hQ : ∀ c a w, Q (.panic c) (a.put oi.dst undef) w → Q (.panic c) a w := by exact fun _ _ _ h => h) (hw : Region.wanted oi (yielded ops a.tmps) = false := by rfl) (hS : S w := by assumption) : wpAnyH P md ops Q S (fuel + 1) listed a w := wpAnyH_take hi hs hf hr hQ (Or.inr ⟨hw, rfl⟩) hS h
theorem zA.{u} : type_of% @List.getElem_toArray.{u} := @List.getElem_toArray
theorem zB.{u} : type_of% @List.getElem_cons_succ.{u} := @List.getElem_cons_succ
theorem zC.{u} : type_of% @List.getElem_cons_zero.{u} := @List.getElem_cons_zero
theorem zD.{u} : type_of% @List.setIfInBounds_toArray.{u} := @List.setIfInBounds_toArray
theorem zE.{u} : type_of% @List.set_cons_zero.{u} := @List.set_cons_zero
theorem zF.{u} : type_of% @List.set_cons_succ.{u} := @List.set_cons_succ
theorem zzp.{u} : type_of% @List.getElem?_eq_getElem.{u} := @List.getElem?_eq_getElem
theorem zzq.{u} : type_of% @List.getElem?_eq_some_iff.{u} := @List.getElem?_eq_some_iff
theorem zzr.{u} : type_of% @List.getElem_mem.{u} := @List.getElem_mem
theorem zG : type_of% @Nat.le_refl := @Nat.le_refl
theorem zH : type_of% @Nat.lt_of_lt_of_le := @Nat.lt_of_lt_of_le
theorem zI : type_of% @Nat.le_trans := @Nat.le_trans
theorem zzJ : type_of% @World.cell?_of_block := @World.cell?_of_block
theorem zzL : type_of% @World.cell?_setCell_other := @World.cell?_setCell_other
theorem zzM : type_of% @World.frozen?_of_block := @World.frozen?_of_block
theorem zzN : type_of% @World.size_alloc := @World.size_alloc
theorem zzW : type_of% @World.cell?_setCell_same := @World.cell?_setCell_same
theorem zzX : type_of% @Bool.and_eq_true := @Bool.and_eq_true
theorem zzY : type_of% @decide_eq_true_eq := @decide_eq_true_eq
theorem zzZ : type_of% @decide_eq_true := @decide_eq_true
theorem zzd : type_of% @decide_eq_false := @decide_eq_false
theorem zze : type_of% @Bool.eq_iff_iff := @Bool.eq_iff_iff
theorem zzn : type_of% @Nat.zero_add := @Nat.zero_add
theorem zzo : type_of% @Bool.true_and := @Bool.true_and
theorem zhA {P : Program} {ops : Array Oper} {Q : Exit → Act → World → Prop} {md : Region.Mode} {S : World → Prop} {fuel : Nat} {listed : Array Bool} {a : Act} {w : World} (i : Nat) {oi : Oper} {v : Value} {a2 : Act} (h : wpAnyH P md ops Q S fuel (listed.setIfInBounds i true) a2 w) (hi : ops[i]? = some oi := by rfl) (hy : ∀ w, S w → (execOp a.eval oi).run P w = .ok (.value v) w := by intro w hSw; (try replace hSw := hSw.out); (try have f := hSw.3); (try have f := hSw.4); (try have f := hSw.5); (try have f := hSw.6); (try have f := hSw.7); (repeat (have f := hSw.1; replace hSw := hSw.2)); go_simp; (try with_reducible rfl)) (ha : a.put oi.dst v = a2 := by (try simp only [zP]); (try rfl)) (hs : Region.noSelect ops = true := by kernel_rfl) (hf : Region.free md ops listed i = true := by kernel_rfl) (hr : (Region.ready md ops listed).contains i = true := by kernel_rfl) (hQ : ∀ c a w, Q (.panic c) (a.put oi.dst v) w → Q (.panic c) a w := by exact fun _ _ _ h => h) (hw : Region.wanted oi (yielded ops a.tmps) = true := by rfl) (hS : S w := by assumption) : wpAnyH P md ops Q S (fuel + 1) listed a w := by subst ha; exact wpAnyH_take hi hs hf hr hQ (Or.inl ⟨hw, hy⟩) hS h
theorem zhC {P : Program} {ops : Array Oper} {Q : Exit → Act → World → Prop} {md : Region.Mode} {S : World → Prop} {fuel : Nat} {listed : Array Bool} {a : Act} {w : World} (i : Nat) {oi : Oper} {v : Value} {a2 : Act} (h : wpAnyH P md ops Q S fuel (listed.setIfInBounds i true) a2 w) (hi : ops[i]? = some oi := by rfl) (hy : ∀ w, S w → (execOp a.eval oi).run P w = .ok (.value v) w := by intro w hSw; cases hSw.out; clear hSw; go_simp; (try with_reducible rfl)) (ha : a.put oi.dst v = a2 := by (try simp only [zP]); (try rfl)) (hs : Region.noSelect ops = true := by kernel_rfl) (hf : Region.free md ops listed i = true := by kernel_rfl) (hr : (Region.ready md ops listed).contains i = true := by kernel_rfl) (hQ : ∀ c a w, Q (.panic c) (a.put oi.dst v) w → Q (.panic c) a w := by exact fun _ _ _ h => h) (hw : Region.wanted oi (yielded ops a.tmps) = true := by rfl) (hS : S w := by assumption) : wpAnyH P md ops Q S (fuel + 1) listed a w := by subst ha; exact wpAnyH_take hi hs hf hr hQ (Or.inl ⟨hw, hy⟩) hS h
theorem zhD {P : Program} {ops : Array Oper} {Q : Exit → Act → World → Prop} {md : Region.Mode} {S : World → Prop} {fuel : Nat} {listed : Array Bool} {a : Act} {w : World} (i : Nat) {oi : Oper} {v : Value} {a2 : Act} (h : wpAnyH P md ops Q S fuel (listed.setIfInBounds i true) a2 w) (hi : ops[i]? = some oi := by rfl) (hy : ∀ w, S w → (execOp a.eval oi).run P w = .ok (.value v) w := by intro w hSw; go_simp; (try with_reducible rfl)) (ha : a.put oi.dst v = a2 := by (try simp only [zP]); (try rfl)) (hs : Region.noSelect ops = true := by kernel_rfl) (hf : Region.free md ops listed i = true := by kernel_rfl) (hr : (Region.ready md ops listed).contains i = true := by kernel_rfl) (hQ : ∀ c a w, Q (.panic c) (a.put oi.dst v) w → Q (.panic c) a w := by exact fun _ _ _ h => h) (hw : Region.wanted oi (yielded ops a.tmps) = true := by rfl) (hS : S w := by assumption) : wpAnyH P md ops Q S (fuel + 1) listed a w := by subst ha; exact wpAnyH_take hi hs hf hr hQ (Or.inl ⟨hw, hy⟩) hS h
theorem zhE {P : Program} {ops : Array Oper} {Q : Exit → Act → World → Prop} {md : Region.Mode} {S : World → Prop} {fuel : Nat} {listed : Array Bool} {a : Act} {w : World} (i : Nat) {oi : Oper} {v : Value} {a2 : Act} (h : wpAnyH P md ops Q S fuel (listed.setIfInBounds i true) a2 w) (hi : ops[i]? = some oi := by rfl) (hy : ∀ w, S w → (execOp a.eval oi).run P w = .ok (.value v) w := by intro w hSw; clear hSw; go_simp; (try with_reducible rfl)) (ha : a.put oi.dst v = a2 := by (try simp only [zP]); (try rfl)) (hs : Region.noSelect ops = true := by kernel_rfl) (hf : Region.free md ops listed i = true := by kernel_rfl) (hr : (Region.ready md ops listed).contains i = true := by kernel_rfl) (hQ : ∀ c a w, Q (.panic c) (a.put oi.dst v) w → Q (.panic c) a w := by exact fun _ _ _ h => h) (hw : Region.wanted oi (yielded ops a.tmps) = true := by rfl) (hS : S w := by assumption) : wpAnyH P md ops Q S (fuel + 1) listed a w := by subst ha; exact wpAnyH_take hi hs hf hr hQ (Or.inl ⟨hw, hy⟩) hS h
theorem zhF {P : Program} {ops : Array Oper} {Q : Exit → Act → World → Prop} {md : Region.Mode} {S : World → Prop} {fuel : Nat} {listed : Array Bool} {a : Act} {w : World} (i : Nat) {oi : Oper} {v : Value} {a2 : Act} {R : World → Prop} (hR : ∀ w, S w → R w) (h : wpAnyH P md ops Q S fuel (listed.setIfInBounds i true) a2 w) (hi : ops[i]? = some oi := by rfl) (hy : ∀ w, R w → (execOp a.eval oi).run P w = .ok (.value v) w := by intro w hSw; (repeat (have f := hSw.1; replace hSw := hSw.2)); go_simp; (try with_reducible rfl)) (ha : a.put oi.dst v = a2 := by (try simp only [zP]); (try rfl)) (hs : Region.noSelect ops = true := by kernel_rfl) (hf : Region.free md ops listed i = true := by kernel_rfl) (hr : (Region.ready md ops listed).contains i = true := by kernel_rfl) (hQ : ∀ c a w, Q (.panic c) (a.put oi.dst v) w → Q (.panic c) a w := by exact fun _ _ _ h => h) (hw : Region.wanted oi (yielded ops a.tmps) = true := by rfl) (hS : S w := by assumption) : wpAnyH P md ops Q S (fuel + 1) listed a w := by subst ha; exact wpAnyH_take hi hs hf hr hQ (Or.inl ⟨hw, (fun w h => hy w (hR w h))⟩) hS h
theorem zhS {P : Program} {ops : Array Oper} {Q : Exit → Act → World → Prop} {md : Region.Mode} {S : World → Prop} {fuel : Nat} {listed : Array Bool} {a : Act} {w : World} (i : Nat) {oi : Oper} {a2 : Act} (h : wpAnyH P md ops Q S fuel (listed.setIfInBounds i true) a2 w) (hi : ops[i]? = some oi := by rfl) (ha : a.put oi.dst undef = a2 := by (try simp only [zP]); (try rfl)) (hs : Region.noSelect ops = true := by kernel_rfl) (hf : Region.free md ops listed i = true := by kernel_rfl) (hr : (Region.ready md ops listed).contains i = true := by kernel_rfl) (hQ : ∀ c a w, Q (.panic c) (a.put oi.dst undef) w → Q (.panic c) a w := by exact fun _ _ _ h => h) (hw : Region.wanted oi (yielded ops a.tmps) = false := by rfl) (hS : S w := by assumption) : wpAnyH P md ops Q S (fuel + 1) listed a w := by subst ha; exact wpAnyH_take hi hs hf hr hQ (Or.inr ⟨hw, rfl⟩) hS h
theorem zhB {P : Program} {ops : Array Oper} {Q : Exit → Act → World → Prop} {md : Region.Mode} {S : World → Prop} {fuel : Nat} {listed : Array Bool} {a : Act} {w : World} (i : Nat) {oi : Oper} {v : Value} {a2 : Act} (h : wpAnyH P md ops Q S fuel (listed.setIfInBounds i true) a2 w) (hi : ops[i]? = some oi := by rfl) (hy : ∀ w, S w → (execOp a.eval oi).run P w = .ok (.value v) w := by intro w hSw; (try dsimp only [RMS] at hSw); go_simp; (try with_reducible rfl)) (ha : a.put oi.dst v = a2 := by (try simp only [zP]); (try rfl)) (hs : Region.noSelect ops = true := by kernel_rfl) (hf : Region.free md ops listed i = true := by kernel_rfl) (hr : (Region.ready md ops listed).contains i = true := by kernel_rfl) (hQ : ∀ c a w, Q (.panic c) (a.put oi.dst v) w → Q (.panic c) a w := by exact fun _ _ _ h => h) (hw : Region.wanted oi (yielded ops a.tmps) = true := by rfl) (hS : S w := by assumption) : wpAnyH P md ops Q S (fuel + 1) listed a w := by subst ha; exact wpAnyH_take hi hs hf hr hQ (Or.inl ⟨hw, hy⟩) hS h
theorem zzK {P : Program} {ops : Array Oper} {Q : Exit → Act → World → Prop} {md : Region.Mode} {S : World → Prop} {fuel : Nat} {listed : Array Bool} {a : Act} {w : World} (i : Nat) {o : Oper} (h : ∀ K' : Act → World → Prop, Shut (∀ a w, S w → (S w → wpAnyH P md ops Q S fuel (listed.setIfInBounds i true) a w) → K' a w) → if Region.wanted o (yielded ops a.tmps) = true then Oper.wp P o a w K' Q else K' (a.put o.dst undef) w) (ho : ops[i]? = some o := by rfl) (hr : Region.ready md ops listed = [i] := by kernel_rfl) : wpAnyH P md ops Q S (fuel + 1) listed a w := wpAnyH_ready hr (by simp) (AllReadyH.cons ho h AllReadyH.nil)
abbrev zl0 : Array Value := #[.int .u64 0, .int .u64 0, .int .u64 0, .int .u64 0, .int .u64 0, .int .u64 0, .int .u64 0, .int .u64 0, .int .u64 0, .int .u64 0, .int .u64 0, .int .u64 0, .int .u64 0, .int .u64 0, .int .u64 0, .int .u64 0, .int .u64 0, .int .u64 0, .int .u64 0, .int .u64 0, .int .u64 0, .int .u64 0, .int .u64 0, .int .u64 0, .int .u64 0, .int .u64 0, .int .u64 0, .int .u64 0, .int .u64 0, .int .u64 0, .int .u64 0, .int .u64 0, .int .u64 0, .int .u64 0, .int .u64 0, .int .u64 0, .int .u64 0, .int .u64 0, .int .u64 0, .int .u64 0, .int .u64 0, .int .u64 0, .int .u64 0, .int .u64 0, .int .u64 0, .int .u64 0, .int .i64 0, .int .i64 0, .int .i64 0, .bool false, .bool false]
abbrev zl1 : Array Value := #[.bool false, .int .i64 0, .int .i64 0, .int .i64 0, .bool false, .int .i64 0, .int .i64 0, .int .i64 0, .bool false, .int .i64 0, .int .i64 0, .int .i64 0, .bool false, .int .i64 0, .int .i64 0, .int .i64 0, .bool false, .int .i64 0, .int .i64 0, .int .i64 0, .bool false, .int .i64 0, .int .i64 0, .int .i64 0, .bool false, .int .i64 0, .int .i64 0, .int .i64 0, .bool false, .int .i64 0, .int .i64 0, .int .i64 0]
theorem hid {p:Prop} (h:p):Hid p:=h
def Sl (w:World) (a:Option Addr) (cs:List Value):Prop:=
 cs= []∨∃b off,a=some ⟨b,off,none⟩∧b < w.heap.size∧∀j (h:j < cs.length),w.cell? ⟨b,off+j,none⟩=some cs[j]
theorem Sl.nil (w:World) (a:Option Addr):Sl w a []:= .inl rfl
theorem Sl.below {w w':World} {a:Option Addr} {cs:List Value} (h:Sl w a cs) (hb:Below w.heap.size w w'):Sl w' a cs:=by
 rcases h with h | ⟨b,off,rfl,hlt,hc⟩
 ·exact .inl h
 ·exact .inr ⟨b,off,rfl,zH hlt hb.size,fun j hj=>(hb.cell (p:=⟨b,off+j,none⟩) hlt).trans (hc j hj)⟩
theorem Sl.at {w:World} {a:Option Addr} {cs:List Value} (h:Sl w a cs) {k:Nat} (hk:k < cs.length) :
  ∃b off,a=some ⟨b,off,none⟩∧b < w.heap.size∧∀j (h:j < cs.length),w.cell? ⟨b,off+j,none⟩=some cs[j]:=by
 rcases h with h | h
 ·subst h; simp at hk
 ·exact h
def ints (l:List Int):List Value:=l.map (Value.int .i64)
theorem yeS (l:List Int):(ints l).length=l.length:=by simp [ints]
theorem yhR (l m:List Int):ints (l ++ m)=ints l ++ ints m:=by simp [ints]
theorem ints_one (x:Int):ints [x]= [.int .i64 x]:=rfl
theorem Sl.atInt {w:World} {a:Option Addr} {l:List Int} (h:Sl w a (ints l)) {k:Nat} (hk:k < l.length) :
  ∃b off,a=some ⟨b,off,none⟩∧b < w.heap.size∧∀j (h:j < l.length),w.cell? ⟨b,off+j,none⟩=some (.int .i64 l[j]):=by
 obtain ⟨b,off,rfl,hlt,hc⟩:=Sl.at h (k:=k) (by rw [yeS]; exact hk)
 refine ⟨b,off,rfl,hlt,fun j hj=>?_⟩
 rw [hc j (by rw [yeS]; exact hj)]
 simp [ints]
theorem ybx {w:World} {base:Nat} {e:TypeId} {s:Nat} {v:Value} {n:Nat} {xs:List Value} (h:w.ownsRow base e s v n xs) :
  ∃a cap,v= .slice a n cap∧Sl w a xs∧n≤maxLen:=by
 obtain ⟨hl,h⟩:=h
 rcases h with ⟨rfl,rfl⟩ | ⟨g,cap,cur,rfl,hb,hg,hnc,hcm,hcs,ht⟩
 ·refine ⟨none,0,rfl, .inl ?_,by unfold maxLen; omega⟩
  exact List.eq_nil_of_length_eq_zero (by simpa using hl)
 ·refine ⟨_,cap,rfl, .inr ⟨g,0,rfl,(Array.getElem?_eq_some_iff.1 hg).1,fun j hj=>?_⟩,zI hnc hcm⟩
  have:=World.ownsRow.cellAt (w:=w) (base:=base) (e:=e) (size:=s) (g:=g) (n:=n) (cap:=cap) (xs:=xs)
   ⟨hl, .inr ⟨g,cap,cur,rfl,hb,hg,hnc,hcm,hcs,ht⟩⟩ j (by rw [←hl]; exact hj)
  rw [zzn,this,zzp hj]
theorem yf0 {w:World} {base:Nat} {e:TypeId} {s:Nat} {a:Option Addr} {m n cap:Nat} {xs:List Value} (h:w.ownsRow base e s (.slice a m cap) n xs):Sl w a xs:=by
 obtain ⟨a',c',e,hs,_⟩:=ybx h
 simp only [Value.slice.injEq] at e
 rw [e.1]; exact hs
theorem ybr {w w':World} {base B:Nat} {e:TypeId} {s:Nat} {v:Value} {n:Nat} {xs:List Value} (h:w.ownsRow base e s v n xs) (hb:Below B w w') (hB:w.heap.size≤B):w'.ownsRow base e s v n xs:=by
 refine h.kept (row:=none) ⟨hb.os,hb.tape,hb.output,hb.size,fun k hk _=>hb.block k (by omega)⟩ ?_
 cases hv:v.ownBlock <;> simp
theorem yeF {w:World} {base base':Nat} {e:TypeId} {s:Nat} {v:Value} {n:Nat} {xs:List Value} (h:w.ownsRow base e s v n xs) (hb:base'≤base):w.ownsRow base' e s v n xs:=by
 refine ⟨h.1,?_⟩
 rcases h.2 with h | ⟨g,cap,cur,rfl,hg,r⟩
 ·exact .inl h
 ·exact .inr ⟨g,cap,cur,rfl,by omega,r⟩
theorem Below.of_grown {B:Nat} {w w':World} {row:Option Nat} (hg:w.grownBy w' row) (hB:B≤w.heap.size) (hr:∀k,row=some k→B≤k):Below B w w':=
 (Below.refl B w).grown hg hB hr
theorem ybU {a b c:World} {row:Option Nat} (h:a.grownBy b row) (k:b.grownBy c row):a.grownBy c row:=
 ⟨k.os.trans h.os,k.tape.trans h.tape,k.output.trans h.output,zI h.size k.size,fun i hi hn=>(k.block i (zH hi h.size) hn).trans (h.block i hi hn)⟩
structure El (P:Program) (t e:TypeId) (z:Value) (size bytes:Nat):Prop where
 ht:P.underlying t=some (.slice e)
 hi:(P.info? e).map (fun i=>(i.zero,i.size,i.bytes))=some (some z,size,bytes)
 hzs:z.cells.size=size
 hsz:0 < size
theorem yfV {P:Program} {t e:TypeId} {z:Value} {size bytes:Nat} (E:El P t e z size bytes) (w:World) (ty:TypeId) {base:Nat} {v:Value} {n:Nat} {xs:List Value} (hown:w.ownsRow base e size v n xs)
  {ax:Option Addr} {m c:Nat} {news:List Value} (hl:news.length=m * size) (hsrc:Sl w ax news) (hnone:ax=none→c=0) (h1:∀u∈news,u.oneCell' =true)
  (hn:n+m≤1000000000000) (hby:(n+m) * bytes≤140737488355328) (hbase:base≤w.heap.size) :
  ∃a' cap' w',(Builtin.append_ #[t,t] ty #[v, .slice ax m c]).run P w= .ok (.slice a' (n+m) cap') w'∧w'.ownsRow base e size (.slice a' (n+m) cap') (n+m) (xs ++ news)∧w.grownBy w' v.ownBlock∧
   Below base w w'∧(∀k,Value.ownBlock (.slice a' (n+m) cap')=some k→v.ownBlock=some k∨w.heap.size≤k):=by
 obtain ⟨i,hi,hz0,hz1,hz2⟩:=info_parts E.hi
 have hmax:n+m≤maxLen:=by unfold maxLen; omega
 have hbel:∀w',w.grownBy w' v.ownBlock→Below base w w':=fun w' hg=>Below.of_grown hg hbase (fun k hk=>(hown.lt k hk).1)
 have key:∀ad,(∀j u,news[j]? =some u→w.cell? (Addr.add ad j)=some u)→
   ∃a' cap' w',(Builtin.append_ #[t,t] ty #[v, .slice (some ad) m c]).run P w= .ok (.slice a' (n+m) cap') w'∧w'.ownsRow base e size (.slice a' (n+m) cap') (n+m) (xs ++ news)∧w.grownBy w' v.ownBlock∧
   Below base w w'∧(∀k,Value.ownBlock (.slice a' (n+m) cap')=some k→v.ownBlock=some k∨w.heap.size≤k):=by
  intro ad hnews
  obtain ⟨v',w',hr,ho,hg,hnil⟩:=run_append_own (P:=P) w base t ty e i z size bytes E.ht hi hz0 hz1 hz2 E.hzs E.hsz v n xs hown ad m c news hl hnews h1 hmax hby hbase
  obtain ⟨a',cap',rfl,_,_⟩:=ybx ho
  refine ⟨a',cap',w',hr,ho,hg,hbel w' hg,?_⟩
  intro k hk
  rcases hown.2 with ⟨rfl,rfl⟩ | ⟨g,cap,cur,rfl,hbg,hgg,hnc,hcm,hcs,htake⟩
  ·obtain ⟨v2,w2,hr2,ho2,_,_⟩:=run_append_own (P:=P) w w.heap.size t ty e i z size bytes E.ht hi hz0 hz1 hz2 E.hzs E.hsz (.slice none 0 0) 0 xs ⟨hown.1, .inl ⟨rfl,rfl⟩⟩ ad m c news hl hnews h1 hmax hby (zG _)
   rw [hr] at hr2
   cases hr2
   exact .inr (ho2.lt k hk).1
  ·by_cases hroom:n+m≤cap
   ·subst hz1
    have hr2:=run_append_room (P:=P) w t ty e i E.ht hi g n cap cur hgg ad m c news hl hnews h1 hroom (by rw [hl,hcs,←Nat.add_mul]; exact Nat.mul_le_mul_right _ hroom)
    rw [hr] at hr2
    cases hr2
    exact .inl hk
   ·subst hz1
    subst hz2
    have hr2:=run_append_grow (P:=P) w t ty e i z E.ht hi hz0 ⟨g,0,none⟩ n cap xs hown.1 (hown.cells (g:=g) rfl) ad m c news hl hnews (by omega) (by omega) (growslice_fits (by omega) hby)
    rw [hr] at hr2
    cases hr2
    simp [Value.ownBlock] at hk
    exact .inr (by omega)
 rcases hsrc with rfl | ⟨b,off,rfl,hb,hc⟩
 ·cases ax with
  | some ad=>exact key ad (fun j u hu=>by simp at hu)
  | none=>
    have hm:m=0:=by
     rcases Nat.eq_zero_or_pos m with h | h
     ·exact h
     ·have:=Nat.mul_pos h E.hsz; simp at hl; omega
    subst hm
    rw [hnone rfl]
    have hr:=run_append_owned_none (P:=P) w base t ty e i size E.ht hi v n xs hown
    obtain ⟨a',cap',rfl,_,_⟩:=ybx hown
    exact ⟨a',cap',w,hr,by simpa using hown,World.grownBy.refl _ _,Below.refl _ _,fun k hk=> .inl hk⟩
 ·refine key _ (fun j u hu=>?_)
  obtain ⟨hj,rfl⟩:=zzq.1 hu
  rw [←hc j hj,Addr.add_lit]
theorem appN {P:Program} {t e:TypeId} {z:Value} {size bytes:Nat} (E:El P t e z size bytes) {W:World} {ops:Array Oper} {rest:List Oper} {o:Oper} {a:Act} {Q:Exit→Act→World→Prop} (s x:Operand)
  (hgd:o.guard=none) (ho:o.op= .call {callee:= .builtin .append,args:=#[s,x],argTypes:=#[t,t]})
  {base:Nat} {v:Value} {n:Nat} {xs:List Value} {ax:Option Addr} {m c:Nat} {news:List Value} (hs:a.eval s=v) (hx:a.eval x= .slice ax m c) (hown:W.ownsRow base e size v n xs)
  (hl:news.length=m * size) (hsrc:Sl W ax news) (hnone:ax=none→c=0) (h1:∀u∈news,u.oneCell' =true)
  (hn:n+m≤1000000000000) (hby:(n+m) * bytes≤140737488355328) (hbase:base≤W.heap.size)
  (K:∀a' cap' w',w'.ownsRow base e size (.slice a' (n+m) cap') (n+m) (xs ++ news)→W.grownBy w' v.ownBlock→Below base W w'→
    (∀k,Value.ownBlock (.slice a' (n+m) cap')=some k→v.ownBlock=some k∨W.heap.size≤k)→wpList P ops Q rest (a.put o.dst (.slice a' (n+m) cap')) w') :
  wpList P ops Q (o :: rest) a W:=by
 refine wpList_plain hgd fun K' hK'=>?_
 obtain ⟨a',cap',w',hr,ho',hg,hb,hf⟩:=yfV E W o.type hown hl hsrc hnone h1 hn hby hbase
 unfold Oper.wp execOp
 simp only [ho,resolve,invoke,builtin,Sem.run_bind,Sem.run_pure,Result.andThen_ok,List.map_toArray,List.map_cons,List.map_nil,hs,hx,hr]
 exact hK' _ _ (K a' cap' w' ho' hg hb hf)
theorem app1 {P:Program} {t e:TypeId} {z:Value} {bytes:Nat} (E:El P t e z 1 bytes) {W:World} {ops:Array Oper} {rest:List Oper} {o:Oper} {a:Act} {Q:Exit→Act→World→Prop} (s x:Operand)
  (hgd:o.guard=none) (ho:o.op= .call {callee:= .builtin .append,args:=#[s,x],argTypes:=#[t,t]})
  {base:Nat} {v:Value} {n:Nat} {xs:List Value} {u:Value} (hs:a.eval s=v) {g:Nat} (hx:a.eval x= .slice (some ⟨g,0,none⟩) 1 1) (hg:g=W.heap.size) (hown:W.ownsRow base e 1 v n xs) (hu:u.oneCell' =true)
  (hn:n+1≤1000000000000) (hby:(n+1) * bytes≤140737488355328) (hbase:base≤W.heap.size)
  (K:∀a' cap' w',w'.ownsRow base e 1 (.slice a' (n+1) cap') (n+1) (xs ++ [u])→W.grownBy w' v.ownBlock→Below base W w'→
    (∀k,Value.ownBlock (.slice a' (n+1) cap')=some k→v.ownBlock=some k∨W.heap.size≤k)→wpList P ops Q rest (a.put o.dst (.slice a' (n+1) cap')) w') :
  wpList P ops Q (o :: rest) a (W.alloc (.cells #[u] e)):=by
 subst hg
 refine appN E s x hgd ho hs hx (hown.alloc _) (news:= [u]) rfl ?_ (fun h=>by cases h) ?_ hn hby (by simp; omega) ?_
 ·refine .inr ⟨W.heap.size,0,rfl,by simp,fun j hj=>?_⟩
  have:j=0:=by simp at hj; omega
  subst this
  simp
 ·intro y hy; simp at hy; subst hy; exact hu
 ·intro a' cap' w' h1 h2 h3 h4
  refine K a' cap' w' h1 (ybU (World.grownBy_alloc W _ _) h2) (((Below.refl base W).alloc hbase _).trans h3) (fun k hk=>?_)
  rcases h4 k hk with h | h
  ·exact .inl h
  ·refine .inr (zI ?_ h); simp
theorem yhf {P:Program} {t e:TypeId} {z:Value} {size bytes:Nat} (E:El P t e z size bytes) {W:World} {arr:Array Value} {ops:Array Oper} {rest:List Oper} {o:Oper} {a:Act} {Q:Exit→Act→World→Prop} (s x:Operand)
  (hgd:o.guard=none) (ho:o.op= .call {callee:= .builtin .append,args:=#[s,x],argTypes:=#[t,t]})
  {base:Nat} {v:Value} {n m:Nat} {xs:List Value} (hs:a.eval s=v) {g:Nat} (hx:a.eval x= .slice (some ⟨g,0,none⟩) m m) (hg:g=W.heap.size) (hown:W.ownsRow base e size v n xs) (hl:arr.toList.length=m * size) (hu:∀u∈arr.toList,u.oneCell' =true)
  (hn:n+m≤1000000000000) (hby:(n+m) * bytes≤140737488355328) (hbase:base≤W.heap.size)
  (K:∀a' cap' w',w'.ownsRow base e size (.slice a' (n+m) cap') (n+m) (xs ++ arr.toList)→W.grownBy w' v.ownBlock→Below base W w'→
    (∀k,Value.ownBlock (.slice a' (n+m) cap')=some k→v.ownBlock=some k∨W.heap.size≤k)→wpList P ops Q rest (a.put o.dst (.slice a' (n+m) cap')) w') :
  wpList P ops Q (o :: rest) a (W.alloc (.cells arr e)):=by
 subst hg
 refine appN E s x hgd ho hs hx (hown.alloc _) (news:=arr.toList) hl ?_ (fun h=>by cases h) hu hn hby (by simp; omega) ?_
 ·refine .inr ⟨W.heap.size,0,rfl,by simp,fun j hj=>?_⟩
  simp at hj
  simp [hj]
 ·intro a' cap' w' h1 h2 h3 h4
  refine K a' cap' w' h1 (ybU (World.grownBy_alloc W _ _) h2) (((Below.refl base W).alloc hbase _).trans h3) (fun k hk=>?_)
  rcases h4 k hk with h | h
  ·exact .inl h
  ·refine .inr (zI ?_ h); simp
theorem ygT {w:World} {base:Nat} {e:TypeId} {s:Nat} {a:Option Addr} {m n cap:Nat} {xs:List Value} (h:w.ownsRow base e s (.slice a m cap) n xs):a=none→cap=0:=by
 intro ha
 subst ha
 rcases h.2 with ⟨h,_⟩ | ⟨g,c,cur,h,_⟩
 ·cases h; rfl
 ·cases h
theorem own_ret {P:Program} {f:FuncId} {args:Array Value} {w:World} {B:Nat} {T:TypeId} {s N:Nat} {xs:List Value}
  (h:Calls P f args w fun e w'=>∃v,e= .returned v∧w'.ownsRow B T s v N xs∧Below w.heap.size w w') :
  Calls P f args w fun e w'=>∃a n cap,e= .returned (.slice a n cap)∧Hid (n=N)∧Sl w' a xs∧w'.ownsRow B T s (.slice a n cap) n xs∧Below w.heap.size w w':=
 h.mono fun e w' ⟨v,he,ho,hb⟩=>by
  obtain ⟨a,cap,rfl,hs,_⟩:=ybx ho
  exact ⟨a,N,cap,he,rfl,hs,ho,hb⟩
theorem yab {B:Nat} {a w:World} {b o:Nat} {u:Value} (h:Below B a w) (hb:B≤b):Below B a (w.setCell ⟨b,o,none⟩ u):=Below.setCell h (p:=⟨b,o,none⟩) hb u
theorem yaa {B:Nat} {a w:World} {o:Obj} (h:Below B a w) (hb:B≤w.heap.size):Below B a (w.alloc o):=h.alloc hb o
theorem w64 (x:Int) (h:-9223372036854775808≤x∧x≤9223372036854775807):wrap64 x=x:=by unfold wrap64; omega
theorem yap {α:Type} (l:List α) (k:Nat) (h:k < l.length):l.take (k+1)=l.take k ++ [l[k]]:=by
 rw [List.take_succ_eq_append_getElem h]
theorem yaT {a b:Bool} (h:a=b):Ending.returned (.bool a)= .returned (.bool b):=by rw [h]
theorem ycm {B:Nat} {a w:World} (h:Below B a w) (n:Nat):Below B a (w.drewN n):=h.trans ⟨rfl,rfl,rfl,zG _,fun _ _=>rfl⟩
end
section
open Go.RowKit
def yby (p:Nat→Bool):Nat→Nat
 | 0=>0
 | n+1=>yby p n+(if p n then 2 ^ n else 0)
theorem yeK (p:Nat→Bool) (n:Nat):yby p n < 2 ^ n:=by
 induction n with
 | zero=>simp [yby]
 | succ n ih=>rw [yby,Nat.pow_succ]; split <;> omega
theorem yhJ (p:Nat→Bool) (n i:Nat):(yby p n).testBit i= (decide (i < n) && p i):=by
 induction n with
 | zero=>simp [yby]
 | succ n ih=>
   have hlt:=yeK p n
   rw [yby]
   by_cases hp:p n=true
   ·rw [if_pos hp,Nat.add_comm]
    by_cases hi:i=n
    ·subst hi
     rw [Nat.testBit_two_pow_add_eq,Nat.testBit_lt_two_pow hlt]
     simp [hp]
    ·rcases Nat.lt_or_gt_of_ne hi with h | h
     ·rw [Nat.testBit_two_pow_add_gt h,ih]
      simp [h,show i < n+1 by omega]
     ·have:(2 ^ n+yby p n) < 2 ^ i:=zH (by omega:2 ^ n+yby p n < 2 ^ (n+1)) (Nat.pow_le_pow_right (by omega) (by omega))
      rw [Nat.testBit_lt_two_pow this]
      simp [show¬i < n+1 by omega]
   ·rw [if_neg hp,Nat.add_zero,ih]
    by_cases hi:i=n
    ·subst hi
     simp [Bool.eq_false_iff.2 hp]
    ·by_cases h:i < n
     ·simp [h,show i < n+1 by omega]
     ·simp [h,show¬i < n+1 by omega]
def mk (p:Nat→Bool):Nat:=yby p 64
theorem yao (p:Nat→Bool):mk p < 18446744073709551616:=yeK p 64
theorem yaw (p:Nat→Bool) (i:Nat):(mk p).testBit i= (decide (i < 64) && p i):=yhJ p 64 i
theorem ycd {m i:Nat} (hm:m < 18446744073709551616) (hi:64≤i):m.testBit i=false:=
 Nat.testBit_lt_two_pow (zH hm (Nat.pow_le_pow_right (n:=2) (by omega) hi))
theorem ydV {m:Nat} {p:Nat→Bool} (hm:m < 18446744073709551616) (h:∀i,i < 64→m.testBit i=p i):m=mk p:=by
 apply Nat.eq_of_testBit_eq
 intro i
 rw [yaw]
 by_cases hi:i < 64
 ·rw [h i hi]; simp [hi]
 ·rw [ycd hm (by omega)]; simp [hi]
theorem yaC {p q:Nat→Bool} (h:∀i,i < 64→p i=q i):mk p=mk q:=
 ydV (yao p) (fun i hi=>by rw [yaw]; simp [hi,h i hi])
theorem ybu:mk (fun _=>false)=0:=(ydV (by omega) (fun i _=>by simp)).symm
theorem yaN {a:Nat} (ha:a < 18446744073709551616):(BitVec.ofInt 64 (a:Int)).toNat=a:=by
 rw [BitVec.ofInt_natCast,BitVec.toNat_ofNat]; exact Nat.mod_eq_of_lt (by omega)
theorem ybe {a:Nat} (ha:a < 18446744073709551616):IntKind.u64.wrap (a:Int)=a:=by
 rw [IntKind.wrap_u64]; omega
theorem yaI {a b:Nat} (ha:a < 18446744073709551616) (hb:b < 18446744073709551616):bits .or .u64 (a:Int) (b:Int)= ((a ||| b:Nat):Int):=by
 show IntKind.u64.wrap ((BitVec.ofInt 64 (a:Int) ||| BitVec.ofInt 64 (b:Int)).toNat:Int)= _
 rw [BitVec.toNat_or,yaN ha,yaN hb]
 exact ybe (Nat.or_lt_two_pow (n:=64) ha hb)
theorem yar {a b:Nat} (ha:a < 18446744073709551616) (hb:b < 18446744073709551616):bits .and .u64 (a:Int) (b:Int)= ((a &&& b:Nat):Int):=by
 show IntKind.u64.wrap ((BitVec.ofInt 64 (a:Int) &&& BitVec.ofInt 64 (b:Int)).toNat:Int)= _
 rw [BitVec.toNat_and,yaN ha,yaN hb]
 exact ybe (Nat.lt_of_le_of_lt Nat.and_le_left ha)
theorem yeH {a b:Nat} (ha:a < 18446744073709551616) (hb:b < 18446744073709551616):a ||| b < 18446744073709551616:=Nat.or_lt_two_pow (n:=64) ha hb
theorem yaU {a b:Nat} (ha:a < 18446744073709551616):a &&& b < 18446744073709551616:=Nat.lt_of_le_of_lt Nat.and_le_left ha
theorem ybS {n:Nat} (h:n < 64):2 ^ n < 18446744073709551616:=Nat.pow_lt_pow_right (a:=2) (m:=n) (n:=64) (by omega) h
theorem ybt {n:Nat} (h:n < 64):IntKind.u64.wrap ((2:Int) ^ n)= ((2 ^ n:Nat):Int):=by
 have e:((2:Int) ^ n)= ((2 ^ n:Nat):Int):=by simp
 rw [e]; exact ybe (ybS h)
theorem has_bit {m n:Nat} (hm:m < 18446744073709551616):(bits .and .u64 ((m:Int) / 2 ^ n) 1 == 1)=m.testBit n:=by
 have e:((m:Int) / 2 ^ n)= ((m / 2 ^ n:Nat):Int):=by simp
 have h:=yar (a:=m / 2 ^ n) (b:=1) (Nat.lt_of_le_of_lt (Nat.div_le_self _ _) hm) (by omega)
 rw [e,show (1:Int)= ((1:Nat):Int) from rfl,h,Nat.and_one_is_mod,Nat.testBit_eq_decide_div_mod_eq]
 rw [zze]
 simp
 omega
end
section
open Go.RowKit
def hasB (m:Nat) (n:Int):Bool:=decide (0≤n) && m.testBit n.toNat
theorem ydg (m:Nat) (n:Int) (w:World) (hm:m < 18446744073709551616):Calls Tryz.prog 129 #[.int .u64 m, .int .i64 n] w fun e w'=>e= .returned (.bool (hasB m n))∧w=w':=by
 have hb:=fun k=>has_bit (n:=k) hm
 have Hb:=hid hb
 have Hm:=hid (fun i (hi:64≤i)=>ycd hm hi)
 clear hb
 by_cases h0:n < 0
 ·have hr:Hid (hasB m n=false):=by show hasB m n=false; simp [hasB]; omega
  go_enter Tryz.func129,Tryz.ntmps129
  go_wp2
  go_ret
  rw [hr.out]; exact ⟨rfl,rfl⟩
 by_cases h1:64≤n
 ·have hr:Hid (hasB m n=false):=by show hasB m n=false; rw [hasB,Hm.out n.toNat (by omega)]; simp
  go_enter Tryz.func129,Tryz.ntmps129
  go_wp2
  go_ret
  rw [hr.out]; exact ⟨rfl,rfl⟩
 obtain ⟨k,rfl⟩:=Int.eq_ofNat_of_zero_le (by omega:0≤n)
 have hr:Hid (hasB m (k:Int)=m.testBit k):=by show hasB m (k:Int)=m.testBit k; simp [hasB]
 go_enter Tryz.func129,Tryz.ntmps129
 go_wp2
 go_ret
 rw [hr.out,Hb.out]; exact ⟨rfl,rfl⟩
def inB (l:List Int) (k:Nat):Bool:=decide ((k:Int)∈l)
def ofM (l:List Int):Nat:=mk (inB l)
theorem yiR (l:List Int) (x:Int) (k:Nat):inB (l ++ [x]) k= (inB l k || decide ((k:Int)=x)):=by simp [inB]
theorem ofM_out (l:List Int) (x:Int) (h:x < 0∨64≤x):ofM (l ++ [x])=ofM l:=
 yaC fun i hi=>by rw [yiR]; simp; omega
theorem yiJ (l:List Int) (k:Nat) (h:k < 64):ofM l ||| 2 ^ k=ofM (l ++ [(k:Int)]):=by
 refine ydV (yeH (yao _) (ybS h)) (fun i hi=>?_)
 rw [Nat.testBit_or,ofM,yaw,yiR,Nat.testBit_two_pow]
 simp [hi]
 by_cases h2:i=k
 ·subst h2; simp
 ·have h3:¬k=i:=fun e=>h2 e.symm
  have h4:¬(i:Int)= (k:Int):=by omega
  simp [h3,h4]
theorem ofM_nil:ofM []=0:=by rw [ofM,←ybu]; exact yaC fun i _=>by simp [inB]
theorem MOf_any (a:Option Addr) (cap:Nat) (l:List Int) (w:World) (hl:l.length≤9223372036854775807) (hs:Sl w a (ints l)) :
  Calls Tryz.prog 70 #[.slice a l.length cap] w fun e w'=>e= .returned (.int .u64 (ofM l))∧Below w.heap.size w w':=by
 go_enter Tryz.func70,Tryz.ntmps70
 go_wp2
 go_loopw [3,8] (fun v i wr=>∃k:Nat,i= .int .i64 k∧k≤l.length∧v= .int .u64 (ofM (l.take k))∧Below w.heap.size w wr) (fun _ i _=>l.length - (intOf i).toNat)
 case atStart=>exact ⟨0,rfl,by omega,by rw [List.take_zero,ofM_nil]; rfl,Below.refl _ _⟩
 case round=>
  obtain ⟨k,rfl,hk,rfl,hB⟩:=hrel
  obtain ⟨M,hM⟩:∃M,ofM (l.take k)=M:=⟨_,rfl⟩
  have HM:=hid hM
  by_cases hlt:k < l.length
  ·obtain ⟨b,off,rfl,hb,hc⟩:=hs.atInt hlt
   have e1:=(hB.cell (p:=⟨b,off+k,none⟩) hb).trans (hc k hlt)
   have ht:=hid (yap l k hlt)
   obtain ⟨x,hx⟩:∃x,l[k]=x:=⟨_,rfl⟩
   rw [hx] at e1 ht
   rw [hM]
   have hMl:M < 18446744073709551616:=by rw [←hM]; exact yao _
   clear hs hc hx hM
   by_cases h0:x < 0
   ·go_wp2
    exact ⟨⟨k+1,by go_num,by omega,by rw [ht.out,ofM_out _ _ (.inl h0),HM.out],hB⟩,by simp [intOf]; omega⟩
   by_cases h1:64≤x
   ·go_wp2
    exact ⟨⟨k+1,by go_num,by omega,by rw [ht.out,ofM_out _ _ (.inr h1),HM.out],hB⟩,by simp [intOf]; omega⟩
   obtain ⟨n,rfl⟩:=Int.eq_ofNat_of_zero_le (by omega:0≤x)
   have hn:n < 64:=by omega
   have hor:=yaI hMl (ybS hn)
   rw [←HM.out,yiJ _ _ hn,HM.out] at hor
   have Hor:=hid hor
   clear hor
   go_wp2
   exact ⟨⟨k+1,by go_num,by omega,by rw [ht.out,ybt hn,Hor.out],hB⟩,by simp [intOf]; omega⟩
  ·have hke:k=l.length:=by omega
   have Hke:=hid hke
   clear hke hM
   go_wp2
   go_ret
   rw [Hke.out,List.take_length]
   exact ⟨rfl,hB⟩
/-! ### the document's -/
theorem yc0 (m:Nat) (n:Int) (w:World) (hm:m < 18446744073709551616):Calls Tryz.prog 16 #[.int .u64 m, .int .i64 n] w fun e w'=>e= .returned (.bool (hasB m n))∧w=w':=by
 have Hm:=hid (fun i (hi:64≤i)=>ycd hm hi)
 by_cases h0:n < 0
 ·have hr:Hid (hasB m n=false):=by show hasB m n=false; simp [hasB]; omega
  go_enter Tryz.func16,Tryz.ntmps16
  go_wp2
  go_ret
  rw [hr.out]; exact ⟨rfl,rfl⟩
 by_cases h1:63 < n
 ·have hr:Hid (hasB m n=false):=by show hasB m n=false; rw [hasB,Hm.out n.toNat (by omega)]; simp
  go_enter Tryz.func16,Tryz.ntmps16
  go_wp2
  go_ret
  rw [hr.out]; exact ⟨rfl,rfl⟩
 obtain ⟨k,rfl⟩:=Int.eq_ofNat_of_zero_le (by omega:0≤n)
 have hr:Hid (hasB m (k:Int)=m.testBit k):=by show hasB m (k:Int)=m.testBit k; simp [hasB]
 go_enter Tryz.func16,Tryz.ntmps16
 go_wp2
 go_loop [0,5] (fun v i=>∃j:Nat,i= .int .i64 j∧j≤k∧v= .int .u64 ((m / 2 ^ j:Nat):Int)) (fun _ i=>k - (intOf i).toNat)
 case atStart=>exact ⟨0,rfl,by omega,by simp⟩
 case round=>
  obtain ⟨j,rfl,hj,rfl⟩:=hrel
  obtain ⟨q,hq⟩:∃q,m / 2 ^ j=q:=⟨_,rfl⟩
  have Hq:=hid hq
  rw [hq]
  have hql:q < 18446744073709551616:=by rw [←hq]; exact Nat.lt_of_le_of_lt (Nat.div_le_self _ _) hm
  clear hq
  by_cases hlt:j < k
  ·go_wp2
   refine ⟨⟨j+1,by go_num,by omega,?_⟩,by simp [intOf]; omega⟩
   rw [Nat.pow_succ,←Nat.div_div_eq_div_mul,Hq.out]
   simp
  ·have hjk:j=k:=by omega
   have Hjk:=hid hjk
   clear hjk
   go_wp2
   go_ret
   refine ⟨yaT ?_,rfl⟩
   rw [hr.out,←Hjk.out,Nat.testBit_eq_decide_div_mod_eq,Hq.out]
   rw [zze]
   simp
   omega
theorem shift_in (p:Nat→Bool) (n:Nat):yby (fun i=>p (n+i)) (64 - n) < 18446744073709551616:=
 zH (yeK _ _) (Nat.pow_le_pow_right (n:=2) (i:=64 - n) (j:=64) (by omega) (by omega))
theorem yeL (p:Nat→Bool):∀(n:Nat),yby p (n+1)=2 * yby (fun i=>p (i+1)) n+(if p 0 then 1 else 0)
 | 0=>by simp [yby]
 | n+1=>by
   rw [yby,yeL p n,yby,Nat.pow_succ]
   by_cases h:p (n+1)=true
   ·rw [if_pos h,if_pos h]; omega
   ·rw [if_neg h,if_neg h]; omega
def upM (p:Nat→Bool) (n:Nat):Nat:=yby (fun i=>p (n+i)) (64 - n)
theorem yfM (p:Nat→Bool) (n:Nat) (h:n < 64):upM p n=2 * upM p (n+1)+(if p n then 1 else 0):=by
 unfold upM
 rw [show 64 - n= (64 - (n+1))+1 by omega,yeL]
 simp only [Nat.add_zero]
 congr 3
 funext i
 congr 1
 omega
theorem upM_64 (p:Nat→Bool):upM p 64=0:=rfl
theorem upM_0 (p:Nat→Bool):upM p 0=mk p:=by unfold upM mk; congr 1; funext i; rw [zzn]
theorem upM_lt (p:Nat→Bool) (n:Nat):upM p n < 18446744073709551616:=shift_in p n
theorem yir (p:Nat→Bool) (n:Nat):2 * upM p (n+1) < 18446744073709551616∨64≤n:=by
 by_cases h:64≤n
 ·exact .inr h
 ·left
  have:=yfM p n (by omega)
  have h2:=upM_lt p n
  split at this <;> omega
theorem ROf_any (a:Option Addr) (cap:Nat) (l:List Int) (w:World) (hl:l.length≤9223372036854775807) (hs:Sl w a (ints l)) :
  Calls Tryz.prog 51 #[.slice a l.length cap] w fun e w'=>e= .returned (.int .u64 (ofM l))∧Below w.heap.size w w':=by
 go_enter Tryz.func51,Tryz.ntmps51
 go_wp2
 go_loopw [3,4] (fun v i wr=>∃n:Nat,n≤64∧i= .int .i64 ((n:Int) - 1)∧v= .int .u64 (upM (inB l) n)∧Below w.heap.size w wr) (fun _ i _=>(intOf i+1).toNat)
 case atStart=>exact ⟨64,by omega,by simp,by rw [upM_64]; rfl,Below.refl _ _⟩
 case round=>
  obtain ⟨wo,rfl⟩:∃wo:World,wo=wr:=⟨_,rfl⟩
  obtain ⟨n,hn,rfl,rfl,hB⟩:=hrel
  cases n with
  | zero=>
    go_wp2
    go_ret
    rw [upM_0]
    exact ⟨rfl,hB⟩
  | succ n=>
    have hst:=hid (yfM (inB l) n (by omega))
    have hh:=yir (inB l) n
    obtain ⟨M,hM⟩:∃M,upM (inB l) (n+1)=M:=⟨_,rfl⟩
    have HM:=hid hM
    rw [hM] at hst hh⊢
    have hM2:2 * M < 18446744073709551616:=by omega
    have e1:((n+1:Nat):Int) - 1= (n:Int):=by omega
    rw [e1]
    clear hM e1
    go_wp2
    go_loopw [3,5] (fun v i wr=>∃j:Nat,i= .int .i64 j∧j≤l.length∧v= .int .u64 (2 * (M:Int))∧(∀t,(h:t < j)→(h2:t < l.length)→l[t]≠(n:Int))∧Below w.heap.size w wr) (fun _ i _=>l.length - (intOf i).toNat)
    case atStart=>exact ⟨0,rfl,by omega,rfl,fun t h=>by omega,hB⟩
    case round=>
     obtain ⟨j,rfl,hj,rfl,hno,hB2⟩:=hrel
     have Hno:=hid hno
     clear hno hB
     by_cases hlt:j < l.length
     ·obtain ⟨b,off,rfl,hb,hc⟩:=hs.atInt hlt
      have e1:=(hB2.cell (p:=⟨b,off+j,none⟩) hb).trans (hc j hlt)
      obtain ⟨x,hx⟩:∃x,l[j]=x:=⟨_,rfl⟩
      rw [hx] at e1
      have Hx:=hid hx
      clear hs hc hx
      by_cases hxn:x= (n:Int)
      ·have hb1:(x == (n:Int))=true:=by simp [hxn]
       have Hxn:=hid hxn
       have hin:inB l n=true:=by simp only [inB,zzY]; rw [←hxn,←Hx.out]; exact zzr _
       have hst2:=hst.out
       rw [hin,if_pos rfl] at hst2
       have Hst:=hid hst2
       have hml:=upM_lt (inB l) n
       rw [hst2] at hml
       clear hxn hin hst2
       go_wp2
       refine ⟨⟨n,by omega,by go_num,?_,hB2⟩,by simp [intOf]⟩
       rw [Hst.out]; go_num
      ·have hb1:(x == (n:Int))=false:=by simp [hxn]
       have Hxn:=hid hxn
       clear hxn
       go_wp2
       refine ⟨⟨j+1,by go_num,by omega,rfl,?_,hB2⟩,by simp [intOf]; omega⟩
       intro t ht ht2
       by_cases htj:t=j
       ·subst htj; rw [Hx.out]; exact Hxn.out
       ·exact Hno.out t (by omega) ht2
     ·have hin:inB l n=false:=by
       simp only [inB,decide_eq_false_iff_not]
       intro hm
       obtain ⟨t,ht,he⟩:=List.getElem_of_mem hm
       exact Hno.out t (by omega) ht he
      have hst2:=hst.out
      rw [hin] at hst2
      have Hst:=hid hst2
      clear hin hst2
      go_wp2
      refine ⟨⟨n,by omega,by go_num,?_,hB2⟩,by simp [intOf]⟩
      rw [Hst.out]; simp
end
section
open Go.RowKit
def ycv (f t s:Int) (k:Nat):Bool:=decide (1≤s∧f≤(k:Int)∧(k:Int)≤t∧((k:Int) - f) % s=0)
def yaX (f t s:Int):Nat:=mk (ycv f t s)
def ydi (f t s:Int) (n:Nat):Nat:=mk (fun k=>ycv f t s k && decide (k < n))
theorem yeJ {a b s:Int} (hs:1≤s) (ha:a % s=0) (hb:b % s=0) (h1:a < b) (h2:b < a+s):False:=by
 have h:=Int.emod_emod_of_dvd (b - a) (Int.dvd_refl s)
 have h3:(b - a) % s=0:=by rw [Int.sub_emod,ha,hb]; simp
 have h4:(b - a) % s=b - a:=Int.emod_eq_of_lt (by omega) (by omega)
 omega
theorem yce (f t s:Int) (n:Nat) (hs:1≤s) (h64:n < 64) (hf:f≤(n:Int)) (ht:(n:Int)≤t) (hm:((n:Int) - f) % s=0) (q:Nat) (hq:(q:Int)=n+s∨64≤q∧(q:Int)≤n+s) :
  ydi f t s n ||| 2 ^ n=ydi f t s q:=by
 refine ydV (yeH (yao _) (ybS h64)) (fun k hk=>?_)
 rw [Nat.testBit_or,ydi,yaw,Nat.testBit_two_pow]
 by_cases hkn:n=k
 ·subst hkn
  have:ycv f t s n=true:=by simp only [ycv,zzY]; exact ⟨hs,hf,ht,hm⟩
  simp [this]
  omega
 ·rcases Nat.lt_or_gt_of_ne hkn with h | h
  ·by_cases hb:ycv f t s k=true
   ·simp only [ycv,zzY] at hb
    have hbq:¬(k:Int) < n+s:=fun h2=>yeJ hs hm hb.2.2.2 (by omega) (by omega)
    have e1:¬k < n:=by omega
    have e2:¬k < q:=by omega
    simp [hkn,e1,e2]
   ·simp [hb,hkn]
  ·have e1:k < n:=h
   have e2:k < q:=by omega
   simp [hkn,e1,e2,hk]
theorem ycR (f t s:Int) (n:Nat) (h:64≤n∨t < (n:Int)):ydi f t s n=yaX f t s:=
 yaC fun k hk=>by
  rcases h with h | h
  ·simp [show k < n by omega]
  ·by_cases hb:ycv f t s k=true
   ·simp only [ycv,zzY] at hb
    simp [show k < n by omega]
   ·simp [hb]
theorem yd7 (f t s:Int) (n:Nat) (hs:1≤s) (hm:((n:Int) - f) % s=0) (h:(n:Int)=f∨(n:Int) < s):ydi f t s n=0:=by
 rw [←ybu]
 refine yaC fun k hk=>?_
 by_cases hb:ycv f t s k=true
 ·simp only [ycv,zzY] at hb
  have:¬k < n:=by
   intro hkn
   rcases h with h | h
   ·omega
   ·exact yeJ hs hb.2.2.2 hm (by omega) (by omega)
  simp [this]
 ·simp [hb]
theorem span_none (f t s:Int) (h:s < 1):yaX f t s=0:=by
 rw [yaX,←ybu]
 exact yaC fun k _=>by simp [ycv]; omega
theorem ybM (f t s:Int) (w:World) (hf:-9223372036854775808≤f∧f≤9223372036854775807) (hsm:s≤9223372036854775807) :
  Calls Tryz.prog 80 #[.int .i64 f, .int .i64 t, .int .i64 s] w fun e w'=>e= .returned (.int .u64 (yaX f t s))∧w=w':=by
 obtain ⟨hf1,hf2⟩:=hf
 by_cases hs:s < 1
 ·have hr:=hid (span_none f t s hs)
  go_enter Tryz.func80,Tryz.ntmps80
  go_wp2
  go_ret
  rw [hr.out]; exact ⟨rfl,rfl⟩
 by_cases h0:f < 0
 ·obtain ⟨r,hr⟩:∃r,(f+1).tmod s=r:=⟨_,rfl⟩
  have hr1:-s < r∧r≤0:=by
   subst hr
   rw [show f+1= -(-(f+1)) by omega,Int.neg_tmod,Int.tmod_eq_emod_of_nonneg (by omega)]
   have:=Int.emod_nonneg (-(f+1)) (show s≠0 by omega)
   have:=Int.emod_lt_of_pos (-(f+1)) (show 0 < s by omega)
   omega
  obtain ⟨n0,hn0⟩:=Int.eq_ofNat_of_zero_le (show 0≤r - 1+s by omega)
  have hmod:((n0:Int) - f) % s=0:=by
   rw [←hn0,←hr]
   have:=Int.tmod_add_mul_tdiv (f+1) s
   rw [show (f+1).tmod s - 1+s - f=s * (1 - (f+1).tdiv s) by rw [Int.mul_sub]; omega]
   exact Int.mul_emod_right _ _
  have Hst:=hid (yd7 f t s n0 (by omega) hmod (.inr (by omega)))
  have Hmod:=hid hmod
  have Hn0:=hid hn0
  have hn1:f≤(n0:Int):=by omega
  have hn2:(n0:Int) < s:=by omega
  obtain ⟨hr2,hr3⟩:=hr1
  clear hmod hn0
  go_enter Tryz.func80,Tryz.ntmps80
  go_wp2
  rw [Hn0.out]
  go_loop [7,8] (fun v i=>∃n:Nat,i= .int .i64 n∧v= .int .u64 (ydi f t s n)∧f≤(n:Int)∧((n:Int) - f) % s=0) (fun _ i=>(64 - intOf i).toNat)
  case atStart=>exact ⟨n0,rfl,by rw [Hst.out]; rfl,hn1,Hmod.out⟩
  case round=>
   obtain ⟨n,rfl,rfl,hfn,hm⟩:=hrel
   have Hm:=hid hm
   have Hall:=hid (ycR f t s n)
   obtain ⟨M,hM⟩:∃M,ydi f t s n=M:=⟨_,rfl⟩
   have HM:=hid hM
   rw [hM] at Hall⊢
   have hMl:M < 18446744073709551616:=by rw [←hM]; exact yao _
   clear hM hm
   by_cases h64:64≤n
   ·have hr:=hid (Hall.out (.inl h64))
    go_wp2
    go_ret
    rw [hr.out]; exact ⟨rfl,rfl⟩
   by_cases hnt:t < (n:Int)
   ·have hr:=hid (Hall.out (.inr hnt))
    go_wp2
    go_ret
    rw [hr.out]; exact ⟨rfl,rfl⟩
   have hn64:n < 64:=by omega
   have hor:=hid (yaI hMl (ybS hn64))
   by_cases h65:64≤s
   ·have hst:=yce f t s n (by omega) hn64 hfn (by omega) Hm.out 64 (.inr ⟨by omega,by omega⟩)
    have hr:Hid (M ||| 2 ^ n=yaX f t s):=by show M ||| 2 ^ n=yaX f t s; rw [←HM.out,hst]; exact ycR f t s 64 (.inl (by omega))
    clear hst
    go_wp2
    go_ret
    rw [ybt hn64,hor.out,hr.out]; exact ⟨rfl,rfl⟩
   ·obtain ⟨q,hq⟩:=Int.eq_ofNat_of_zero_le (show 0≤(n:Int)+s by omega)
    have hst:=hid (yce f t s n (by omega) hn64 hfn (by omega) Hm.out q (.inl hq.symm))
    have hq2:((q:Int) - f) % s=0:=by rw [←hq,show (n:Int)+s - f= ((n:Int) - f)+s by omega,Int.add_emod,Hm.out]; simp
    have Hq:=hid hq
    have Hq2:=hid hq2
    have hq3:f≤(q:Int):=by omega
    have hq4:(64 - ((n:Int)+s)).toNat < (64 - (n:Int)).toNat:=by omega
    clear hq hq2
    go_wp2
    refine ⟨⟨q,by rw [Hq.out],?_,hq3,Hq2.out⟩,by simp only [intOf]; exact hq4⟩
    rw [ybt hn64,hor.out,←HM.out,hst.out]
 ·obtain ⟨n0,rfl⟩:=Int.eq_ofNat_of_zero_le (by omega:0≤f)
  have hmod:((n0:Int) - (n0:Int)) % s=0:=by simp
  have Hst:=hid (yd7 (n0:Int) t s n0 (by omega) hmod (.inl rfl))
  have Hmod:=hid hmod
  have hn1:(n0:Int)≤(n0:Int):=by omega
  clear hmod
  go_enter Tryz.func80,Tryz.ntmps80
  go_wp2
  go_loop [7,8] (fun v i=>∃n:Nat,i= .int .i64 n∧v= .int .u64 (ydi (n0:Int) t s n)∧(n0:Int)≤(n:Int)∧((n:Int) - (n0:Int)) % s=0) (fun _ i=>(64 - intOf i).toNat)
  case atStart=>exact ⟨n0,rfl,by rw [Hst.out]; rfl,hn1,Hmod.out⟩
  case round=>
   obtain ⟨n,rfl,rfl,hfn,hm⟩:=hrel
   have Hm:=hid hm
   have Hall:=hid (ycR (n0:Int) t s n)
   obtain ⟨M,hM⟩:∃M,ydi (n0:Int) t s n=M:=⟨_,rfl⟩
   have HM:=hid hM
   rw [hM] at Hall⊢
   have hMl:M < 18446744073709551616:=by rw [←hM]; exact yao _
   clear hM hm
   by_cases h64:64≤n
   ·have hr:=hid (Hall.out (.inl h64))
    go_wp2
    go_ret
    rw [hr.out]; exact ⟨rfl,rfl⟩
   by_cases hnt:t < (n:Int)
   ·have hr:=hid (Hall.out (.inr hnt))
    go_wp2
    go_ret
    rw [hr.out]; exact ⟨rfl,rfl⟩
   have hn64:n < 64:=by omega
   have hor:=hid (yaI hMl (ybS hn64))
   by_cases h65:64≤s
   ·have hst:=yce (n0:Int) t s n (by omega) hn64 hfn (by omega) Hm.out 64 (.inr ⟨by omega,by omega⟩)
    have hr:Hid (M ||| 2 ^ n=yaX (n0:Int) t s):=by show M ||| 2 ^ n=yaX (n0:Int) t s; rw [←HM.out,hst]; exact ycR (n0:Int) t s 64 (.inl (by omega))
    clear hst
    go_wp2
    go_ret
    rw [ybt hn64,hor.out,hr.out]; exact ⟨rfl,rfl⟩
   ·obtain ⟨q,hq⟩:=Int.eq_ofNat_of_zero_le (show 0≤(n:Int)+s by omega)
    have hst:=hid (yce (n0:Int) t s n (by omega) hn64 hfn (by omega) Hm.out q (.inl hq.symm))
    have hq2:((q:Int) - (n0:Int)) % s=0:=by rw [←hq,show (n:Int)+s - (n0:Int)= ((n:Int) - (n0:Int))+s by omega,Int.add_emod,Hm.out]; simp
    have Hq:=hid hq
    have Hq2:=hid hq2
    have hq3:(n0:Int)≤(q:Int):=by omega
    have hq4:(64 - ((n:Int)+s)).toNat < (64 - (n:Int)).toNat:=by omega
    clear hq hq2
    go_wp2
    refine ⟨⟨q,by rw [Hq.out],?_,hq3,Hq2.out⟩,by simp only [intOf]; exact hq4⟩
    rw [ybt hn64,hor.out,←HM.out,hst.out]
end
section
open Go.RowKit
theorem eInt:El Tryz.prog 53 3 (.int .i64 0) 1 8:=⟨Tryz.underlying53,by kernel_rfl,by kernel_rfl,by decide⟩
def sel (p:Nat→Bool) (n:Nat):List Int:=((List.range n).filter p).map (fun (k:Nat)=>(k:Int))
theorem yiz (p:Nat→Bool):sel p 0= []:=rfl
theorem ycw {p:Nat→Bool} {n:Nat} (h:p n=true):sel p (n+1)=sel p n ++ [(n:Int)]:=by simp [sel,List.range_succ,h]
theorem yew {p:Nat→Bool} {n:Nat} (h:p n=false):sel p (n+1)=sel p n:=by simp [sel,List.range_succ,h]
theorem yc8 (p:Nat→Bool) (n:Nat):(sel p n).length≤n:=by
 simp only [sel,List.length_map]
 exact zI (List.length_filter_le _ _) (by simp)
theorem sel_mem {p:Nat→Bool} {n:Nat} {x:Int}:x∈sel p n↔∃k:Nat,k < n∧p k=true∧x= (k:Int):=by
 simp only [sel,List.mem_map,List.mem_filter,List.mem_range]
 constructor
 ·rintro ⟨k,⟨h1,h2⟩,rfl⟩; exact ⟨k,h1,h2,rfl⟩
 ·rintro ⟨k,h1,h2,rfl⟩; exact ⟨k,⟨h1,h2⟩,rfl⟩
end
end Go.Proofs.YtkpgfmonhfnhdaaGreatDoor
