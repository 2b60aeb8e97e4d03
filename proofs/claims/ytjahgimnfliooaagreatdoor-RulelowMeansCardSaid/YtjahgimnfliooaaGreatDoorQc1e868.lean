/-
  The words and small laws that all proofs of this seat use: a slice in memory that reads as a list ('Sl'), what an append does ('app1'), facts hidden from the walk. No condition.
-/
import Derived.OrdersHeld
import Derived.BigRegion
import Derived.Deep.RegionHeld
import Derived.Test.YtjahgimnfliooaaGreatDoorRows
import Derived.WalkKit
import Derived.ProofKit
import Derived.Deep.QuietTactic
import Derived.BigQuiet
set_option maxRecDepth 100000
set_option maxHeartbeats 25600000
namespace Go.Proofs.YtjahgimnfliooaaGreatDoor
open Go.RowKit
theorem zP : (∀ (a : Act) (d : Tmp) (v : Value), a.put (some d) v = { a with tmps := a.tmps.setIfInBounds d v }) ∧ (∀ (a : Act) (v : Value), a.put none v = a) ∧ (type_of% @List.getElem_toArray.{0}) ∧ (type_of% @List.getElem_cons_succ.{0}) ∧ (type_of% @List.getElem_cons_zero.{0}) ∧ (type_of% @List.setIfInBounds_toArray.{0}) ∧ (type_of% @List.set_cons_zero.{0}) ∧ (type_of% @List.set_cons_succ.{0}) := ⟨fun _ _ _ => rfl, fun _ _ => rfl, @List.getElem_toArray.{0}, @List.getElem_cons_succ.{0}, @List.getElem_cons_zero.{0}, @List.setIfInBounds_toArray.{0}, @List.set_cons_zero.{0}, @List.set_cons_succ.{0}⟩
theorem zT {P : Program} {ops : Array Oper} {Q : Exit → Act → World → Prop} {md : Region.Mode} {S : World → Prop} (i : Nat) {oi : Oper} {v : Value} {fuel : Nat} {listed : Array Bool} {a : Act} {w : World} (hy : ∀ w, S w → (execOp a.eval oi).run P w = .ok (.value v) w) (h : wpAnyH P md ops Q S fuel (listed.setIfInBounds i true) (a.put oi.dst v) w) (hi : ops[i]? = some oi := by rfl)
  (hs : Region.noSelect ops = true := by kernel_rfl) (hf : Region.free md ops listed i = true := by kernel_rfl) (hr : (Region.ready md ops listed).contains i = true := by kernel_rfl) (hQ : ∀ c a w, Q (.panic c) (a.put oi.dst v) w → Q (.panic c) a w := by exact fun _ _ _ h => h) (hw : Region.wanted oi (yielded ops a.tmps) = true := by rfl) (hS : S w := by assumption) : wpAnyH P md ops Q S (fuel + 1) listed a w := wpAnyH_take hi hs hf hr hQ (Or.inl ⟨hw, hy⟩) hS h
theorem zS {P : Program} {ops : Array Oper} {Q : Exit → Act → World → Prop} {md : Region.Mode} {S : World → Prop} (i : Nat) {oi : Oper} {fuel : Nat} {listed : Array Bool} {a : Act} {w : World} (h : wpAnyH P md ops Q S fuel (listed.setIfInBounds i true) (a.put oi.dst undef) w) (hi : ops[i]? = some oi := by rfl)
  (hs : Region.noSelect ops = true := by kernel_rfl) (hf : Region.free md ops listed i = true := by kernel_rfl) (hr : (Region.ready md ops listed).contains i = true := by kernel_rfl) (hQ : ∀ c a w, Q (.panic c) (a.put oi.dst undef) w → Q (.panic c) a w := by exact fun _ _ _ h => h) (hw : Region.wanted oi (yielded ops a.tmps) = false := by rfl) (hS : S w := by assumption) : wpAnyH P md ops Q S (fuel + 1) listed a w := wpAnyH_take hi hs hf hr hQ (Or.inr ⟨hw, rfl⟩) hS h
theorem zA.{u} : type_of% @List.getElem_toArray.{u} := @List.getElem_toArray
theorem zB.{u} : type_of% @List.getElem_cons_succ.{u} := @List.getElem_cons_succ
theorem zC.{u} : type_of% @List.getElem_cons_zero.{u} := @List.getElem_cons_zero
theorem zD.{u} : type_of% @List.setIfInBounds_toArray.{u} := @List.setIfInBounds_toArray
theorem zE.{u} : type_of% @List.set_cons_zero.{u} := @List.set_cons_zero
theorem zF.{u} : type_of% @List.set_cons_succ.{u} := @List.set_cons_succ
theorem zzp.{u} : type_of% @List.getElem?_eq_getElem.{u} := @List.getElem?_eq_getElem
theorem zzq.{u} : type_of% @List.getElem?_eq_some_iff.{u} := @List.getElem?_eq_some_iff
theorem zzr.{u} : type_of% @List.getElem_mem.{u} := @List.getElem_mem
theorem zG : type_of% @Nat.le_refl := @Nat.le_refl
theorem zH : type_of% @Nat.lt_of_lt_of_le := @Nat.lt_of_lt_of_le
theorem zI : type_of% @Nat.le_trans := @Nat.le_trans
theorem zzJ : type_of% @World.cell?_of_block := @World.cell?_of_block
theorem zzL : type_of% @World.cell?_setCell_other := @World.cell?_setCell_other
theorem zzM : type_of% @World.frozen?_of_block := @World.frozen?_of_block
theorem zzN : type_of% @World.size_alloc := @World.size_alloc
theorem zzW : type_of% @World.cell?_setCell_same := @World.cell?_setCell_same
theorem zzX : type_of% @Bool.and_eq_true := @Bool.and_eq_true
theorem zzY : type_of% @decide_eq_true_eq := @decide_eq_true_eq
theorem zzZ : type_of% @decide_eq_true := @decide_eq_true
theorem zzd : type_of% @decide_eq_false := @decide_eq_false
theorem zze : type_of% @Bool.eq_iff_iff := @Bool.eq_iff_iff
theorem zzn : type_of% @Nat.zero_add := @Nat.zero_add
theorem zzo : type_of% @Bool.true_and := @Bool.true_and
theorem zhA {P : Program} {ops : Array Oper} {Q : Exit → Act → World → Prop} {md : Region.Mode} {S : World → Prop} {fuel : Nat} {listed : Array Bool} {a : Act} {w : World} (i : Nat) {oi : Oper} {v : Value} {a2 : Act} (h : wpAnyH P md ops Q S fuel (listed.setIfInBounds i true) a2 w) (hi : ops[i]? = some oi := by rfl) (hy : ∀ w, S w → (execOp a.eval oi).run P w = .ok (.value v) w := by intro w hSw; (try replace hSw := hSw.out); (try have f := hSw.3); (try have f := hSw.4); (try have f := hSw.5); (try have f := hSw.6); (try have f := hSw.7); (repeat (have f := hSw.1; replace hSw := hSw.2)); go_simp; (try with_reducible rfl)) (ha : a.put oi.dst v = a2 := by (try simp only [zP]); (try rfl)) (hs : Region.noSelect ops = true := by kernel_rfl) (hf : Region.free md ops listed i = true := by kernel_rfl) (hr : (Region.ready md ops listed).contains i = true := by kernel_rfl) (hQ : ∀ c a w, Q (.panic c) (a.put oi.dst v) w → Q (.panic c) a w := by exact fun _ _ _ h => h) (hw : Region.wanted oi (yielded ops a.tmps) = true := by rfl) (hS : S w := by assumption) : wpAnyH P md ops Q S (fuel + 1) listed a w := by subst ha; exact wpAnyH_take hi hs hf hr hQ (Or.inl ⟨hw, hy⟩) hS h
theorem zhC {P : Program} {ops : Array Oper} {Q : Exit → Act → World → Prop} {md : Region.Mode} {S : World → Prop} {fuel : Nat} {listed : Array Bool} {a : Act} {w : World} (i : Nat) {oi : Oper} {v : Value} {a2 : Act} (h : wpAnyH P md ops Q S fuel (listed.setIfInBounds i true) a2 w) (hi : ops[i]? = some oi := by rfl) (hy : ∀ w, S w → (execOp a.eval oi).run P w = .ok (.value v) w := by intro w hSw; cases hSw.out; clear hSw; go_simp; (try with_reducible rfl)) (ha : a.put oi.dst v = a2 := by (try simp only [zP]); (try rfl)) (hs : Region.noSelect ops = true := by kernel_rfl) (hf : Region.free md ops listed i = true := by kernel_rfl) (hr : (Region.ready md ops listed).contains i = true := by kernel_rfl) (hQ : ∀ c a w, Q (.panic c) (a.put oi.dst v) w → Q (.panic c) a w := by exact fun _ _ _ h => h) (hw : Region.wanted oi (yielded ops a.tmps) = true := by rfl) (hS : S w := by assumption) : wpAnyH P md ops Q S (fuel + 1) listed a w := by subst ha; exact wpAnyH_take hi hs hf hr hQ (Or.inl ⟨hw, hy⟩) hS h
theorem zhD {P : Program} {ops : Array Oper} {Q : Exit → Act → World → Prop} {md : Region.Mode} {S : World → Prop} {fuel : Nat} {listed : Array Bool} {a : Act} {w : World} (i : Nat) {oi : Oper} {v : Value} {a2 : Act} (h : wpAnyH P md ops Q S fuel (listed.setIfInBounds i true) a2 w) (hi : ops[i]? = some oi := by rfl) (hy : ∀ w, S w → (execOp a.eval oi).run P w = .ok (.value v) w := by intro w hSw; go_simp; (try with_reducible rfl)) (ha : a.put oi.dst v = a2 := by (try simp only [zP]); (try rfl)) (hs : Region.noSelect ops = true := by kernel_rfl) (hf : Region.free md ops listed i = true := by kernel_rfl) (hr : (Region.ready md ops listed).contains i = true := by kernel_rfl) (hQ : ∀ c a w, Q (.panic c) (a.put oi.dst v) w → Q (.panic c) a w := by exact fun _ _ _ h => h) (hw : Region.wanted oi (yielded ops a.tmps) = true := by rfl) (hS : S w := by assumption) : wpAnyH P md ops Q S (fuel + 1) listed a w := by subst ha; exact wpAnyH_take hi hs hf hr hQ (Or.inl ⟨hw, hy⟩) hS h
theorem zhE {P : Program} {ops : Array Oper} {Q : Exit → Act → World → Prop} {md : Region.Mode} {S : World → Prop} {fuel : Nat} {listed : Array Bool} {a : Act} {w : World} (i : Nat) {oi : Oper} {v : Value} {a2 : Act} (h : wpAnyH P md ops Q S fuel (listed.setIfInBounds i true) a2 w) (hi : ops[i]? = some oi := by rfl) (hy : ∀ w, S w → (execOp a.eval oi).run P w = .ok (.value v) w := by intro w hSw; clear hSw; go_simp; (try with_reducible rfl)) (ha : a.put oi.dst v = a2 := by (try simp only [zP]); (try rfl)) (hs : Region.noSelect ops = true := by kernel_rfl) (hf : Region.free md ops listed i = true := by kernel_rfl) (hr : (Region.ready md ops listed).contains i = true := by kernel_rfl) (hQ : ∀ c a w, Q (.panic c) (a.put oi.dst v) w → Q (.panic c) a w := by exact fun _ _ _ h => h) (hw : Region.wanted oi (yielded ops a.tmps) = true := by rfl) (hS : S w := by assumption) : wpAnyH P md ops Q S (fuel + 1) listed a w := by subst ha; exact wpAnyH_take hi hs hf hr hQ (Or.inl ⟨hw, hy⟩) hS h
theorem zhF {P : Program} {ops : Array Oper} {Q : Exit → Act → World → Prop} {md : Region.Mode} {S : World → Prop} {fuel : Nat} {listed : Array Bool} {a : Act} {w : World} (i : Nat) {oi : Oper} {v : Value} {a2 : Act} {R : World → Prop} (hR : ∀ w, S w → R w) (h : wpAnyH P md ops Q S fuel (listed.setIfInBounds i true) a2 w) (hi : ops[i]? = some oi := by rfl) (hy : ∀ w, R w → (execOp a.eval oi).run P w = .ok (.value v) w := by intro w hSw; (repeat (have f := hSw.1; replace hSw := hSw.2)); go_simp; (try with_reducible rfl)) (ha : a.put oi.dst v = a2 := by (try simp only [zP]); (try rfl)) (hs : Region.noSelect ops = true := by kernel_rfl) (hf : Region.free md ops listed i = true := by kernel_rfl) (hr : (Region.ready md ops listed).contains i = true := by kernel_rfl) (hQ : ∀ c a w, Q (.panic c) (a.put oi.dst v) w → Q (.panic c) a w := by exact fun _ _ _ h => h) (hw : Region.wanted oi (yielded ops a.tmps) = true := by rfl) (hS : S w := by assumption) : wpAnyH P md ops Q S (fuel + 1) listed a w := by subst ha; exact wpAnyH_take hi hs hf hr hQ (Or.inl ⟨hw, (fun w h => hy w (hR w h))⟩) hS h
theorem zhS {P : Program} {ops : Array Oper} {Q : Exit → Act → World → Prop} {md : Region.Mode} {S : World → Prop} {fuel : Nat} {listed : Array Bool} {a : Act} {w : World} (i : Nat) {oi : Oper} {a2 : Act} (h : wpAnyH P md ops Q S fuel (listed.setIfInBounds i true) a2 w) (hi : ops[i]? = some oi := by rfl) (ha : a.put oi.dst undef = a2 := by (try simp only [zP]); (try rfl)) (hs : Region.noSelect ops = true := by kernel_rfl) (hf : Region.free md ops listed i = true := by kernel_rfl) (hr : (Region.ready md ops listed).contains i = true := by kernel_rfl) (hQ : ∀ c a w, Q (.panic c) (a.put oi.dst undef) w → Q (.panic c) a w := by exact fun _ _ _ h => h) (hw : Region.wanted oi (yielded ops a.tmps) = false := by rfl) (hS : S w := by assumption) : wpAnyH P md ops Q S (fuel + 1) listed a w := by subst ha; exact wpAnyH_take hi hs hf hr hQ (Or.inr ⟨hw, rfl⟩) hS h
theorem zhB {P : Program} {ops : Array Oper} {Q : Exit → Act → World → Prop} {md : Region.Mode} {S : World → Prop} {fuel : Nat} {listed : Array Bool} {a : Act} {w : World} (i : Nat) {oi : Oper} {v : Value} {a2 : Act} (h : wpAnyH P md ops Q S fuel (listed.setIfInBounds i true) a2 w) (hi : ops[i]? = some oi := by rfl) (hy : ∀ w, S w → (execOp a.eval oi).run P w = .ok (.value v) w := by intro w hSw; (try dsimp only [RMS] at hSw); go_simp; (try with_reducible rfl)) (ha : a.put oi.dst v = a2 := by (try simp only [zP]); (try rfl)) (hs : Region.noSelect ops = true := by kernel_rfl) (hf : Region.free md ops listed i = true := by kernel_rfl) (hr : (Region.ready md ops listed).contains i = true := by kernel_rfl) (hQ : ∀ c a w, Q (.panic c) (a.put oi.dst v) w → Q (.panic c) a w := by exact fun _ _ _ h => h) (hw : Region.wanted oi (yielded ops a.tmps) = true := by rfl) (hS : S w := by assumption) : wpAnyH P md ops Q S (fuel + 1) listed a w := by subst ha; exact wpAnyH_take hi hs hf hr hQ (Or.inl ⟨hw, hy⟩) hS h
theorem zzK {P : Program} {ops : Array Oper} {Q : Exit → Act → World → Prop} {md : Region.Mode} {S : World → Prop} {fuel : Nat} {listed : Array Bool} {a : Act} {w : World} (i : Nat) {o : Oper} (h : ∀ K' : Act → World → Prop, Shut (∀ a w, S w → (S w → wpAnyH P md ops Q S fuel (listed.setIfInBounds i true) a w) → K' a w) → if Region.wanted o (yielded ops a.tmps) = true then Oper.wp P o a w K' Q else K' (a.put o.dst undef) w) (ho : ops[i]? = some o := by rfl) (hr : Region.ready md ops listed = [i] := by kernel_rfl) : wpAnyH P md ops Q S (fuel + 1) listed a w := wpAnyH_ready hr (by simp) (AllReadyH.cons ho h AllReadyH.nil)
abbrev zl0 : Array Value := #[.bool false, .int .i64 0, .int .i64 0, .int .i64 0, .bool false, .int .i64 0, .int .i64 0, .int .i64 0, .bool false, .int .i64 0, .int .i64 0, .int .i64 0, .bool false, .int .i64 0, .int .i64 0, .int .i64 0, .bool false, .int .i64 0, .int .i64 0, .int .i64 0, .bool false, .int .i64 0, .int .i64 0, .int .i64 0, .bool false, .int .i64 0, .int .i64 0, .int .i64 0, .bool false, .int .i64 0, .int .i64 0, .int .i64 0]
set_option linter.unusedVariables false
theorem hid {p:Prop} (h:p):Hid p:=h
def Sl (w:World) (a:Option Addr) (cs:List Value):Prop:=
 cs= []∨∃b off,a=some ⟨b,off,none⟩∧b < w.heap.size∧∀j (h:j < cs.length),w.cell? ⟨b,off+j,none⟩=some cs[j]
theorem Sl.nil (w:World) (a:Option Addr):Sl w a []:= .inl rfl
theorem Sl.below {w w':World} {a:Option Addr} {cs:List Value} (h:Sl w a cs) (hb:Below w.heap.size w w'):Sl w' a cs:=by
 rcases h with h | ⟨b,off,rfl,hlt,hc⟩
 ·exact .inl h
 ·exact .inr ⟨b,off,rfl,zH hlt hb.size,fun j hj=>(hb.cell (p:=⟨b,off+j,none⟩) hlt).trans (hc j hj)⟩
theorem Sl.at {w:World} {a:Option Addr} {cs:List Value} (h:Sl w a cs) {k:Nat} (hk:k < cs.length) :
  ∃b off,a=some ⟨b,off,none⟩∧b < w.heap.size∧∀j (h:j < cs.length),w.cell? ⟨b,off+j,none⟩=some cs[j]:=by
 rcases h with h | h
 ·subst h; simp at hk
 ·exact h
def ints (l:List Int):List Value:=l.map (Value.int .i64)
theorem yfb (l:List Int):(ints l).length=l.length:=by simp [ints]
theorem ydq (l m:List Int):ints (l ++ m)=ints l ++ ints m:=by simp [ints]
theorem Sl.atInt {w:World} {a:Option Addr} {l:List Int} (h:Sl w a (ints l)) {k:Nat} (hk:k < l.length) :
  ∃b off,a=some ⟨b,off,none⟩∧b < w.heap.size∧∀j (h:j < l.length),w.cell? ⟨b,off+j,none⟩=some (.int .i64 l[j]):=by
 obtain ⟨b,off,rfl,hlt,hc⟩:=Sl.at h (k:=k) (by rw [yfb]; exact hk)
 refine ⟨b,off,rfl,hlt,fun j hj=>?_⟩
 rw [hc j (by rw [yfb]; exact hj)]
 simp [ints]
theorem ya6 {w:World} {base:Nat} {e:TypeId} {s:Nat} {v:Value} {n:Nat} {xs:List Value} (h:w.ownsRow base e s v n xs) :
  ∃a cap,v= .slice a n cap∧Sl w a xs∧n≤maxLen:=by
 obtain ⟨hl,h⟩:=h
 rcases h with ⟨rfl,rfl⟩ | ⟨g,cap,cur,rfl,hb,hg,hnc,hcm,hcs,ht⟩
 ·refine ⟨none,0,rfl, .inl ?_,by unfold maxLen; omega⟩
  exact List.eq_nil_of_length_eq_zero (by simpa using hl)
 ·refine ⟨_,cap,rfl, .inr ⟨g,0,rfl,(Array.getElem?_eq_some_iff.1 hg).1,fun j hj=>?_⟩,zI hnc hcm⟩
  have:=World.ownsRow.cellAt (w:=w) (base:=base) (e:=e) (size:=s) (g:=g) (n:=n) (cap:=cap) (xs:=xs)
   ⟨hl, .inr ⟨g,cap,cur,rfl,hb,hg,hnc,hcm,hcs,ht⟩⟩ j (by rw [←hl]; exact hj)
  rw [zzn,this,zzp hj]
theorem yhX {w:World} {base:Nat} {e:TypeId} {s:Nat} {a:Option Addr} {m n cap:Nat} {xs:List Value} (h:w.ownsRow base e s (.slice a m cap) n xs):Sl w a xs:=by
 obtain ⟨a',c',e,hs,_⟩:=ya6 h
 simp only [Value.slice.injEq] at e
 rw [e.1]; exact hs
theorem yjN {w w':World} {base B:Nat} {e:TypeId} {s:Nat} {v:Value} {n:Nat} {xs:List Value} (h:w.ownsRow base e s v n xs) (hb:Below B w w') (hB:w.heap.size≤B):w'.ownsRow base e s v n xs:=by
 refine h.kept (row:=none) ⟨hb.os,hb.tape,hb.output,hb.size,fun k hk _=>hb.block k (by omega)⟩ ?_
 cases hv:v.ownBlock <;> simp
theorem yg1 {w:World} {base base':Nat} {e:TypeId} {s:Nat} {v:Value} {n:Nat} {xs:List Value} (h:w.ownsRow base e s v n xs) (hb:base'≤base):w.ownsRow base' e s v n xs:=by
 refine ⟨h.1,?_⟩
 rcases h.2 with h | ⟨g,cap,cur,rfl,hg,r⟩
 ·exact .inl h
 ·exact .inr ⟨g,cap,cur,rfl,by omega,r⟩
theorem Below.of_grown {B:Nat} {w w':World} {row:Option Nat} (hg:w.grownBy w' row) (hB:B≤w.heap.size) (hr:∀k,row=some k→B≤k):Below B w w':=
 (Below.refl B w).grown hg hB hr
theorem ybU {a b c:World} {row:Option Nat} (h:a.grownBy b row) (k:b.grownBy c row):a.grownBy c row:=
 ⟨k.os.trans h.os,k.tape.trans h.tape,k.output.trans h.output,zI h.size k.size,fun i hi hn=>(k.block i (zH hi h.size) hn).trans (h.block i hi hn)⟩
structure El (P:Program) (t e:TypeId) (z:Value) (size bytes:Nat):Prop where
 ht:P.underlying t=some (.slice e)
 hi:(P.info? e).map (fun i=>(i.zero,i.size,i.bytes))=some (some z,size,bytes)
 hzs:z.cells.size=size
 hsz:0 < size
theorem yii (w:World) (o:Obj) {base:Nat} {e:TypeId} {s:Nat} {v:Value} {n:Nat} {xs:List Value} (h:w.ownsRow base e s v n xs):(w.alloc o).ownsRow base e s v n xs:=h.alloc o
theorem yeY {P:Program} {t e:TypeId} {z:Value} {size bytes:Nat} (E:El P t e z size bytes) (w:World) (ty:TypeId) {base:Nat} {v:Value} {n:Nat} {xs:List Value} (hown:w.ownsRow base e size v n xs)
  {ax:Option Addr} {m c:Nat} {news:List Value} (hl:news.length=m * size) (hsrc:Sl w ax news) (hnone:ax=none→c=0) (h1:∀u∈news,u.oneCell' =true)
  (hn:n+m≤1000000000000) (hby:(n+m) * bytes≤140737488355328) (hbase:base≤w.heap.size) :
  ∃a' cap' w',(Builtin.append_ #[t,t] ty #[v, .slice ax m c]).run P w= .ok (.slice a' (n+m) cap') w'∧w'.ownsRow base e size (.slice a' (n+m) cap') (n+m) (xs ++ news)∧w.grownBy w' v.ownBlock∧
   Below base w w'∧(∀k,Value.ownBlock (.slice a' (n+m) cap')=some k→v.ownBlock=some k∨w.heap.size≤k):=by
 obtain ⟨i,hi,hz0,hz1,hz2⟩:=info_parts E.hi
 have hmax:n+m≤maxLen:=by unfold maxLen; omega
 have hbel:∀w',w.grownBy w' v.ownBlock→Below base w w':=fun w' hg=>Below.of_grown hg hbase (fun k hk=>(hown.lt k hk).1)
 have key:∀ad,(∀j u,news[j]? =some u→w.cell? (Addr.add ad j)=some u)→
   ∃a' cap' w',(Builtin.append_ #[t,t] ty #[v, .slice (some ad) m c]).run P w= .ok (.slice a' (n+m) cap') w'∧w'.ownsRow base e size (.slice a' (n+m) cap') (n+m) (xs ++ news)∧w.grownBy w' v.ownBlock∧
   Below base w w'∧(∀k,Value.ownBlock (.slice a' (n+m) cap')=some k→v.ownBlock=some k∨w.heap.size≤k):=by
  intro ad hnews
  obtain ⟨v',w',hr,ho,hg,hnil⟩:=run_append_own (P:=P) w base t ty e i z size bytes E.ht hi hz0 hz1 hz2 E.hzs E.hsz v n xs hown ad m c news hl hnews h1 hmax hby hbase
  obtain ⟨a',cap',rfl,_,_⟩:=ya6 ho
  refine ⟨a',cap',w',hr,ho,hg,hbel w' hg,?_⟩
  intro k hk
  rcases hown.2 with ⟨rfl,rfl⟩ | ⟨g,cap,cur,rfl,hbg,hgg,hnc,hcm,hcs,htake⟩
  ·obtain ⟨v2,w2,hr2,ho2,_,_⟩:=run_append_own (P:=P) w w.heap.size t ty e i z size bytes E.ht hi hz0 hz1 hz2 E.hzs E.hsz (.slice none 0 0) 0 xs ⟨hown.1, .inl ⟨rfl,rfl⟩⟩ ad m c news hl hnews h1 hmax hby (zG _)
   rw [hr] at hr2
   cases hr2
   exact .inr (ho2.lt k hk).1
  ·by_cases hroom:n+m≤cap
   ·subst hz1
    have hr2:=run_append_room (P:=P) w t ty e i E.ht hi g n cap cur hgg ad m c news hl hnews h1 hroom (by rw [hl,hcs,←Nat.add_mul]; exact Nat.mul_le_mul_right _ hroom)
    rw [hr] at hr2
    cases hr2
    exact .inl hk
   ·subst hz1
    subst hz2
    have hr2:=run_append_grow (P:=P) w t ty e i z E.ht hi hz0 ⟨g,0,none⟩ n cap xs hown.1 (hown.cells (g:=g) rfl) ad m c news hl hnews (by omega) (by omega) (growslice_fits (by omega) hby)
    rw [hr] at hr2
    cases hr2
    simp [Value.ownBlock] at hk
    exact .inr (by omega)
 rcases hsrc with rfl | ⟨b,off,rfl,hb,hc⟩
 ·cases ax with
  | some ad=>exact key ad (fun j u hu=>by simp at hu)
  | none=>
    have hm:m=0:=by
     rcases Nat.eq_zero_or_pos m with h | h
     ·exact h
     ·have:=Nat.mul_pos h E.hsz; simp at hl; omega
    subst hm
    rw [hnone rfl]
    have hr:=run_append_owned_none (P:=P) w base t ty e i size E.ht hi v n xs hown
    obtain ⟨a',cap',rfl,_,_⟩:=ya6 hown
    exact ⟨a',cap',w,hr,by simpa using hown,World.grownBy.refl _ _,Below.refl _ _,fun k hk=> .inl hk⟩
 ·refine key _ (fun j u hu=>?_)
  obtain ⟨hj,rfl⟩:=zzq.1 hu
  rw [←hc j hj,Addr.add_lit]
theorem appN {P:Program} {t e:TypeId} {z:Value} {size bytes:Nat} (E:El P t e z size bytes) {W:World} {ops:Array Oper} {rest:List Oper} {o:Oper} {a:Act} {Q:Exit→Act→World→Prop} (s x:Operand)
  (hgd:o.guard=none) (ho:o.op= .call {callee:= .builtin .append,args:=#[s,x],argTypes:=#[t,t]})
  {base:Nat} {v:Value} {n:Nat} {xs:List Value} {ax:Option Addr} {m c:Nat} {news:List Value} (hs:a.eval s=v) (hx:a.eval x= .slice ax m c) (hown:W.ownsRow base e size v n xs)
  (hl:news.length=m * size) (hsrc:Sl W ax news) (hnone:ax=none→c=0) (h1:∀u∈news,u.oneCell' =true)
  (hn:n+m≤1000000000000) (hby:(n+m) * bytes≤140737488355328) (hbase:base≤W.heap.size)
  (K:∀a' cap' w',w'.ownsRow base e size (.slice a' (n+m) cap') (n+m) (xs ++ news)→W.grownBy w' v.ownBlock→Below base W w'→
    (∀k,Value.ownBlock (.slice a' (n+m) cap')=some k→v.ownBlock=some k∨W.heap.size≤k)→wpList P ops Q rest (a.put o.dst (.slice a' (n+m) cap')) w') :
  wpList P ops Q (o :: rest) a W:=by
 refine wpList_plain hgd fun K' hK'=>?_
 obtain ⟨a',cap',w',hr,ho',hg,hb,hf⟩:=yeY E W o.type hown hl hsrc hnone h1 hn hby hbase
 unfold Oper.wp execOp
 simp only [ho,resolve,invoke,builtin,Sem.run_bind,Sem.run_pure,Result.andThen_ok,List.map_toArray,List.map_cons,List.map_nil,hs,hx,hr]
 exact hK' _ _ (K a' cap' w' ho' hg hb hf)
theorem app1 {P:Program} {t e:TypeId} {z:Value} {bytes:Nat} (E:El P t e z 1 bytes) {W:World} {ops:Array Oper} {rest:List Oper} {o:Oper} {a:Act} {Q:Exit→Act→World→Prop} (s x:Operand)
  (hgd:o.guard=none) (ho:o.op= .call {callee:= .builtin .append,args:=#[s,x],argTypes:=#[t,t]})
  {base:Nat} {v:Value} {n:Nat} {xs:List Value} {u:Value} (hs:a.eval s=v) {g:Nat} (hx:a.eval x= .slice (some ⟨g,0,none⟩) 1 1) (hg:g=W.heap.size) (hown:W.ownsRow base e 1 v n xs) (hu:u.oneCell' =true)
  (hn:n+1≤1000000000000) (hby:(n+1) * bytes≤140737488355328) (hbase:base≤W.heap.size)
  (K:∀a' cap' w',w'.ownsRow base e 1 (.slice a' (n+1) cap') (n+1) (xs ++ [u])→W.grownBy w' v.ownBlock→Below base W w'→
    (∀k,Value.ownBlock (.slice a' (n+1) cap')=some k→v.ownBlock=some k∨W.heap.size≤k)→wpList P ops Q rest (a.put o.dst (.slice a' (n+1) cap')) w') :
  wpList P ops Q (o :: rest) a (W.alloc (.cells #[u] e)):=by
 subst hg
 refine appN E s x hgd ho hs hx (hown.alloc _) (news:= [u]) rfl ?_ (fun h=>by cases h) ?_ hn hby (by simp; omega) ?_
 ·refine .inr ⟨W.heap.size,0,rfl,by simp,fun j hj=>?_⟩
  have:j=0:=by simp at hj; omega
  subst this
  simp
 ·intro y hy; simp at hy; subst hy; exact hu
 ·intro a' cap' w' h1 h2 h3 h4
  refine K a' cap' w' h1 (ybU (World.grownBy_alloc W _ _) h2) (((Below.refl base W).alloc hbase _).trans h3) (fun k hk=>?_)
  rcases h4 k hk with h | h
  ·exact .inl h
  ·refine .inr (zI ?_ h); simp
theorem owns_none {w:World} {base:Nat} {e:TypeId} {s:Nat} {a:Option Addr} {m n cap:Nat} {xs:List Value} (h:w.ownsRow base e s (.slice a m cap) n xs):a=none→cap=0:=by
 intro ha
 subst ha
 rcases h.2 with ⟨h,_⟩ | ⟨g,c,cur,h,_⟩
 ·cases h; rfl
 ·cases h
theorem yab {B:Nat} {a w:World} {b o:Nat} {u:Value} (h:Below B a w) (hb:B≤b):Below B a (w.setCell ⟨b,o,none⟩ u):=Below.setCell h (p:=⟨b,o,none⟩) hb u
theorem yaa {B:Nat} {a w:World} {o:Obj} (h:Below B a w) (hb:B≤w.heap.size):Below B a (w.alloc o):=h.alloc hb o
theorem w64 (x:Int) (h:-9223372036854775808≤x∧x≤9223372036854775807):wrap64 x=x:=by unfold wrap64; omega
theorem yam {α:Type} (l:List α) (k:Nat) (h:k < l.length):l.take (k+1)=l.take k ++ [l[k]]:=by
 rw [List.take_succ_eq_append_getElem h]
theorem yaT {a b:Bool} (h:a=b):Ending.returned (.bool a)= .returned (.bool b):=by rw [h]
theorem yay {B:Nat} {a w:World} (h:Below B a w) (n:Nat):Below B a (w.drewN n):=h.trans ⟨rfl,rfl,rfl,zG _,fun _ _=>rfl⟩
end Go.Proofs.YtjahgimnfliooaaGreatDoor
