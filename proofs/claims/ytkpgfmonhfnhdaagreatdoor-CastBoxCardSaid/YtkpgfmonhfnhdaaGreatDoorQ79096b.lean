/-
  Arrays of beats.
  A region that draws its order, in a round of a range over a function: walked as one outside of it.
  pulse.inner: the beats of a disc's seconds, minutes and hours.
  A region that draws its order and ends with stores: its state is held up to the stores alone.
  cast.times: the hours, minutes and seconds of a disc.
-/
import Derived.Test.YtkpgfmonhfnhdaaGreatDoorQb0eb1f
import Derived.Test.YtkpgfmonhfnhdaaGreatDoorQfc4da5
import Derived.OrdersIn
import Derived.OrdersHeld
import Derived.Deep.RegionHeld3
import Derived.Sort.CutIn
import Derived.Test.YtkpgfmonhfnhdaaGreatDoorQe30e88
import Derived.BigRegion
import Derived.Test.YtkpgfmonhfnhdaaGreatDoorQ0477a0
set_option maxRecDepth 100000
set_option maxHeartbeats 25600000
namespace Go.Proofs.YtkpgfmonhfnhdaaGreatDoor
set_option linter.unusedVariables false
section
open Go.RowKit Go.Maps
def btL (n:Nat) (B:Nat→Bt):List Value:=(List.range n).flatMap fun u=> [.bool (B u).1, .int .i64 (B u).2.1, .int .i64 (B u).2.2]
theorem yiE (n:Nat) (B:Nat→Bt):btL (n+1) B=btL n B ++ [.bool (B n).1, .int .i64 (B n).2.1, .int .i64 (B n).2.2]:=by
 rw [btL,btL,List.range_succ,List.flatMap_append]; simp
theorem ycy (n:Nat) (B:Nat→Bt):(btL n B).length=3 * n:=by
 induction n with
 | zero=>rfl
 | succ n ih=>rw [yiE,List.length_append,ih]; simp; omega
def btC (B:Nat→Bt) (j:Nat):Value:=if j % 3=0 then .bool (B (j / 3)).1 else if j % 3=1 then .int .i64 (B (j / 3)).2.1 else .int .i64 (B (j / 3)).2.2
theorem btL_get (n:Nat) (B:Nat→Bt) (j:Nat) (hj:j < 3 * n):(btL n B)[j]? =some (btC B j):=by
 induction n with
 | zero=>omega
 | succ n ih=>
   rw [yiE]
   rcases Nat.lt_or_ge j (3 * n) with h | h
   ·rw [List.getElem?_append_left (by rw [ycy]; exact h)]; exact ih h
   ·rw [List.getElem?_append_right (by rw [ycy]; exact h),ycy]
    have h3:j=3 * n∨j=3 * n+1∨j=3 * n+2:=by omega
    rcases h3 with rfl | rfl | rfl
    ·rw [btC,if_pos (by omega),show 3 * n / 3=n by omega,Nat.sub_self]; rfl
    ·rw [btC,if_neg (by omega),if_pos (by omega),show (3 * n+1) / 3=n by omega,show 3 * n+1 - 3 * n=1 by omega]; rfl
    ·rw [btC,if_neg (by omega),if_neg (by omega),show (3 * n+2) / 3=n by omega,show 3 * n+2 - 3 * n=2 by omega]; rfl
structure BtS (b n:Nat) (B:Nat→Bt) (W:World):Prop where
 at':∀u,u < n→Bt1 b (u * 3) (B u) W
 z:∀i,W.frozen? ⟨b,i,none⟩=false
 lt:b < W.heap.size
section
variable {b n:Nat} {B:Nat→Bt} {W W':World}
theorem BtS.cell (h:BtS b n B W) {j:Nat} (hj:j < 3 * n):W.cell? ⟨b,j,none⟩=some (btC B j):=by
 have hu:j / 3 < n:=by omega
 have hb:=h.at' (j / 3) hu
 have h3:j % 3=0∨j % 3=1∨j % 3=2:=by omega
 rcases h3 with e | e | e
 ·rw [btC,if_pos e]; have:=hb.y; rwa [show j / 3 * 3=j by omega] at this
 ·rw [btC,if_neg (by omega),if_pos e]; have:=hb.f; rwa [show j / 3 * 3+1=j by omega] at this
 ·rw [btC,if_neg (by omega),if_neg (by omega)]; have:=hb.g; rwa [show j / 3 * 3+2=j by omega] at this
theorem BtS.of (hc:∀j,j < 3 * n→W.cell? ⟨b,j,none⟩=some (btC B j)) (hz:∀i,W.frozen? ⟨b,i,none⟩=false) (hl:b < W.heap.size):BtS b n B W:=
 ⟨fun u hu=>by
  have c0:=hc (u * 3) (by omega)
  have c1:=hc (u * 3+1) (by omega)
  have c2:=hc (u * 3+2) (by omega)
  rw [btC,if_pos (by omega),show u * 3 / 3=u by omega] at c0
  rw [btC,if_neg (by omega),if_pos (by omega),show (u * 3+1) / 3=u by omega] at c1
  rw [btC,if_neg (by omega),if_neg (by omega),show (u * 3+2) / 3=u by omega] at c2
  exact ⟨c0,c1,c2,hz,hl⟩,hz,hl⟩
theorem BtS.block (h:BtS b n B W) (hs:W.heap.size≤W'.heap.size) (hb:W'.heap[b]? =W.heap[b]?):BtS b n B W':=
 BtS.of (fun j hj=>(zzJ (w:=W) (a:=⟨b,j,none⟩) hb).trans (h.cell hj)) (fun i=>(zzM (w:=W) (a:=⟨b,i,none⟩) hb).trans (h.z i)) (zH h.lt hs)
theorem BtS.congr {C:Nat→Bt} (h:BtS b n B W) (e:∀u,u < n→C u=B u):BtS b n C W:=⟨fun u hu=>by rw [e u hu]; exact h.at' u hu,h.z,h.lt⟩
theorem BtS.step {x:Bt} {u:Nat} (h:BtS b n B W) (h1:Bt1 b (u * 3) x W') (ho:OnlyB b (u * 3) W W'):BtS b n (fun i=>if i=u then x else B i) W':=
 ⟨fun i hi=>by
  by_cases e:i=u
  ·subst e; rw [if_pos rfl]; exact h1
  ·rw [if_neg e]
   have g:=h.at' i hi
   exact ⟨(ho.c _ (by omega) (by omega) (by omega)).trans g.y,(ho.c _ (by omega) (by omega) (by omega)).trans g.f,(ho.c _ (by omega) (by omega) (by omega)).trans g.g,fun j=>(ho.z j).trans (g.z j),h1.lt⟩,fun i=>(ho.z i).trans (h.z i),h1.lt⟩
theorem BtS.range (h:BtS b n B W):W.rangeAt b 0 (btL n B):=fun j v hv=>by
 have hj:j < 3 * n:=by have:=(zzq.1 hv).1; rwa [ycy] at this
 rw [btL_get n B j hj] at hv
 rw [zzn,h.cell hj]; exact hv
theorem BtS.there (h:BtS b n B W) (C:Nat→Bt):W.there b 0 (btL n C).toArray.size:=fun j hj=>by
 rw [List.size_toArray,ycy] at hj
 rw [zzn]
 exact ⟨by rw [h.cell hj]; rfl,h.z j⟩
theorem BtS.put (h:BtS b n B W) (C:Nat→Bt):BtS b n C (W.setCells b 0 (btL n C)):=by
 have hs:=(Eff.setCells (O:=fun x=>x=b) rfl (btL n C) 0 W (Eff.refl _ W)).size
 refine BtS.of (fun j hj=>?_) (fun i=>by rw [World.frozen?_setCells]; exact h.z i) (zH h.lt hs)
 have:=World.cell?_setCells_in b (btL n C) 0 W (fun i hi=>by rw [ycy] at hi; rw [zzn,h.cell hi]; rfl) j (by rw [ycy]; exact hj)
 rw [zzn] at this
 rw [this]
 have h2:=btL_get n C j hj
 rw [zzp (by rw [ycy]; exact hj)] at h2
 exact h2
end
def bv3 (B:Nat→Bt):Value:= .agg (btL 3 B).toArray
section
variable {b:Nat} {B:Nat→Bt} {W:World}
end
end
section
open Go.RowKit
def yc3 (o:Oper):Bool:=match o.op with | .defer _=>false | _=>true
theorem yi5 {o:Oper} (h:yc3 o=true):∀c,o.op≠ .defer c:=by
 intro c e; rw [yc3,e] at h; cases h
theorem operW {l n:Nat} {P:Program} {o:Oper} {a:Act} {w:World} {K:Act→World→Prop} {Q:Exit→Act→World→Prop} (hd:yc3 o=true) (hL:¬LetsOut Q) (h:o.wp P a w K Q):o.wpIn (WF (some l)) n P a w K Q:=by
 refine ⟨fun _ _=>trivial,?_⟩
 have e2:o.semAt (WF (some l)).round a.eval=execOp a.eval o:=Oper.semAt_eq _ _ _ (yi5 hd)
 rw [e2]
 unfold Oper.wp at h
 generalize (execOp a.eval o).run P w=r at *
 cases r with
 | ok x w'=>
   cases x <;> simp only [Oper.uponIn,Oper.upon] at h⊢<;>
    first
     | exact h
     | exact ⟨fun h=>(by cases h),wf_calls.mpr h⟩
     | exact ⟨fun h=>(by cases h),fun c cs _=>let ⟨v,w'',r,s⟩:=h c cs; ⟨v,w'',r,stepsIn_wide.mpr s⟩⟩
 | halt x w'=>cases x <;> simp only [Oper.uponIn,Oper.upon] at h⊢<;> exact h
theorem opW {l n i:Nat} {P:Program} {ops:Array Oper} {K K':Act→World→Prop} {Q:Exit→Act→World→Prop} (hd:ops.all yc3=true) (hL:¬LetsOut Q) (hK:∀a w,K a w→K' a w) {a:Act} {w:World} (h:wpOp P ops Q i K a w):wpOpIn (WF (some l)) n P ops Q i K' a w:=by
 unfold wpOp at h
 unfold wpOpIn
 cases ho:ops[i]? with
 | none=>simp only [ho] at h⊢; exact hK _ _ h
 | some o=>
   simp only [ho] at h⊢
   have hdo:yc3 o=true:=by
    rw [Array.all_eq_true] at hd
    obtain ⟨hi,rfl⟩:=Array.getElem?_eq_some_iff.1 ho
    exact hd i hi
   split
   ·rename_i hw
    rw [if_pos hw] at h
    rcases h with h | h
    ·exact operW hdo hL (Oper.wp_mono hK h)
    ·exact absurd h.2 hL
   ·rename_i hw
    rw [if_neg hw] at h
    exact ⟨fun _ _=>trivial,hK _ _ h⟩
theorem anyW {l n:Nat} {P:Program} {md:Region.Mode} {ops:Array Oper} {Q:Exit→Act→World→Prop} (hd:ops.all yc3=true) (hL:¬LetsOut Q):∀(fuel:Nat) (listed:Array Bool) (a:Act) (w:World),wpAny P md ops Q fuel listed a w→wpAnyIn (WF (some l)) n P md ops Q fuel listed a w
 | 0,_,_,_,h=>h
 | fuel+1,listed,a,w,h=>⟨h.1,fun i hi=>opW hd hL (fun a w=>anyW hd hL fuel _ a w) (h.2 i hi)⟩
end
section
open Go.RowKit Go.Maps
attribute [local go_sem] Oper.semAt_some
theorem yhy (args:Array Value) (w:World):(callFunc 148 args).run Tryz.prog w= .ok (.enter 148 args) w:=by simp [go_sem]
def szI (u:Nat):Int:=if u=0 then 1 else if u=1 then 60 else 3600
theorem szI_pos (u:Nat):1≤szI u∧szI u≤3600:=by rw [szI]; split; omega; split <;> omega
def nrB (xs:List Int) (u:Nat):Bt:=xs.foldl (fun b x=>takeB b (x / szI u)) (false,0,0)
theorem yfE (q:Nat→Bool):∀x∈secL q,0≤x∧x < 86400:=fun x hx=>by
 rw [secL,sel_mem] at hx
 obtain ⟨k,h1,_,h2⟩:=hx
 omega
end
section
open Go.RowKit
section
variable {P:Program} {ops:Array Oper} {Q:Exit→Act→World→Prop} {md:Region.Mode} {S:World→Prop} {Z:List Nat}
def OrdF (P:Program) (md:Region.Mode) (ops:Array Oper) (Q:Exit→Act→World→Prop) (S:World→Prop) (Z:List Nat):Nat→Array Bool→Act→World→Prop
 | 0,l,a,w=>Region.ready md ops l= []∧Q .normal a w
 | n+1,l,a,w=>(Region.ready md ops l= []→Q .normal a w)∧∀i∈Region.ready md ops l,wpOp P ops Q i (fun a' w'=>(Z.contains i=false→S w')∧OrdF P md ops Q S Z n (l.setIfInBounds i true) a' w') a w
theorem OrdF.any:∀(n:Nat) (l:Array Bool) (a:Act) (w:World),OrdF P md ops Q S Z n l a w→wpAny P md ops Q n l a w
 | 0,_,_,_,h=>h
 | n+1,_,_,_,h=>⟨h.1,fun i hi=>wpOp_mono (fun a' w' h'=>OrdF.any n _ a' w' h'.2) (h.2 i hi)⟩
def ygg (md:Region.Mode) (ops:Array Oper) (z i:Nat):Bool:=match ops[z]? with
 | some o=>o.after.toList.any fun e=>Region.binds md e && e.on == i
 | none=>true
theorem waits_noF {z i:Nat} {l:Array Bool} (h:ygg md ops z i=true) (hi:l.getD i true=false):z ∉ Region.ready md ops l:=by
 intro hz
 obtain ⟨-,o,ho,hall⟩:=mem_ready.1 hz
 rw [ygg,ho] at h
 obtain ⟨e,he,hb⟩:=List.any_eq_true.1 h
 rw [zzX,beq_iff_eq] at hb
 have h1:=hall e (by simpa using he) hb.1
 rw [hb.2] at h1
 rcases Nat.lt_or_ge i l.size with h' | h'
 ·simp [h'] at hi h1; rw [hi] at h1; cases h1
 ·simp [Array.getElem?_eq_none h'] at h1
def ydP (md:Region.Mode) (ops:Array Oper) (l:Array Bool) (i:Nat) (Z U:List Nat):Bool:=
 U.all (fun u=>!l.getD u true) && (U.all (fun u=>u == i || U.any fun v=>ygg md ops u v) && Z.all fun z=>z != i && U.contains z)
theorem OrdF.first {i:Nat} {oi:Oper} {v:Value} (U:List Nat) (hi:ops[i]? =some oi) (hsel:∀(j:Nat) (o:Oper) cs b,ops[j]? =some o→o.op≠ .select cs b) (hQ:∀c a w,Q (.panic c) (a.put oi.dst v) w→Q (.panic c) a w)
  (h2:∀u∈U,u=i∨∃v∈U,ygg md ops u v=true) (h3:∀z∈Z,z≠i∧z∈U) :
  ∀(n:Nat) (l:Array Bool) (a:Act) (w:World),(∀u∈U,l.getD u true=false)→(∀j oj,ops[j]? =some oj→j≠i→l.getD j true=false→(∀e∈oj.after,Region.binds md e=true→e.on≠i)→oi.apart ops oj=true)→
   i∈Region.ready md ops l→YieldsIf P ops S oi v a→S w→OrdF P md ops Q S Z n (l.setIfInBounds i true) (a.put oi.dst v) w→OrdF P md ops Q S Z (n+1) l a w
 | n,l,a,w,h1,hf,hr,hy,hS,H=>by
   refine ⟨fun h=>(by rw [h] at hr; cases hr),fun j hj=>?_⟩
   by_cases hji:j=i
   ·subst hji; exact hy.wpOp hi hS ⟨fun _=>hS,H⟩
   have h0:=(mem_ready.1 hr).1
   have hU:j ∉ U:=fun hu=>by
    rcases h2 j hu with e | ⟨v,hv,hw⟩
    ·exact hji e
    ·exact waits_noF hw (h1 v hv) hj
   have hZ:Z.contains j=false:=by
    cases e:Z.contains j
    ·rfl
    ·exact absurd (h3 j (by simpa using e)).2 hU
   cases n with
   | zero=>
     have:=ready_mono hj hji
     rw [H.1] at this; cases this
   | succ n=>
     obtain ⟨hju,oj,hoj,hall⟩:=mem_ready.1 hj
     have hno:∀e∈oj.after,Region.binds md e=true→e.on≠i:=fun e he hb heq=>by
      have h1:=hall e he hb
      rw [heq] at h1
      rcases Nat.lt_or_ge i l.size with h' | h'
      ·simp [h'] at h0 h1; rw [h0] at h1; cases h1
      ·simp [Array.getElem?_eq_none h'] at h1
     refine wpOp_mono (fun a' w' h4=>⟨fun _=>h4.2.1 hZ,OrdF.first U hi hsel hQ h2 h3 n (l.setIfInBounds j true) a' w' (fun u hu=>?_) (fun k ok hk hki hun hn=>?_) (ready_mono hr (Ne.symm hji)) h4.1 (h4.2.1 hZ) ?_⟩)
      (wpOp_putIf hoj (hf j oj hoj hji hju hno) (fun cs b=>hsel i oi cs b hi) (fun cs b=>hsel j oj cs b hoj) hQ hy (H.2 j (ready_mono hj hji)))
     ·rw [getD_set_ne true (fun e=>hU (by rw [e]; exact hu))]; exact h1 u hu
     ·refine hf k ok hk hki ?_ hn
      by_cases hjk:j=k
      ·subst hjk; exact hju
      ·rw [getD_set_ne true hjk] at hun; exact hun
     ·rw [Array.setIfInBounds_comm _ _ hji]; exact h4.2.2
theorem ya9 {l:Array Bool} {i:Nat} {U:List Nat} (h:ydP md ops l i Z U=true):(∀u∈U,l.getD u true=false)∧(∀u∈U,u=i∨∃v∈U,ygg md ops u v=true)∧∀z∈Z,z≠i∧z∈U:=by
 rw [ydP,zzX,zzX,List.all_eq_true,List.all_eq_true,List.all_eq_true] at h
 refine ⟨fun u hu=>by simpa using h.1 u hu,fun u hu=>?_,fun z hz=>by simpa using h.2.2 z hz⟩
 have:=h.2.1 u hu
 rw [Bool.or_eq_true,beq_iff_eq,List.any_eq_true] at this
 exact this
theorem OrdF.take {i:Nat} {oi:Oper} {v:Value} {n:Nat} {l:Array Bool} {a:Act} {w:World} (hi:ops[i]? =some oi) (hs:Region.noSelect ops=true) (hf:Region.free md ops l i=true) (hr:(Region.ready md ops l).contains i=true) {U:List Nat} (hz:ydP md ops l i Z U=true)
  (hQ:∀c a w,Q (.panic c) (a.put oi.dst v) w→Q (.panic c) a w) (hw:Region.wanted oi (yielded ops a.tmps)=true) (hS:S w) (hy:∀w,S w→(execOp a.eval oi).run P w= .ok (.value v) w)
  (h:OrdF P md ops Q S Z n (l.setIfInBounds i true) (a.put oi.dst v) w):OrdF P md ops Q S Z (n+1) l a w:=
 OrdF.first U hi (Region.noSelect_spec hs) hQ (ya9 hz).2.1 (ya9 hz).2.2 n l a w (ya9 hz).1 (Region.free_spec hi hf) (by simpa using hr) (.inl ⟨hw,hy⟩) hS h
theorem OrdF.skip {i:Nat} {oi:Oper} {n:Nat} {l:Array Bool} {a:Act} {w:World} (hi:ops[i]? =some oi) (hs:Region.noSelect ops=true) (hf:Region.free md ops l i=true) (hr:(Region.ready md ops l).contains i=true) {U:List Nat} (hz:ydP md ops l i Z U=true)
  (hQ:∀c a w,Q (.panic c) (a.put oi.dst undef) w→Q (.panic c) a w) (hw:Region.wanted oi (yielded ops a.tmps)=false) (hS:S w)
  (h:OrdF P md ops Q S Z n (l.setIfInBounds i true) (a.put oi.dst undef) w):OrdF P md ops Q S Z (n+1) l a w:=
 OrdF.first U hi (Region.noSelect_spec hs) hQ (ya9 hz).2.1 (ya9 hz).2.2 n l a w (ya9 hz).1 (Region.free_spec hi hf) (by simpa using hr) (.inr ⟨hw,rfl⟩) hS h
theorem OrdF.one {i:Nat} {oi:Oper} {n:Nat} {l:Array Bool} {a:Act} {w:World} (hi:ops[i]? =some oi) (hr:Region.ready md ops l= [i])
  (h:∀K:Act→World→Prop,Hid (∀a w,(Z.contains i=false→S w)→OrdF P md ops Q S Z n (l.setIfInBounds i true) a w→K a w)→if Region.wanted oi (yielded ops a.tmps)=true then Oper.wp P oi a w K Q else K (a.put oi.dst undef) w):OrdF P md ops Q S Z (n+1) l a w:=
 ⟨fun h0=>(by rw [hr] at h0; cases h0),fun j hj=>by
  rw [hr,List.mem_singleton] at hj
  subst hj
  exact wpOp_step hi (fun K' hK=>h K' (fun a w h1 h2=>hK a w ⟨h1,h2⟩))⟩
theorem OrdF.two {i j:Nat} {oi oj:Oper} {n:Nat} {l:Array Bool} {a:Act} {w:World} (hi:ops[i]? =some oi) (hj:ops[j]? =some oj) (hr:Region.ready md ops l= [i,j])
  (h1:∀K:Act→World→Prop,Hid (∀a w,(Z.contains i=false→S w)→OrdF P md ops Q S Z n (l.setIfInBounds i true) a w→K a w)→if Region.wanted oi (yielded ops a.tmps)=true then Oper.wp P oi a w K Q else K (a.put oi.dst undef) w)
  (h2:∀K:Act→World→Prop,Hid (∀a w,(Z.contains j=false→S w)→OrdF P md ops Q S Z n (l.setIfInBounds j true) a w→K a w)→if Region.wanted oj (yielded ops a.tmps)=true then Oper.wp P oj a w K Q else K (a.put oj.dst undef) w):OrdF P md ops Q S Z (n+1) l a w:=
 ⟨fun h0=>(by rw [hr] at h0; cases h0),fun k hk=>by
  rw [hr] at hk
  rcases List.mem_cons.1 hk with rfl | hk
  ·exact wpOp_step hi (fun K' hK=>h1 K' (fun a w h1 h2=>hK a w ⟨h1,h2⟩))
  ·rw [List.mem_singleton] at hk
   subst hk
   exact wpOp_step hj (fun K' hK=>h2 K' (fun a w h1 h2=>hK a w ⟨h1,h2⟩))⟩
theorem OrdF.done {l:Array Bool} {a:Act} {w:World} (hr:Region.ready md ops l= []) (h:Q .normal a w):∀n,OrdF P md ops Q S Z n l a w
 | 0=>⟨hr,h⟩
 | _+1=>⟨fun _=>h,by rw [hr]; simp⟩
end
section
variable {P:Program} {ops:Array Oper} {Q:Exit→Act→World→Prop} {md:Region.Mode} {S:World→Prop} {Z:List Nat} {n:Nat} {l:Array Bool} {a:Act} {w:World} {oi:Oper}
theorem rgT (i:Nat) {v:Value} (hy:∀w,S w→(execOp a.eval oi).run P w= .ok (.value v) w) (h:OrdF P md ops Q S Z n (l.setIfInBounds i true) (a.put oi.dst v) w) (U:List Nat:=i :: Z) (hi:ops[i]? =some oi:=by rfl) (hs:Region.noSelect ops=true:=by kernel_rfl)
  (hf:Region.free md ops l i=true:=by kernel_rfl) (hr:(Region.ready md ops l).contains i=true:=by kernel_rfl) (hz:ydP md ops l i Z U=true:=by kernel_rfl) (hQ:∀c a w,Q (.panic c) (a.put oi.dst v) w→Q (.panic c) a w:=by exact fun _ _ _ h=>h)
  (hw:Region.wanted oi (yielded ops a.tmps)=true:=by rfl) (hS:S w:=by assumption):OrdF P md ops Q S Z (n+1) l a w:=OrdF.take hi hs hf hr hz hQ hw hS hy h
theorem rgS (i:Nat) (h:OrdF P md ops Q S Z n (l.setIfInBounds i true) (a.put oi.dst undef) w) (U:List Nat:=i :: Z) (hi:ops[i]? =some oi:=by rfl) (hs:Region.noSelect ops=true:=by kernel_rfl)
  (hf:Region.free md ops l i=true:=by kernel_rfl) (hr:(Region.ready md ops l).contains i=true:=by kernel_rfl) (hz:ydP md ops l i Z U=true:=by kernel_rfl) (hQ:∀c a w,Q (.panic c) (a.put oi.dst undef) w→Q (.panic c) a w:=by exact fun _ _ _ h=>h)
  (hw:Region.wanted oi (yielded ops a.tmps)=false:=by rfl) (hS:S w:=by assumption):OrdF P md ops Q S Z (n+1) l a w:=OrdF.skip hi hs hf hr hz hQ hw hS h
theorem rgO (i:Nat) (h:∀K:Act→World→Prop,Hid (∀a w,(Z.contains i=false→S w)→OrdF P md ops Q S Z n (l.setIfInBounds i true) a w→K a w)→if Region.wanted oi (yielded ops a.tmps)=true then Oper.wp P oi a w K Q else K (a.put oi.dst undef) w)
  (hi:ops[i]? =some oi:=by rfl) (hr:Region.ready md ops l= [i]:=by kernel_rfl):OrdF P md ops Q S Z (n+1) l a w:=OrdF.one hi hr h
end
theorem rgPut:(∀(a:Act) (d:Tmp) (v:Value),a.put (some d) v= {a with tmps:=a.tmps.setIfInBounds d v})∧(∀(a:Act) (v:Value),a.put none v=a)∧(type_of% @List.getElem_toArray.{0})∧(type_of% @List.getElem_cons_succ.{0})∧(type_of% @List.getElem_cons_zero.{0})∧(type_of% @List.setIfInBounds_toArray.{0})∧(type_of% @List.set_cons_zero.{0})∧(type_of% @List.set_cons_succ.{0}):=
 ⟨fun _ _ _=>rfl,fun _ _=>rfl,@List.getElem_toArray.{0},@List.getElem_cons_succ.{0},@List.getElem_cons_zero.{0},@List.setIfInBounds_toArray.{0},@List.set_cons_zero.{0},@List.set_cons_succ.{0}⟩
theorem regF {id:Nat} {P:Program} {ops:Array Oper} (Z:List Nat) {S:World→Prop} {Q:Exit→Act→World→Prop} {a:Act} {w:World} (hm:P.follows .mixedOrders=true) (hS:S w.drew)
  (h:S w.drew→OrdF P .any ops Q S Z ops.size (Array.replicate ops.size false) a w.drew):(Code.region id ops true).wp P Q a w:=
 wp_region_any hm (OrdF.any _ _ _ _ (h hS))
theorem regFW {l n id:Nat} {P:Program} {ops:Array Oper} (Z:List Nat) {S:World→Prop} {Q:Exit→Act→World→Prop} {a:Act} {w:World} (hm:P.follows .mixedOrders=true) (hd:ops.all yc3=true) (hL:¬LetsOut Q) (hS:S w.drew)
  (h:S w.drew→OrdF P .any ops Q S Z ops.size (Array.replicate ops.size false) a w.drew):(Code.region id ops true).wpIn (WF (some l)) n P Q a w:=
 wpIn_region_any hm (anyW hd hL _ _ _ _ (OrdF.any _ _ _ _ (h hS)))
theorem zfA {P:Program} {ops:Array Oper} {Q:Exit→Act→World→Prop} {md:Region.Mode} {S:World→Prop} {Z:List Nat} {n:Nat} {l:Array Bool} {a:Act} {w:World} (i:Nat) {oi:Oper} {v:Value} {a2:Act} (h:OrdF P md ops Q S Z n (l.setIfInBounds i true) a2 w) (U:List Nat:=i :: Z) (hi:ops[i]? =some oi:=by rfl) (hy:∀w,S w→(execOp a.eval oi).run P w= .ok (.value v) w:=by intro w hSw; (try replace hSw:=hSw.out); (try have f:=hSw.3); (try have f:=hSw.4); (try have f:=hSw.5); (try have f:=hSw.6); (try have f:=hSw.7); (repeat (have f:=hSw.1; replace hSw:=hSw.2)); go_simp; (try with_reducible rfl)) (ha:a.put oi.dst v=a2:=by (try simp only [zP]); (try rfl)) (hs:Region.noSelect ops=true:=by kernel_rfl) (hf:Region.free md ops l i=true:=by kernel_rfl) (hr:(Region.ready md ops l).contains i=true:=by kernel_rfl) (hz:ydP md ops l i Z U=true:=by kernel_rfl) (hQ:∀c a w,Q (.panic c) (a.put oi.dst v) w→Q (.panic c) a w:=by exact fun _ _ _ h=>h) (hw:Region.wanted oi (yielded ops a.tmps)=true:=by rfl) (hS:S w:=by assumption):OrdF P md ops Q S Z (n+1) l a w:=by subst ha; exact OrdF.take hi hs hf hr hz hQ hw hS hy h
theorem zfC {P:Program} {ops:Array Oper} {Q:Exit→Act→World→Prop} {md:Region.Mode} {S:World→Prop} {Z:List Nat} {n:Nat} {l:Array Bool} {a:Act} {w:World} (i:Nat) {oi:Oper} {v:Value} {a2:Act} (h:OrdF P md ops Q S Z n (l.setIfInBounds i true) a2 w) (U:List Nat:=i :: Z) (hi:ops[i]? =some oi:=by rfl) (hy:∀w,S w→(execOp a.eval oi).run P w= .ok (.value v) w:=by intro w hSw; cases hSw.out; clear hSw; go_simp; (try with_reducible rfl)) (ha:a.put oi.dst v=a2:=by (try simp only [zP]); (try rfl)) (hs:Region.noSelect ops=true:=by kernel_rfl) (hf:Region.free md ops l i=true:=by kernel_rfl) (hr:(Region.ready md ops l).contains i=true:=by kernel_rfl) (hz:ydP md ops l i Z U=true:=by kernel_rfl) (hQ:∀c a w,Q (.panic c) (a.put oi.dst v) w→Q (.panic c) a w:=by exact fun _ _ _ h=>h) (hw:Region.wanted oi (yielded ops a.tmps)=true:=by rfl) (hS:S w:=by assumption):OrdF P md ops Q S Z (n+1) l a w:=by subst ha; exact OrdF.take hi hs hf hr hz hQ hw hS hy h
theorem zfD {P:Program} {ops:Array Oper} {Q:Exit→Act→World→Prop} {md:Region.Mode} {S:World→Prop} {Z:List Nat} {n:Nat} {l:Array Bool} {a:Act} {w:World} (i:Nat) {oi:Oper} {v:Value} {a2:Act} (h:OrdF P md ops Q S Z n (l.setIfInBounds i true) a2 w) (U:List Nat:=i :: Z) (hi:ops[i]? =some oi:=by rfl) (hy:∀w,S w→(execOp a.eval oi).run P w= .ok (.value v) w:=by intro w hSw; go_simp; (try with_reducible rfl)) (ha:a.put oi.dst v=a2:=by (try simp only [zP]); (try rfl)) (hs:Region.noSelect ops=true:=by kernel_rfl) (hf:Region.free md ops l i=true:=by kernel_rfl) (hr:(Region.ready md ops l).contains i=true:=by kernel_rfl) (hz:ydP md ops l i Z U=true:=by kernel_rfl) (hQ:∀c a w,Q (.panic c) (a.put oi.dst v) w→Q (.panic c) a w:=by exact fun _ _ _ h=>h) (hw:Region.wanted oi (yielded ops a.tmps)=true:=by rfl) (hS:S w:=by assumption):OrdF P md ops Q S Z (n+1) l a w:=by subst ha; exact OrdF.take hi hs hf hr hz hQ hw hS hy h
theorem zfE {P:Program} {ops:Array Oper} {Q:Exit→Act→World→Prop} {md:Region.Mode} {S:World→Prop} {Z:List Nat} {n:Nat} {l:Array Bool} {a:Act} {w:World} (i:Nat) {oi:Oper} {v:Value} {a2:Act} (h:OrdF P md ops Q S Z n (l.setIfInBounds i true) a2 w) (U:List Nat:=i :: Z) (hi:ops[i]? =some oi:=by rfl) (hy:∀w,S w→(execOp a.eval oi).run P w= .ok (.value v) w:=by intro w hSw; clear hSw; go_simp; (try with_reducible rfl)) (ha:a.put oi.dst v=a2:=by (try simp only [zP]); (try rfl)) (hs:Region.noSelect ops=true:=by kernel_rfl) (hf:Region.free md ops l i=true:=by kernel_rfl) (hr:(Region.ready md ops l).contains i=true:=by kernel_rfl) (hz:ydP md ops l i Z U=true:=by kernel_rfl) (hQ:∀c a w,Q (.panic c) (a.put oi.dst v) w→Q (.panic c) a w:=by exact fun _ _ _ h=>h) (hw:Region.wanted oi (yielded ops a.tmps)=true:=by rfl) (hS:S w:=by assumption):OrdF P md ops Q S Z (n+1) l a w:=by subst ha; exact OrdF.take hi hs hf hr hz hQ hw hS hy h
theorem zfF {P:Program} {ops:Array Oper} {Q:Exit→Act→World→Prop} {md:Region.Mode} {S:World→Prop} {Z:List Nat} {n:Nat} {l:Array Bool} {a:Act} {w:World} (i:Nat) {oi:Oper} {v:Value} {a2:Act} {R:World→Prop} (hR:∀w,S w→R w) (h:OrdF P md ops Q S Z n (l.setIfInBounds i true) a2 w) (U:List Nat:=i :: Z) (hi:ops[i]? =some oi:=by rfl) (hy:∀w,R w→(execOp a.eval oi).run P w= .ok (.value v) w:=by intro w hSw; (repeat (have f:=hSw.1; replace hSw:=hSw.2)); go_simp; (try with_reducible rfl)) (ha:a.put oi.dst v=a2:=by (try simp only [zP]); (try rfl)) (hs:Region.noSelect ops=true:=by kernel_rfl) (hf:Region.free md ops l i=true:=by kernel_rfl) (hr:(Region.ready md ops l).contains i=true:=by kernel_rfl) (hz:ydP md ops l i Z U=true:=by kernel_rfl) (hQ:∀c a w,Q (.panic c) (a.put oi.dst v) w→Q (.panic c) a w:=by exact fun _ _ _ h=>h) (hw:Region.wanted oi (yielded ops a.tmps)=true:=by rfl) (hS:S w:=by assumption):OrdF P md ops Q S Z (n+1) l a w:=by subst ha; exact OrdF.take hi hs hf hr hz hQ hw hS (fun w h=>hy w (hR w h)) h
theorem zfS {P:Program} {ops:Array Oper} {Q:Exit→Act→World→Prop} {md:Region.Mode} {S:World→Prop} {Z:List Nat} {n:Nat} {l:Array Bool} {a:Act} {w:World} (i:Nat) {oi:Oper} {a2:Act} (h:OrdF P md ops Q S Z n (l.setIfInBounds i true) a2 w) (U:List Nat:=i :: Z) (hi:ops[i]? =some oi:=by rfl) (ha:a.put oi.dst undef=a2:=by (try simp only [zP]); (try rfl)) (hs:Region.noSelect ops=true:=by kernel_rfl) (hf:Region.free md ops l i=true:=by kernel_rfl) (hr:(Region.ready md ops l).contains i=true:=by kernel_rfl) (hz:ydP md ops l i Z U=true:=by kernel_rfl) (hQ:∀c a w,Q (.panic c) (a.put oi.dst undef) w→Q (.panic c) a w:=by exact fun _ _ _ h=>h) (hw:Region.wanted oi (yielded ops a.tmps)=false:=by rfl) (hS:S w:=by assumption):OrdF P md ops Q S Z (n+1) l a w:=by subst ha; exact OrdF.skip hi hs hf hr hz hQ hw hS h
theorem zzO {P:Program} {ops:Array Oper} {Q:Exit→Act→World→Prop} {md:Region.Mode} {S:World→Prop} {Z:List Nat} {n:Nat} {l:Array Bool} {a:Act} {w:World} (i:Nat) {oi:Oper} (h:∀K:Act→World→Prop,Hid (∀a w,(Z.contains i=false→S w)→OrdF P md ops Q S Z n (l.setIfInBounds i true) a w→K a w)→Oper.wp P oi a w K Q) (hi:ops[i]? =some oi:=by rfl) (hr:Region.ready md ops l= [i]:=by kernel_rfl) (hw:Region.wanted oi (yielded ops a.tmps)=true:=by rfl):OrdF P md ops Q S Z (n+1) l a w:=OrdF.one hi hr fun K hK=>by rw [if_pos hw]; exact h K hK
end
section
open Go.RowKit Go.Maps
attribute [local go_sem] Oper.semAt_some
structure TriC (b:Nat) (x y z:Nat) (O:Nat→Prop) (W:World):Prop where
 c0:W.cell? ⟨b,0,none⟩=some (.int .u64 x)
 c1:W.cell? ⟨b+1,0,none⟩=some (.int .u64 y)
 c2:W.cell? ⟨b+1+1,0,none⟩=some (.int .u64 z)
 f0:W.frozen? ⟨b,0,none⟩=false
 f1:W.frozen? ⟨b+1,0,none⟩=false
 f2:W.frozen? ⟨b+1+1,0,none⟩=false
 o0:O b
 o1:O (b+1)
 o2:O (b+1+1)
 lt:∀c,O c→c < W.heap.size
theorem TriC.keep {b:Nat} {x y z:Nat} {O:Nat→Prop} {W W':World} (h:TriC b x y z O W) (hs:W.heap.size≤W'.heap.size) (hb:∀c,O c→W'.heap[c]? =W.heap[c]?):TriC b x y z O W':=
 ⟨(zzJ (w:=W) (a:=⟨b,0,none⟩) (hb _ h.o0)).trans h.c0,(zzJ (w:=W) (a:=⟨b+1,0,none⟩) (hb _ h.o1)).trans h.c1,(zzJ (w:=W) (a:=⟨b+1+1,0,none⟩) (hb _ h.o2)).trans h.c2,
  (zzM (w:=W) (a:=⟨b,0,none⟩) (hb _ h.o0)).trans h.f0,(zzM (w:=W) (a:=⟨b+1,0,none⟩) (hb _ h.o1)).trans h.f1,(zzM (w:=W) (a:=⟨b+1+1,0,none⟩) (hb _ h.o2)).trans h.f2,h.o0,h.o1,h.o2,fun c hc=>zH (h.lt c hc) hs⟩
theorem TriC.set {b:Nat} {x y z x' y' z':Nat} {O:Nat→Prop} {W:World} (h:TriC b x y z O W):TriC b x' y' z' O (((W.setCell ⟨b,0,none⟩ (.int .u64 x')).setCell ⟨b+1,0,none⟩ (.int .u64 y')).setCell ⟨b+1+1,0,none⟩ (.int .u64 z')):=by
 obtain ⟨h1,h2,h3,h4,h5,h6,h7,h8,h9,h10⟩:=h
 refine ⟨?_,?_,?_,?_,?_,?_,h7,h8,h9,fun c hc=>by simpa using h10 c hc⟩ <;> simp [go_sem,h1,h2,h3,h4,h5,h6]
theorem TriC.set0 {b:Nat} {x y z:Nat} (x':Nat) {O:Nat→Prop} {W:World} (h:TriC b x y z O W):TriC b x' y z O (W.setCell ⟨b,0,none⟩ (.int .u64 x')):=by
 obtain ⟨h1,h2,h3,h4,h5,h6,h7,h8,h9,h10⟩:=h
 refine ⟨?_,?_,?_,?_,?_,?_,h7,h8,h9,fun c hc=>by simpa using h10 c hc⟩ <;> simp [go_sem,h1,h2,h3,h4,h5,h6]
theorem TriC.set1 {b:Nat} {x y z:Nat} (x':Nat) {O:Nat→Prop} {W:World} (h:TriC b x y z O W):TriC b x x' z O (W.setCell ⟨b+1,0,none⟩ (.int .u64 x')):=by
 obtain ⟨h1,h2,h3,h4,h5,h6,h7,h8,h9,h10⟩:=h
 refine ⟨?_,?_,?_,?_,?_,?_,h7,h8,h9,fun c hc=>by simpa using h10 c hc⟩ <;> simp [go_sem,h1,h2,h3,h4,h5,h6]
theorem TriC.set2 {b:Nat} {x y z:Nat} (x':Nat) {O:Nat→Prop} {W:World} (h:TriC b x y z O W):TriC b x y x' O (W.setCell ⟨b+1+1,0,none⟩ (.int .u64 x')):=by
 obtain ⟨h1,h2,h3,h4,h5,h6,h7,h8,h9,h10⟩:=h
 refine ⟨?_,?_,?_,?_,?_,?_,h7,h8,h9,fun c hc=>by simpa using h10 c hc⟩ <;> simp [go_sem,h1,h2,h3,h4,h5,h6]
theorem TriC.drew {b:Nat} {x y z:Nat} {O:Nat→Prop} {W:World} (h:TriC b x y z O W):TriC b x y z O W.drew:=h.keep (zG _) (fun _ _=>rfl)
def TmI (b:Nat) (X:List Int):OwnP:=fun k O W=>TriC b (ofM (hrL (X.take k))) (ofM (mnL (X.take k))) (ofM (scL (X.take k))) O W
theorem yhX (b:Nat) (X:List Int):ybb (TmI b X):=fun k O W W' h hs hO=>h.keep hs hO
theorem yfl (d:Nat) (q:Nat→Bool) (w:World) (hT:Tab w) (h:DiscAt w d q) :
  Calls Tryz.prog 57 #[.pointer (some ⟨d,0,none⟩)] w fun e w'=>e= .returned (.tuple #[.int .u64 (ofM (hrL (secL q))), .int .u64 (ofM (mnL (secL q))), .int .u64 (ofM (scL (secL q)))])∧Below w.heap.size w w':=by
 obtain ⟨W1,hW1⟩:∃W1,((w.alloc (.cells #[.int .u64 0] 24)).alloc (.cells #[.int .u64 0] 24)).alloc (.cells #[.int .u64 0] 24)=W1:=⟨_,rfl⟩
 have hB1:Below w.heap.size w W1:=by rw [←hW1]; exact yaa (yaa (yaa (Below.refl _ _) (zG _)) (by simp)) (by simp only [zzN]; omega)
 have s1:W1.heap.size=w.heap.size+3:=by rw [←hW1]; simp
 have hC1:TriC w.heap.size 0 0 0 (fun b=>b=w.heap.size∨b=w.heap.size+1∨b=w.heap.size+1+1) W1:=by
  refine ⟨?_,?_,?_,?_,?_,?_, .inl rfl, .inr (.inl rfl), .inr (.inr rfl),fun c hc=>by omega⟩ <;> (rw [←hW1]; simp [go_sem])
 have cA:=hid (yjL (some d) q W1 (h.below hB1 h.lt))
 have HT:=hid hT
 have HB1:=hid hB1
 have HW1:=hid hW1
 have S1:=hid s1
 have HC1:=hid hC1
 have hlen:=secL_len q
 have hmem:Hid (∀x∈secL q,0≤x∧x < 86400):=yfE q
 obtain ⟨X,hX⟩:∃X,secL q=X:=⟨_,rfl⟩
 rw [hX] at hlen hmem cA
 rw [hX]
 clear hW1 hB1 s1 hC1 hT h hX
 refine (wf_calls (r:=none) (n:=1)).mp ?_
 refine callsIn_of_wp_marks Tryz.func57 rfl trivial ?_ rfl
 simp only [Tryz.ntmps57,List.size_toArray,List.length_cons,List.length_nil,Nat.reduceAdd,Nat.reduceSub,Array.replicate_succ,Array.replicate_zero,List.push_toArray,List.append_toArray,List.nil_append,List.cons_append]
 gi_wp2_with fail
 rw [HW1.out]
 refine (wf_calls.mpr cA.out).mono ?_
 rintro e w2 ⟨rfl,ht,hB2,hl2⟩
 obtain ⟨t,t1,t2,t3⟩:=ht.out
 have hB02:Below w.heap.size w w2:=HB1.out.trans (hB2.mono HB1.out.size)
 have hC2:TriC w.heap.size 0 0 0 (fun b=>b=w.heap.size∨b=w.heap.size+1∨b=w.heap.size+1+1) w2:=HC1.out.keep hB2.size (fun c hc=>hB2.block c (HC1.out.lt c hc))
 have tl:ygO Tryz.prog 148 #[.pointer (some ⟨W1.heap.size,0,none⟩)] X (fun b=>b=w.heap.size∨b=w.heap.size+1∨b=w.heap.size+1+1) w2:=by
  intro y J Jx O W hO hB hC hJ
  rw [←t3] at hC⊢
  have hnO:¬O W1.heap.size:=fun h=>by
   rcases hO _ h with h | h
   ·have:=S1.out; omega
   ·omega
  exact ygX t W1.heap.size y J Jx O W t2 hC hJ (zH hl2 hB.size) hnO (t1.below hB hl2) (HT.out.later (hB02.trans (hB.mono hB02.size))) (fun h=>by
   have h0:=HT.out.1
   rcases hO _ h with h | h
   ·omega
   ·have:=hB02.size; omega)
 have TL:=hid tl
 have HB02:=hid hB02
 have HC2:=hid hC2
 have S2:Hid (w.heap.size+3≤w2.heap.size):=by have:=hB2.size; have:=S1.out; show _≤_; omega
 clear tl hB02 hC2 ht t1 t3 hB2 cA
 gi_wp2_with fail
 refine yaT (gf:=148) (lb:=#[.pointer (some ⟨W1.heap.size,0,none⟩)]) rfl yhy X (fun b=>b=w.heap.size∨b=w.heap.size+1∨b=w.heap.size+1+1) rfl TL.out
  (TmI w.heap.size X) (fun _ _ _ _=>False) (yhX _ _) (fun _ _ _ _ _ h _ _=>h.elim) (fun k O W h=>h.lt) (fun _ _ _ _ h=>h.elim) HC2.out
  (fun k O a' W=>TmI w.heap.size X k O W∧∀hk:k < X.length,a' = {tmps:=#[.pointer (some ⟨d,0,none⟩),undef, .pointer (some ⟨w.heap.size,0,none⟩), .pointer (some ⟨w.heap.size+1,0,none⟩), .pointer (some ⟨w.heap.size+1+1,0,none⟩), .int .i64 X[k],undef,undef,undef,undef, .pointer (some ⟨d,0,none⟩), .func (.func 148) #[] #[.pointer (some ⟨W1.heap.size,0,none⟩)], .int .i64 X[k],undef,undef,undef,undef,undef,undef,undef,undef,undef,undef,undef,undef,undef,undef,undef,undef,undef,undef,undef,undef,undef,undef],defers:= []})
  (fun l o k O a' W hr hn h=>⟨ybd (yhX _ _) h.1 hn o,h.2⟩) ?assign ?body ?done ?stop
 case assign=>
  intro l k O W K hk hI hG hK
  gi_wp2
  exact hK _ O W (Grow.refl _ _) ⟨hI,fun _=>rfl⟩
 case stop=>
  rintro c k O' W' h1 h2 hG h
  exact h.elim
 case body=>
  rintro l k O a' W hk hG hl hrec hnl ⟨hI,ha⟩
  rw [ha hk]
  have hx:=hmem.out _ (zzr hk)
  have hsn:=tm_snoc hk hx.1 hx.2
  obtain ⟨x,hxe⟩:∃x,X[k]=x:=⟨_,rfl⟩
  rw [hxe] at hx hsn
  rw [hxe]
  obtain ⟨x0,x1⟩:=hx
  have cP:=hid (ydr x W x0 x1)
  obtain ⟨h,hh⟩:∃n:Nat,x / 3600=n:=⟨(x / 3600).toNat,by omega⟩
  obtain ⟨m,hm⟩:∃n:Nat,x / 60 % 60=n:=⟨(x / 60 % 60).toNat,by omega⟩
  obtain ⟨z,hz⟩:∃n:Nat,x % 60=n:=⟨(x % 60).toNat,by omega⟩
  rw [hh,hm,hz] at cP
  rw [hh,hm,hz,Int.toNat_natCast,Int.toNat_natCast,Int.toNat_natCast] at hsn
  have h64:h < 64:=by omega
  have m64:m < 64:=by omega
  have z64:z < 64:=by omega
  have Hlt:Hid (ofM (hrL (X.take k)) < 18446744073709551616∧ofM (mnL (X.take k)) < 18446744073709551616∧ofM (scL (X.take k)) < 18446744073709551616):=⟨yao _,yao _,yao _⟩
  change TriC w.heap.size (ofM (hrL (X.take k))) (ofM (mnL (X.take k))) (ofM (scL (X.take k))) O W at hI
  obtain ⟨A,hA⟩:∃a,ofM (hrL (X.take k))=a:=⟨_,rfl⟩
  obtain ⟨B,hB⟩:∃a,ofM (mnL (X.take k))=a:=⟨_,rfl⟩
  obtain ⟨C,hC⟩:∃a,ofM (scL (X.take k))=a:=⟨_,rfl⟩
  rw [hA,hB,hC] at hsn hI Hlt
  have HI:=hid hI
  have EI:Hid (Eff O W W):=Eff.refl _ _
  have HS:=hid hsn
  have Hrec:=hid hrec
  have Hnl:=hid hnl
  clear hxe ha hA hB hC hI hsn hG hrec hnl hl hk hh hm hz x0 x1
  gi_wp2_with fail
  refine (wf_calls.mpr cP.out).mono ?_
  rintro e w4 ⟨rfl,rfl⟩
  clear cP
  have c0:=HI.out.drew.c0
  have z0:=HI.out.drew.f0
  have hor:bits .or .u64 (A:Int) ((2:Int) ^ h)= ((A ||| 2 ^ h:Nat):Int):=by have h:=yaG (a:=A) Hlt.out.1 (ybM h64); rw [Int.natCast_pow] at h; exact h
  have hwp:=ybo h64
  have h0i:¬(h:Int) < 0:=by omega
  have h64i:(h:Int) < 64:=by omega
  have HN:=hid (HI.out.drew.set0 (A ||| 2 ^ h))
  have HE:Hid (Eff O W (W.drew.setCell ⟨w.heap.size,0,none⟩ (.int .u64 ((A ||| 2 ^ h:Nat):Int)))):=EI.out.drew.set HN.out.o0 _ _
  gi_upto_region 4 with fail
  refine regFW [4] (S:=fun W=>W.cell? ⟨w.heap.size,0,none⟩=some (.int .u64 (A:Nat))) (by kernel_rfl) (by kernel_rfl) (by rintro ⟨_,_,h⟩; exact h) c0 (fun hHeld=>?_)
  refine zfA 0 ?_
  refine zfE 1 ?_
  refine zfE 2 ?_
  refine zfE 3 ?_
  refine zzO 4 (fun K hK=>?_)
  go_simp
  refine hK.out _ _ (fun h=>absurd h (by decide)) ?_
  clear hK
  try simp only [rgPut]
  refine OrdF.done (by kernel_rfl) ?_ _
  obtain ⟨W5,hW⟩:∃V:World,(W.setCell ⟨w.heap.size,0,none⟩ (.int .u64 ((A ||| 2 ^ h:Nat):Int))).drew=V:=⟨_,rfl⟩
  have HW5:Hid (TriC w.heap.size (A ||| 2 ^ h) B C O W5):=by show TriC _ _ _ _ _ _; rw [←hW]; exact HN.out
  have EW5:Hid (Eff O W W5):=by show Eff _ _ _; rw [←hW]; exact HE.out
  (try rw [hW])
  clear c0 z0 hor hwp h0i h64i HN HE hHeld hW
  have c0:=HW5.out.drew.c1
  have z0:=HW5.out.drew.f1
  have hor:bits .or .u64 (B:Int) ((2:Int) ^ m)= ((B ||| 2 ^ m:Nat):Int):=by have h:=yaG (a:=B) Hlt.out.2.1 (ybM m64); rw [Int.natCast_pow] at h; exact h
  have hwp:=ybo m64
  have h0i:¬(m:Int) < 0:=by omega
  have h64i:(m:Int) < 64:=by omega
  have HN:=hid (HW5.out.drew.set1 (B ||| 2 ^ m))
  have HE:Hid (Eff O W (W5.drew.setCell ⟨w.heap.size+1,0,none⟩ (.int .u64 ((B ||| 2 ^ m:Nat):Int)))):=EW5.out.drew.set HN.out.o1 _ _
  gi_upto_region 5 with fail
  refine regFW [4] (S:=fun W=>W.cell? ⟨w.heap.size+1,0,none⟩=some (.int .u64 (B:Nat))) (by kernel_rfl) (by kernel_rfl) (by rintro ⟨_,_,h⟩; exact h) c0 (fun hHeld=>?_)
  refine zfA 0 ?_
  refine zfE 1 ?_
  refine zfE 2 ?_
  refine zfE 3 ?_
  refine zzO 4 (fun K hK=>?_)
  go_simp
  refine hK.out _ _ (fun h=>absurd h (by decide)) ?_
  clear hK
  try simp only [rgPut]
  refine OrdF.done (by kernel_rfl) ?_ _
  obtain ⟨W6,hW⟩:∃V:World,(W5.setCell ⟨w.heap.size+1,0,none⟩ (.int .u64 ((B ||| 2 ^ m:Nat):Int))).drew=V:=⟨_,rfl⟩
  have HW6:Hid (TriC w.heap.size (A ||| 2 ^ h) (B ||| 2 ^ m) C O W6):=by show TriC _ _ _ _ _ _; rw [←hW]; exact HN.out
  have EW6:Hid (Eff O W W6):=by show Eff _ _ _; rw [←hW]; exact HE.out
  (try rw [hW])
  clear c0 z0 hor hwp h0i h64i HN HE hHeld hW
  have c0:=HW6.out.drew.c2
  have z0:=HW6.out.drew.f2
  have hor:bits .or .u64 (C:Int) ((2:Int) ^ z)= ((C ||| 2 ^ z:Nat):Int):=by have h:=yaG (a:=C) Hlt.out.2.2 (ybM z64); rw [Int.natCast_pow] at h; exact h
  have hwp:=ybo z64
  have h0i:¬(z:Int) < 0:=by omega
  have h64i:(z:Int) < 64:=by omega
  have HN:=hid (HW6.out.drew.set2 (C ||| 2 ^ z))
  have HE:Hid (Eff O W (W6.drew.setCell ⟨w.heap.size+1+1,0,none⟩ (.int .u64 ((C ||| 2 ^ z:Nat):Int)))):=EW6.out.drew.set HN.out.o2 _ _
  gi_upto_region 6 with fail
  refine regFW [4] (S:=fun W=>W.cell? ⟨w.heap.size+1+1,0,none⟩=some (.int .u64 (C:Nat))) (by kernel_rfl) (by kernel_rfl) (by rintro ⟨_,_,h⟩; exact h) c0 (fun hHeld=>?_)
  refine zfA 0 ?_
  refine zfE 1 ?_
  refine zfE 2 ?_
  refine zfE 3 ?_
  refine zzO 4 (fun K hK=>?_)
  go_simp
  refine hK.out _ _ (fun h=>absurd h (by decide)) ?_
  clear hK
  try simp only [rgPut]
  refine OrdF.done (by kernel_rfl) ?_ _
  obtain ⟨W7,hW⟩:∃V:World,(W6.setCell ⟨w.heap.size+1+1,0,none⟩ (.int .u64 ((C ||| 2 ^ z:Nat):Int))).drew=V:=⟨_,rfl⟩
  have HW7:Hid (TriC w.heap.size (A ||| 2 ^ h) (B ||| 2 ^ m) (C ||| 2 ^ z) O W7):=by show TriC _ _ _ _ _ _; rw [←hW]; exact HN.out
  have EW7:Hid (Eff O W W7):=by show Eff _ _ _; rw [←hW]; exact HE.out
  (try rw [hW])
  clear c0 z0 hor hwp h0i h64i HN HE hHeld hW
  gi_wp2
  exact ⟨O,⟨fun _ h=>h,fun _ h=> .inl h,EW7.out⟩,by rw [TmI,HS.out.1,HS.out.2.1,HS.out.2.2]; exact HW7.out⟩
 case done=>
  rintro O' W' hG hI hD hnD
  rw [TmI,List.take_length] at hI
  obtain ⟨A,hA⟩:∃a,ofM (hrL X)=a:=⟨_,rfl⟩
  obtain ⟨B,hB⟩:∃a,ofM (mnL X)=a:=⟨_,rfl⟩
  obtain ⟨C,hC⟩:∃a,ofM (scL X)=a:=⟨_,rfl⟩
  rw [hA,hB,hC] at hI
  have HE:Hid (A=ofM (hrL X)∧B=ofM (mnL X)∧C=ofM (scL X)):=⟨hA.symm,hB.symm,hC.symm⟩
  have HI:Hid (TriC w.heap.size A B C O' W'.drew∧Eff O' W' W'.drew):=⟨hI.drew,Eff.of_below (Below.refl _ _).drew⟩
  have HB9:Hid (Below w.heap.size w W'):=HB02.out.trans (hG.eff.below (fun b hb=>by omega) HB02.out.size)
  have HO:Hid (∀b,O' b→w.heap.size≤b):=fun b hb=>by
   rcases hG.new b hb with h | h
   ·omega
   ·have:=S2.out; omega
  have HD:=hid hD
  have HnD:=hid hnD
  clear hA hB hC hI hG hD hnD
  gi_upto_region 7 with fail
  refine wf_wp.mpr (wp_region_noPanic ?_)
  refine regF [] (S:=fun W=>Hid (TriC w.heap.size A B C O' W∧Eff O' W' W)) (by kernel_rfl) HI (fun hHeld=>?_)
  refine rgT 0 (v:=?_) ?_ ?_
  rotate_left
  ·intro w hSw; obtain ⟨⟨f0,f1,f2,-⟩,-⟩:=hSw.out; clear hSw; go_simp; (try with_reducible rfl)
  try simp only [rgPut]
  refine rgT 1 (v:=?_) ?_ ?_
  rotate_left
  ·intro w hSw; obtain ⟨⟨f0,f1,f2,-⟩,-⟩:=hSw.out; clear hSw; go_simp; (try with_reducible rfl)
  try simp only [rgPut]
  refine rgT 2 (v:=?_) ?_ ?_
  rotate_left
  ·intro w hSw; obtain ⟨⟨f0,f1,f2,-⟩,-⟩:=hSw.out; clear hSw; go_simp; (try with_reducible rfl)
  try simp only [rgPut]
  have c0:=HI.out.1.c0
  have z0:=HI.out.1.f0
  have HN:Hid (TriC w.heap.size A B C O' (W'.drew.setCell ⟨w.heap.size,0,none⟩ (.int .u64 (A:Nat)))∧Eff O' W' (W'.drew.setCell ⟨w.heap.size,0,none⟩ (.int .u64 (A:Nat)))):=⟨HI.out.1.set0 A,HI.out.2.set HI.out.1.o0 _ _⟩
  refine zzO 3 (fun K hK=>?_)
  go_simp
  refine hK.out _ _ (fun _=>HN) ?_
  clear hK
  try simp only [rgPut]
  obtain ⟨V0,hW⟩:∃V:World,(W'.setCell ⟨w.heap.size,0,none⟩ (.int .u64 (A:Nat))).drew=V:=⟨_,rfl⟩
  replace HN:Hid (TriC w.heap.size A B C O' V0∧Eff O' W' V0):=by show _∧_; rw [←hW]; exact HN.out
  (try rw [hW])
  have HV0:=HN
  clear c0 z0 HN hW
  have c0:=HV0.out.1.c1
  have z0:=HV0.out.1.f1
  have HN:Hid (TriC w.heap.size A B C O' (V0.setCell ⟨w.heap.size+1,0,none⟩ (.int .u64 (B:Nat)))∧Eff O' W' (V0.setCell ⟨w.heap.size+1,0,none⟩ (.int .u64 (B:Nat)))):=⟨HV0.out.1.set1 B,HV0.out.2.set HV0.out.1.o1 _ _⟩
  refine zzO 4 (fun K hK=>?_)
  go_simp
  refine hK.out _ _ (fun _=>HN) ?_
  clear hK
  try simp only [rgPut]
  obtain ⟨V1,hW⟩:∃V:World,V0.setCell ⟨w.heap.size+1,0,none⟩ (.int .u64 (B:Nat))=V:=⟨_,rfl⟩
  rw [hW] at HN
  (try rw [hW])
  have HV1:=HN
  clear c0 z0 HN hW
  have c0:=HV1.out.1.c2
  have z0:=HV1.out.1.f2
  have HN:Hid (TriC w.heap.size A B C O' (V1.setCell ⟨w.heap.size+1+1,0,none⟩ (.int .u64 (C:Nat)))∧Eff O' W' (V1.setCell ⟨w.heap.size+1+1,0,none⟩ (.int .u64 (C:Nat)))):=⟨HV1.out.1.set2 C,HV1.out.2.set HV1.out.1.o2 _ _⟩
  refine zzO 5 (fun K hK=>?_)
  go_simp
  refine hK.out _ _ (fun _=>HN) ?_
  clear hK
  try simp only [rgPut]
  obtain ⟨V2,hW⟩:∃V:World,V1.setCell ⟨w.heap.size+1+1,0,none⟩ (.int .u64 (C:Nat))=V:=⟨_,rfl⟩
  rw [hW] at HN
  (try rw [hW])
  have HV2:=HN
  clear c0 z0 HN hW
  refine OrdF.done (by kernel_rfl) (NoPanic.normal ?_) _
  have HD9:Hid (V2.heap[w2.heap.size]? =some (.deferred (some []))):=by
   show _ = _
   rw [HV2.out.2.block _ (Array.getElem?_eq_some_iff.1 HD.out).1 HnD.out]
   exact HD.out
  have HX:Hid (TriC w.heap.size A B C O' (V2.putObj w2.heap.size (.deferred none))):=HV2.out.1.keep (by rw [World.putObj_size]; exact zG _) (fun b hb=>World.putObj_heap_other (fun e=>HnD.out (e ▸ hb)))
  have HBf:Hid (Below w.heap.size w (V2.putObj w2.heap.size (.deferred none))):=ybQ (HB9.out.trans (HV2.out.2.below (fun b hb=>HO.out b hb) HB9.out.size)) HB02.out.size _
  clear hHeld
  gi_wp2
  refine ⟨by simp, .inl ⟨_,_,rfl,run_takeDeferred HD9.out,?_⟩⟩
  obtain ⟨c0,c1,c2,-⟩:=HX.out
  refine ⟨.tuple #[.int .u64 A, .int .u64 B, .int .u64 C],?_,by rw [HE.out.1,HE.out.2.1,HE.out.2.2],HBf.out⟩
  simp [results,Tryz.results57,go_sem,c0,c1,c2]
end
end Go.Proofs.YtkpgfmonhfnhdaaGreatDoor
