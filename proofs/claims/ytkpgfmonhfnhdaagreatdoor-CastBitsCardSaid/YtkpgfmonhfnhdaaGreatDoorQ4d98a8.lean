/-
  A map of which one says what each key's value is good for: looked up, written, counted, cleared. Its keys are whatever compares by being the same.
  A clause's state, and eight of them, as keys of maps.
  ir.May, ir.Has: whether clauses are a set, what is in it.
  slices.Clone, slices.Grow, slices.Concat of clauses.
  ir.Of, ir.Join, ir.Whole: sets made of clauses.
  What a roll is in memory, and what keeps it one.
-/
import Derived.Test.YtkpgfmonhfnhdaaGreatDoorQd6e098
import Derived.Maps.Keyed
import Derived.Maps.Own
import Derived.Maps.OwnIn
import Derived.Test.YtkpgfmonhfnhdaaGreatDoorQ6cd530
import Derived.DeepKeys5
import Derived.Test.YtkpgfmonhfnhdaaGreatDoorQ0be0eb
import Derived.Test.YtkpgfmonhfnhdaaGreatDoorQ446fa1
import Derived.BigQuiet
import Derived.Deep.CutRange
import Derived.Lib.AppendZeros
import Derived.Lib.SliceRun
import Derived.Test.YtkpgfmonhfnhdaaGreatDoorQ4470e9
import Derived.Test.YtkpgfmonhfnhdaaGreatDoorQbab26a
set_option maxRecDepth 100000
set_option maxHeartbeats 25600000
namespace Go.Proofs.YtkpgfmonhfnhdaaGreatDoor
set_option linter.unusedVariables false
section
open Go.RowKit Go.Maps
structure KeyT (P:Program) (k:TypeId) (K:Value→Prop) (w:World):Prop where
 check:∀(em:Bool) (v:Value),K v→(Instr.checkKey em 10000 k v).run P w= .ok () w
 find:∀(x:Value),K x→∀es:List MapEntry,(∀e∈es,K e.key)→
  (Instr.findKey k x es).run P w= .ok none w∨∃j e,(Instr.findKey k x es).run P w= .ok (some (j,e.val)) w∧es[j]? =some e∧e.key=x
 stays:∀(v:Value),K v→(Instr.keyThatStays v v).run P w= .ok v w
theorem KeyT.of {P:Program} {k:TypeId} (K:Keyed P k) (w:World):KeyT P k (fun v=>∃l,keyOf P k v=some l) w where
 check:=fun em v ⟨l,h⟩=>K.check w em h
 find:=fun x ⟨l,h⟩ es he=>by
  rcases K.find w h es he with ⟨h1,-⟩ | h1
  ·exact .inl h1
  ·exact .inr h1
 stays:=fun v ⟨l,h⟩=>K.stays w h
theorem KeyT.sub {P:Program} {k:TypeId} {K K':Value→Prop} {w:World} (h:KeyT P k K w) (hs:∀v,K' v→K v):KeyT P k K' w:=
 ⟨fun em v hv=>h.check em v (hs v hv),fun x hx es he=>h.find x (hs x hx) es (fun e hm=>hs _ (he e hm)),fun v hv=>h.stays v (hs v hv)⟩
theorem KeyT.ask {P:Program} {k:TypeId} {K:Value→Prop} {w:World} {d:TypeDesc} (hd:P.underlying k=some d) (hn:∀x y,K x→K y→Instr.sameNow d x y=none)
  (hc:∀(em:Bool) (v:Value),K v→(Instr.checkKey em 10000 k v).run P w= .ok () w) (he:∀x y,K x→K y→∃r,(Op.equal k x y).run P w= .ok r w∧(r=true→y=x)) (hs:∀v,K v→Instr.sameBits 10000 v v=true):KeyT P k K w where
 check:=hc
 find:=fun x hx es hes=>by
  have ask:∀(l:List MapEntry) (i:Nat),(∀e∈l,K e.key)→(Instr.findAsking k x l i).run P w= .ok none w∨∃j e,(Instr.findAsking k x l i).run P w= .ok (some (i+j,e.val)) w∧l[j]? =some e∧e.key=x:=by
   intro l
   induction l with
   | nil=>intro i _; exact .inl rfl
   | cons e l ih=>
     intro i hl
     obtain ⟨r,h1,h2⟩:=he x e.key hx (hl e (by simp))
     cases r
     ·rcases ih (i+1) (fun e' he'=>hl e' (by simp [he'])) with h3 | ⟨j,e',h3,h4,h5⟩
      ·exact .inl (by simp [Instr.findAsking,h1,h3])
      ·exact .inr ⟨j+1,e',by simp [Instr.findAsking,h1,h3]; omega,by simpa using h4,h5⟩
     ·exact .inr ⟨0,e,by simp [Instr.findAsking,h1],rfl,h2 rfl⟩
  cases es with
  | nil=>exact .inl (by simp [Instr.findKey,run_underlying hd,Instr.findNow])
  | cons e es=>
    have h0:Instr.findNow d x (e :: es) 0=none:=by simp [Instr.findNow,hn x e.key hx (hes e (by simp))]
    have h1:(Instr.findKey k x (e :: es)).run P w= (Instr.findAsking k x (e :: es) 0).run P w:=by simp [Instr.findKey,run_underlying hd,h0]
    rw [h1]
    rcases ask (e :: es) 0 hes with h | ⟨j,e',h2,h3,h4⟩
    ·exact .inl h
    ·exact .inr ⟨j,e',by simpa using h2,h3,h4⟩
 stays:=fun v hv=>by simp [Instr.keyThatStays,hs v hv]
def MapS (K:Value→Prop) (G:Value→Value→Prop) (W:World) (b n:Nat):Prop:=
 ∃es clock,W.heap[b]? =some (.map es clock)∧es.size≤n∧∀e∈es.toList,K e.key∧G e.key e.val
section
variable {K:Value→Prop} {G:Value→Value→Prop} {P:Program} {k:TypeId} {w:World} {b n:Nat}
theorem MapS.lt (h:MapS K G w b n):b < w.heap.size:=by
 obtain ⟨es,clock,hb,_⟩:=h
 exact (Array.getElem?_eq_some_iff.1 hb).1
theorem MapS.made (w:World) (K:Value→Prop) (G:Value→Value→Prop):MapS K G (w.alloc (.map #[] 0)) w.heap.size 0:=
 ⟨#[],0,(MapKept.heap_alloc w _).1,zG _,fun e he=>by simp at he⟩
theorem MapS.keep {w':World} (h:MapS K G w b n) (hb:w'.heap[b]? =w.heap[b]?):MapS K G w' b n:=by
 obtain ⟨es,clock,h1,h2,h3⟩:=h
 exact ⟨es,clock,hb.trans h1,h2,h3⟩
theorem MapS.mono {K':Value→Prop} {G':Value→Value→Prop} {n':Nat} (h:MapS K G w b n) (hn:n≤n') (hK:∀x,K x→K' x) (hG:∀x v,G x v→G' x v):MapS K' G' w b n':=by
 obtain ⟨es,clock,h1,h2,h3⟩:=h
 exact ⟨es,clock,h1,zI h2 hn,fun e he=>⟨hK _ (h3 e he).1,hG _ _ (h3 e he).2⟩⟩
theorem MapS.lookup {t e:TypeId} (h:MapS K G w b n) (T:KeyT P k K w) (ht:P.underlying t=some (.map k e)) {z:Value} (hz:(zeroValue e).run P w= .ok z w) (c:Bool) {x:Value} (hx:K x) :
  (Instr.lookup t (.map (some b)) x c).run P w= .ok (if c then .tuple #[z, .bool false] else z) w∨
  ∃v,G x v∧(Instr.lookup t (.map (some b)) x c).run P w= .ok (if c then .tuple #[v, .bool true] else v) w:=by
 obtain ⟨es,clock,h1,h2,h3⟩:=h
 rcases T.find x hx es.toList (fun e he=>(h3 e he).1) with g1 | ⟨j,e0,g1,g2,g3⟩
 ·exact .inl (by simp [Instr.lookup,run_underlying ht,MapKept.run_getObj_map h1,T.check _ x hx,g1,hz,Result.andThen])
 ·refine .inr ⟨e0.val,?_,by simp [Instr.lookup,run_underlying ht,MapKept.run_getObj_map h1,T.check _ x hx,g1,Result.andThen]⟩
  have:=(h3 e0 (List.mem_of_getElem? g2)).2
  rwa [g3] at this
theorem ybD {es es':Array MapEntry} {clock clock':Nat} (hb:w.heap[b]? =some (.map es clock)):w.grownBy (Go.ChangeMaps.setBlock w b (.map es' clock')) (some b):=
 ⟨rfl,rfl,rfl,by simp [Go.ChangeMaps.setBlock],fun i hi hn=>Go.ChangeMaps.heap_setBlock_other hb _ (fun e=>hn (by rw [e]))⟩
theorem MapS.update {t e:TypeId} (h:MapS K G w b n) (T:KeyT P k K w) (ht:P.underlying t=some (.map k e)) {x v:Value} (hx:K x) (hv:G x v) :
  ∃w',(Instr.mapUpdate t (.map (some b)) x v).run P w= .ok () w'∧MapS K G w' b (n+1)∧w.grownBy w' (some b):=by
 obtain ⟨es,clock,h1,h2,h3⟩:=h
 rcases T.find x hx es.toList (fun e he=>(h3 e he).1) with g1 | ⟨j,e0,g1,g2,g3⟩
 ·refine ⟨Go.ChangeMaps.setBlock w b (.map (es.push ⟨x,v,clock⟩) (clock+1)),by simp [Instr.mapUpdate,run_underlying ht,MapKept.run_getObj_map h1,T.check false x hx,g1,MapKept.run_setObj_map _ h1,Result.andThen,Go.ChangeMaps.setBlock],⟨_,_,Go.ChangeMaps.heap_setBlock_same h1 _,by simp; omega,?_⟩,ybD h1⟩
  intro e he
  rw [Array.toList_push,List.mem_append,List.mem_singleton] at he
  rcases he with he | rfl
  ·exact h3 e he
  ·exact ⟨hx,hv⟩
 ·have hj:es[j]? =some e0:=by rw [←g2,Array.getElem?_toList]
  have hkey:((es[j]?).map (·.key)).getD x=x:=by rw [hj]; exact g3
  refine ⟨Go.ChangeMaps.setBlock w b (.map (es.modify j fun e=>{e with key:=x,val:=v}) clock),by simp [Instr.mapUpdate,run_underlying ht,MapKept.run_getObj_map h1,T.check false x hx,g1,hj,g3,T.stays x hx,MapKept.run_setObj_map _ h1,Result.andThen,Go.ChangeMaps.setBlock],⟨_,_,Go.ChangeMaps.heap_setBlock_same h1 _,by simp; omega,?_⟩,ybD h1⟩
  intro e he
  rw [Array.toList_modify] at he
  obtain ⟨i,hi⟩:=List.getElem?_of_mem he
  rw [List.getElem?_modify] at hi
  cases hes:es.toList[i]? with
  | none=>rw [hes] at hi; simp at hi
  | some a=>
    rw [hes] at hi
    have ha:=h3 a (List.mem_of_getElem? hes)
    by_cases hij:j=i
    ·simp [hij] at hi; rw [←hi]; exact ⟨hx,hv⟩
    ·simp [hij] at hi; rw [←hi]; exact ha
theorem MapS.count {t e:TypeId} (h:MapS K G w b n) (ht:P.underlying t=some (.map k e)) (ty:TypeId) :
  ∃m:Nat,m≤n∧MapS K G w b m∧(Builtin.len_ #[t] ty #[.map (some b)]).run P w= .ok (.int .i64 m) w:=by
 obtain ⟨es,clock,h1,h2,h3⟩:=h
 exact ⟨es.size,h2,⟨es,clock,h1,zG _,h3⟩,by simp [Builtin.len_,run_underlying ht,MapKept.run_getObj_map h1,Result.andThen,goInt]⟩
theorem MapS.clear {t e:TypeId} (h:MapS K G w b n) (ht:P.underlying t=some (.map k e)) (ty:TypeId) :
  ∃w',(Builtin.clear_ #[t] ty #[.map (some b)]).run P w= .ok (.tuple #[]) w'∧MapS K G w' b 0∧w.grownBy w' (some b):=by
 obtain ⟨es,clock,h1,h2,h3⟩:=h
 exact ⟨Go.ChangeMaps.setBlock w b (.map #[] clock),by simp [Builtin.clear_,run_underlying ht,MapKept.run_getObj_map h1,MapKept.run_setObj_map _ h1,Result.andThen,Go.ChangeMaps.setBlock],
  ⟨#[],clock,Go.ChangeMaps.heap_setBlock_same h1 _,zG _,fun e he=>by simp at he⟩,ybD h1⟩
theorem ybG {ops:Array Oper} {rest:List Oper} {o:Oper} {a:Act} {Q:Exit→Act→World→Prop} {t e:TypeId} (m:Operand) (hg:o.guard=none) (hop:o.op= .call {callee:= .builtin .clear,args:=#[m],argTypes:=#[t]})
  (ht:P.underlying t=some (.map k e)) (h:MapS K G w b n) (hm:a.eval m= .map (some b))
  (hK:∀w',MapS K G w' b 0→w.grownBy w' (some b)→wpList P ops Q rest (a.put o.dst (.tuple #[])) w') :
  wpList P ops Q (o :: rest) a w:=by
 refine wpList_plain hg fun K' hK'=>?_
 obtain ⟨w',hrun,r1,r2⟩:=h.clear ht o.type
 unfold Oper.wp execOp
 simp only [hop,resolve,invoke,builtin,Sem.run_bind,Sem.run_pure,Result.andThen_ok,List.map_toArray,List.map_cons,List.map_nil,hm,hrun]
 exact hK' _ _ (hK w' r1 r2)
end
end
section
open Go.RowKit Go.Maps
theorem yh2:Tryz.prog.cellsOf 177=4:=by kernel_rfl
theorem keySt:Tryz.prog.keyTypeAt 3 177=true:=by kernel_rfl
theorem formSt (a:Bool) (f u p:Int):(stv a f u p).formed Tryz.prog 177=true:=by
 unfold Value.formed; simp only [Tryz.underlying177,yh2]; rfl
theorem yf5 (d:Nat) (a:Bool) (f u p:Int) (hf:i64B f) (hu:i64B u) (hp:i64B p):Tryz.prog.keyLits (d+2) 177 [.bool a, .int .i64 f, .int .i64 u, .int .i64 p]=some [.bool a, .int .i64 f, .int .i64 u, .int .i64 p]:=by
 unfold Program.keyLits
 simp only [Tryz.underlying177]
 simp [cellsI,ygo,yh2,cellsBl,lits_i,lits_l,lits_b,hf,hu,hp]
def eqlStS (x y:Value):Sem Value:=binOp .eql 177 x y
theorem eql_stS (x y:Value):binOp .eql 177 x y=eqlStS x y:=rfl
theorem yjX (a:Bool) (f u p:Int) (a':Bool) (f' u' p':Int) (w:World) (hf:i64B f) (hu:i64B u) (hp:i64B p) (hf':i64B f') (hu':i64B u') (hp':i64B p') :
  (eqlStS (stv a f u p) (stv a' f' u' p')).run Tryz.prog w= .ok (.bool (decide (a=a'∧f=f'∧u=u'∧p=p'))) w:=by
 rw [eqlStS,run_eql_struct]
 obtain ⟨r,hr,hi⟩:=run_equalIn_deep 9997 3 177 keySt w 3 3 _ _ _ _ (formSt a f u p) (formSt a' f' u' p') (yf5 1 a f u p hf hu hp) (yf5 1 a' f' u' p' hf' hu' hp')
 have e:r=decide (a=a'∧f=f'∧u=u'∧p=p'):=by
  rw [zze,hi,zzY]
  simp
 rw [hr,e]; rfl
structure St1 where
 a:Bool
 f:Int
 u:Int
 p:Int
abbrev St1.v (s:St1):Value:=stv s.a s.f s.u s.p
abbrev St1.l (s:St1):List Value:= [.bool s.a, .int .i64 s.f, .int .i64 s.u, .int .i64 s.p]
structure St1.Ok (s:St1):Prop where
 f:i64B s.f
 u:i64B s.u
 p:i64B s.p
def st0:St1:=⟨false,0,0,0⟩
theorem st0_ok:st0.Ok:=⟨⟨by decide,by decide⟩,⟨by decide,by decide⟩,⟨by decide,by decide⟩⟩
abbrev st8L (x:Nat→St1):List Value:=
 [.bool (x 0).a, .int .i64 (x 0).f, .int .i64 (x 0).u, .int .i64 (x 0).p, .bool (x 1).a, .int .i64 (x 1).f, .int .i64 (x 1).u, .int .i64 (x 1).p,
  .bool (x 2).a, .int .i64 (x 2).f, .int .i64 (x 2).u, .int .i64 (x 2).p, .bool (x 3).a, .int .i64 (x 3).f, .int .i64 (x 3).u, .int .i64 (x 3).p,
  .bool (x 4).a, .int .i64 (x 4).f, .int .i64 (x 4).u, .int .i64 (x 4).p, .bool (x 5).a, .int .i64 (x 5).f, .int .i64 (x 5).u, .int .i64 (x 5).p,
  .bool (x 6).a, .int .i64 (x 6).f, .int .i64 (x 6).u, .int .i64 (x 6).p, .bool (x 7).a, .int .i64 (x 7).f, .int .i64 (x 7).u, .int .i64 (x 7).p]
abbrev st8v (x:Nat→St1):Value:= .agg (st8L x).toArray
theorem laidR:laidOutB Tryz.prog=true:=by kernel_rfl
theorem keyedSt1:Keyed Tryz.prog 177:=Keyed.of_law (deep_law_laid laidR (m:=3) (by decide) (of_decide_eq_true (by kernel_rfl)) keySt (by rw [Tryz.underlying177]))
theorem keySt8:Tryz.prog.keyTypeAt 4 194=true:=by kernel_rfl
theorem keyedSt8:Keyed Tryz.prog 194:=Keyed.of_law (deep_law_laid laidR (m:=4) (by decide) (of_decide_eq_true (by kernel_rfl)) keySt8 (by rw [Tryz.underlying194]))
theorem typesR:∃d,Tryz.prog.types.size+1=d+4:=⟨Tryz.prog.types.size - 3,by have h:4≤Tryz.prog.types.size:=of_decide_eq_true (by kernel_rfl); omega⟩
theorem yjO:Tryz.prog.keyType 177=true:=by kernel_rfl
theorem yjN:Tryz.prog.keyType 194=true:=by kernel_rfl
theorem yja:Tryz.prog.cellsOf 194=32:=by kernel_rfl
theorem formSt8 (x:Nat→St1):(st8v x).formed Tryz.prog 194=true:=by
 unfold Value.formed; simp only [Tryz.underlying194,yja]; rfl
theorem key_st1 (s:St1) (h:s.Ok):∃l,keyOf Tryz.prog 177 s.v=some l:=by
 obtain ⟨d,hd⟩:=typesR
 refine ⟨.string (keyBytes [.bool s.a, .int .i64 s.f, .int .i64 s.u, .int .i64 s.p]),?_⟩
 unfold keyOf
 simp only [Tryz.underlying177]
 rw [if_pos (by rw [yjO,formSt]; rfl),hd]
 have:=yf5 (d+2) s.a s.f s.u s.p h.f h.u h.p
 simp [Value.cells,this]
theorem key_st8 (x:Nat→St1) (h:∀i,i < 8→(x i).Ok):∃l,keyOf Tryz.prog 194 (st8v x)=some l:=by
 obtain ⟨d,hd⟩:=typesR
 have hl:∀i,i < 8→Tryz.prog.keyLits (d+3) 177 [.bool (x i).a, .int .i64 (x i).f, .int .i64 (x i).u, .int .i64 (x i).p]=some [.bool (x i).a, .int .i64 (x i).f, .int .i64 (x i).u, .int .i64 (x i).p]:=
  fun i hi=>yf5 (d+1) (x i).a (x i).f (x i).u (x i).p (h i hi).f (h i hi).u (h i hi).p
 have hk:∃ls,Tryz.prog.keyLits (d+4) 194 (st8L x)=some ls:=by
  unfold Program.keyLits
  simp only [Tryz.underlying194]
  simp [yh2,yja,hl 0 (by omega),hl 1 (by omega),hl 2 (by omega),hl 3 (by omega),hl 4 (by omega),hl 5 (by omega),hl 6 (by omega),hl 7 (by omega),List.range_succ]
 obtain ⟨ls,hls⟩:=hk
 refine ⟨.string (keyBytes ls),?_⟩
 unfold keyOf
 simp only [Tryz.underlying194]
 rw [if_pos (by rw [yjN,formSt8]; rfl),hd]
 simp [Value.cells,hls]
end
section
open Go.RowKit
attribute [local go_sem ↓] yaq
theorem IMay1_any (c:Cl) (w:World) (hc:c.Ok):Calls Tryz.prog 135 #[clv c] w fun e w'=>e= .returned (.bool (!mayC c))∧Below w.heap.size w w':=by
 have cM:=hid (fun W=>yd5 c W hc)
 obtain ⟨W0,hW0⟩:∃W,w.alloc (.cells (yad c).toArray 36)=W:=⟨_,rfl⟩
 have b0:Below w.heap.size w W0:=by rw [←hW0]; exact yaa (Below.refl _ _) (zG _)
 have c0:ClB W0 w.heap.size c:=by rw [←hW0]; exact ycG w c _
 have HB0:=hid b0
 have HW0:=hid hW0
 have l0:=c0.ld
 obtain ⟨m,hm⟩:∃m,mayC c=m:=⟨_,rfl⟩
 rw [hm] at cM⊢
 clear hm b0 c0 hW0
 go_enter Tryz.func135,Tryz.ntmps135
 go_upto_region 1 with fail
 rw [HW0.out]
 go_wp2_with fail
 refine (cM.out _).mono ?_
 rintro e w1 ⟨rfl,hB1⟩
 have HB1:=hid (HB0.out.trans (hB1.mono HB0.out.size))
 clear hB1 l0
 go_wp2
 go_ret
 exact ⟨rfl,HB1.out⟩
def IdxR (p:Cl→Bool) (l:List Cl) (e:Ending):Prop:=∃r:Int,e= .returned (.int .i64 r)∧decide (0≤r)=l.any p
theorem ykp (a:Option Addr) (cap:Nat) (l:List Cl) (w:World) (hl:l.length≤9223372036854775807) (hs:Sl w a (cls l)) (hok:∀c∈l,c.Ok) :
  Calls Tryz.prog 163 #[.slice a l.length cap, .func (.func 135) #[] #[]] w fun e w'=>IdxR (fun c=>!mayC c) l e∧Below w.heap.size w w':=by
 have Hs:=hid hs
 have Hok:=hid hok
 clear hs hok
 go_enter Tryz.func163,Tryz.ntmps163
 go_wp2
 go_loopw [8] (fun i wr=>∃k:Nat,i= .int .i64 k∧k≤l.length∧Hid ((l.take k).any (fun c=>!mayC c)=false)∧Hid (Below w.heap.size w wr)) (fun i _=>l.length - (intOf i).toNat)
 case atStart=>exact ⟨0,rfl,by omega,by show _ = _; rfl,Below.refl _ _⟩
 case round=>
  obtain ⟨k,rfl,hk,hno,HB⟩:=hrel
  by_cases hlt:k < l.length
  ·have hltI:(k:Int) < l.length:=by omega
   obtain ⟨b,off,rfl,hbk,hr⟩:=Hs.out.atCl hlt
   have hr':=yaM hr HB.out hbk
   have hcOk:=hid (Hok.out _ (zzr hlt))
   have ts:=hid (yap l k hlt)
   have hmem:=hid (zzr hlt)
   obtain ⟨c,hc⟩:∃c,l[k]=c:=⟨_,rfl⟩
   rw [hc] at hr' hcOk ts hmem
   have le:=ygY hr'
   have cP:=hid (IMay1_any c wr hcOk.out)
   obtain ⟨v,hv⟩:∃v,(!mayC c)=v:=⟨_,rfl⟩
   rw [hv] at cP
   have Hv:=hid hv
   clear hr hr' hc hv
   go_wp2_with fail
   refine cP.out.mono ?_
   rintro e w1 ⟨rfl,hB1⟩
   have HB1:=hid (HB.out.trans (hB1.mono HB.out.size))
   clear hB1 le
   cases v
   ·go_wp2
    exact ⟨⟨k+1,by go_num,by omega,by show _ = _; rw [ts.out,List.any_append,hno.out,List.any_cons,Hv.out]; rfl,HB1⟩,by simp [intOf]; omega⟩
   ·have hyes:Hid (IdxR (fun c=>!mayC c) l (.returned (.int .i64 (k:Int)))):=⟨k,rfl,by rw [zzZ (by omega)]; exact (List.any_eq_true.2 ⟨c,hmem.out,Hv.out⟩).symm⟩
    go_wp2
    go_ret
    exact ⟨hyes.out,HB1.out⟩
  ·have hltI:¬(k:Int) < l.length:=by omega
   have hall:Hid (IdxR (fun c=>!mayC c) l (.returned (.int .i64 (-1)))):=⟨-1,rfl,by rw [zzd (by omega),←hno.out,List.take_of_length_le (by omega)]⟩
   go_wp2
   go_ret
   exact ⟨hall.out,HB.out⟩
theorem yky (a:Option Addr) (cap:Nat) (l:List Cl) (w:World) (hl:l.length≤9223372036854775807) (hs:Sl w a (cls l)) (hok:∀c∈l,c.Ok) :
  Calls Tryz.prog 134 #[.slice a l.length cap, .func (.func 135) #[] #[]] w fun e w'=>e= .returned (.bool (l.any (fun c=>!mayC c)))∧Below w.heap.size w w':=by
 have cI:=hid (ykp a cap l w hl hs hok)
 obtain ⟨v,hv⟩:∃v,l.any (fun c=>!mayC c)=v:=⟨_,rfl⟩
 have cI':Hid (Calls Tryz.prog 163 #[.slice a l.length cap, .func (.func 135) #[] #[]] w fun e w'=>(∃r:Int,e= .returned (.int .i64 r)∧decide (0≤r)=v)∧Below w.heap.size w w'):=cI.out.mono fun e w' ⟨h,hb⟩=>⟨by rw [←hv]; exact h,hb⟩
 rw [hv]
 clear hv cI hs hok
 go_enter Tryz.func134,Tryz.ntmps134
 go_wp2_with fail
 refine cI'.out.mono ?_
 rintro e w1 ⟨⟨r,rfl,hr⟩,hB1⟩
 have HB1:=hid hB1
 have Hr:=hid hr
 clear hB1 hr
 go_wp2
 go_ret
 exact ⟨yaT Hr.out,HB1.out⟩
def mayL (l:List Cl):Bool:=decide (l.length≤8) && l.all mayC
theorem any_not (l:List Cl):(!l.any (fun c=>!mayC c))=l.all mayC:=by
 induction l with
 | nil=>rfl
 | cons c l ih=>rw [List.any_cons,List.all_cons,←ih]; cases mayC c <;> simp
theorem IMay_any (a:Option Addr) (cap:Nat) (l:List Cl) (w:World) (hl:l.length≤9223372036854775807) (hs:Sl w a (cls l)) (hok:∀c∈l,c.Ok) :
  Calls Tryz.prog 94 #[.slice a l.length cap] w fun e w'=>e= .returned (.bool (mayL l))∧Below w.heap.size w w':=by
 rw [mayL,←any_not]
 have cC:=hid (yky a cap l w hl hs hok)
 obtain ⟨v,hv⟩:∃v,l.any (fun c=>!mayC c)=v:=⟨_,rfl⟩
 rw [hv] at cC⊢
 clear hv hs hok
 by_cases h8:l.length≤8
 ·rw [zzZ h8,zzo]
  have h8I:(l.length:Int)≤8:=by omega
  have h8J:decide ((l.length:Int)≤8)=true:=zzZ h8I
  go_enter Tryz.func94,Tryz.ntmps94
  go_wp2_with fail
  refine cC.out.mono ?_
  rintro e w1 ⟨rfl,hB1⟩
  have HB1:=hid hB1
  clear hB1
  go_wp2
  go_ret
  exact ⟨rfl,HB1.out⟩
 ·rw [zzd h8,Bool.false_and]
  have h8I:¬(l.length:Int)≤8:=by omega
  have h8J:decide ((l.length:Int)≤8)=false:=zzd h8I
  go_enter Tryz.func94,Tryz.ntmps94
  go_wp2
  go_ret
  exact ⟨rfl,Below.refl _ _⟩
end
section
open Go.RowKit
theorem eClz:El Tryz.prog 22 36 (.agg zL.toArray) 30 240:=⟨Tryz.underlying22,by kernel_rfl,by kernel_rfl,by decide⟩
theorem ydX (c:Cl):∀u∈yad c,u.oneCell' =true:=by
 intro u hu
 simp only [yad,List.mem_cons,List.not_mem_nil,or_false] at hu
 rcases hu with rfl | rfl | rfl | rfl | rfl | rfl | rfl | rfl | rfl | rfl | rfl | rfl | rfl | rfl | rfl | rfl | rfl | rfl | rfl | rfl | rfl | rfl | rfl | rfl | rfl | rfl | rfl | rfl | rfl | rfl <;> rfl
theorem clsL_one (l:List Cl):∀u∈cls l,u.oneCell' =true:=by
 intro u hu
 rw [cls,List.mem_flatMap] at hu
 obtain ⟨c,-,h⟩:=hu
 exact ydX c u h
theorem yiW (w:World) (o:Obj):(w.alloc o).heap[w.heap.size]? =some o:=by
 show (w.heap.push o)[w.heap.size]? =some o
 simp
theorem yjD {W:World} {base:Nat} (g:Nat) (h:W.heap[g]? =some (.cells #[] 36 (0,0))) (hb:base≤g):W.ownsRow base 36 30 (.slice (some ⟨g,0,none⟩) 0 0) 0 []:=
 ⟨rfl, .inr ⟨g,0,#[],rfl,hb,h,zG _,by unfold maxLen; omega,rfl,rfl⟩⟩
def OwnR (w w':World) (l:List Cl) (v:Value):Prop:=w'.ownsRow w.heap.size 36 30 v l.length (cls l)
theorem Clone_any (a:Option Addr) (cap:Nat) (l:List Cl) (w:World) (hl:l.length≤1000) (hlc:l.length≤cap) (hs:Sl w a (cls l)) (hno:a=none→cap=0) :
  Calls Tryz.prog 95 #[.slice a l.length cap] w fun e w'=>(∃v,e= .returned v∧OwnR w w' l v)∧Below w.heap.size w w':=by
 cases a with
 | none=>
   have hc:=hno rfl
   have hn:l= []:=List.eq_nil_of_length_eq_zero (by omega)
   subst hn
   have hE:Hid (OwnR w w [] (.slice none 0 0)):=World.ownsRow_nil _ _ _ _
   subst hc
   clear hs hno hlc hl
   have hnil:=fun W=>Lib.run_eql_slice_nil (P:=Tryz.prog) W 22 36 none 0 0 0 0 Tryz.underlying22
   go_enter Tryz.func95,Tryz.ntmps95
   go_wp2
   go_ret
   exact ⟨⟨_,rfl,hE.out⟩,Below.refl _ _⟩
 | some ad=>
   have Hs:=hid hs
   have Hlc:=hid (yfz l)
   have Hone:=hid (clsL_one l)
   clear hs hno
   have hnil:=fun W=>Lib.run_eql_slice_nil (P:=Tryz.prog) W 22 36 (some ad) l.length cap 0 0 Tryz.underlying22
   go_enter Tryz.func95,Tryz.ntmps95
   have hnew:=hid (yjD (base:=w.heap.size) w.heap.size (yiW w (.cells #[] 36)) (zG _))
   have hba:=hid (yaa (o:= .cells #[] 36) (Below.refl w.heap.size w) (zG _))
   go_wp2_with (at_builtin; refine appN eClz (.tmp 5) (.tmp 6) rfl rfl rfl rfl hnew.out Hlc.out (Hs.out.below hba.out) (fun h=>by cases h) Hone.out (by omega) (by omega) (by simp) ?_)
   intro a1 cap1 w1 h1 h2 h3 h4
   have HO:Hid (OwnR w w1 l (.slice a1 l.length cap1)):=by
    show World.ownsRow _ _ _ _ _ _ _
    simpa using h1
   have HB:=hid (hba.out.trans h3)
   clear h1 h2 h3 h4
   go_wp2
   go_ret
   exact ⟨⟨_,rfl,HO.out⟩,HB.out⟩
/-! ### slices.Concat -/
end
section
open Go.RowKit
def yah (l:List Cl):Int:=if 8 < l.length then 5 else if l.all mayC then 0 else 1
def outL (l:List Cl):List Cl:=if yah l=0 then l else []
theorem ycC (l:List Cl):mayL l=decide (yah l=0):=by
 rw [mayL,yah]
 by_cases h:8 < l.length
 ·rw [if_pos h,zzd (by omega)]; rfl
 ·rw [if_neg h,zzZ (show l.length≤8 by omega),zzo]
  cases l.all mayC <;> rfl
def OfR (w w':World) (l:List Cl) (e:Ending):Prop:=∃v,e= .returned (.tuple #[v, .int .i64 (yah l)])∧OwnR w w' (outL l) v
theorem IOf_any (a:Option Addr) (cap:Nat) (l:List Cl) (w:World) (hl:l.length≤9223372036854775807) (hlc:l.length≤cap) (hs:Sl w a (cls l)) (hno:a=none→cap=0) (hok:∀c∈l,c.Ok) :
  Calls Tryz.prog 54 #[.slice a l.length cap] w fun e w'=>OfR w w' l e∧Below w.heap.size w w':=by
 have cM:=hid (IMay_any a cap l w hl hs hok)
 have cC:=hid (fun W (hB:Below w.heap.size w W) h=>Clone_any a cap l W h hlc (hs.below hB) hno)
 have hmf:=ycC l
 by_cases h8:8 < l.length
 ·have hf:yah l=5:=if_pos h8
  have hE:Hid (OfR w w l (.returned (.tuple #[.slice none 0 0, .int .i64 5]))):=⟨_,by rw [hf],by rw [outL,hf]; exact World.ownsRow_nil _ _ _ _⟩
  have h8I:(8:Int) < l.length:=by omega
  have h8J:decide ((8:Int) < l.length)=true:=zzZ h8I
  clear hf hmf hs hok hno
  go_enter Tryz.func54,Tryz.ntmps54
  go_wp2
  go_ret2
  exact ⟨hE.out,Below.refl _ _⟩
 ·have h8I:¬(8:Int) < l.length:=by omega
  have h8J:decide ((8:Int) < l.length)=false:=zzd h8I
  cases hm:l.all mayC
  ·have hf:yah l=1:=by rw [yah,if_neg h8,hm]; rfl
   have hE:Hid (∀W,OfR w W l (.returned (.tuple #[.slice none 0 0, .int .i64 1]))):=fun W=>⟨_,by rw [hf],by rw [outL,hf]; exact World.ownsRow_nil _ _ _ _⟩
   rw [hmf,hf] at cM
   clear hf hmf hs hok hno hm
   have cM':Hid (Calls Tryz.prog 94 #[.slice a l.length cap] w fun e w'=>e= .returned (.bool false)∧Below w.heap.size w w'):=cM.out
   go_enter Tryz.func54,Tryz.ntmps54
   go_wp2_with fail
   refine cM'.out.mono ?_
   rintro e w1 ⟨rfl,hB1⟩
   have HB1:=hid hB1
   clear hB1
   go_wp2
   go_ret2
   exact ⟨hE.out _,HB1.out⟩
  ·have hf:yah l=0:=by rw [yah,if_neg h8,hm]; rfl
   have ho:outL l=l:=by rw [outL,if_pos hf]
   have hE:Hid (∀W v,OwnR w W l v→OfR w W l (.returned (.tuple #[v, .int .i64 0]))):=fun W v h=>⟨v,by rw [hf],by rw [ho]; exact h⟩
   rw [hmf,hf] at cM
   clear hf hmf hs hok hno hm ho
   have cM':Hid (Calls Tryz.prog 94 #[.slice a l.length cap] w fun e w'=>e= .returned (.bool true)∧Below w.heap.size w w'):=cM.out
   go_enter Tryz.func54,Tryz.ntmps54
   go_wp2_with fail
   refine cM'.out.mono ?_
   rintro e w1 ⟨rfl,hB1⟩
   have HB1:=hid hB1
   clear hB1
   go_wp2_with fail
   refine (cC.out _ HB1.out (by omega)).mono ?_
   rintro e w2 ⟨⟨v,rfl,hO⟩,hB2⟩
   have HB2:=hid (HB1.out.trans (hB2.mono HB1.out.size))
   have hO2:OwnR w w2 l v:=yeF hO HB1.out.size
   have HO:=hid (hE.out w2 v hO2)
   clear hB2 hO hO2
   go_wp2
   go_ret2
   exact ⟨HO.out,HB2.out⟩
theorem OfR.base {w w1 w':World} {l:List Cl} {e:Ending} (h:OfR w1 w' l e) (hs:w.heap.size≤w1.heap.size):OfR w w' l e:=by
 obtain ⟨v,h1,h2⟩:=h
 exact ⟨v,h1,yeF h2 hs⟩
theorem ykq (w:World):Calls Tryz.prog 29 #[] w fun e w'=>(∃g,e= .returned (.slice (some ⟨g,0,none⟩) 1 1)∧OwnR w w' [fullCl] (.slice (some ⟨g,0,none⟩) 1 1))∧Below w.heap.size w w':=by
 have cF:=hid (yjn w)
 obtain ⟨F,hF⟩:∃F,fullCl=F:=⟨_,rfl⟩
 rw [hF] at cF⊢
 clear hF
 go_enter Tryz.func29,Tryz.ntmps29
 go_wp2_with fail
 refine cF.out.mono ?_
 rintro e w1 ⟨rfl,hB1⟩
 have HB1:=hid hB1
 clear hB1
 go_wp2
 go_ret
 refine ⟨⟨w1.heap.size,rfl,?_⟩,HB1.out.trans ((yaa (Below.refl _ _) (zG _)).mono HB1.out.size)⟩
 refine ⟨rfl, .inr ⟨w1.heap.size,1,(yad F).toArray,rfl,HB1.out.size,yiW w1 _,zG _,by unfold maxLen; omega,rfl,?_⟩⟩
 rw [show cls [F]=yad F from List.append_nil _]; rfl
end
section
open Go.RowKit Go.Maps
/-! ### the seconds of a day of a set -/
def stN (cs:List Cl) (n:Int) (i:Nat):St1:=if i < cs.length then ⟨yaO (atC cs i) n,sF (atC cs i) n,sU (atC cs i) n,sP (atC cs i) n⟩ else st0
def ydo (cs:List Cl) (x:Nat→St1) (k:Nat):Bool:=(List.range cs.length).any fun i=>secQ (atC cs i) (x i).a (x i).f (x i).u (x i).p k
def yen (cs:List Cl) (j k:Nat):Bool:=(List.range cs.length).any fun i=>j.testBit i && secQ (atC cs i) true 0 86399 0 k
def yd6 (cs:List Cl) (n:Int):Bool:=(List.range cs.length).all fun i=>!yaO (atC cs i) n || decide (sF (atC cs i) n=0∧sU (atC cs i) n=86399∧sP (atC cs i) n=0)
theorem any_range {cs:List Cl} (p:Cl→Bool):((List.range cs.length).any fun i=>p (atC cs i))=cs.any p:=by
 rw [zze,List.any_eq_true,List.any_eq_true]
 constructor
 ·rintro ⟨i,hi,h⟩
  rw [List.mem_range] at hi
  exact ⟨_,zzr hi,by rwa [ycn hi] at h⟩
 ·rintro ⟨c,hc,h⟩
  obtain ⟨i,hi,rfl⟩:=List.getElem_of_mem hc
  exact ⟨i,List.mem_range.2 hi,by rw [ycn hi]; exact h⟩
theorem ybV {n:Nat} {p q:Nat→Bool} (h:∀i,i < n→p i=q i):(List.range n).any p= (List.range n).any q:=by
 rw [zze,List.any_eq_true,List.any_eq_true]
 constructor
 ·rintro ⟨i,hi,hp⟩; exact ⟨i,hi,by rw [←h i (List.mem_range.1 hi)]; exact hp⟩
 ·rintro ⟨i,hi,hp⟩; exact ⟨i,hi,by rw [h i (List.mem_range.1 hi)]; exact hp⟩
theorem ycU {cs:List Cl} {n:Int} (h0:0≤n) (h1:n < 146097) {k:Nat} (hk:k < 86400):ydo cs (stN cs n) k=dayQ cs n k:=by
 rw [ydo,dayQ,←any_range]
 refine ybV fun i hi=>?_
 rw [stN,if_pos hi]
 exact secQ_has (atC cs i) h0 h1 hk
theorem act_bit {cs:List Cl} {n:Int} (h8:cs.length≤8) {i:Nat} (hi:i < cs.length):(actM cs n).testBit i=yaO (atC cs i) n:=by
 rw [actM,yaw,zzZ (by omega),zzZ hi,zzo,zzo]
theorem sec_whole {c:Cl} {n:Int} (h:(!yaO c n || decide (sF c n=0∧sU c n=86399∧sP c n=0))=true) (k:Nat):secQ c (yaO c n) (sF c n) (sU c n) (sP c n) k= (yaO c n && secQ c true 0 86399 0 k):=by
 cases hl:yaO c n
 ·rw [secQ,Bool.false_and,Bool.false_and]
 ·rw [hl] at h
  simp only [Bool.not_true,Bool.false_or,zzY] at h
  obtain ⟨e1,e2,e3⟩:=h
  rw [e1,e2,e3,zzo]
theorem ydP {cs:List Cl} {n:Int} (h8:cs.length≤8) (hw:yd6 cs n=true) (k:Nat):ydo cs (stN cs n) k=yen cs (actM cs n) k:=by
 rw [ydo,yen]
 refine ybV fun i hi=>?_
 rw [stN,if_pos hi,act_bit h8 hi]
 rw [yd6,List.all_eq_true] at hw
 exact sec_whole (hw i (List.mem_range.2 hi)) k
theorem stN_ok {cs:List Cl} {n:Int} (hok:∀c∈cs,c.Ok) (h0:0≤n) (h1:n < 146097) (i:Nat):(stN cs n i).Ok:=by
 rw [stN]
 split
 ·rename_i hi
  rw [ycn hi]
  have hc:=hok _ (zzr hi)
  have z:i64B 0:=⟨by decide,by decide⟩
  rw [sF,sU,sP]
  cases hl:yaO cs[i] n
  ·exact ⟨z,z,z⟩
  ·obtain ⟨hm,hB,-,g1,g2⟩:=yiN hl
   have hcs:=ygm hB g1 g2
   obtain ⟨-,hs,-,-⟩:=ycB hm
   have h2:=hc.step.2
   refine ⟨?_,?_,?_⟩
   ·show i64B (stF cs[i] n); rw [stF]; exact ⟨by omega,by omega⟩
   ·show i64B (stU cs[i] n); rw [stU]; exact ⟨by omega,by omega⟩
   ·show i64B (ycz cs[i] n)
    rw [ycz]
    split
    ·have e0:=Int.emod_nonneg (yaR cs[i].unit cs[i].anchor - 86400 * n / yan cs[i].unit) (show cs[i].step≠0 by omega)
     have e1:=Int.emod_lt_of_pos (yaR cs[i].unit cs[i].anchor - 86400 * n / yan cs[i].unit) (show 0 < cs[i].step by omega)
     exact ⟨by omega,by omega⟩
    ·exact z
 ·exact st0_ok
theorem st8_inj {x y:Nat→St1} (h:st8v x=st8v y):∀i,i < 8→x i=y i:=by
 have h:=congrArg (fun v=>match v with | .agg a=>a.toList | _=> []) h
 simp [st8L] at h
 obtain ⟨a0,a1,a2,a3,b0,b1,b2,b3,c0,c1,c2,c3,d0,d1,d2,d3,e0,e1,e2,e3,f0,f1,f2,f3,g0,g1,g2,g3,h0,h1,h2,h3⟩:=h
 intro i hi
 have ext:∀s t:St1,s.a=t.a→s.f=t.f→s.u=t.u→s.p=t.p→s=t:=fun s t p1 p2 p3 p4=>by cases s; cases t; simp at *; exact ⟨p1,p2,p3,p4⟩
 match i,hi with
 | 0,_=>exact ext _ _ a0 a1 a2 a3
 | 1,_=>exact ext _ _ b0 b1 b2 b3
 | 2,_=>exact ext _ _ c0 c1 c2 c3
 | 3,_=>exact ext _ _ d0 d1 d2 d3
 | 4,_=>exact ext _ _ e0 e1 e2 e3
 | 5,_=>exact ext _ _ f0 f1 f2 f3
 | 6,_=>exact ext _ _ g0 g1 g2 g3
 | 7,_=>exact ext _ _ h0 h1 h2 h3
 | n+8,hi=>omega
theorem yfs {cs:List Cl} {x y:Nat→St1} (h8:cs.length≤8) (h:∀i,i < 8→x i=y i) (k:Nat):ydo cs x k=ydo cs y k:=by
 rw [ydo,ydo]
 exact ybV fun i hi=>by rw [h i (by omega)]
theorem st1_inj {s t:St1} (h:s.v=t.v):s=t:=by
 have h:=congrArg (fun v=>match v with | .agg a=>a.toList | _=> []) h
 simp at h
 cases s; cases t; simp at *; exact h
/-! ### a roll in memory -/
def RM (br bk:Nat) (bps:List Nat):Blk:=fun b=>b=br∨b=bk∨b∈bps
def DiF (W:World) (F M:Blk) (b:Nat) (q:Nat→Bool):Prop:=F b∧¬M b∧DiscAt W b q
def SlF (W:World) (F M:Blk) (a:Option Addr) (cells:List Value):Prop:=cells= []∨∃b off,a=some ⟨b,off,none⟩∧F b∧¬M b∧b < W.heap.size∧∀j (h:j < cells.length),W.cell? ⟨b,off+j,none⟩=some cells[j]
theorem SlF.sl {W:World} {F M:Blk} {a:Option Addr} {cells:List Value} (h:SlF W F M a cells):Sl W a cells:=by
 rcases h with h | ⟨b,off,h1,-,-,h2,h3⟩
 ·exact .inl h
 ·exact .inr ⟨b,off,h1,h2,h3⟩
def K8 (v:Value):Prop:=∃x:Nat→St1,v=st8v x∧∀i,i < 8→(x i).Ok
def K1 (v:Value):Prop:=∃s:St1,v=s.v∧s.Ok
theorem yg1 (w:World):KeyT Tryz.prog 194 K8 w:=(KeyT.of keyedSt8 w).sub fun v ⟨x,h,hok⟩=>by rw [h]; exact key_st8 x hok
theorem keyT1 (w:World):KeyT Tryz.prog 177 K1 w:=(KeyT.of keyedSt1 w).sub fun v ⟨s,h,hok⟩=>by rw [h]; exact key_st1 s hok
def G8 (cs:List Cl) (W:World) (F M:Blk) (key v:Value):Prop:=∀x,key=st8v x→∃b,v= .pointer (some ⟨b,0,none⟩)∧DiF W F M b (ydo cs x)
def G1 (c:Cl) (W:World) (F M:Blk) (key v:Value):Prop:=∀s:St1,key=s.v→∃b,v= .pointer (some ⟨b,0,none⟩)∧DiF W F M b (secQ c s.a s.f s.u s.p)
structure RollX (W:World) (cs:List Cl) (br bk:Nat) (bps:List Nat) (F:Blk):Prop where
 ok:∀c∈cs,c.Ok
 may:mayL cs=true
 lt:∀b,F b→b < W.heap.size
 sub:∀b,RM br bk bps b→F b
 tab:Tab W∧F 0∧¬RM br bk bps 0
 apart:br≠bk∧br ∉ bps∧bk ∉ bps∧bps.Nodup
 len:bps.length=cs.length
 cls:∃a cap,W.cell? ⟨br,0,none⟩=some (.slice a cs.length cap)∧SlF W F (RM br bk bps) a (cls cs)∧cs.length≤cap∧(a=none→cap=0)
 laps:∃a cap gvs,W.cell? ⟨br,1,none⟩=some (.slice a cs.length cap)∧SlF W F (RM br bk bps) a gvs∧gvs.length=cs.length∧∀i,i < cs.length→∃lo hi,LapV W lo hi (atC cs i) (gvs.getD i undef)∧hi≤W.heap.size∧∀b,lo≤b→b < hi→F b∧¬RM br bk bps b
 known:W.cell? ⟨br,2,none⟩=some (.map (some bk))
 parts:∃a cap,W.cell? ⟨br,3,none⟩=some (.slice a cs.length cap)∧SlF W F (RM br bk bps) a (bps.map fun b=> .map (some b))
 fz:∀i,W.frozen? ⟨br,i,none⟩=false
structure RollS (W:World) (cs:List Cl) (br bk:Nat) (bps:List Nat) (F:Blk) (ws:Nat→Bool) (m:Nat):Prop where
 x:RollX W cs br bk bps F
 known:MapS K8 (G8 cs W F (RM br bk bps)) W bk 256
 parts:∀i,i < cs.length→MapS K1 (G1 (atC cs i) W F (RM br bk bps)) W (bps.getD i 0) 256
 whole:∀j,j < 256→∃d:Option Nat,W.cell? ⟨br,4+j,none⟩=some (dptr d)∧d.isSome=ws j∧∀b,d=some b→DiF W F (RM br bk bps) b (yen cs j)
 many:W.cell? ⟨br,260,none⟩=some (.int .i64 (m:Nat))
section
variable {W W':World} {cs:List Cl} {br bk:Nat} {bps:List Nat} {F F' M:Blk} {ws:Nat→Bool} {m:Nat}
theorem DiF.eff {b:Nat} {q:Nat→Bool} (h:DiF W F M b q) (hE:Eff M W W') (hF:∀b,F b→F' b):DiF W' F' M b q:=⟨hF b h.1,h.2.1,h.2.2.eff hE h.2.1⟩
theorem SlF.eff {a:Option Addr} {cells:List Value} (h:SlF W F M a cells) (hE:Eff M W W') (hF:∀b,F b→F' b):SlF W' F' M a cells:=by
 rcases h with h | ⟨b,off,h1,h2,h3,h4,h5⟩
 ·exact .inl h
 ·exact .inr ⟨b,off,h1,hF b h2,h3,zH h4 hE.size,fun j hj=>(hE.cell (p:=⟨b,off+j,none⟩) h4 h3).trans (h5 j hj)⟩
theorem G8.eff {key v:Value} (h:G8 cs W F M key v) (hE:Eff M W W') (hF:∀b,F b→F' b):G8 cs W' F' M key v:=fun x hx=>by
 obtain ⟨b,h1,h2⟩:=h x hx
 exact ⟨b,h1,h2.eff hE hF⟩
theorem G1.eff {c:Cl} {key v:Value} (h:G1 c W F M key v) (hE:Eff M W W') (hF:∀b,F b→F' b):G1 c W' F' M key v:=fun x hx=>by
 obtain ⟨b,h1,h2⟩:=h x hx
 exact ⟨b,h1,h2.eff hE hF⟩
theorem RollX.eff (h:RollX W cs br bk bps F) (hE:Eff (RM br bk bps) W W') (hF:∀b,F b→F' b) (hlt:∀b,F' b→b < W'.heap.size)
  (hc:∀i,i < 4→W'.cell? ⟨br,i,none⟩=W.cell? ⟨br,i,none⟩) (hf:∀i,W'.frozen? ⟨br,i,none⟩=W.frozen? ⟨br,i,none⟩):RollX W' cs br bk bps F':=by
 obtain ⟨a0,c0,k0,s0,t0,t1⟩:=h.cls
 obtain ⟨a1,c1,gvs,k1,s1,l1,v1⟩:=h.laps
 obtain ⟨a3,c3,k3,s3⟩:=h.parts
 exact ⟨h.ok,h.may,hlt,fun b hb=>hF b (h.sub b hb),⟨h.tab.1.eff hE h.tab.2.2,hF _ h.tab.2.1,h.tab.2.2⟩,h.apart,h.len,⟨a0,c0,(hc 0 (by omega)).trans k0,s0.eff hE hF,t0,t1⟩,
  ⟨a1,c1,gvs,(hc 1 (by omega)).trans k1,s1.eff hE hF,l1,fun i hi=>by
   obtain ⟨lo,hi',hv,hs,hb⟩:=v1 i hi
   exact ⟨lo,hi',hv.keep (zI hs hE.size) (fun b g1 g2=>hE.block b (by omega) (hb b g1 g2).2),zI hs hE.size,fun b g1 g2=>⟨hF b (hb b g1 g2).1,(hb b g1 g2).2⟩⟩⟩,
  (hc 2 (by omega)).trans h.known,⟨a3,c3,(hc 3 (by omega)).trans k3,s3.eff hE hF⟩,fun i=>(hf i).trans (h.fz i)⟩
theorem RollS.rlt (h:RollS W cs br bk bps F ws m):br < W.heap.size:=h.x.lt br (h.x.sub br (.inl rfl))
theorem RollS.keep (h:RollS W cs br bk bps F ws m) (hs:W.heap.size≤W'.heap.size) (hb:∀b,F b→W'.heap[b]? =W.heap[b]?):RollS W' cs br bk bps F ws m:=by
 have hbr:=hb br (h.x.sub br (.inl rfl))
 have cb:∀i,W'.cell? ⟨br,i,none⟩=W.cell? ⟨br,i,none⟩:=fun i=>zzJ (w:=W) (a:=⟨br,i,none⟩) hbr
 have fb:∀i,W'.frozen? ⟨br,i,none⟩=W.frozen? ⟨br,i,none⟩:=fun i=>zzM (w:=W) (a:=⟨br,i,none⟩) hbr
 have sl:∀a cells,SlF W F (RM br bk bps) a cells→SlF W' F (RM br bk bps) a cells:=fun a cells h=>by
  rcases h with h | ⟨b,off,h1,h2,h3,h4,h5⟩
  ·exact .inl h
  ·exact .inr ⟨b,off,h1,h2,h3,zH h4 hs,fun j hj=>(zzJ (w:=W) (a:=⟨b,off+j,none⟩) (hb b h2)).trans (h5 j hj)⟩
 have di:∀b q,DiF W F (RM br bk bps) b q→DiF W' F (RM br bk bps) b q:=fun b q h=>⟨h.1,h.2.1,h.2.2.block hs (hb b h.1)⟩
 obtain ⟨a0,c0,k0,s0,t0,t1⟩:=h.x.cls
 obtain ⟨a1,c1,gvs,k1,s1,l1,v1⟩:=h.x.laps
 obtain ⟨a3,c3,k3,s3⟩:=h.x.parts
 refine ⟨⟨h.x.ok,h.x.may,fun b hF=>zH (h.x.lt b hF) hs,h.x.sub,⟨⟨zH h.x.tab.1.1 hs,fun i hi=>(zzJ (w:=W) (a:=⟨0,i,none⟩) (hb _ h.x.tab.2.1)).trans (h.x.tab.1.2 i hi)⟩,h.x.tab.2⟩,h.x.apart,h.x.len,
  ⟨a0,c0,(cb 0).trans k0,sl _ _ s0,t0,t1⟩,⟨a1,c1,gvs,(cb 1).trans k1,sl _ _ s1,l1,fun i hi=>by
   obtain ⟨lo,hi',hv,hs',hb'⟩:=v1 i hi
   exact ⟨lo,hi',hv.keep (zI hs' hs) (fun b g1 g2=>hb b (hb' b g1 g2).1),zI hs' hs,hb'⟩⟩,(cb 2).trans h.x.known,⟨a3,c3,(cb 3).trans k3,sl _ _ s3⟩,fun i=>(fb i).trans (h.x.fz i)⟩,
  (h.known.keep (hb bk (h.x.sub bk (.inr (.inl rfl))))).mono (zG _) (fun _ h=>h) (fun key v g x hx=>by obtain ⟨b,g1,g2⟩:=g x hx; exact ⟨b,g1,di _ _ g2⟩),
  fun i hi=>((h.parts i hi).keep (hb _ (h.x.sub _ (.inr (.inr ?_))))).mono (zG _) (fun _ h=>h) (fun key v g x hx=>by obtain ⟨b,g1,g2⟩:=g x hx; exact ⟨b,g1,di _ _ g2⟩),
  fun j hj=>by obtain ⟨d,g1,g2,g3⟩:=h.whole j hj; exact ⟨d,(cb _).trans g1,g2,fun b hb'=>di _ _ (g3 b hb')⟩,(cb 260).trans h.many⟩
 rw [List.getD_eq_getElem?_getD,zzp (by rw [h.x.len]; exact hi)]
 exact zzr _
theorem RollS.below (h:RollS W cs br bk bps F ws m) (hb:Below W.heap.size W W'):RollS W' cs br bk bps F ws m:=h.keep hb.size (fun b hF=>hb.block b (h.x.lt b hF))
theorem RollS.wide (h:RollS W cs br bk bps F ws m) (hF:∀b,F b→F' b) (hlt:∀b,F' b→b < W.heap.size):RollS W cs br bk bps F' ws m:=by
 have hE:=Eff.refl (RM br bk bps) W
 exact ⟨h.x.eff hE hF hlt (fun _ _=>rfl) (fun _=>rfl),h.known.mono (zG _) (fun _ h=>h) (fun _ _ g=>g.eff hE hF),fun i hi=>(h.parts i hi).mono (zG _) (fun _ h=>h) (fun _ _ g=>g.eff hE hF),
  fun j hj=>by obtain ⟨d,g1,g2,g3⟩:=h.whole j hj; exact ⟨d,g1,g2,fun b hb=>(g3 b hb).eff hE hF⟩,h.many⟩
end
end
end Go.Proofs.YtkpgfmonhfnhdaaGreatDoor
