/-
  A map of which one says what each key's value is good for: looked up, written, counted, cleared. Its keys are whatever compares by being the same.
  A clause's state, and eight of them, as keys of maps.
  ir.May, ir.Has: whether clauses are a set, what is in it.
  slices.Clone, slices.Grow, slices.Concat of clauses.
  ir.Of, ir.Join, ir.Whole: sets made of clauses.
-/
import Derived.Test.YtjahgimnfliooaaGreatDoorQ155bda
import Derived.Maps.Keyed
import Derived.Maps.Own
import Derived.Maps.OwnIn
import Derived.Test.YtjahgimnfliooaaGreatDoorQ7eaca1
import Derived.DeepKeys5
import Derived.Test.YtjahgimnfliooaaGreatDoorQe56d57
import Derived.Test.YtjahgimnfliooaaGreatDoorQ3bc6b4
import Derived.BigQuiet
import Derived.Deep.CutRange
import Derived.Lib.AppendZeros
import Derived.Lib.SliceRun
import Derived.Test.YtjahgimnfliooaaGreatDoorQb17bbc
set_option maxRecDepth 100000
set_option maxHeartbeats 25600000
namespace Go.Proofs.YtjahgimnfliooaaGreatDoor
set_option linter.unusedVariables false
section
open Go.RowKit Go.Maps
structure KeyT (P:Program) (k:TypeId) (K:Value→Prop) (w:World):Prop where
 check:∀(em:Bool) (v:Value),K v→(Instr.checkKey em 10000 k v).run P w= .ok () w
 find:∀(x:Value),K x→∀es:List MapEntry,(∀e∈es,K e.key)→
  (Instr.findKey k x es).run P w= .ok none w∨∃j e,(Instr.findKey k x es).run P w= .ok (some (j,e.val)) w∧es[j]? =some e∧e.key=x
 stays:∀(v:Value),K v→(Instr.keyThatStays v v).run P w= .ok v w
theorem KeyT.of {P:Program} {k:TypeId} (K:Keyed P k) (w:World):KeyT P k (fun v=>∃l,keyOf P k v=some l) w where
 check:=fun em v ⟨l,h⟩=>K.check w em h
 find:=fun x ⟨l,h⟩ es he=>by
  rcases K.find w h es he with ⟨h1,-⟩ | h1
  ·exact .inl h1
  ·exact .inr h1
 stays:=fun v ⟨l,h⟩=>K.stays w h
theorem KeyT.sub {P:Program} {k:TypeId} {K K':Value→Prop} {w:World} (h:KeyT P k K w) (hs:∀v,K' v→K v):KeyT P k K' w:=
 ⟨fun em v hv=>h.check em v (hs v hv),fun x hx es he=>h.find x (hs x hx) es (fun e hm=>hs _ (he e hm)),fun v hv=>h.stays v (hs v hv)⟩
def MapS (K:Value→Prop) (G:Value→Value→Prop) (W:World) (b n:Nat):Prop:=
 ∃es clock,W.heap[b]? =some (.map es clock)∧es.size≤n∧∀e∈es.toList,K e.key∧G e.key e.val
section
variable {K:Value→Prop} {G:Value→Value→Prop} {P:Program} {k:TypeId} {w:World} {b n:Nat}
theorem MapS.lt (h:MapS K G w b n):b < w.heap.size:=by
 obtain ⟨es,clock,hb,_⟩:=h
 exact (Array.getElem?_eq_some_iff.1 hb).1
theorem MapS.made (w:World) (K:Value→Prop) (G:Value→Value→Prop):MapS K G (w.alloc (.map #[] 0)) w.heap.size 0:=
 ⟨#[],0,(MapKept.heap_alloc w _).1,zG _,fun e he=>by simp at he⟩
theorem MapS.keep {w':World} (h:MapS K G w b n) (hb:w'.heap[b]? =w.heap[b]?):MapS K G w' b n:=by
 obtain ⟨es,clock,h1,h2,h3⟩:=h
 exact ⟨es,clock,hb.trans h1,h2,h3⟩
theorem MapS.mono {K':Value→Prop} {G':Value→Value→Prop} {n':Nat} (h:MapS K G w b n) (hn:n≤n') (hK:∀x,K x→K' x) (hG:∀x v,G x v→G' x v):MapS K' G' w b n':=by
 obtain ⟨es,clock,h1,h2,h3⟩:=h
 exact ⟨es,clock,h1,zI h2 hn,fun e he=>⟨hK _ (h3 e he).1,hG _ _ (h3 e he).2⟩⟩
theorem MapS.lookup {t e:TypeId} (h:MapS K G w b n) (T:KeyT P k K w) (ht:P.underlying t=some (.map k e)) {z:Value} (hz:(zeroValue e).run P w= .ok z w) (c:Bool) {x:Value} (hx:K x) :
  (Instr.lookup t (.map (some b)) x c).run P w= .ok (if c then .tuple #[z, .bool false] else z) w∨
  ∃v,G x v∧(Instr.lookup t (.map (some b)) x c).run P w= .ok (if c then .tuple #[v, .bool true] else v) w:=by
 obtain ⟨es,clock,h1,h2,h3⟩:=h
 rcases T.find x hx es.toList (fun e he=>(h3 e he).1) with g1 | ⟨j,e0,g1,g2,g3⟩
 ·exact .inl (by simp [Instr.lookup,run_underlying ht,MapKept.run_getObj_map h1,T.check _ x hx,g1,hz,Result.andThen])
 ·refine .inr ⟨e0.val,?_,by simp [Instr.lookup,run_underlying ht,MapKept.run_getObj_map h1,T.check _ x hx,g1,Result.andThen]⟩
  have:=(h3 e0 (List.mem_of_getElem? g2)).2
  rwa [g3] at this
theorem ybH {es es':Array MapEntry} {clock clock':Nat} (hb:w.heap[b]? =some (.map es clock)):w.grownBy (Go.ChangeMaps.setBlock w b (.map es' clock')) (some b):=
 ⟨rfl,rfl,rfl,by simp [Go.ChangeMaps.setBlock],fun i hi hn=>Go.ChangeMaps.heap_setBlock_other hb _ (fun e=>hn (by rw [e]))⟩
theorem MapS.update {t e:TypeId} (h:MapS K G w b n) (T:KeyT P k K w) (ht:P.underlying t=some (.map k e)) {x v:Value} (hx:K x) (hv:G x v) :
  ∃w',(Instr.mapUpdate t (.map (some b)) x v).run P w= .ok () w'∧MapS K G w' b (n+1)∧w.grownBy w' (some b):=by
 obtain ⟨es,clock,h1,h2,h3⟩:=h
 rcases T.find x hx es.toList (fun e he=>(h3 e he).1) with g1 | ⟨j,e0,g1,g2,g3⟩
 ·refine ⟨Go.ChangeMaps.setBlock w b (.map (es.push ⟨x,v,clock⟩) (clock+1)),by simp [Instr.mapUpdate,run_underlying ht,MapKept.run_getObj_map h1,T.check false x hx,g1,MapKept.run_setObj_map _ h1,Result.andThen,Go.ChangeMaps.setBlock],⟨_,_,Go.ChangeMaps.heap_setBlock_same h1 _,by simp; omega,?_⟩,ybH h1⟩
  intro e he
  rw [Array.toList_push,List.mem_append,List.mem_singleton] at he
  rcases he with he | rfl
  ·exact h3 e he
  ·exact ⟨hx,hv⟩
 ·have hj:es[j]? =some e0:=by rw [←g2,Array.getElem?_toList]
  have hkey:((es[j]?).map (·.key)).getD x=x:=by rw [hj]; exact g3
  refine ⟨Go.ChangeMaps.setBlock w b (.map (es.modify j fun e=>{e with key:=x,val:=v}) clock),by simp [Instr.mapUpdate,run_underlying ht,MapKept.run_getObj_map h1,T.check false x hx,g1,hj,g3,T.stays x hx,MapKept.run_setObj_map _ h1,Result.andThen,Go.ChangeMaps.setBlock],⟨_,_,Go.ChangeMaps.heap_setBlock_same h1 _,by simp; omega,?_⟩,ybH h1⟩
  intro e he
  rw [Array.toList_modify] at he
  obtain ⟨i,hi⟩:=List.getElem?_of_mem he
  rw [List.getElem?_modify] at hi
  cases hes:es.toList[i]? with
  | none=>rw [hes] at hi; simp at hi
  | some a=>
    rw [hes] at hi
    have ha:=h3 a (List.mem_of_getElem? hes)
    by_cases hij:j=i
    ·simp [hij] at hi; rw [←hi]; exact ⟨hx,hv⟩
    ·simp [hij] at hi; rw [←hi]; exact ha
theorem MapS.count {t e:TypeId} (h:MapS K G w b n) (ht:P.underlying t=some (.map k e)) (ty:TypeId) :
  ∃m:Nat,m≤n∧MapS K G w b m∧(Builtin.len_ #[t] ty #[.map (some b)]).run P w= .ok (.int .i64 m) w:=by
 obtain ⟨es,clock,h1,h2,h3⟩:=h
 exact ⟨es.size,h2,⟨es,clock,h1,zG _,h3⟩,by simp [Builtin.len_,run_underlying ht,MapKept.run_getObj_map h1,Result.andThen,goInt]⟩
theorem MapS.clear {t e:TypeId} (h:MapS K G w b n) (ht:P.underlying t=some (.map k e)) (ty:TypeId) :
  ∃w',(Builtin.clear_ #[t] ty #[.map (some b)]).run P w= .ok (.tuple #[]) w'∧MapS K G w' b 0∧w.grownBy w' (some b):=by
 obtain ⟨es,clock,h1,h2,h3⟩:=h
 exact ⟨Go.ChangeMaps.setBlock w b (.map #[] clock),by simp [Builtin.clear_,run_underlying ht,MapKept.run_getObj_map h1,MapKept.run_setObj_map _ h1,Result.andThen,Go.ChangeMaps.setBlock],
  ⟨#[],clock,Go.ChangeMaps.heap_setBlock_same h1 _,zG _,fun e he=>by simp at he⟩,ybH h1⟩
theorem ydw {ops:Array Oper} {rest:List Oper} {o:Oper} {a:Act} {Q:Exit→Act→World→Prop} {t e:TypeId} (m:Operand) (hg:o.guard=none) (hop:o.op= .call {callee:= .builtin .clear,args:=#[m],argTypes:=#[t]})
  (ht:P.underlying t=some (.map k e)) (h:MapS K G w b n) (hm:a.eval m= .map (some b))
  (hK:∀w',MapS K G w' b 0→w.grownBy w' (some b)→wpList P ops Q rest (a.put o.dst (.tuple #[])) w') :
  wpList P ops Q (o :: rest) a w:=by
 refine wpList_plain hg fun K' hK'=>?_
 obtain ⟨w',hrun,r1,r2⟩:=h.clear ht o.type
 unfold Oper.wp execOp
 simp only [hop,resolve,invoke,builtin,Sem.run_bind,Sem.run_pure,Result.andThen_ok,List.map_toArray,List.map_cons,List.map_nil,hm,hrun]
 exact hK' _ _ (hK w' r1 r2)
end
end
section
open Go.RowKit Go.Maps
theorem yig:Tryz.prog.cellsOf 203=4:=by kernel_rfl
theorem keySt:Tryz.prog.keyTypeAt 3 203=true:=by kernel_rfl
theorem formSt (a:Bool) (f u p:Int):(stv a f u p).formed Tryz.prog 203=true:=by
 unfold Value.formed; simp only [Tryz.underlying203,yig]; rfl
theorem ygi (d:Nat) (a:Bool) (f u p:Int) (hf:i64B f) (hu:i64B u) (hp:i64B p):Tryz.prog.keyLits (d+2) 203 [.bool a, .int .i64 f, .int .i64 u, .int .i64 p]=some [.bool a, .int .i64 f, .int .i64 u, .int .i64 p]:=by
 unfold Program.keyLits
 simp only [Tryz.underlying203]
 simp [cellsI,ygy,yig,yih,lits_i,lits_l,lits_b,hf,hu,hp]
def eqlStS (x y:Value):Sem Value:=binOp .eql 203 x y
theorem eql_stS (x y:Value):binOp .eql 203 x y=eqlStS x y:=rfl
theorem ykf (a:Bool) (f u p:Int) (a':Bool) (f' u' p':Int) (w:World) (hf:i64B f) (hu:i64B u) (hp:i64B p) (hf':i64B f') (hu':i64B u') (hp':i64B p') :
  (eqlStS (stv a f u p) (stv a' f' u' p')).run Tryz.prog w= .ok (.bool (decide (a=a'∧f=f'∧u=u'∧p=p'))) w:=by
 rw [eqlStS,run_eql_struct]
 obtain ⟨r,hr,hi⟩:=run_equalIn_deep 9997 3 203 keySt w 3 3 _ _ _ _ (formSt a f u p) (formSt a' f' u' p') (ygi 1 a f u p hf hu hp) (ygi 1 a' f' u' p' hf' hu' hp')
 have e:r=decide (a=a'∧f=f'∧u=u'∧p=p'):=by
  rw [zze,hi,zzY]
  simp
 rw [hr,e]; rfl
structure St1 where
 a:Bool
 f:Int
 u:Int
 p:Int
abbrev St1.v (s:St1):Value:=stv s.a s.f s.u s.p
abbrev St1.l (s:St1):List Value:= [.bool s.a, .int .i64 s.f, .int .i64 s.u, .int .i64 s.p]
structure St1.Ok (s:St1):Prop where
 f:i64B s.f
 u:i64B s.u
 p:i64B s.p
def st0:St1:=⟨false,0,0,0⟩
theorem st0_ok:st0.Ok:=⟨⟨by decide,by decide⟩,⟨by decide,by decide⟩,⟨by decide,by decide⟩⟩
abbrev st8L (x:Nat→St1):List Value:=
 [.bool (x 0).a, .int .i64 (x 0).f, .int .i64 (x 0).u, .int .i64 (x 0).p, .bool (x 1).a, .int .i64 (x 1).f, .int .i64 (x 1).u, .int .i64 (x 1).p,
  .bool (x 2).a, .int .i64 (x 2).f, .int .i64 (x 2).u, .int .i64 (x 2).p, .bool (x 3).a, .int .i64 (x 3).f, .int .i64 (x 3).u, .int .i64 (x 3).p,
  .bool (x 4).a, .int .i64 (x 4).f, .int .i64 (x 4).u, .int .i64 (x 4).p, .bool (x 5).a, .int .i64 (x 5).f, .int .i64 (x 5).u, .int .i64 (x 5).p,
  .bool (x 6).a, .int .i64 (x 6).f, .int .i64 (x 6).u, .int .i64 (x 6).p, .bool (x 7).a, .int .i64 (x 7).f, .int .i64 (x 7).u, .int .i64 (x 7).p]
abbrev st8v (x:Nat→St1):Value:= .agg (st8L x).toArray
theorem laidR:laidOutB Tryz.prog=true:=by kernel_rfl
theorem keyedSt1:Keyed Tryz.prog 203:=Keyed.of_law (deep_law_laid laidR (m:=3) (by decide) (of_decide_eq_true (by kernel_rfl)) keySt (by rw [Tryz.underlying203]))
theorem keySt8:Tryz.prog.keyTypeAt 4 210=true:=by kernel_rfl
theorem keyedSt8:Keyed Tryz.prog 210:=Keyed.of_law (deep_law_laid laidR (m:=4) (by decide) (of_decide_eq_true (by kernel_rfl)) keySt8 (by rw [Tryz.underlying210]))
theorem typesR:∃d,Tryz.prog.types.size+1=d+4:=⟨Tryz.prog.types.size - 3,by have h:4≤Tryz.prog.types.size:=of_decide_eq_true (by kernel_rfl); omega⟩
theorem yj1:Tryz.prog.keyType 203=true:=by kernel_rfl
theorem yj0:Tryz.prog.keyType 210=true:=by kernel_rfl
theorem yjm:Tryz.prog.cellsOf 210=32:=by kernel_rfl
theorem formSt8 (x:Nat→St1):(st8v x).formed Tryz.prog 210=true:=by
 unfold Value.formed; simp only [Tryz.underlying210,yjm]; rfl
theorem key_st1 (s:St1) (h:s.Ok):∃l,keyOf Tryz.prog 203 s.v=some l:=by
 obtain ⟨d,hd⟩:=typesR
 refine ⟨.string (keyBytes [.bool s.a, .int .i64 s.f, .int .i64 s.u, .int .i64 s.p]),?_⟩
 unfold keyOf
 simp only [Tryz.underlying203]
 rw [if_pos (by rw [yj1,formSt]; rfl),hd]
 have:=ygi (d+2) s.a s.f s.u s.p h.f h.u h.p
 simp [Value.cells,this]
theorem key_st8 (x:Nat→St1) (h:∀i,i < 8→(x i).Ok):∃l,keyOf Tryz.prog 210 (st8v x)=some l:=by
 obtain ⟨d,hd⟩:=typesR
 have hl:∀i,i < 8→Tryz.prog.keyLits (d+3) 203 [.bool (x i).a, .int .i64 (x i).f, .int .i64 (x i).u, .int .i64 (x i).p]=some [.bool (x i).a, .int .i64 (x i).f, .int .i64 (x i).u, .int .i64 (x i).p]:=
  fun i hi=>ygi (d+1) (x i).a (x i).f (x i).u (x i).p (h i hi).f (h i hi).u (h i hi).p
 have hk:∃ls,Tryz.prog.keyLits (d+4) 210 (st8L x)=some ls:=by
  unfold Program.keyLits
  simp only [Tryz.underlying210]
  simp [yig,yjm,hl 0 (by omega),hl 1 (by omega),hl 2 (by omega),hl 3 (by omega),hl 4 (by omega),hl 5 (by omega),hl 6 (by omega),hl 7 (by omega),List.range_succ]
 obtain ⟨ls,hls⟩:=hk
 refine ⟨.string (keyBytes ls),?_⟩
 unfold keyOf
 simp only [Tryz.underlying210]
 rw [if_pos (by rw [yj0,formSt8]; rfl),hd]
 simp [Value.cells,hls]
end
section
open Go.RowKit
attribute [local go_sem ↓] yaC
theorem IMay1_any (c:Cl) (w:World) (hc:c.Ok):Calls Tryz.prog 114 #[clv c] w fun e w'=>e= .returned (.bool (!mayC c))∧Below w.heap.size w w':=by
 have cM:=hid (fun W=>ycm c W hc)
 obtain ⟨W0,hW0⟩:∃W,w.alloc (.cells (yac c).toArray 34)=W:=⟨_,rfl⟩
 have b0:Below w.heap.size w W0:=by rw [←hW0]; exact yaa (Below.refl _ _) (zG _)
 have c0:ClB W0 w.heap.size c:=by rw [←hW0]; exact yb7 w c _
 have HB0:=hid b0
 have HW0:=hid hW0
 have l0:=c0.ld
 obtain ⟨m,hm⟩:∃m,mayC c=m:=⟨_,rfl⟩
 rw [hm] at cM⊢
 clear hm b0 c0 hW0
 go_enter Tryz.func114,Tryz.ntmps114
 go_upto_region 1 with fail
 rw [HW0.out]
 go_wp2_with fail
 refine (cM.out _).mono ?_
 rintro e w1 ⟨rfl,hB1⟩
 have HB1:=hid (HB0.out.trans (hB1.mono HB0.out.size))
 clear hB1 l0
 go_wp2
 go_ret
 exact ⟨rfl,HB1.out⟩
theorem IHas1_any (c:Cl) (t:Int) (bt:Nat) (w:World) (hc:c.Ok) (hbt:bt < w.heap.size) (ht:w.cell? ⟨bt,0,none⟩=some (.int .i64 t)):Calls Tryz.prog 62 #[clv c, .pointer (some ⟨bt,0,none⟩)] w fun e w'=>e= .returned (.bool (hasC c t))∧Below w.heap.size w w':=by
 have cM:=hid (fun W=>yjw c t W hc)
 obtain ⟨W0,hW0⟩:∃W,w.alloc (.cells (yac c).toArray 34)=W:=⟨_,rfl⟩
 have b0:Below w.heap.size w W0:=by rw [←hW0]; exact yaa (Below.refl _ _) (zG _)
 have c0:ClB W0 w.heap.size c:=by rw [←hW0]; exact yb7 w c _
 have t0:=(b0.cell (p:=⟨bt,0,none⟩) hbt).trans ht
 have HB0:=hid b0
 have HW0:=hid hW0
 have l0:=c0.ld
 obtain ⟨m,hm⟩:∃m,hasC c t=m:=⟨_,rfl⟩
 rw [hm] at cM⊢
 clear hm b0 c0 hW0 ht
 go_enter Tryz.func62,Tryz.ntmps62
 go_upto_region 1 with fail
 rw [HW0.out]
 go_wp2_with fail
 refine (cM.out _).mono ?_
 rintro e w1 ⟨rfl,hB1⟩
 have HB1:=hid (HB0.out.trans (hB1.mono HB0.out.size))
 clear hB1 l0
 go_wp2
 go_ret
 exact ⟨rfl,HB1.out⟩
def IdxR (p:Cl→Bool) (l:List Cl) (e:Ending):Prop:=∃r:Int,e= .returned (.int .i64 r)∧decide (0≤r)=l.any p
theorem ykC (a:Option Addr) (cap:Nat) (l:List Cl) (w:World) (hl:l.length≤9223372036854775807) (hs:Sl w a (cls l)) (hok:∀c∈l,c.Ok) :
  Calls Tryz.prog 115 #[.slice a l.length cap, .func (.func 114) #[] #[]] w fun e w'=>IdxR (fun c=>!mayC c) l e∧Below w.heap.size w w':=by
 have Hs:=hid hs
 have Hok:=hid hok
 clear hs hok
 go_enter Tryz.func115,Tryz.ntmps115
 go_wp2
 go_loopw [8] (fun i wr=>∃k:Nat,i= .int .i64 k∧k≤l.length∧Hid ((l.take k).any (fun c=>!mayC c)=false)∧Hid (Below w.heap.size w wr)) (fun i _=>l.length - (intOf i).toNat)
 case atStart=>exact ⟨0,rfl,by omega,by show _ = _; rfl,Below.refl _ _⟩
 case round=>
  obtain ⟨k,rfl,hk,hno,HB⟩:=hrel
  by_cases hlt:k < l.length
  ·have hltI:(k:Int) < l.length:=by omega
   obtain ⟨b,off,rfl,hbk,hr⟩:=Hs.out.atCl hlt
   have hr':=ybS hr HB.out hbk
   have hcOk:=hid (Hok.out _ (zzr hlt))
   have ts:=hid (yam l k hlt)
   have hmem:=hid (zzr hlt)
   obtain ⟨c,hc⟩:∃c,l[k]=c:=⟨_,rfl⟩
   rw [hc] at hr' hcOk ts hmem
   have le:=yjZ hr'
   have cP:=hid (IMay1_any c wr hcOk.out)
   obtain ⟨v,hv⟩:∃v,(!mayC c)=v:=⟨_,rfl⟩
   rw [hv] at cP
   have Hv:=hid hv
   clear hr hr' hc hv
   go_wp2_with fail
   refine cP.out.mono ?_
   rintro e w1 ⟨rfl,hB1⟩
   have HB1:=hid (HB.out.trans (hB1.mono HB.out.size))
   clear hB1 le
   cases v
   ·go_wp2
    exact ⟨⟨k+1,by go_num,by omega,by show _ = _; rw [ts.out,List.any_append,hno.out,List.any_cons,Hv.out]; rfl,HB1⟩,by simp [intOf]; omega⟩
   ·have hyes:Hid (IdxR (fun c=>!mayC c) l (.returned (.int .i64 (k:Int)))):=⟨k,rfl,by rw [zzZ (by omega)]; exact (List.any_eq_true.2 ⟨c,hmem.out,Hv.out⟩).symm⟩
    go_wp2
    go_ret
    exact ⟨hyes.out,HB1.out⟩
  ·have hltI:¬(k:Int) < l.length:=by omega
   have hall:Hid (IdxR (fun c=>!mayC c) l (.returned (.int .i64 (-1)))):=⟨-1,rfl,by rw [zzd (by omega),←hno.out,List.take_of_length_le (by omega)]⟩
   go_wp2
   go_ret
   exact ⟨hall.out,HB.out⟩
theorem ykJ (a:Option Addr) (cap:Nat) (l:List Cl) (w:World) (hl:l.length≤9223372036854775807) (hs:Sl w a (cls l)) (hok:∀c∈l,c.Ok) :
  Calls Tryz.prog 61 #[.slice a l.length cap, .func (.func 114) #[] #[]] w fun e w'=>e= .returned (.bool (l.any (fun c=>!mayC c)))∧Below w.heap.size w w':=by
 have cI:=hid (ykC a cap l w hl hs hok)
 obtain ⟨v,hv⟩:∃v,l.any (fun c=>!mayC c)=v:=⟨_,rfl⟩
 have cI':Hid (Calls Tryz.prog 115 #[.slice a l.length cap, .func (.func 114) #[] #[]] w fun e w'=>(∃r:Int,e= .returned (.int .i64 r)∧decide (0≤r)=v)∧Below w.heap.size w w'):=cI.out.mono fun e w' ⟨h,hb⟩=>⟨by rw [←hv]; exact h,hb⟩
 rw [hv]
 clear hv cI hs hok
 go_enter Tryz.func61,Tryz.ntmps61
 go_wp2_with fail
 refine cI'.out.mono ?_
 rintro e w1 ⟨⟨r,rfl,hr⟩,hB1⟩
 have HB1:=hid hB1
 have Hr:=hid hr
 clear hB1 hr
 go_wp2
 go_ret
 exact ⟨yaT Hr.out,HB1.out⟩
theorem ykE (t:Int) (bt:Nat) (a:Option Addr) (cap:Nat) (l:List Cl) (w:World) (hl:l.length≤9223372036854775807) (hs:Sl w a (cls l)) (hok:∀c∈l,c.Ok) (hbt:bt < w.heap.size) (ht:w.cell? ⟨bt,0,none⟩=some (.int .i64 t)) :
  Calls Tryz.prog 115 #[.slice a l.length cap, .func (.func 62) #[] #[.pointer (some ⟨bt,0,none⟩)]] w fun e w'=>IdxR (fun c=>hasC c t) l e∧Below w.heap.size w w':=by
 have Hs:=hid hs
 have Hok:=hid hok
 have Ht:=hid ht
 clear hs hok ht
 go_enter Tryz.func115,Tryz.ntmps115
 go_wp2
 go_loopw [8] (fun i wr=>∃k:Nat,i= .int .i64 k∧k≤l.length∧Hid ((l.take k).any (fun c=>hasC c t)=false)∧Hid (Below w.heap.size w wr)) (fun i _=>l.length - (intOf i).toNat)
 case atStart=>exact ⟨0,rfl,by omega,by show _ = _; rfl,Below.refl _ _⟩
 case round=>
  obtain ⟨k,rfl,hk,hno,HB⟩:=hrel
  by_cases hlt:k < l.length
  ·have hltI:(k:Int) < l.length:=by omega
   obtain ⟨b,off,rfl,hbk,hr⟩:=Hs.out.atCl hlt
   have hr':=ybS hr HB.out hbk
   have hcOk:=hid (Hok.out _ (zzr hlt))
   have ts:=hid (yam l k hlt)
   have hmem:=hid (zzr hlt)
   obtain ⟨c,hc⟩:∃c,l[k]=c:=⟨_,rfl⟩
   rw [hc] at hr' hcOk ts hmem
   have le:=yjZ hr'
   have cP:=hid (IHas1_any c t bt wr hcOk.out (zH hbt HB.out.size) ((HB.out.cell (p:=⟨bt,0,none⟩) hbt).trans Ht.out))
   obtain ⟨v,hv⟩:∃v,(hasC c t)=v:=⟨_,rfl⟩
   rw [hv] at cP
   have Hv:=hid hv
   clear hr hr' hc hv
   go_wp2_with fail
   refine cP.out.mono ?_
   rintro e w1 ⟨rfl,hB1⟩
   have HB1:=hid (HB.out.trans (hB1.mono HB.out.size))
   clear hB1 le
   cases v
   ·go_wp2
    exact ⟨⟨k+1,by go_num,by omega,by show _ = _; rw [ts.out,List.any_append,hno.out,List.any_cons,Hv.out]; rfl,HB1⟩,by simp [intOf]; omega⟩
   ·have hyes:Hid (IdxR (fun c=>hasC c t) l (.returned (.int .i64 (k:Int)))):=⟨k,rfl,by rw [zzZ (by omega)]; exact (List.any_eq_true.2 ⟨c,hmem.out,Hv.out⟩).symm⟩
    go_wp2
    go_ret
    exact ⟨hyes.out,HB1.out⟩
  ·have hltI:¬(k:Int) < l.length:=by omega
   have hall:Hid (IdxR (fun c=>hasC c t) l (.returned (.int .i64 (-1)))):=⟨-1,rfl,by rw [zzd (by omega),←hno.out,List.take_of_length_le (by omega)]⟩
   go_wp2
   go_ret
   exact ⟨hall.out,HB.out⟩
theorem ykK (t:Int) (bt:Nat) (a:Option Addr) (cap:Nat) (l:List Cl) (w:World) (hl:l.length≤9223372036854775807) (hs:Sl w a (cls l)) (hok:∀c∈l,c.Ok) (hbt:bt < w.heap.size) (ht:w.cell? ⟨bt,0,none⟩=some (.int .i64 t)) :
  Calls Tryz.prog 61 #[.slice a l.length cap, .func (.func 62) #[] #[.pointer (some ⟨bt,0,none⟩)]] w fun e w'=>e= .returned (.bool (l.any (fun c=>hasC c t)))∧Below w.heap.size w w':=by
 have cI:=hid (ykE t bt a cap l w hl hs hok hbt ht)
 obtain ⟨v,hv⟩:∃v,l.any (fun c=>hasC c t)=v:=⟨_,rfl⟩
 have cI':Hid (Calls Tryz.prog 115 #[.slice a l.length cap, .func (.func 62) #[] #[.pointer (some ⟨bt,0,none⟩)]] w fun e w'=>(∃r:Int,e= .returned (.int .i64 r)∧decide (0≤r)=v)∧Below w.heap.size w w'):=cI.out.mono fun e w' ⟨h,hb⟩=>⟨by rw [←hv]; exact h,hb⟩
 rw [hv]
 clear hv cI hs hok
 go_enter Tryz.func61,Tryz.ntmps61
 go_wp2_with fail
 refine cI'.out.mono ?_
 rintro e w1 ⟨⟨r,rfl,hr⟩,hB1⟩
 have HB1:=hid hB1
 have Hr:=hid hr
 clear hB1 hr
 go_wp2
 go_ret
 exact ⟨yaT Hr.out,HB1.out⟩
def mayL (l:List Cl):Bool:=decide (l.length≤8) && l.all mayC
theorem any_not (l:List Cl):(!l.any (fun c=>!mayC c))=l.all mayC:=by
 induction l with
 | nil=>rfl
 | cons c l ih=>rw [List.any_cons,List.all_cons,←ih]; cases mayC c <;> simp
theorem yjt (a:Option Addr) (cap:Nat) (l:List Cl) (w:World) (hl:l.length≤9223372036854775807) (hs:Sl w a (cls l)) (hok:∀c∈l,c.Ok) :
  Calls Tryz.prog 60 #[.slice a l.length cap] w fun e w'=>e= .returned (.bool (mayL l))∧Below w.heap.size w w':=by
 rw [mayL,←any_not]
 have cC:=hid (ykJ a cap l w hl hs hok)
 obtain ⟨v,hv⟩:∃v,l.any (fun c=>!mayC c)=v:=⟨_,rfl⟩
 rw [hv] at cC⊢
 clear hv hs hok
 by_cases h8:l.length≤8
 ·rw [zzZ h8,zzo]
  have h8I:(l.length:Int)≤8:=by omega
  have h8J:decide ((l.length:Int)≤8)=true:=zzZ h8I
  go_enter Tryz.func60,Tryz.ntmps60
  go_wp2_with fail
  refine cC.out.mono ?_
  rintro e w1 ⟨rfl,hB1⟩
  have HB1:=hid hB1
  clear hB1
  go_wp2
  go_ret
  exact ⟨rfl,HB1.out⟩
 ·rw [zzd h8,Bool.false_and]
  have h8I:¬(l.length:Int)≤8:=by omega
  have h8J:decide ((l.length:Int)≤8)=false:=zzd h8I
  go_enter Tryz.func60,Tryz.ntmps60
  go_wp2
  go_ret
  exact ⟨rfl,Below.refl _ _⟩
def hasL (l:List Cl) (t:Int):Bool:=mayL l && l.any (fun c=>hasC c t)
theorem IHas_any (a:Option Addr) (cap:Nat) (l:List Cl) (t:Int) (w:World) (hl:l.length≤9223372036854775807) (hs:Sl w a (cls l)) (hok:∀c∈l,c.Ok) :
  Calls Tryz.prog 20 #[.slice a l.length cap, .int .i64 t] w fun e w'=>e= .returned (.bool (hasL l t))∧Below w.heap.size w w':=by
 rw [hasL]
 obtain ⟨W0,hW0⟩:∃W,w.alloc (.cells #[.int .i64 t] 2)=W:=⟨_,rfl⟩
 have z0:W0.heap.size=w.heap.size+1:=by rw [←hW0]; simp
 have b0:Below w.heap.size w W0:=by rw [←hW0]; exact yaa (Below.refl _ _) (zG _)
 have k0:W0.cell? ⟨w.heap.size,0,none⟩=some (.int .i64 t):=by rw [←hW0]; simp [go_sem]
 have cM:=hid (yjt a cap l W0 hl (hs.below b0) hok)
 have cC:=hid (fun W (hB:Below W0.heap.size W0 W)=>ykK t w.heap.size a cap l W hl ((hs.below b0).below hB) hok (by have:=hB.size; omega) ((hB.cell (p:=⟨w.heap.size,0,none⟩) (by simp only []; omega)).trans k0))
 obtain ⟨m,hm⟩:∃v,mayL l=v:=⟨_,rfl⟩
 obtain ⟨v,hv⟩:∃v,l.any (fun c=>hasC c t)=v:=⟨_,rfl⟩
 rw [hm] at cM⊢
 rw [hv] at cC⊢
 have HB0:=hid b0
 have HW0:=hid hW0
 clear hv hm hs hok hW0 z0 b0 k0
 cases m
 ·rw [Bool.false_and]
  go_enter Tryz.func20,Tryz.ntmps20
  go_upto_region 1 with fail
  rw [HW0.out]
  go_wp2_with fail
  refine cM.out.mono ?_
  rintro e w1 ⟨rfl,hB1⟩
  have HB1:=hid (HB0.out.trans (hB1.mono HB0.out.size))
  clear hB1
  go_wp2
  go_ret
  exact ⟨rfl,HB1.out⟩
 ·rw [zzo]
  go_enter Tryz.func20,Tryz.ntmps20
  go_upto_region 1 with fail
  rw [HW0.out]
  go_wp2_with fail
  refine cM.out.mono ?_
  rintro e w1 ⟨rfl,hB1⟩
  have HB1:=hid hB1
  clear hB1
  go_wp2_with fail
  refine (cC.out _ HB1.out).mono ?_
  rintro e w2 ⟨rfl,hB2⟩
  have HB2:=hid (HB0.out.trans ((HB1.out.trans (hB2.mono HB1.out.size)).mono HB0.out.size))
  clear hB2
  go_wp2
  go_ret
  exact ⟨rfl,HB2.out⟩
end
section
open Go.RowKit
theorem eClz:El Tryz.prog 39 34 (.agg zL.toArray) 30 240:=⟨Tryz.underlying39,by kernel_rfl,by kernel_rfl,by decide⟩
theorem clL_one (c:Cl):∀u∈yac c,u.oneCell' =true:=by
 intro u hu
 simp only [yac,List.mem_cons,List.not_mem_nil,or_false] at hu
 rcases hu with rfl | rfl | rfl | rfl | rfl | rfl | rfl | rfl | rfl | rfl | rfl | rfl | rfl | rfl | rfl | rfl | rfl | rfl | rfl | rfl | rfl | rfl | rfl | rfl | rfl | rfl | rfl | rfl | rfl | rfl <;> rfl
theorem clsL_one (l:List Cl):∀u∈cls l,u.oneCell' =true:=by
 intro u hu
 rw [cls,List.mem_flatMap] at hu
 obtain ⟨c,-,h⟩:=hu
 exact clL_one c u h
theorem heap_new (w:World) (o:Obj):(w.alloc o).heap[w.heap.size]? =some o:=by
 show (w.heap.push o)[w.heap.size]? =some o
 simp
theorem yjM {W:World} {base:Nat} (g:Nat) (h:W.heap[g]? =some (.cells #[] 34 (0,0))) (hb:base≤g):W.ownsRow base 34 30 (.slice (some ⟨g,0,none⟩) 0 0) 0 []:=
 ⟨rfl, .inr ⟨g,0,#[],rfl,hb,h,zG _,by unfold maxLen; omega,rfl,rfl⟩⟩
def OwnR (w w':World) (l:List Cl) (v:Value):Prop:=w'.ownsRow w.heap.size 34 30 v l.length (cls l)
theorem Clone_any (a:Option Addr) (cap:Nat) (l:List Cl) (w:World) (hl:l.length≤1000) (hlc:l.length≤cap) (hs:Sl w a (cls l)) (hno:a=none→cap=0) :
  Calls Tryz.prog 141 #[.slice a l.length cap] w fun e w'=>(∃v,e= .returned v∧OwnR w w' l v)∧Below w.heap.size w w':=by
 cases a with
 | none=>
   have hc:=hno rfl
   have hn:l= []:=List.eq_nil_of_length_eq_zero (by omega)
   subst hn
   have hE:Hid (OwnR w w [] (.slice none 0 0)):=World.ownsRow_nil _ _ _ _
   subst hc
   clear hs hno hlc hl
   have hnil:=fun W=>Lib.run_eql_slice_nil (P:=Tryz.prog) W 39 34 none 0 0 0 0 Tryz.underlying39
   go_enter Tryz.func141,Tryz.ntmps141
   go_wp2
   go_ret
   exact ⟨⟨_,rfl,hE.out⟩,Below.refl _ _⟩
 | some ad=>
   have Hs:=hid hs
   have Hlc:=hid (yfR l)
   have Hone:=hid (clsL_one l)
   clear hs hno
   have hnil:=fun W=>Lib.run_eql_slice_nil (P:=Tryz.prog) W 39 34 (some ad) l.length cap 0 0 Tryz.underlying39
   go_enter Tryz.func141,Tryz.ntmps141
   have hnew:=hid (yjM (base:=w.heap.size) w.heap.size (heap_new w (.cells #[] 34)) (zG _))
   have hba:=hid (yaa (o:= .cells #[] 34) (Below.refl w.heap.size w) (zG _))
   go_wp2_with (at_builtin; refine appN eClz (.tmp 5) (.tmp 6) rfl rfl rfl rfl hnew.out Hlc.out (Hs.out.below hba.out) (fun h=>by cases h) Hone.out (by omega) (by omega) (by simp) ?_)
   intro a1 cap1 w1 h1 h2 h3 h4
   have HO:Hid (OwnR w w1 l (.slice a1 l.length cap1)):=by
    show World.ownsRow _ _ _ _ _ _ _
    simpa using h1
   have HB:=hid (hba.out.trans h3)
   clear h1 h2 h3 h4
   go_wp2
   go_ret
   exact ⟨⟨_,rfl,HO.out⟩,HB.out⟩
/-! ### slices.Concat -/
end
section
open Go.RowKit
def yaR (l:List Cl):Int:=if 8 < l.length then 5 else if l.all mayC then 0 else 1
def outL (l:List Cl):List Cl:=if yaR l=0 then l else []
theorem ydG (l:List Cl):mayL l=decide (yaR l=0):=by
 rw [mayL,yaR]
 by_cases h:8 < l.length
 ·rw [if_pos h,zzd (by omega)]; rfl
 ·rw [if_neg h,zzZ (show l.length≤8 by omega),zzo]
  cases l.all mayC <;> rfl
def OfR (w w':World) (l:List Cl) (e:Ending):Prop:=∃v,e= .returned (.tuple #[v, .int .i64 (yaR l)])∧OwnR w w' (outL l) v
theorem IOf_any (a:Option Addr) (cap:Nat) (l:List Cl) (w:World) (hl:l.length≤9223372036854775807) (hlc:l.length≤cap) (hs:Sl w a (cls l)) (hno:a=none→cap=0) (hok:∀c∈l,c.Ok) :
  Calls Tryz.prog 94 #[.slice a l.length cap] w fun e w'=>OfR w w' l e∧Below w.heap.size w w':=by
 have cM:=hid (yjt a cap l w hl hs hok)
 have cC:=hid (fun W (hB:Below w.heap.size w W) h=>Clone_any a cap l W h hlc (hs.below hB) hno)
 have hmf:=ydG l
 by_cases h8:8 < l.length
 ·have hf:yaR l=5:=if_pos h8
  have hE:Hid (OfR w w l (.returned (.tuple #[.slice none 0 0, .int .i64 5]))):=⟨_,by rw [hf],by rw [outL,hf]; exact World.ownsRow_nil _ _ _ _⟩
  have h8I:(8:Int) < l.length:=by omega
  have h8J:decide ((8:Int) < l.length)=true:=zzZ h8I
  clear hf hmf hs hok hno
  go_enter Tryz.func94,Tryz.ntmps94
  go_wp2
  go_ret2
  exact ⟨hE.out,Below.refl _ _⟩
 ·have h8I:¬(8:Int) < l.length:=by omega
  have h8J:decide ((8:Int) < l.length)=false:=zzd h8I
  cases hm:l.all mayC
  ·have hf:yaR l=1:=by rw [yaR,if_neg h8,hm]; rfl
   have hE:Hid (∀W,OfR w W l (.returned (.tuple #[.slice none 0 0, .int .i64 1]))):=fun W=>⟨_,by rw [hf],by rw [outL,hf]; exact World.ownsRow_nil _ _ _ _⟩
   rw [hmf,hf] at cM
   clear hf hmf hs hok hno hm
   have cM':Hid (Calls Tryz.prog 60 #[.slice a l.length cap] w fun e w'=>e= .returned (.bool false)∧Below w.heap.size w w'):=cM.out
   go_enter Tryz.func94,Tryz.ntmps94
   go_wp2_with fail
   refine cM'.out.mono ?_
   rintro e w1 ⟨rfl,hB1⟩
   have HB1:=hid hB1
   clear hB1
   go_wp2
   go_ret2
   exact ⟨hE.out _,HB1.out⟩
  ·have hf:yaR l=0:=by rw [yaR,if_neg h8,hm]; rfl
   have ho:outL l=l:=by rw [outL,if_pos hf]
   have hE:Hid (∀W v,OwnR w W l v→OfR w W l (.returned (.tuple #[v, .int .i64 0]))):=fun W v h=>⟨v,by rw [hf],by rw [ho]; exact h⟩
   rw [hmf,hf] at cM
   clear hf hmf hs hok hno hm ho
   have cM':Hid (Calls Tryz.prog 60 #[.slice a l.length cap] w fun e w'=>e= .returned (.bool true)∧Below w.heap.size w w'):=cM.out
   go_enter Tryz.func94,Tryz.ntmps94
   go_wp2_with fail
   refine cM'.out.mono ?_
   rintro e w1 ⟨rfl,hB1⟩
   have HB1:=hid hB1
   clear hB1
   go_wp2_with fail
   refine (cC.out _ HB1.out (by omega)).mono ?_
   rintro e w2 ⟨⟨v,rfl,hO⟩,hB2⟩
   have HB2:=hid (HB1.out.trans (hB2.mono HB1.out.size))
   have hO2:OwnR w w2 l v:=yg1 hO HB1.out.size
   have HO:=hid (hE.out w2 v hO2)
   clear hB2 hO hO2
   go_wp2
   go_ret2
   exact ⟨HO.out,HB2.out⟩
theorem OfR.base {w w1 w':World} {l:List Cl} {e:Ending} (h:OfR w1 w' l e) (hs:w.heap.size≤w1.heap.size):OfR w w' l e:=by
 obtain ⟨v,h1,h2⟩:=h
 exact ⟨v,h1,yg1 h2 hs⟩
end
end Go.Proofs.YtjahgimnfliooaaGreatDoor
