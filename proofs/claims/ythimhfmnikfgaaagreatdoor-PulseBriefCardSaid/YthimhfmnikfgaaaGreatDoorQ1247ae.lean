/-
  Arguments that came in, opened: of a type that is flat (integers, bools, structs and arrays of them) the cells are what its leaves say; a slice of flat elements is a row of such cells. No condition.
  mask.All makes a function that has captured the box of what is in all of the masks.
  Function values that are called back: a closure, or a loop's yield; and who owns which block.
  What a disc's Put, and disc.Of, compute.
  disc.least, with each of the two functions that it is handed.
-/
import Derived.Test.YthimhfmnikfgaaaGreatDoorQ1a3286
import Derived.OpenShut
import Derived.Deep.Slices
import Derived.ChangeOld
import Derived.ShutString
import Derived.Test.YthimhfmnikfgaaaGreatDoorQ5be90c
import Derived.RangeFuncNested
import Derived.RangeFuncBound
import Derived.RangeFuncCalls
import Derived.RangeFuncLeaves
import Derived.OwnWalkIn
namespace Go.Proofs.YthimhfmnikfgaaaGreatDoor
set_option linter.unusedVariables false
section
open Go.RowKit Go.ChangeShapes Go.WideShapes
inductive Leaf where
 | int (k:IntKind)
 | bool
def Leaf.ok:Leaf→Value→Prop
 | .int k,v=>∃n,v= .int k n∧(Lit.int k n).wf=true
 | .bool,v=>∃b,v= .bool b
def oks:List Leaf→List Value→Prop
 | [],[]=>True
 | k :: ks,v :: vs=>k.ok v∧oks ks vs
 | _,_=>False
theorem oks_append:∀{ks ls:List Leaf} {cs ds:List Value},oks ks cs→oks ls ds→oks (ks ++ ls) (cs ++ ds)
 | [],_,[],_,_,h=>h
 | k :: ks,ls,v :: vs,ds,h,h'=>⟨h.1,oks_append h.2 h'⟩
 | [],_,_ :: _,_,h,_=>h.elim
 | _ :: _,_,[],_,h,_=>h.elim
def leavesF (P:Program) (g:TypeId→Option (List Leaf)):List Field→Nat→Option (List Leaf)
 | [],_=>some []
 | f :: fs,o=>(g f.type).bind fun l=>if f.offset=o∧l.length=P.cellsOf f.type then (leavesF P g fs (o+l.length)).map (l ++ ·) else none
def leaves (P:Program):Nat→TypeId→Option (List Leaf)
 | 0,_=>none
 | m+1,t=>
   match P.underlying t with
   | some (.int k)=>some [.int k]
   | some .bool=>some [.bool]
   | some (.struct fs)=>(leavesF P (leaves P m) fs.toList 0).bind fun l=>if l.length=P.cellsOf t then some l else none
   | some (.array n e)=>(leaves P m e).bind fun l=>if l.length=P.cellsOf e∧n * P.cellsOf e=P.cellsOf t then some (List.replicate n l).flatten else none
   | _=>none
section
variable {H:Type} {enc:TypeId × Value→H} {P:Program} {w:World} {base:Nat} {spare:Nat→Bool} {held:Bool}
theorem leavesF_ok {g:TypeId→Option (List Leaf)} {n:Nat} {cs:List Value}
  (hg:∀t ks c (x:DataW H × List MemPlace),g t=some ks→DataW.trod enc P w base spare held n t c=some x→oks ks c) :
  ∀(fs:List Field) (o:Nat) (ks:List Leaf),leavesF P g fs o=some ks→
   (∀f∈fs,∃x:DataW H × List MemPlace,DataW.trod enc P w base spare held n f.type ((cs.drop f.offset).take (P.cellsOf f.type))=some x)→cs.length=o+ks.length→oks ks (cs.drop o):=by
 intro fs
 induction fs with
 | nil=>
   intro o ks h _ hl
   simp [leavesF] at h
   subst h
   rw [List.drop_of_length_le (by simp at hl; omega)]
   trivial
 | cons f fs ih=>
   intro o ks h hx hl
   simp only [leavesF,Option.bind_eq_some_iff] at h
   obtain ⟨l,hgl,h⟩:=h
   split at h
   ·rename_i hc
    obtain ⟨ho,hlen⟩:=hc
    simp only [Option.map_eq_some_iff] at h
    obtain ⟨r,hr,rfl⟩:=h
    obtain ⟨x,hx1⟩:=hx f (by simp)
    have h1:=hg _ _ _ _ hgl hx1
    rw [ho,←hlen] at h1
    have h2:=ih (o+l.length) r hr (fun f hf=>hx f (by simp [hf])) (by simp at hl; omega)
    have:=oks_append h1 h2
    rw [←List.drop_drop] at this
    rwa [List.take_append_drop] at this
   ·cases h
theorem oks_rep (l:List Leaf) (cs:List Value):∀(n:Nat),cs.length=n * l.length→(∀i,i < n→oks l ((cs.drop (i * l.length)).take l.length))→oks (List.replicate n l).flatten cs:=by
 intro n
 induction n generalizing cs with
 | zero=>intro h _; simp at h; subst h; trivial
 | succ n ih=>
   intro h hx
   rw [List.replicate_succ,List.flatten_cons]
   have h0:=hx 0 (by omega)
   simp only [Nat.zero_mul,List.drop_zero] at h0
   have h1:=ih (cs.drop l.length) (by rw [List.length_drop,h,Nat.succ_mul]; omega) (fun i hi=>by
    have:=hx (i+1) (by omega)
    rw [List.drop_drop]
    rwa [Nat.succ_mul,Nat.add_comm] at this)
   have:=oks_append h0 h1
   rwa [List.take_append_drop] at this
theorem leaves_ok:∀(m:Nat) {t:TypeId} {ks:List Leaf} {fuel:Nat} {cs:List Value} {x:DataW H × List MemPlace},leaves P m t=some ks→DataW.trod enc P w base spare held fuel t cs=some x→oks ks cs
 | 0,_,_,_,_,_,h,_=>by simp [leaves] at h
 | m+1,t,ks,fuel,cs,x,h,hx=>by
   unfold leaves at h
   split at h
   ·rename_i k ht
    obtain ⟨n,rfl,_,hw⟩:=DataW.trod_int ht hx
    cases h
    exact ⟨⟨n,rfl,hw⟩,trivial⟩
   ·rename_i ht
    obtain ⟨b,rfl,_⟩:=DataW.trod_bool ht hx
    cases h
    exact ⟨⟨b,rfl⟩,trivial⟩
   ·rename_i fs ht
    obtain ⟨xs,n,rfl,_,hlen,hxl,hf⟩:=DataW.trod_struct ht hx
    simp only [Option.bind_eq_some_iff] at h
    obtain ⟨l,hl,h⟩:=h
    split at h
    ·rename_i hc
     cases h
     have:=leavesF_ok (cs:=cs) (enc:=enc) (P:=P) (w:=w) (base:=base) (spare:=spare) (held:=held) (n:=n) (fun t ks c x h1 h2=>leaves_ok m h1 h2) fs.toList 0 ks hl (fun f hff=>by
      obtain ⟨i,hi,rfl⟩:=List.getElem_of_mem hff
      have h3:=hf i fs.toList[i] (by simp at hi⊢)
      have hi':i < xs.length:=by rw [hxl]; simpa using hi
      rw [List.getElem?_eq_getElem hi'] at h3
      exact ⟨_,h3⟩) (by omega)
     simpa using this
    ·cases h
   ·rename_i n e ht
    obtain ⟨xs,m',rfl,_,hlen,hxl,hf⟩:=DataW.trod_array ht hx
    simp only [Option.bind_eq_some_iff] at h
    obtain ⟨l,hl,h⟩:=h
    split at h
    ·rename_i hc
     cases h
     refine oks_rep l cs n (by rw [hlen,←hc.2,hc.1]) (fun i hi=>?_)
     have h3:=hf i hi
     rw [List.getElem?_eq_getElem (by omega)] at h3
     rw [hc.1]
     exact leaves_ok m hl h3
    ·cases h
   ·cases h
theorem flat_get {n s:Nat} {C:Nat→List Value} (hC:∀i,i < n→(C i).length=s):((List.range n).flatMap C).length=n * s∧
  ∀i r,i < n→r < s→((List.range n).flatMap C)[i * s+r]? = (C i)[r]?:=by
 induction n with
 | zero=>exact ⟨by simp,fun i r hi=>by omega⟩
 | succ n ih=>
   obtain ⟨h1,h2⟩:=ih (fun i hi=>hC i (by omega))
   rw [List.range_succ,List.flatMap_append]
   refine ⟨by simp [h1,hC n (by omega),Nat.succ_mul],fun i r hi hr=>?_⟩
   by_cases hin:i < n
   ·rw [List.getElem?_append_left,h2 i r hin hr]
    rw [h1]
    calc i * s+r < i * s+s:=by omega
     _ = (i+1) * s:=by rw [Nat.succ_mul]
     _≤n * s:=Nat.mul_le_mul_right _ hin
   ·obtain rfl:i=n:=by omega
    rw [List.getElem?_append_right (by rw [h1]; omega),h1,Nat.add_sub_cancel_left]
    simp
theorem open_flat {t e:TypeId} {fuel m:Nat} {ks:List Leaf} {v:Value} {x:DataW H × List MemPlace} (ht:P.underlying t=some (.slice e)) (hk:leaves P m e=some ks) (hkl:ks.length=P.cellsOf e) (hpos:0 < ks.length)
  (h:DataW.trod enc P w base spare held fuel t [v]=some x) :
  ∃(a:Option Addr) (n cap:Nat) (cells:List Value),v= .slice a n cap∧n≤cap∧cap≤maxLen∧cells.length=n * ks.length∧Sl w a cells∧(a=none→cap=0)∧∀i,i < n→oks ks ((cells.drop (i * ks.length)).take ks.length):=by
 rcases Go.Deep.open_slice ht h with ⟨h1,_⟩ | ⟨a,len,cap,mm,nn,D,Pl,h1,hb,hl,hm,hmm,rfl,hx⟩
 ·simp at h1; subst h1
  exact ⟨none,0,0,[],rfl,zG _,by unfold maxLen; omega,by simp, .inl rfl,fun _=>rfl,fun i hi=>by omega⟩
 ·simp at h1; subst h1
  have hlm:len≤mm:=by rw [hmm]; split <;> omega
  obtain ⟨C,hC⟩:=Go.Deep.choose_lt (α:=List Value) (p:=fun i c=>w.cells? base (a.add (i * P.cellsOf e)) (P.cellsOf e)=some c∧DataW.trod enc P w base spare held nn e c=some (D i,Pl i)) (fun i hi=>hx i hi)
  have hCl:∀i,i < len→(C i).length=ks.length:=fun i hi=>by rw [hkl]; exact (World.cells?_some (hC i (by omega)).1).2.1
  obtain ⟨hfl,hfg⟩:=flat_get hCl
  refine ⟨some a,len,cap,(List.range len).flatMap C,rfl,hl,hm,hfl,?_,fun h=>(by cases h),?_⟩
  ·rcases Nat.eq_zero_or_pos len with h0 | h0
   ·subst h0; exact .inl rfl
   ·obtain ⟨_,_,hc0⟩:=World.cells?_some (hC 0 (by omega)).1
    have hc00:=hc0 0 (by omega)
    rw [List.getElem?_eq_getElem (by rw [hCl 0 h0]; omega)] at hc00
    have hsp:(a.add (0 * P.cellsOf e)).add 0=a:=by simp [Addr.add]
    rw [hsp] at hc00
    have hspot:=World.cell?_spot hc00
    obtain ⟨b,off,spot⟩:=a
    simp at hspot
    subst hspot
    refine .inr ⟨b,off,rfl,World.block_lt_of_cell? w _ hc00,fun j hj=>?_⟩
    rw [hfl] at hj
    have hi:j / ks.length < len:=Nat.div_lt_of_lt_mul (by rwa [Nat.mul_comm] at hj)
    have hr:j % ks.length < ks.length:=Nat.mod_lt _ hpos
    have hj2:j / ks.length * ks.length+j % ks.length=j:=by rw [Nat.mul_comm]; exact Nat.div_add_mod _ _
    have h1:=hfg _ _ hi hr
    rw [hj2] at h1
    obtain ⟨_,_,hc⟩:=World.cells?_some (hC _ (by omega:j / ks.length < mm)).1
    have h2:=hc (j % ks.length) (by omega)
    rw [Addr.add_lit,Addr.add_lit,←hkl,Nat.add_assoc,hj2,←h1,List.getElem?_eq_getElem (by rw [hfl]; exact hj)] at h2
    exact h2
  ·intro i hi
   have e:(((List.range len).flatMap C).drop (i * ks.length)).take ks.length=C i:=by
    apply List.ext_getElem?
    intro r
    by_cases hr:r < ks.length
    ·rw [List.getElem?_take_of_lt hr,List.getElem?_drop,hfg i r hi hr]
    ·rw [List.getElem?_eq_none (by rw [List.length_take]; omega),List.getElem?_eq_none (by rw [hCl i hi]; omega)]
   rw [e]
   exact leaves_ok m hk (hC i (by omega)).2
end
theorem wf_i64 {n:Int} (h:(Lit.int .i64 n).wf=true):-9223372036854775808≤n∧n≤9223372036854775807:=by
 have h1:IntKind.i64.min= -9223372036854775808:=by decide
 have h2:=h
 simp [Lit.wf,h1] at h2
 exact h2
theorem wf_u64 {n:Int} (h:(Lit.int .u64 n).wf=true):∃m:Nat,n= (m:Int)∧m < 18446744073709551616:=by
 have h1:IntKind.u64.min=0:=by decide
 have h3:IntKind.u64.max=18446744073709551615:=by decide
 have h2:=h
 simp [Lit.wf,h1,h3] at h2
 exact ⟨n.toNat,by omega,by omega⟩
theorem wf_u8 {n:Int} (h:(Lit.int .u8 n).wf=true):∃m:Nat,n= (m:Int)∧m < 256:=by
 have h1:IntKind.u8.min=0:=by decide
 have h3:IntKind.u8.max=255:=by decide
 have h2:=h
 simp [Lit.wf,h1,h3] at h2
 exact ⟨n.toNat,by omega,by omega⟩
def u64s (l:List Nat):List Value:=l.map fun (n:Nat)=>Value.int .u64 (n:Int)
end
section
open Go.RowKit
theorem u64s_length (l:List Nat):(u64s l).length=l.length:=by simp [u64s]
theorem Sl.atU64 {w:World} {a:Option Addr} {l:List Nat} (h:Sl w a (u64s l)) {k:Nat} (hk:k < l.length) :
  ∃b off,a=some ⟨b,off,none⟩∧b < w.heap.size∧∀j (h:j < l.length),w.cell? ⟨b,off+j,none⟩=some (.int .u64 l[j]):=by
 obtain ⟨b,off,rfl,hlt,hc⟩:=Sl.at h (k:=k) (by rw [u64s_length]; exact hk)
 refine ⟨b,off,rfl,hlt,fun j hj=>?_⟩
 rw [hc j (by rw [u64s_length]; exact hj)]
 simp [u64s]
def foldM (m:Nat) (l:List Nat):Nat:=l.foldl (fun x y=>x &&& y) m
def andM (l:List Nat):Nat:=if l.length=0 then 0 else foldM 18446744073709551615 l
theorem foldM_lt {m:Nat} (hm:m < 18446744073709551616):∀l:List Nat,foldM m l < 18446744073709551616:=by
 intro l
 induction l generalizing m with
 | nil=>exact hm
 | cons x xs ih=>exact ih (and_lt (b:=x) hm)
theorem foldM_snoc (m:Nat) (l:List Nat) (k:Nat) (hk:k < l.length):foldM m (l.take k) &&& l[k]=foldM m (l.take (k+1)):=by
 rw [List.take_add_one,List.getElem?_eq_getElem hk,foldM,foldM,List.foldl_append]; rfl
set_option maxHeartbeats 800000 in
theorem MAll_any (a:Option Addr) (cap:Nat) (l:List Nat) (w:World) (hl:l.length≤9223372036854775807) (hs:Sl w a (u64s l)) (hb:∀x∈l,x < 18446744073709551616) :
  Calls Tryz.prog 152 #[.slice a l.length cap] w fun e w'=>e= .returned (.func (.func 182) #[] #[.pointer (some ⟨w.heap.size,0,none⟩)])∧
   w'.cell? ⟨w.heap.size,0,none⟩=some (.int .u64 (andM l))∧Below w.heap.size w w'∧w.heap.size < w'.heap.size:=by
 go_enter Tryz.func152,Tryz.ntmps152
 by_cases h0:l.length=0
 ·have hr:Hid (andM l=0):=if_pos h0
  go_wp2
  go_loopw [5,11] (fun _ i wr=>i= .int .i64 0∧wr=w.alloc (.cells #[.int .u64 0] 29)) (fun _ _ _=>0)
  case atStart=>exact ⟨rfl,rfl⟩
  case round=>
   obtain ⟨rfl,rfl⟩:=hrel
   go_wp2
   go_ret
   refine ⟨rfl,?_,below_new (Below.refl _ _) (zG _),by simp [go_sem]⟩
   rw [hr.out]; simp [go_sem]
 ·have hr:Hid (andM l=foldM 18446744073709551615 l):=if_neg h0
  go_wp2
  go_loopw [5,11] (fun _ i wr=>∃k:Nat,i= .int .i64 k∧k≤l.length∧wr.cell? ⟨w.heap.size,0,none⟩=some (.int .u64 (foldM 18446744073709551615 (l.take k)))∧wr.frozen? ⟨w.heap.size,0,none⟩=false∧Below w.heap.size w wr∧w.heap.size < wr.heap.size) (fun _ i _=>l.length - (intOf i).toNat)
  case atStart=>exact ⟨0,rfl,by omega,by simp [go_sem,foldM],by simp [go_sem],below_new (Below.refl _ _) (zG _),by simp [go_sem]⟩
  case round=>
   obtain ⟨k,rfl,hk,hbox,hfz,hB,hlt⟩:=hrel
   by_cases hkl:k < l.length
   ·obtain ⟨b,off,rfl,hbk,hc⟩:=hs.atU64 hkl
    have e1:=(hB.cell (p:=⟨b,off+k,none⟩) hbk).trans (hc k hkl)
    have hf:=hid (foldM_snoc 18446744073709551615 l k hkl)
    have hM:=foldM_lt (m:=18446744073709551615) (by omega) (l.take k)
    have hx:=hb l[k] (by simp)
    obtain ⟨x,hxe⟩:∃x,l[k]=x:=⟨_,rfl⟩
    obtain ⟨M,hMe⟩:∃M,foldM 18446744073709551615 (l.take k)=M:=⟨_,rfl⟩
    rw [hxe] at e1 hf hx
    rw [hMe] at hf hbox hM
    have hand:=hid (bits_and hM hx)
    have hne:b≠w.heap.size:=by omega
    clear hs hc hxe hMe hb
    go_wp2
    exact ⟨⟨k+1,by go_num,by omega,by rw [←hf.out,hand.out]; simp [go_sem,hbox],by simp [go_sem,hfz],below_set hB (zG _),by simpa [go_sem] using hlt⟩,by simp [intOf]; omega⟩
   ·have hke:l.take k=l:=List.take_of_length_le (by omega)
    rw [hke] at hbox
    have Hke:Hid (k=l.length):=by show k=l.length; omega
    clear hke hb hs
    go_wp2
    go_ret
    exact ⟨rfl,by rw [hr.out]; exact hbox,hB,hlt⟩
end
section
open Go.RowKit
abbrev WF (r:Option Nat):Fence:={fn:=fun _=>True,depth:=none,alive:=false,round:=r}
theorem wf_calls {r:Option Nat} {n:Nat} {P:Program} {f:FuncId} {args:Array Value} {w:World} {R:Ending→World→Prop}:CallsIn (WF r) n P f args w R↔Calls P f args w R:=callsIn_wide (n:=n)
def CallV (P:Program) (y:Value) (args:Array Value) (W:World) (R:Ending→World→Prop):Prop:=
 (∃f cap,y= .func (.func f) #[] cap∧(∀args w,(callFunc f args).run P w= .ok (.enter f args) w)∧Calls P f (args ++ cap) W R)∨
 (∃l fn tmps assign body,y= .func (.yield l) #[] #[]∧(Instr.yield l args).run P W= .ok (.round l fn tmps assign body) W∧∀n,RoundIn (WF none) n P l fn tmps assign body W R)
theorem CallV.mono {P:Program} {y:Value} {args:Array Value} {W:World} {R R':Ending→World→Prop} (h:CallV P y args W R) (hr:∀e w',R e w'→R' e w'):CallV P y args W R':=by
 rcases h with ⟨f,cap,h1,h2,h3⟩ | ⟨l,fn,tmps,assign,body,h1,h2,h3⟩
 ·exact .inl ⟨f,cap,h1,h2,h3.mono hr⟩
 ·exact .inr ⟨l,fn,tmps,assign,body,h1,h2,fun n=>(h3 n).mono hr⟩
theorem callv {r:Option Nat} {n:Nat} {P:Program} {ops:Array Oper} {rest:List Oper} {o:Oper} {a:Act} {Q:Exit→Act→World→Prop} {W:World} (s x:Operand) (t:TypeId)
  (hgd:o.guard=none) (ho:o.op= .call {callee:= .value s,args:=#[x],argTypes:=#[t]}) {y u:Value} (hs:a.eval s=y) (hx:a.eval x=u) {R:Ending→World→Prop}
  (h:CallV P y #[u] W R) (hK:∀e W',R e W'→∃v,e= .returned v∧wpListIn (WF r) n P ops Q rest (a.put o.dst v) W') :
  wpListIn (WF r) n P ops Q (o :: rest) a W:=by
 refine wpListIn_plain hgd fun K hK'=>?_
 unfold Oper.wpIn
 refine ⟨fun _ _=>trivial,?_⟩
 rw [Oper.semAt_plain (WF r) _ _ (by rw [ho]; intro c hc; cases hc)]
 rcases h with ⟨f,cap,rfl,he,hc⟩ | ⟨l,fn,tmps,assign,body,rfl,hy,hc⟩
 ·simp [execOp,ho,resolve,invoke,hs,hx,he,Deferred.ofValue]
  rw [Oper.uponIn_enter]
  refine ⟨fun h=>(by cases h),wf_calls.mpr ((show Calls P f (#[u] ++ cap) W R from hc).mono fun e w' hr=>?_)⟩
  obtain ⟨v,rfl,hw⟩:=hK e w' hr
  exact hK' _ _ hw
 ·simp [execOp,ho,resolve,invoke,hs,hx,hy,Deferred.ofValue]
  rw [Oper.uponIn_round]
  refine ⟨fun h=>(by cases h),RoundIn.mono (hc _) fun e w' hr=>?_⟩
  obtain ⟨v,rfl,hw⟩:=hK e w' hr
  exact hK' _ _ hw
structure Eff (O:Nat→Prop) (W W':World):Prop where
 os:W'.os=W.os
 tape:W'.tape=W.tape
 output:W'.output=W.output
 size:W.heap.size≤W'.heap.size
 block:∀k,k < W.heap.size→¬O k→W'.heap[k]? =W.heap[k]?
theorem Eff.refl (O:Nat→Prop) (W:World):Eff O W W:=⟨rfl,rfl,rfl,zG _,fun _ _ _=>rfl⟩
theorem Eff.trans {O O':Nat→Prop} {A B C:World} (h:Eff O A B) (k:Eff O' B C) (hO:∀b,O' b→O b∨A.heap.size≤b):Eff O A C:=
 ⟨k.os.trans h.os,k.tape.trans h.tape,k.output.trans h.output,zI h.size k.size,fun i hi hn=>
  (k.block i (zH hi h.size) (fun ho=>by rcases hO i ho with h1 | h1; exact hn h1; omega)).trans (h.block i hi hn)⟩
theorem Eff.cell {O:Nat→Prop} {W W':World} (h:Eff O W W') {p:Addr} (hp:p.block < W.heap.size) (hn:¬O p.block):W'.cell? p=W.cell? p:=World.cell?_of_block (w:=W) (h.block p.block hp hn)
theorem Eff.of_below {O:Nat→Prop} {W W':World} (h:Below W.heap.size W W'):Eff O W W':=⟨h.os,h.tape,h.output,h.size,fun k hk _=>h.block k hk⟩
theorem Eff.below {O:Nat→Prop} {W W':World} {B:Nat} (h:Eff O W W') (hO:∀b,O b→B≤b) (hB:B≤W.heap.size):Below B W W':=
 ⟨h.os,h.tape,h.output,h.size,fun k hk=>h.block k (by omega) (fun ho=>by have:=hO k ho; omega)⟩
structure Client (P:Program) (y:Value) (xs:List Int) (J Jx:Nat→(Nat→Prop)→World→Prop):Prop where
 stab:∀k O W W',J k O W→W.heap.size≤W'.heap.size→(∀b,O b→W'.heap[b]? =W.heap[b]?)→J k O W'
 stabx:∀k O W W',Jx k O W→W.heap.size≤W'.heap.size→(∀b,O b→W'.heap[b]? =W.heap[b]?)→Jx k O W'
 lt:∀k O W,J k O W→∀b,O b→b < W.heap.size
 ltx:∀k O W,Jx k O W→∀b,O b→b < W.heap.size
 call:∀k O W,(hk:k < xs.length)→J k O W→CallV P y #[.int .i64 xs[k]] W fun e W'=>∃O':Nat→Prop,(∀b,O b→O' b)∧(∀b,O' b→O b∨W.heap.size≤b)∧Eff O W W'∧
  ((e= .returned (.bool true)∧J (k+1) O' W')∨(e= .returned (.bool false)∧Jx (k+1) O' W'))
def Told (xs:List Int) (J Jx:Nat→(Nat→Prop)→World→Prop) (O:Nat→Prop) (W:World) (W':World):Prop:=
 ∃O':Nat→Prop,(∀b,O b→O' b)∧(∀b,O' b→O b∨W.heap.size≤b)∧Eff O W W'∧(J xs.length O' W'∨∃k,1≤k∧k≤xs.length∧Jx k O' W')
end
section
open Go.RowKit
def putS (x:(Nat→Nat) × Nat) (n:Int):(Nat→Nat) × Nat:=
 if dsecB n && !bitW x.1 n.toNat then (fun j=>if j=n.toNat / 64 then x.1 (n.toNat / 64) ||| 2 ^ (n.toNat % 64) else x.1 j,x.2+1) else x
def putL (f:Nat→Nat) (l:List Int):(Nat→Nat) × Nat:=l.foldl putS (f,0)
theorem putL_snoc (f:Nat→Nat) (l:List Int) (k:Nat) (h:k < l.length):putL f (l.take (k+1))=putS (putL f (l.take k)) l[k]:=by
 rw [putL,putL,take_snoc l k h,List.foldl_append]; rfl
set_option maxRecDepth 100000 in
set_option maxHeartbeats 3200000 in
theorem Put_any (b:Nat) (f:Nat→Nat) (a:Option Addr) (cap:Nat) (l:List Int) (w:World) (hl:l.length≤9223372036854775807) (hs:Sl w a (ints l)) (hne:l≠ []→∀g off,a=some ⟨g,off,none⟩→g≠b)
  (hc:DC w b f) (hfz:∀i,w.frozen? ⟨b,i,none⟩=false) (hf:∀i,i < 1350→f i < 18446744073709551616) :
  Calls Tryz.prog 150 #[.pointer (some ⟨b,0,none⟩), .slice a l.length cap] w fun e w'=>e= .returned (.int .i64 ((putL f l).2:Nat))∧DC w' b (putL f l).1∧(∀i,w'.frozen? ⟨b,i,none⟩=false)∧
   Eff (fun x=>x=b) w w':=by
 have Hs:=hid hs
 have Hne:=hid hne
 have Hc:=hid hc
 have Hfz:=hid hfz
 have Hf:=hid hf
 have c1:=hid (fun n W=>DMay_any n W)
 have hlI:(l.length:Int)≤9223372036854775807:=by omega
 clear hs hne hc hfz hf hl
 go_enter Tryz.func150,Tryz.ntmps150
 go_wp2
 go_loopw [5,12] (fun m i wr=>∃k:Nat,i= .int .i64 k∧m= .int .i64 ((putL f (l.take k)).2:Nat)∧k≤l.length∧Hid (DC wr b (putL f (l.take k)).1∧(∀i,wr.frozen? ⟨b,i,none⟩=false)∧(∀i,i < 1350→(putL f (l.take k)).1 i < 18446744073709551616)∧(putL f (l.take k)).2≤k)∧Hid (Eff (fun x=>x=b) w wr)) (fun _ i _=>l.length - (intOf i).toNat)
 case atStart=>exact ⟨0,rfl,rfl,by omega,⟨Hc.out,Hfz.out,Hf.out,zG _⟩,Eff.refl _ _⟩
 case round=>
  obtain ⟨k,rfl,rfl,hk,HJ,HE⟩:=hrel
  by_cases hlt:k < l.length
  ·obtain ⟨g,off,rfl,hb,hcl⟩:=Hs.out.atInt hlt
   have e1:=(HE.out.cell (p:=⟨g,off+k,none⟩) hb (Hne.out (fun e=>by rw [e] at hlt; simp at hlt) g off rfl)).trans (hcl k hlt)
   have hsn:=hid (putL_snoc f l k hlt)
   obtain ⟨x,hx⟩:∃x,l[k]=x:=⟨_,rfl⟩
   rw [hx] at e1 hsn
   obtain ⟨p,hp⟩:∃p,putL f (l.take k)=p:=⟨_,rfl⟩
   rw [hp] at HJ hsn⊢
   clear hcl hx hp
   by_cases hd:dsecB x=true
   ·have hm:=hid (c1.out x)
    rw [hd] at hm
    have hh:=hid (DHas_any b p.1 x wr HJ.out.1 HJ.out.2.2.1)
    obtain ⟨n,rfl,hn⟩:=dsecB_some hd
    have hq:hasD p.1 (n:Int)=bitW p.1 n:=by rw [hasD,hd]; rfl
    rw [hq] at hh
    by_cases hb2:bitW p.1 n=true
    ·rw [hb2] at hh
     have he:Hid (putS p (n:Int)=p):=by show _ = _; rw [putS,Int.toNat_natCast,hb2]; simp
     clear hb2 hq hd
     have hnI:(n:Int) < 87000:=by omega
     clear hn
     go_wp2_with fail
     refine (hm.out _).mono ?_
     rintro e w' ⟨rfl,rfl⟩
     go_wp2_with fail
     refine hh.out.mono ?_
     rintro e w' ⟨rfl,rfl⟩
     go_wp2
     exact ⟨⟨k+1,by go_num,by rw [hsn.out,he.out],by omega,by rw [hsn.out,he.out]; exact ⟨HJ.out.1,HJ.out.2.1,HJ.out.2.2.1,by have:=HJ.out.2.2.2; omega⟩,HE.out⟩,by simp [intOf]; omega⟩
    ·have hb3:bitW p.1 n=false:=by simpa using hb2
     rw [hb3] at hh
     have he:Hid (putS p (n:Int)= (fun j=>if j=n / 64 then p.1 (n / 64) ||| 2 ^ (n % 64) else p.1 j,p.2+1)):=by show _ = _; rw [putS,Int.toNat_natCast,hd,hb3]; rfl
     have hi:n / 64 < 1350:=by omega
     have e2:=HJ.out.1 (n / 64) hi
     have e3:=HJ.out.2.1 (n / 64)
     have hnI:(n:Int) < 87000:=by omega
     have hcnt:(p.2:Int)+1≤9223372036854775807:=by have:=HJ.out.2.2.2; omega
     clear hb2 hb3 hq hd hn
     go_wp2_with fail
     refine (hm.out _).mono ?_
     rintro e w' ⟨rfl,rfl⟩
     go_wp2_with fail
     refine hh.out.mono ?_
     rintro e w' ⟨rfl,rfl⟩
     go_wp2_with fail
     go_region
     have hpw:n % 64 < 64:=Nat.mod_lt _ (by omega)
     have hor:=bits_or (HJ.out.2.2.1 (n / 64) hi) (pow_lt hpw)
     rw [←wrap_pow hpw] at hor
     rw [hor]
     have hlt2:=or_lt (HJ.out.2.2.1 (n / 64) hi) (pow_lt hpw)
     obtain ⟨v,hv⟩:∃v,p.1 (n / 64) ||| 2 ^ (n % 64)=v:=⟨_,rfl⟩
     rw [hv] at hlt2 he⊢
     have done:DC (wr.setCell ⟨b,n / 64,none⟩ (.int .u64 v)).drew b (putS p (n:Int)).1∧(∀i,(wr.setCell ⟨b,n / 64,none⟩ (.int .u64 v)).drew.frozen? ⟨b,i,none⟩=false)∧(∀i,i < 1350→(putS p (n:Int)).1 i < 18446744073709551616)∧(putS p (n:Int)).2≤k+1:=by
      rw [he.out]
      refine ⟨HJ.out.1.set hi,fun i=>by simp [go_sem,HJ.out.2.1 i],fun i hi=>?_,by have:=HJ.out.2.2.2; simp only []; omega⟩
      simp only []
      split
      ·exact hlt2
      ·exact HJ.out.2.2.1 i hi
     have Done:=hid done
     have HE2:Hid (Eff (fun x=>x=b) w (wr.setCell ⟨b,n / 64,none⟩ (.int .u64 v)).drew):=by
      have h:=HE.out
      refine ⟨h.os,h.tape,h.output,?_,fun j hj hn=>?_⟩
      ·show w.heap.size≤(wr.setCell ⟨b,n / 64,none⟩ (.int .u64 v)).heap.size
       simpa [go_sem] using h.size
      ·exact (Below.heap_setCell _ _ _ _ (by simpa using hn)).trans (h.block j hj hn)
     have h2:(putS p (n:Int)).2=p.2+1:=by rw [he.out]
     have H2:=hid h2
     clear done hor hpw hv hlt2 h2
     go_wp2
     exact ⟨⟨k+1,by go_num,by rw [hsn.out,H2.out]; go_num,by omega,by rw [hsn.out]; exact Done.out,HE2.out⟩,by simp [intOf]; omega⟩
   ·have hd':dsecB x=false:=by simpa using hd
    have hm:=hid (c1.out x)
    rw [hd'] at hm
    have he:Hid (putS p x=p):=by show _ = _; rw [putS,hd']; rfl
    clear hd hd'
    go_wp2_with fail
    refine (hm.out _).mono ?_
    rintro e w' ⟨rfl,rfl⟩
    go_wp2
    exact ⟨⟨k+1,by go_num,by rw [hsn.out,he.out],by omega,by rw [hsn.out,he.out]; exact ⟨HJ.out.1,HJ.out.2.1,HJ.out.2.2.1,by have:=HJ.out.2.2.2; omega⟩,HE.out⟩,by simp [intOf]; omega⟩
  ·have hke:l.take k=l:=List.take_of_length_le (by omega)
   rw [hke] at HJ⊢
   clear hke
   go_wp2
   go_ret
   exact ⟨rfl,HJ.out.1,HJ.out.2.1,HE.out⟩
theorem putS_bit (x:(Nat→Nat) × Nat) (n:Int) (k:Nat) (hk:k < 86400):bitW (putS x n).1 k= (bitW x.1 k || decide ((k:Int)=n)):=by
 rw [putS]
 by_cases hd:dsecB n=true
 ·obtain ⟨j,rfl,hj⟩:=dsecB_some hd
  rw [hd,Int.toNat_natCast]
  cases hb:bitW x.1 j
  ·simp only [Bool.not_false,Bool.and_self,if_true]
   rw [bitW,bitW]
   by_cases e:k / 64=j / 64
   ·have e2:decide (j % 64=k % 64)=decide ((k:Int)= (j:Int)):=by
     rw [Bool.eq_iff_iff,decide_eq_true_eq,decide_eq_true_eq]
     omega
    simp only [e,if_true,Nat.testBit_or,Nat.testBit_two_pow,e2]
   ·have h2:decide ((k:Int)= (j:Int))=false:=decide_eq_false (by omega)
    simp only [e,if_false,h2,Bool.or_false]
  ·simp only [Bool.not_true,Bool.and_false,Bool.false_eq_true,if_false]
   by_cases e:k=j
   ·subst e; rw [hb]; rfl
   ·rw [decide_eq_false (by omega),Bool.or_false]
 ·have hd':dsecB n=false:=by simpa using hd
  have hne:¬(k:Int)=n:=fun e=>by
   subst e
   rw [dsecB_nat,decide_eq_true hk] at hd'
   cases hd'
  rw [hd',decide_eq_false hne]
  simp
theorem foldl_bit (k:Nat) (hk:k < 86400):∀(l:List Int) (x:(Nat→Nat) × Nat),bitW (l.foldl putS x).1 k= (bitW x.1 k || decide ((k:Int)∈l))
 | [],x=>by simp
 | n :: l,x=>by
   rw [List.foldl_cons,foldl_bit k hk l,putS_bit x n k hk,Bool.or_assoc]
   congr 1
   rw [Bool.eq_iff_iff]
   simp
theorem putL_bit (f:Nat→Nat) (l:List Int) (k:Nat) (hk:k < 86400):bitW (putL f l).1 k= (bitW f k || decide ((k:Int)∈l)):=foldl_bit k hk l (f,0)
theorem putS_lt (x:(Nat→Nat) × Nat) (n:Int) (hx:∀i,i < 1350→x.1 i < 18446744073709551616):∀i,i < 1350→(putS x n).1 i < 18446744073709551616:=by
 intro i hi
 rw [putS]
 split
 ·rename_i h
  simp only [Bool.and_eq_true] at h
  obtain ⟨j,rfl,hj⟩:=dsecB_some h.1
  rw [Int.toNat_natCast]
  simp only []
  split
  ·exact or_lt (hx _ (by omega)) (pow_lt (Nat.mod_lt _ (by omega)))
  ·exact hx i hi
 ·exact hx i hi
theorem foldl_lt:∀(l:List Int) (x:(Nat→Nat) × Nat),(∀i,i < 1350→x.1 i < 18446744073709551616)→∀i,i < 1350→(l.foldl putS x).1 i < 18446744073709551616
 | [],x,hx=>hx
 | n :: l,x,hx=>foldl_lt l _ (putS_lt x n hx)
theorem putL_lt (f:Nat→Nat) (l:List Int) (hf:∀i,i < 1350→f i < 18446744073709551616):∀i,i < 1350→(putL f l).1 i < 18446744073709551616:=foldl_lt l _ hf
theorem frozen_fresh (W:World) (c:Array Value) (t:TypeId) (i:Nat):(W.alloc (.cells c t)).frozen? ⟨W.heap.size,i,none⟩=false:=by simp [go_sem]
def DiscAt (W:World) (b:Nat) (q:Nat→Bool):Prop:=∃f:Nat→Nat,DC W b f∧(∀i,W.frozen? ⟨b,i,none⟩=false)∧(∀i,i < 1350→f i < 18446744073709551616)∧(∀k,k < 86400→bitW f k=q k)∧b < W.heap.size
theorem DiscAt.below {W W':World} {b B:Nat} {q:Nat→Bool} (h:DiscAt W b q) (hb:Below B W W') (hB:b < B):DiscAt W' b q:=by
 obtain ⟨f,h1,h2,h3,h4,h5⟩:=h
 exact ⟨f,h1.below hb hB,fun i=>(hb.frozen (p:=⟨b,i,none⟩) hB).trans (h2 i),h3,h4,zH h5 hb.size⟩
def memD (l:List Int) (k:Nat):Bool:=decide ((k:Int)∈l)
set_option maxHeartbeats 1600000 in
theorem DOf_any (a:Option Addr) (cap:Nat) (l:List Int) (w:World) (hl:l.length≤9223372036854775807) (hs:Sl w a (ints l)) :
  Calls Tryz.prog 94 #[.slice a l.length cap] w fun e w'=>e= .returned (.pointer (some ⟨w.heap.size,0,none⟩))∧DiscAt w' w.heap.size (memD l)∧Below w.heap.size w w':=by
 obtain ⟨W1,hW1⟩:∃W1,w.alloc (.cells Tryz.zeroCells205 205)=W1:=⟨_,rfl⟩
 have q1:DC W1 w.heap.size (fun _=>0):=by rw [←hW1]; exact dc_new w
 have q2:∀i,W1.frozen? ⟨w.heap.size,i,none⟩=false:=fun i=>by rw [←hW1]; exact frozen_fresh w _ _ i
 have q3:Below w.heap.size w W1:=by rw [←hW1]; exact below_new (Below.refl _ _) (zG _)
 have q4:W1.heap.size=w.heap.size+1:=by rw [←hW1]; simp
 have c1:Hid (Calls Tryz.prog 150 #[.pointer (some ⟨w.heap.size,0,none⟩), .slice a l.length cap] W1 fun e w'=>(∃n:Nat,e= .returned (.int .i64 n))∧DiscAt w' w.heap.size (memD l)∧Eff (fun x=>x=w.heap.size) W1 w'):=by
  refine (Put_any w.heap.size (fun _=>0) a cap l W1 hl (hs.below q3) ?_ q1 q2 (fun _ _=>by omega)).mono fun e w' ⟨h1,h2,h3,h4⟩=>⟨⟨_,h1⟩,⟨_,h2,h3,putL_lt _ _ (fun _ _=>by omega),fun k hk=>?_,by have:=h4.size; omega⟩,h4⟩
  ·rintro hl g off rfl
   obtain ⟨g',off',e,hb,_⟩:=hs.atInt (k:=0) (List.length_pos_iff.mpr hl)
   cases e; omega
  ·rw [putL_bit _ _ k hk,bitW,Nat.zero_testBit,Bool.false_or]; rfl
 have HW1:=hid hW1
 have Q3:=hid q3
 clear hW1 q1 q2 q3 hs
 go_enter Tryz.func94,Tryz.ntmps94
 go_wp2_with fail
 rw [HW1.out]
 refine c1.out.mono ?_
 rintro e w2 ⟨⟨n,rfl⟩,hd,hE⟩
 have Hd:=hid hd
 have HE:=hid hE
 clear hd hE
 go_wp2
 go_ret
 exact ⟨rfl,Hd.out,Q3.out.trans (HE.out.below (by rintro b rfl; exact zG _) (by omega))⟩
end
section
open Go.RowKit
def dv:Option Nat→Value
 | none=> .pointer none
 | some b=> .pointer (some ⟨b,0,none⟩)
def DW (W:World):Option Nat→(Nat→Nat)→Prop
 | none,f=>f=fun _=>0
 | some b,f=>DC W b f
def FirstOf (p:Nat→Bool) (n:Int) (ok:Bool):Prop:=
 (ok=true∧∃k:Nat,n=k∧k < 86400∧p k=true∧∀j,j < k→p j=false)∨(ok=false∧n=0∧∀j,j < 86400→p j=false)
theorem FirstOf.unique {p:Nat→Bool} {n n':Int} {ok ok':Bool} (h:FirstOf p n ok) (h':FirstOf p n' ok'):n=n'∧ok=ok':=by
 rcases h with ⟨rfl,k,rfl,hk,h1,h2⟩ | ⟨rfl,rfl,h2⟩ <;> rcases h' with ⟨rfl,k',rfl,hk',h1',h2'⟩ | ⟨rfl,rfl,h2'⟩
 ·refine ⟨?_,rfl⟩
  rcases Nat.lt_trichotomy k k' with h | h | h
  ·rw [h2' k h] at h1; cases h1
  ·rw [h]
  ·rw [h2 k' h] at h1'; cases h1'
 ·rw [h2' k hk] at h1; cases h1
 ·rw [h2 k' hk'] at h1'; cases h1'
 ·exact ⟨rfl,rfl⟩
theorem first_word (h:Nat→Nat) (k:Nat) (hk:k < 1350) (hz:∀j,j < k→h j=0) (hb:h k < 18446744073709551616) (hl:leastB (h k)=true):FirstOf (bitW h) ((k:Int) * 64+leastI (h k)) true:=by
 have h0:h k≠0:=by simpa [leastB] using hl
 obtain ⟨h1,h2,h3⟩:=lsb_spec h0 hb
 refine .inl ⟨rfl,k * 64+lsb (h k),by rw [leastI,if_neg h0]; simp,by omega,?_,fun j hj=>?_⟩
 ·rw [bitW,show (k * 64+lsb (h k)) / 64=k by omega,show (k * 64+lsb (h k)) % 64=lsb (h k) by omega]; exact h2
 ·rw [bitW]
  by_cases e:j / 64=k
  ·rw [e]; exact h3 _ (by omega)
  ·rw [hz (j / 64) (by omega),Nat.zero_testBit]
theorem leastI_bdD {m:Nat} (hm:m < 18446744073709551616):0≤leastI m∧leastI m < 64:=by
 rw [leastI]
 split
 ·omega
 ·rename_i h0
  have:=(lsb_spec h0 hm).1
  omega
theorem first_none (h:Nat→Nat) (hz:∀j,j < 1350→h j=0):FirstOf (bitW h) 0 false:=by
 refine .inr ⟨rfl,rfl,fun j hj=>?_⟩
 rw [bitW,hz (j / 64) (by omega),Nat.zero_testBit]
theorem FirstOf.congr {p q:Nat→Bool} {n:Int} {ok:Bool} (h:FirstOf p n ok) (e:∀k,k < 86400→p k=q k):FirstOf q n ok:=by
 rcases h with ⟨h1,k,h2,h3,h4,h5⟩ | ⟨h1,h2,h3⟩
 ·exact .inl ⟨h1,k,h2,h3,by rw [←e k h3]; exact h4,fun j hj=>by rw [←e j (by omega)]; exact h5 j hj⟩
 ·exact .inr ⟨h1,h2,fun j hj=>by rw [←e j hj]; exact h3 j hj⟩
def DiscV (W:World):Option Nat→(Nat→Bool)→Prop
 | none,q=>∀k,k < 86400→q k=false
 | some b,q=>DiscAt W b q
theorem DiscV.words {W:World} {d:Option Nat} {q:Nat→Bool} (h:DiscV W d q):∃f,DW W d f∧(∀i,i < 1350→f i < 18446744073709551616)∧∀k,k < 86400→bitW f k=q k:=by
 match d,h with
 | none,h=>exact ⟨fun _=>0,rfl,fun _ _=>by show 0 < _; omega,fun k hk=>by rw [bitW,Nat.zero_testBit]; exact (h k hk).symm⟩
 | some b,⟨f,h1,h2,h3,h4,h5⟩=>exact ⟨f,h1,h3,h4⟩
end
end Go.Proofs.YthimhfmnikfgaaaGreatDoor
