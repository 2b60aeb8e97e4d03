/-
  The law of a range over a function whose yield takes any values, for a client that may ask what has turned.
  A call of a function value with two arguments.
  A set of blocks.
  What a disc's calls do to the seconds that it has: one second put in, one disc joined, its length, its next second, its telling.
  tod.All: its function tells the seconds of masks; which these are.
  The dates of the window's days, as plain arithmetic: by the program's formula, and by years and months one behind the other.
  What the small functions of num, civil, feriaref01 and feriaref05 compute, of the window's years.
-/
import Derived.Test.YtmjljpdeohbfbaaGreatDoorQ97d08b
import Derived.Test.YtmjljpdeohbfbaaGreatDoorQ67deb9
import Derived.Test.YtmjljpdeohbfbaaGreatDoorQd874f6
namespace Go.Proofs.YtmjljpdeohbfbaaGreatDoor
set_option linter.unusedVariables false
section
open Go.RowKit
structure ClientV (P:Program) (y:Value) (xs:List (Array Value)) (J Jx:OwnP) (O0:Nat→Prop) (W0:World):Prop where
 form:∃f fi cap,y= .func f fi cap
 stab:StabO J
 stabx:StabO Jx
 lt:LtO J
 ltx:LtO Jx
 call:∀k O W,(hk:k < xs.length)→J k O W→Grow O0 O W0 W→CallV P y xs[k] W fun e W'=>∃O':Nat→Prop,(∀b,O b→O' b)∧(∀b,O' b→O b∨W.heap.size≤b)∧Eff O W W'∧
  ((e= .returned (.bool true)∧J (k+1) O' W')∨(e= .returned (.bool false)∧Jx (k+1) O' W'))
def ToldV (xs:List (Array Value)) (J Jx:OwnP) (O:Nat→Prop) (W:World) (W':World):Prop:=
 ∃O':Nat→Prop,(∀b,O b→O' b)∧(∀b,O' b→O b∨W.heap.size≤b)∧Eff O W W'∧(J xs.length O' W'∨∃k,1≤k∧k≤xs.length∧Jx k O' W')
theorem loop_clientV {P:Program} {n:Nat} {fn:FuncId} {tmps:Array Value} {ps:Array Tmp} {assign body:Code} {D l:Nat} {Dk:Option Nat} (xs:List (Array Value)) (hps:∀x∈xs,x.size=ps.size)
  {I:OwnP} {Ix:Code→OwnP} (hI:StabO I) (hIx:∀c,StabO (Ix c)) (hIl:LtO I) (hIxl:∀c,LtO (Ix c)) (A:Nat→(Nat→Prop)→Act→World→Prop) (hA:∀l o k O a' W,(∃r,W.heap[l]? =some (.loop r))→¬O l→A k O a' W→A k O a' (W.putObj l o))
  (Ow O0:Nat→Prop) (w W1:World) (hwl:w.heap.size≤l) (hconv:∀O O1 W,(∀b,O b↔O1 b∨b=l∨Dk=some b)→Grow O0 O W1 W→Grow Ow O1 w W)
  (hassign:∀k O W (K:Act→World→Prop) (hk:k < xs.length),I k O W→Grow Ow O w W→(∀a' O' W',Grow O O' W W'→A k O' a' W'→K a' W')→
   assign.wpIn (WF (some l)) n P (Exit.then K (fun _ _ _=>False)) {tmps:=(ps.zip xs[k]).foldl (fun t (p,v)=>t.setIfInBounds p v) tmps,defers:= []} W)
  (hbody:∀k O a' W,(hk:k < xs.length)→Grow Ow O w W→(∃r,W.heap[l]? =some (.loop r))→¬O l→A k O a' W→body.wpIn (WF (some l)) n P (RPost I Ix k O W) a' W) :
  ClientV P (.func (.yield l) #[] #[]) xs (RJ (loopRec fn tmps ps assign body D .ready none) l Dk I) (fun k O W=>∃c,RJ (loopRec fn tmps ps assign body D .done (some c)) l Dk (Ix c) k O W) O0 W1 where
 form:=⟨_,_,_,rfl⟩
 stab:=RJ.stab hI
 stabx:=fun k O W W' ⟨c,h⟩ hs hO=>⟨c,RJ.stab (hIx c) k O W W' h hs hO⟩
 lt:=RJ.lt hIl
 ltx:=fun k O W ⟨c,h⟩=>RJ.lt (hIxl c) k O W h
 call:=by
  rintro k O W hk ⟨O1,hO,hnl,hD,hi,hl⟩ hG0
  have hG:=hconv O O1 W hO hG0
  have hlt:=heap_lt hl
  have hy:=run_yield (P:=P) (args:=xs[k]) hl (hps _ (List.getElem_mem hk))
  refine .inr ⟨l,_,_,_,_,rfl,hy,fun m=>roundIn_any (r:=none) (m:=n) (roundIn_of_wpIn trivial ?_)⟩
  clear hy
  refine hassign k O1 W _ hk hi hG ?_
  intro a' O2 Wa hg2 ha
  have hla:=(hg2.eff.block l hlt hnl).trans hl
  have hDa:∀d,Dk=some d→Wa.heap[d]? =some (.deferred (some [])):=fun d hd=>(hg2.eff.block d (heap_lt (hD d hd).2.2) (hD d hd).1).trans (hD d hd).2.2
  have hnew:∀b,b < W.heap.size→¬O1 b→¬O2 b:=fun b hb hn h=>by
   rcases hg2.new b h with h1 | h1
   ·exact hn h1
   ·omega
  have hnl2:=hnew l hlt hnl
  have hsz2:=hg2.eff.size
  refine ⟨_,run_beginRound hla rfl,?_⟩
  obtain ⟨Wb,hWb⟩:∃Wb,Wa.putObj l (.loop (loopRec fn tmps ps assign body D .busy none))=Wb:=⟨_,rfl⟩
  have hWs:Wb.heap.size=Wa.heap.size:=by rw [←hWb]; exact World.putObj_size
  have hWo:∀b,b≠l→Wb.heap[b]? =Wa.heap[b]?:=fun b hb=>by rw [←hWb]; exact World.putObj_heap_other hb
  have hWl:Wb.heap[l]? =some (.loop (loopRec fn tmps ps assign body D .busy none)):=by rw [←hWb]; exact World.putObj_heap_same (heap_lt hla)
  have hEb:Eff O W Wb:=by rw [←hWb]; exact (hg2.eff.wide (fun b hb=>(hO b).mpr (.inl hb))).putObj (.inl ((hO l).mpr (.inr (.inl rfl)))) _
  have hGa:=hG.trans hg2
  have hb:=hbody k O2 a' Wb hk ⟨hGa.sub,hGa.new,by rw [←hWb]; exact hGa.eff.putObj (.inr hwl) _⟩ ⟨_,hWl⟩ hnl2 (by rw [←hWb]; exact hA _ _ _ _ _ _ ⟨_,hla⟩ hnl2 ha)
  rw [hWb]
  refine wpIn_mono hb ?_
  have fin:∀(jump:Option Code) (O3:Nat→Prop) (W3:World),Grow O2 O3 Wb W3→∀(X:OwnP),StabO X→X (k+1) O3 W3→∃O':Nat→Prop,(∀b,O b→O' b)∧(∀b,O' b→O b∨W.heap.size≤b)∧
    (Instr.endRound l jump).run P W3= .ok (.bool jump.isNone) (W3.putObj l (.loop (loopRec fn tmps ps assign body D (if jump.isNone then .ready else .done) jump)))∧Eff O W (W3.putObj l (.loop (loopRec fn tmps ps assign body D (if jump.isNone then .ready else .done) jump)))∧
    RJ (loopRec fn tmps ps assign body D (if jump.isNone then .ready else .done) jump) l Dk X (k+1) O' (W3.putObj l (.loop (loopRec fn tmps ps assign body D (if jump.isNone then .ready else .done) jump))):=fun jump O3 W3 hg3 X hX hx=>by
   have hl3:=(hg3.eff.block l (heap_lt hWl) hnl2).trans hWl
   have hnew3:∀b,b < Wb.heap.size→¬O2 b→¬O3 b:=fun b hb hn h=>by
    rcases hg3.new b h with h1 | h1
    ·exact hn h1
    ·omega
   have hend:=run_endRound (P:=P) jump hl3
   refine ⟨fun b=>O3 b∨b=l∨Dk=some b,fun b hb=>?_,fun b hb=>?_,?_,?_,O3,fun b=>Iff.rfl,hnew3 l (heap_lt hWl) hnl2,fun d hd=>?_,?_,?_⟩
   ·rcases (hO b).mp hb with h | h
    ·exact .inl (hg3.sub b (hg2.sub b h))
    ·exact .inr h
   ·rcases hb with h | h
    ·rcases hg3.new b h with h1 | h1
     ·rcases hg2.new b h1 with h2 | h2
      ·exact .inl ((hO b).mpr (.inl h2))
      ·exact .inr h2
     ·exact .inr (by omega)
    ·exact .inl ((hO b).mpr (.inr h))
   ·exact hend
   ·refine Eff.putObj (hEb.trans (hg3.eff) fun b hb=>?_) (.inl ((hO l).mpr (.inr (.inl rfl)))) _
    rcases hg2.new b hb with h2 | h2
    ·exact .inl ((hO b).mpr (.inl h2))
    ·exact .inr h2
   ·obtain ⟨d1,d2,d3⟩:=hD d hd
    have hd2:=hnew d (heap_lt d3) d1
    have hdb:d < Wb.heap.size:=by have:=heap_lt (hDa d hd); omega
    exact ⟨hnew3 d hdb hd2,d2,(World.putObj_heap_other d2).trans ((hg3.eff.block d hdb hd2).trans ((hWo d d2).trans (hDa d hd)))⟩
   ·exact hX _ _ _ _ hx (by rw [World.putObj_size]; exact zG _) (fun b hb=>World.putObj_heap_other (fun e=>hnew3 l (heap_lt hWl) hnl2 (e ▸ hb)))
   ·exact World.putObj_heap_same (heap_lt hl3)
  rintro e a3 W3 hp
  cases e with
  | normal=>
   obtain ⟨O3,hg3,hi3⟩:=hp
   obtain ⟨O',h1,h2,h3,h4,h5⟩:=fin none O3 W3 hg3 I hI hi3
   exact ⟨_,_,h3,O',h1,h2,h4, .inl ⟨rfl,h5⟩⟩
  | ret=>
   obtain ⟨O3,hg3,hi3⟩:=hp
   obtain ⟨O',h1,h2,h3,h4,h5⟩:=fin (some .ret) O3 W3 hg3 _ (hIx _) hi3
   exact ⟨_,_,h3,O',h1,h2,h4, .inr ⟨rfl,_,h5⟩⟩
  | exit id=>
   obtain ⟨O3,hg3,hi3⟩:=hp
   obtain ⟨O',h1,h2,h3,h4,h5⟩:=fin (some (.exit id)) O3 W3 hg3 _ (hIx _) hi3
   exact ⟨_,_,h3,O',h1,h2,h4, .inr ⟨rfl,_,h5⟩⟩
  | goto t=>
   obtain ⟨O3,hg3,hi3⟩:=hp
   obtain ⟨O',h1,h2,h3,h4,h5⟩:=fin (some (.goto t)) O3 W3 hg3 _ (hIx _) hi3
   exact ⟨_,_,h3,O',h1,h2,h4, .inr ⟨rfl,_,h5⟩⟩
  | panic ch=>exact hp.elim
  | outgrown=>exact hp.elim
def TellsV (P:Program) (gf:Nat) (lb:Array Value) (xs:List (Array Value)) (Ow:Nat→Prop) (w:World):Prop:=
 ∀(y:Value) (J Jx:OwnP) (O:Nat→Prop) (W:World),(∀b,O b→Ow b∨w.heap.size≤b)→Below w.heap.size w W→ClientV P y xs J Jx O W→J 0 O W→Calls P gf (#[y] ++ lb) W fun e W'=>(∃v,e= .returned v)∧ToldV xs J Jx O W W'
theorem range_outerV {P:Program} {n:Nat} {g:Operand} {ps:Array Tmp} {assign body:Code} {Q:Exit→Act→World→Prop} {a:Act} {w:World} {gf:Nat} {lb:Array Value}
  (hg:a.eval g= .func (.func gf) #[] lb) (eg:∀args w,(callFunc gf args).run P w= .ok (.enter gf args) w) (xs:List (Array Value)) (Ow:Nat→Prop) (hps:∀x∈xs,x.size=ps.size) (hseq:TellsV P gf lb xs Ow w)
  (I:OwnP) (Ix:Code→OwnP) (hI:StabO I) (hIx:∀c,StabO (Ix c)) (hIl:LtO I) (hIxl:∀c,LtO (Ix c)) (h0:I 0 Ow w) (A:Nat→(Nat→Prop)→Act→World→Prop) (hA:∀l o k O a' W,(∃r,W.heap[l]? =some (.loop r))→¬O l→A k O a' W→A k O a' (W.putObj l o))
  (hassign:∀l k O W (K:Act→World→Prop) (hk:k < xs.length),I k O W→Grow Ow O w W→(∀a' O' W',Grow O O' W W'→A k O' a' W'→K a' W')→
   assign.wpIn (WF (some l)) n P (Exit.then K (fun _ _ _=>False)) {tmps:=(ps.zip xs[k]).foldl (fun t (p,v)=>t.setIfInBounds p v) a.tmps,defers:= []} W)
  (hbody:∀l k O a' W,(hk:k < xs.length)→Grow Ow O w W→w.heap.size≤l→(∃r,W.heap[l]? =some (.loop r))→¬O l→A k O a' W→body.wpIn (WF (some l)) n P (RPost I Ix k O W) a' W)
  (hdone:∀O' W',Grow Ow O' w W'→I xs.length O' W'→W'.heap[w.heap.size]? =some (.deferred (some []))→¬O' w.heap.size→Q .normal {a with defers:={target:= .collected w.heap.size,args:=#[]} :: a.defers} W')
  (hstop:∀c k O' W',1≤k→k≤xs.length→Grow Ow O' w W'→Ix c k O' W'→W'.heap[w.heap.size]? =some (.deferred (some []))→¬O' w.heap.size→
   c.wpIn (WF none) n P Q {a with defers:={target:= .collected w.heap.size,args:=#[]} :: a.defers} W') :
  (Code.rangeFunc g ps assign body).wpIn (WF none) n P Q a w:=by
 refine wpIn_rangeFunc ?_
 intro fn hfn
 obtain ⟨W1,hW1⟩:∃W1,(w.alloc (.deferred (some []))).alloc (.loop (loopRec fn a.tmps ps assign body w.heap.size .ready none))=W1:=⟨_,rfl⟩
 have hL1:W1.heap[w.heap.size+1]? =some (.loop (loopRec fn a.tmps ps assign body w.heap.size .ready none)):=by
  rw [←hW1]; have:=World.alloc_heap_new (w.alloc (.deferred (some []))) (.loop (loopRec fn a.tmps ps assign body w.heap.size .ready none)); rwa [World.size_alloc] at this
 have hB1:Below w.heap.size w W1:=by rw [←hW1]; exact ((Below.refl _ w).alloc (zG _) _).alloc (by simp) _
 have hK1:W1.heap[w.heap.size]? =some (.deferred (some [])):=by
  rw [←hW1]; exact (Below.heap_alloc _ _ _ (by simp)).trans (World.alloc_heap_new w _)
 have hlt:=hIl 0 Ow w h0
 have hJ:RJ (loopRec fn a.tmps ps assign body w.heap.size .ready none) (w.heap.size+1) (some w.heap.size) I 0 (fun b=>Ow b∨b=w.heap.size+1∨some w.heap.size=some b) W1:=
  ⟨Ow,fun b=>Iff.rfl,fun h=>by have:=hlt _ h; omega,fun d hd=>by cases hd; exact ⟨fun h=>by have:=hlt _ h; omega,by omega,hK1⟩,hI 0 Ow w W1 h0 hB1.size (fun b hb=>hB1.block b (hlt b hb)),hL1⟩
 have hlc:=heap_lt hL1
 have hC:=loop_clientV (P:=P) (n:=n) (fn:=fn) (tmps:=a.tmps) (D:=w.heap.size) (l:=w.heap.size+1) (Dk:=some w.heap.size) xs hps hI hIx hIl hIxl A hA Ow (fun b=>Ow b∨b=w.heap.size+1∨some w.heap.size=some b) w W1 (by omega) (fun O O1 W hO hG=>⟨fun b hb=>by
   have hb2:=hlt b hb
   rcases (hO b).mp (hG.sub b (.inl hb)) with h | h | h
   ·exact h
   ·omega
   ·cases h; omega,fun b hb=>by
   rcases hG.new b ((hO b).mpr (.inl hb)) with (h | h | h) | h
   ·exact .inl h
   ·exact .inr (by omega)
   ·cases h; exact .inr (by omega)
   ·exact .inr (by have:=hB1.size; omega),(Eff.of_below (O:=Ow) hB1).trans hG.eff fun b hb=>by
   rcases hb with h | h | h
   ·exact .inl h
   ·exact .inr (by omega)
   ·cases h; exact .inr (by omega)⟩) (hassign (w.heap.size+1)) (fun k O a' W hk hG=>hbody (w.heap.size+1) k O a' W hk hG (by omega))
 have hcall:=hseq _ _ _ _ W1 (fun b hb=>by rcases hb with h | h | h; exact .inl h; exact .inr (by omega); exact .inr (by cases h; omega)) hB1 hC hJ
 refine ⟨w.heap.size+1,[{target:= .collected w.heap.size,args:=#[]}],W1,{target:= .fn (.func gf) lb,args:=#[.func (.yield (w.heap.size+1)) #[] #[]]},W1,gf,
  #[.func (.yield (w.heap.size+1)) #[] #[]] ++ lb,W1,?_,?_,fun _ _=>trivial,?_,(fun h=>nomatch h),?_⟩
 ·rw [←hW1]; exact run_enterLoop_outer _ _ _ _ _
 ·simp only [resolve,hg]; simp [go_sem]
 ·simp [invoke,go_sem,eg]
 ·refine wf_calls.mpr (hcall.mono ?_)
  have back:∀(X:OwnP) (k:Nat) (O':Nat→Prop) (W2:World) (st:LoopState) (pe:Option Code),StabO X→st≠ .busy→(∀b,Ow b→O' b)→(∀b,O' b→(Ow b∨b=w.heap.size+1∨some w.heap.size=some b)∨W1.heap.size≤b)→
    Eff (fun b=>Ow b∨b=w.heap.size+1∨some w.heap.size=some b) W1 W2→RJ (loopRec fn a.tmps ps assign body w.heap.size st pe) (w.heap.size+1) (some w.heap.size) X k O' W2→
    (Instr.endLoop (w.heap.size+1)).run P W2= .ok pe (W2.putObj (w.heap.size+1) (.loop (loopRec fn a.tmps ps assign body w.heap.size .exhausted pe)))∧∃O2,Grow Ow O2 w (W2.putObj (w.heap.size+1) (.loop (loopRec fn a.tmps ps assign body w.heap.size .exhausted pe)))∧X k O2 (W2.putObj (w.heap.size+1) (.loop (loopRec fn a.tmps ps assign body w.heap.size .exhausted pe)))∧
     (W2.putObj (w.heap.size+1) (.loop (loopRec fn a.tmps ps assign body w.heap.size .exhausted pe))).heap[w.heap.size]? =some (.deferred (some []))∧¬O2 w.heap.size:=by
   rintro X k O' W2 st pe hX hst hsub hnew hE ⟨O1,hO,hnl,hD,hi,hl⟩
   have hr:=run_endLoop (P:=P) hl hst
   refine ⟨hr,O1,⟨fun b hb=>?_,fun b hb=>?_,?_⟩,hX _ _ _ _ hi (by rw [World.putObj_size]; exact zG _) (fun b hb=>World.putObj_heap_other (fun e=>hnl (e ▸ hb))),(World.putObj_heap_other (by omega)).trans (hD _ rfl).2.2,(hD _ rfl).1⟩
   ·have hb2:=hlt b hb
    rcases (hO b).mp (hsub b hb) with h | h | h
    ·exact h
    ·omega
    ·cases h; omega
   ·rcases hnew b ((hO b).mpr (.inl hb)) with (h | h | h) | h
    ·exact .inl h
    ·exact .inr (by omega)
    ·cases h; exact .inr (by omega)
    ·exact .inr (by have:=hB1.size; omega)
   ·refine Eff.putObj ((Eff.of_below (O:=Ow) hB1).trans hE fun b hb=>?_) (.inr (by omega)) _
    rcases hb with h | h | h
    ·exact .inl h
    ·exact .inr (by omega)
    ·cases h; exact .inr (by omega)
  rintro e W2 ⟨⟨v,rfl⟩,O',hsub,hnew,hE,hend⟩
  rcases hend with hj | ⟨k,hk1,hk2,c,hj⟩
  ·obtain ⟨h1,O2,h2,h3,h4,h5⟩:=back I xs.length O' W2 .ready none hI (by simp) (fun b hb=>hsub b (.inl hb)) hnew hE hj
   exact ⟨none,_,h1,hdone O2 _ h2 h3 h4 h5⟩
  ·obtain ⟨h1,O2,h2,h3,h4,h5⟩:=back (Ix c) k O' W2 .done (some c) (hIx c) (by simp) (fun b hb=>hsub b (.inl hb)) hnew hE hj
   exact ⟨some c,_,h1,hstop c k O2 _ hk1 hk2 h2 h3 h4 h5⟩
end
section
abbrev Blk:=Nat→Prop
end
section
open Go.RowKit
theorem DiscAt.lt {W:World} {b:Nat} {q:Nat→Bool} (h:DiscAt W b q):b < W.heap.size:=by obtain ⟨f,_,_,_,_,h⟩:=h; exact h
theorem DiscAt.block {W W':World} {b:Nat} {q:Nat→Bool} (h:DiscAt W b q) (hs:W.heap.size≤W'.heap.size) (hb:W'.heap[b]? =W.heap[b]?):DiscAt W' b q:=by
 obtain ⟨f,h1,h2,h3,h4,h5⟩:=h
 exact ⟨f,fun i hi=>(World.cell?_of_block (w:=W) (a:=⟨b,i,none⟩) hb).trans (h1 i hi),fun i=>(World.frozen?_of_block (w:=W) (a:=⟨b,i,none⟩) hb).trans (h2 i),h3,h4,zH h5 hs⟩
theorem DiscAt.eff {W W':World} {b:Nat} {q:Nat→Bool} {O:Blk} (h:DiscAt W b q) (hE:Eff O W W') (hn:¬O b):DiscAt W' b q:=h.block hE.size (hE.block b h.lt hn)
theorem DiscAt.congr {W:World} {b:Nat} {q q':Nat→Bool} (h:DiscAt W b q) (e:∀k,k < 86400→q k=q' k):DiscAt W b q':=by
 obtain ⟨f,h1,h2,h3,h4,h5⟩:=h
 exact ⟨f,h1,h2,h3,fun k hk=>(h4 k hk).trans (e k hk),h5⟩
theorem DiscAt.unique {W:World} {b:Nat} {q q':Nat→Bool} (h:DiscAt W b q) (h':DiscAt W b q') (k:Nat) (hk:k < 86400):q k=q' k:=by
 obtain ⟨f,h1,h2,h3,h4,h5⟩:=h
 obtain ⟨f',g1,g2,g3,g4,g5⟩:=h'
 rw [←h4 k hk,←g4 k hk,bitW,bitW]
 have e:=(h1 (k / 64) (by omega)).symm.trans (g1 (k / 64) (by omega))
 simp only [Option.some.injEq,Value.int.injEq,true_and] at e
 have e2:f (k / 64)=f' (k / 64):=by omega
 rw [e2]
theorem DPut1_any (b:Nat) (q:Nat→Bool) (s:Int) (w:World) (hd:DiscAt w b q) :
  Calls Tryz.prog 116 #[.pointer (some ⟨b,0,none⟩), .slice (some ⟨w.heap.size,0,none⟩) 1 1] (w.alloc (.cells #[.int .i64 s] 3)) fun e w'=>(∃v,e= .returned v)∧DiscAt w' b (fun k=>q k || decide ((k:Int)=s))∧Eff (fun x=>x=b) w w':=by
 obtain ⟨W1,hW1⟩:∃W1,w.alloc (.cells #[.int .i64 s] 3)=W1:=⟨_,rfl⟩
 have hb:Below w.heap.size w W1:=by rw [←hW1]; exact below_new (Below.refl _ _) (zG _)
 have hsl:Sl W1 (some ⟨w.heap.size,0,none⟩) (ints [s]):=by
  refine .inr ⟨w.heap.size,0,rfl,by rw [←hW1]; simp,fun j hj=>?_⟩
  have:j=0:=by simp [ints] at hj; omega
  subst this
  rw [←hW1]; simp [go_sem,ints]
 rw [hW1]
 have hlt:=hd.lt
 obtain ⟨f,h1,h2,h3,h4,h5⟩:=hd.below hb hlt
 refine (Put_any b f (some ⟨w.heap.size,0,none⟩) 1 [s] W1 (by simp) hsl (fun _ g off e=>by cases e; omega) h1 h2 h3).mono fun e w' ⟨g1,g2,g3,g4⟩=>⟨⟨_,g1⟩,⟨_,g2,g3,putL_lt _ _ h3,fun k hk=>?_,by have:=g4.size; omega⟩,(Eff.of_below (O:=fun x=>x=b) hb).trans g4 (fun x hx=> .inl hx)⟩
 rw [putL_bit _ _ k hk,h4 k hk]; simp
def DiscO (W:World):Option Nat→(Nat→Bool)→Prop
 | none,q=>∀k,k < 86400→q k=false
 | some b,q=>DiscAt W b q
def dptr:Option Nat→Value
 | none=> .pointer none
 | some b=> .pointer (some ⟨b,0,none⟩)
theorem DiscO.v {W:World} {d:Option Nat} {q:Nat→Bool} (h:DiscO W d q):DiscV W d q∧dv d=dptr d:=by
 cases d with
 | none=>exact ⟨h,rfl⟩
 | some b=>obtain ⟨f,h1,h2,h3,h4,h5⟩:=h; exact ⟨⟨f,h1,h2,h3,h4,h5⟩,rfl⟩
theorem DiscO.congr {W:World} {d:Option Nat} {q q':Nat→Bool} (h:DiscO W d q) (e:∀k,k < 86400→q k=q' k):DiscO W d q':=by
 cases d with
 | none=>exact fun k hk=>(e k hk).symm.trans (h k hk)
 | some b=>exact DiscAt.congr h e
theorem DJoin1_any (b c:Nat) (q r:Nat→Bool) (w:World) (hd:DiscAt w b q) (hc:DiscAt w c r) (hne:c≠b) :
  Calls Tryz.prog 61 #[.pointer (some ⟨b,0,none⟩), .slice (some ⟨w.heap.size,0,none⟩) 1 1] (w.alloc (.cells #[.pointer (some ⟨c,0,none⟩)] 106)) fun e w'=>(∃v,e= .returned v)∧DiscAt w' b (fun k=>q k || r k)∧Eff (fun x=>x=b) w w':=by
 obtain ⟨W1,hW1⟩:∃W1,w.alloc (.cells #[.pointer (some ⟨c,0,none⟩)] 106)=W1:=⟨_,rfl⟩
 have hb:Below w.heap.size w W1:=by rw [←hW1]; exact below_new (Below.refl _ _) (zG _)
 have hbl:=hd.lt
 have hcl:=hc.lt
 obtain ⟨f,h1,h2,h3,h4,h5⟩:=hd.below hb hbl
 obtain ⟨g,g1,g2,g3,g4,g5⟩:=hc.below hb hcl
 have hsl:Sl W1 (some ⟨w.heap.size,0,none⟩) (dvs [(some c,g)]):=by
  refine .inr ⟨w.heap.size,0,rfl,by rw [←hW1]; simp,fun j hj=>?_⟩
  have:j=0:=by simp [dvs] at hj; omega
  subst this
  rw [←hW1]; simp [go_sem,dvs,dv]
 rw [hW1]
 refine (DJoin_any b f (some ⟨w.heap.size,0,none⟩) 1 [(some c,g)] W1 (by simp) hsl (fun _ x off e=>by cases e; omega) (fun d hd=>?_) ⟨h1,h2,h3,Eff.refl _ _⟩).mono fun e w' ⟨k1,k2⟩=>⟨k1,⟨_,k2.words,k2.free,k2.bd,fun k hk=>?_,by have:=k2.eff.size; omega⟩,(Eff.of_below (O:=fun x=>x=b) hb).trans k2.eff (fun x hx=> .inl hx)⟩
 ·rw [List.mem_singleton] at hd; subst hd
  exact ⟨g1,g3,fun x e=>by cases e; exact ⟨hne,g5⟩⟩
 ·show bitW (orL f [(some c,g)]) k= (q k || r k)
  rw [←h4 k hk,←g4 k hk]; simp [orL,bitW,Nat.testBit_or]
theorem DHasO_any (d:Option Nat) (q:Nat→Bool) (n:Int) (w:World) (h:DiscO w d q):Calls Tryz.prog 100 #[dptr d, .int .i64 n] w fun e w'=>e= .returned (.bool (dsecB n && q n.toNat))∧w=w':=by
 cases d with
 | none=>
  have e:(dsecB n && q n.toNat)=false:=by
   cases hd:dsecB n
   ·rfl
   ·obtain ⟨k,rfl,hk⟩:=dsecB_some hd
    rw [Int.toNat_natCast,h k hk]; rfl
  rw [e]; exact DHas_nil n w
 | some b=>
  obtain ⟨f,h1,h2,h3,h4,h5⟩:=h
  have e:(dsecB n && q n.toNat)=hasD f n:=by
   rw [hasD]
   cases hd:dsecB n
   ·rfl
   ·obtain ⟨k,rfl,hk⟩:=dsecB_some hd
    rw [Int.toNat_natCast,h4 k hk]
  rw [e]; exact DHas_any b f n w h1 h3
end
section
open Go.RowKit
theorem TAll_any (hs ms ss:Nat) (w:World) (hh:hs < 18446744073709551616) (hm:ms < 18446744073709551616) (hss:ss < 18446744073709551616) :
  Calls Tryz.prog 223 #[.int .u64 hs, .int .u64 ms, .int .u64 ss] w fun e w'=>e= .returned (.func (.func 224) #[] #[.pointer (some ⟨w.heap.size,0,none⟩), .pointer (some ⟨w.heap.size+1,0,none⟩), .pointer (some ⟨w.heap.size+2,0,none⟩)])∧
   w'.cell? ⟨w.heap.size,0,none⟩=some (.int .u64 (cutM hs 23))∧w'.cell? ⟨w.heap.size+1,0,none⟩=some (.int .u64 (cutM ms 59))∧w'.cell? ⟨w.heap.size+2,0,none⟩=some (.int .u64 (cutM ss 59))∧
   Below w.heap.size w w'∧w'.heap.size=w.heap.size+3:=by
 have c1:=hid (fun W=>Held_any hs ms ss W hh hm hss)
 go_enter Tryz.func223,Tryz.ntmps223
 go_wp2_with fail
 refine (c1.out _).mono ?_
 rintro e w' ⟨rfl,rfl⟩
 go_wp2
 go_ret
 refine ⟨rfl,by simp [go_sem],by simp [go_sem],by simp [go_sem],?_,by simp [go_sem]⟩
 exact below_new (below_new (below_new (Below.refl _ _) (zG _)) (by simp)) (by simp; omega)
theorem tod_enters (args:Array Value) (w:World):(callFunc 224 args).run Tryz.prog w= .ok (.enter 224 args) w:=by simp [go_sem]
theorem tod_tells2 (hs ms ss bh bm bs:Nat) (Ow:Nat→Prop) (w:World) (hh:hs < 18446744073709551616) (hm:ms < 18446744073709551616) (hss:ss < 18446744073709551616)
  (lh:bh < w.heap.size) (lm:bm < w.heap.size) (ls:bs < w.heap.size) (nh:¬Ow bh) (nm:¬Ow bm) (ns:¬Ow bs)
  (ch:w.cell? ⟨bh,0,none⟩=some (.int .u64 (cutM hs 23))) (cm:w.cell? ⟨bm,0,none⟩=some (.int .u64 (cutM ms 59))) (cs:w.cell? ⟨bs,0,none⟩=some (.int .u64 (cutM ss 59))) (hT:Tab w) (hTO:¬Ow 0) :
  Tells2 Tryz.prog 224 #[.pointer (some ⟨bh,0,none⟩), .pointer (some ⟨bm,0,none⟩), .pointer (some ⟨bs,0,none⟩)] (secsOf hs ms ss) Ow w:=by
 intro y J Jx O W hO hB hC hJ
 have no:∀b,b < w.heap.size→¬Ow b→¬O b:=fun b hb hn h=>by
  rcases hO b h with h1 | h1
  ·exact hn h1
  ·omega
 exact TodIter_any (cutM hs 23) (cutM ms 59) (cutM ss 59) bh bm bs y J Jx O W (cutM_lt 23 hh) (cutM_lt 59 hm) (cutM_lt 59 hss) hC hJ (zH lh hB.size) (zH lm hB.size) (zH ls hB.size)
  (no _ lh nh) (no _ lm nm) (no _ ls ns) ((hB.cell (p:=⟨bh,0,none⟩) lh).trans ch) ((hB.cell (p:=⟨bm,0,none⟩) lm).trans cm) ((hB.cell (p:=⟨bs,0,none⟩) ls).trans cs) (hT.later hB) (no _ hT.1 hTO)
theorem hasB_cut {m:Nat} {t n:Int} (hm:m < 18446744073709551616) (h0:0≤n) (h1:n≤t) (h2:t < 64):n∈sel (cutM m t).testBit 64↔hasB m n=true:=by
 obtain ⟨k,rfl⟩:∃k:Nat,n=k:=⟨n.toNat,by omega⟩
 rw [hasB_spec hm,mem_sel,mem_sel]
 constructor
 ·rintro ⟨j,hj,hb,e⟩
  obtain rfl:k=j:=by omega
  rw [cutM_test,Bool.and_eq_true] at hb
  exact ⟨k,hj,hb.1,rfl⟩
 ·rintro ⟨j,hj,hb,e⟩
  obtain rfl:k=j:=by omega
  exact ⟨k,hj,by rw [cutM_test,hb,decide_eq_true hj,decide_eq_true h1]; rfl,rfl⟩
theorem secsOf_mem {hs ms ss:Nat} (hh:hs < 18446744073709551616) (hm:ms < 18446744073709551616) (hss:ss < 18446744073709551616) {k:Int} (h0:0≤k) (h1:k < 86400):k∈secsOf hs ms ss↔todIn k hs ms ss=true:=by
 have hd:dayB k=true:=by simp only [dayB,decide_eq_true_eq]; omega
 rw [secsOf,mem_secs,todIn,hd,Bool.true_and,Bool.and_eq_true,Bool.and_eq_true]
 rw [←hasB_cut (t:=23) hh (by omega) (by omega) (by omega),←hasB_cut (t:=59) hm (by omega) (by omega) (by omega),←hasB_cut (t:=59) hss (by omega) (by omega) (by omega)]
 constructor
 ·rintro ⟨h,m,s,g1,g2,g3,rfl⟩
  have b1:=sel_cut_bd hs 23 g1
  have b2:=sel_cut_bd ms 59 g2
  have b3:=sel_cut_bd ss 59 g3
  refine ⟨?_,?_,?_⟩
  ·rw [show (3600 * h+60 * m+s) / 3600=h by omega]; exact g1
  ·rw [show (3600 * h+60 * m+s) / 60 % 60=m by omega]; exact g2
  ·rw [show (3600 * h+60 * m+s) % 60=s by omega]; exact g3
 ·rintro ⟨g1,g2,g3⟩
  exact ⟨_,_,_,g1,g2,g3,by omega⟩
end
section
open Go.RowKit
/-! ### years of 400 years -/
def cg (o:Nat):Nat:=o - o / 1460+o / 36524 - o / 146096
def cst (k:Nat):Nat:=365 * k+k / 4 - k / 100
def cen (k:Nat):Nat:=if k=399 then 146097 else cst (k+1)
theorem cg_step (o:Nat):cg o≤cg (o+1):=by unfold cg; omega
theorem cg_mono (a:Nat):∀d,cg a≤cg (a+d)
 | 0=>zG _
 | d+1=>zI (cg_mono a d) (cg_step (a+d))
theorem cg_ends:∀k,k < 400→365 * k≤cg (cst k)∧cg (cen k - 1) < 365 * (k+1):=by decide +kernel
theorem cg_at (k o:Nat) (hk:k < 400) (h1:cst k≤o) (h2:o < cen k):cg o / 365=k:=by
 obtain ⟨e1,e2⟩:=cg_ends k hk
 have m1:=cg_mono (cst k) (o - cst k)
 have m2:=cg_mono o (cen k - 1 - o)
 rw [show cst k+(o - cst k)=o by omega] at m1
 rw [show o+(cen k - 1 - o)=cen k - 1 by omega] at m2
 omega
theorem cst_find (o:Nat):∀m,m < 400→o < cen m→∃k,k < 400∧cst k≤o∧o < cen k
 | 0,_,h=>⟨0,by omega,by simp [cst],h⟩
 | m+1,hm,h=>by
  by_cases h0:cst (m+1)≤o
  ·exact ⟨m+1,hm,h0,h⟩
  ·refine cst_find o m (by omega) ?_
   unfold cen
   rw [if_neg (by omega)]; omega
/-! ### months -/
def leapI (y:Int):Int:=y / 4 - (y - 1) / 4 - (y / 100 - (y - 1) / 100)+(y / 400 - (y - 1) / 400)
theorem leapI_bd (y:Int):leapI y=0∨leapI y=1:=by unfold leapI; omega
theorem leapI_iff (y:Int):leapI y=1↔y % 4=0∧(y % 100≠0∨y % 400=0):=by unfold leapI; omega
def leapB (y:Int):Bool:=decide (y % 4=0∧(y % 100≠0∨y % 400=0))
theorem leapB_I (y:Int):(leapB y=true∧leapI y=1)∨(leapB y=false∧leapI y=0):=by
 have h:=leapI_iff y
 rcases leapI_bd y with h0 | h0
 ·refine .inr ⟨decide_eq_false fun hh=>?_,h0⟩
  have:=h.mpr hh; omega
 ·exact .inl ⟨decide_eq_true (h.mp h0),h0⟩
def lenI (y m:Int):Int:=if m=2 then 28+leapI y else if m=4∨m=6∨m=9∨m=11 then 30 else 31
def msI (y:Int):Nat→Int
 | 0=>0 | 1=>0 | 2=>31 | 3=>59+leapI y | 4=>90+leapI y | 5=>120+leapI y | 6=>151+leapI y | 7=>181+leapI y | 8=>212+leapI y | 9=>243+leapI y | 10=>273+leapI y | 11=>304+leapI y | _=>334+leapI y
def ysI (y:Int):Int:=365 * (y - 1970)+(y - 1) / 4 - (y - 1) / 100+(y - 1) / 400 - 477
theorem ysI_next (y:Int):ysI (y+1)=ysI y+365+leapI y:=by
 unfold ysI leapI; rw [show y+1 - 1=y by omega]; omega
theorem ysI_first:ysI 1970=0:=by decide
theorem msI_next (y:Int) (m:Nat) (h1:1≤m) (h2:m < 12):msI y (m+1)=msI y m+lenI y m:=by
 have:m=1∨m=2∨m=3∨m=4∨m=5∨m=6∨m=7∨m=8∨m=9∨m=10∨m=11:=by omega
 rcases this with rfl | rfl | rfl | rfl | rfl | rfl | rfl | rfl | rfl | rfl | rfl <;> simp [msI,lenI] <;> omega
theorem msI_last (y:Int):msI y 12+lenI y 12=365+leapI y:=by simp [msI,lenI]; omega
theorem lenI_bd (y m:Int):28≤lenI y m∧lenI y m≤31:=by
 have:=leapI_bd y
 unfold lenI
 split
 ·omega
 ·split <;> omega
structure IsDate (n y:Int) (m:Nat) (d:Int):Prop where
 y0:1970≤y
 y1:y≤2369
 m0:1≤m
 m1:m≤12
 d0:1≤d
 d1:d≤lenI y m
 sum:ysI y+msI y m+d - 1=n
theorem msI_bd {y:Int} {m:Nat} {d:Int} (h1:1≤m) (h2:m≤12) (d0:1≤d) (d1:d≤lenI y m):0≤msI y m+d - 1∧msI y m+d - 1 < 365+leapI y:=by
 have hl:=leapI_bd y
 have:m=1∨m=2∨m=3∨m=4∨m=5∨m=6∨m=7∨m=8∨m=9∨m=10∨m=11∨m=12:=by omega
 rcases this with rfl | rfl | rfl | rfl | rfl | rfl | rfl | rfl | rfl | rfl | rfl | rfl <;> simp [msI,lenI] at d1⊢<;> omega
theorem ysI_mono (y:Int) (d:Nat):ysI y+365 * d≤ysI (y+d):=by
 induction d with
 | zero=>simp
 | succ d ih=>
  have:=ysI_next (y+d)
  have hl:=leapI_bd (y+d)
  rw [show y+((d+1:Nat):Int)=y+d+1 by omega]; omega
theorem ysI_lt {y z:Int} (h:y < z):ysI y+365+leapI y≤ysI z:=by
 have:=ysI_mono (y+1) (z - (y+1)).toNat
 have h2:=ysI_next y
 rw [show y+1+((z - (y+1)).toNat:Int)=z by omega] at this
 omega
theorem msI_lt {y:Int} {m k:Nat} (h1:1≤m) (h:m < k) (h2:k≤12):msI y m+lenI y m≤msI y k:=by
 have hl:=leapI_bd y
 rw [←msI_next y m h1 (by omega)]
 obtain ⟨d,rfl⟩:∃d,k=m+1+d:=⟨k - (m+1),by omega⟩
 induction d with
 | zero=>exact Int.le_refl _
 | succ d ih=>
  have:=ih (by omega) (by omega)
  have h3:=msI_next y (m+1+d) (by omega) (by omega)
  have h4:=lenI_bd y ((m+1+d:Nat):Int)
  rw [show m+1+(d+1)=m+1+d+1 by omega,h3]; omega
theorem IsDate.unique {n y z:Int} {m k:Nat} {d e:Int} (h:IsDate n y m d) (g:IsDate n z k e):y=z∧m=k∧d=e:=by
 obtain ⟨_,_,a1,a2,a3,a4,a5⟩:=h
 obtain ⟨_,_,b1,b2,b3,b4,b5⟩:=g
 have u:=msI_bd a1 a2 a3 a4
 have v:=msI_bd b1 b2 b3 b4
 have hyz:y=z:=by
  rcases Int.lt_trichotomy y z with h | h | h
  ·have:=ysI_lt h; omega
  ·exact h
  ·have:=ysI_lt h; omega
 subst hyz
 have hmk:m=k:=by
  rcases Nat.lt_trichotomy m k with h | h | h
  ·have:=msI_lt (y:=y) a1 h b2; omega
  ·exact h
  ·have:=msI_lt (y:=y) b1 h a2; omega
 subst hmk
 exact ⟨rfl,rfl,by omega⟩
/-! ### the program's formula -/
def fN (n:Int):Int:=n+719468
def fO (n:Int):Int:=fN n % 146097
def fK (n:Int):Int:=(fO n - fO n / 1460+fO n / 36524 - fO n / 146096) / 365
def fL (n:Int):Int:=fO n - (fK n * 365+fK n / 4 - fK n / 100)
def fM (n:Int):Int:=(5 * fL n+2) / 153
def fD (n:Int):Int:=fL n - (153 * fM n+2) / 5+1
def fMo (n:Int):Int:=(fM n+2) % 12+1
def fY (n:Int):Int:=fN n / 146097 * 400+fK n+(if fMo n≤2 then 1 else 0)
theorem fK_spec (n:Int):∃k:Nat,k < 400∧fK n=k∧(cst k:Int)≤fO n∧fO n < cen k:=by
 obtain ⟨o,ho⟩:∃o:Nat,fO n=o:=⟨(fO n).toNat,by unfold fO; omega⟩
 have hlt:o < 146097:=by unfold fO at ho; omega
 obtain ⟨k,hk,h1,h2⟩:=cst_find o 399 (by omega) (by simpa [cen] using hlt)
 refine ⟨k,hk,?_,by rw [ho]; omega,by rw [ho]; omega⟩
 have:=cg_at k o hk h1 h2
 unfold fK
 rw [ho]
 unfold cg at this
 omega
theorem fDate (n:Int) (h0:0≤n) (h1:n < 146097):∃m:Nat,fMo n=m∧IsDate n (fY n) m (fD n)∧0≤fK n∧fK n < 400∧0≤fL n∧fL n < 366:=by
 obtain ⟨k,hk,eK,c1,c2⟩:=fK_spec n
 have hera:(fN n / 146097=4∧fO n=n+135080)∨(fN n / 146097=5∧fO n=n - 11017):=by unfold fO fN; omega
 have hcst:(cst k:Int)=365 * k+k / 4 - k / 100:=by unfold cst; omega
 have hcen:(cen k:Int)=if k=399 then 146097 else 365 * (k+1)+((k:Int)+1) / 4 - ((k:Int)+1) / 100:=by
  unfold cen cst; split <;> omega
 have hL:fL n=fO n - (365 * k+(k:Int) / 4 - k / 100):=by unfold fL; rw [eK]; omega
 have hL0:0≤fL n:=by omega
 have hL1:fL n < 366:=by split at hcen <;> omega
 obtain ⟨L,hLL⟩:∃L,fL n=L:=⟨_,rfl⟩
 have hyear:∀e:Int,(e=4∨e=5)→fN n / 146097=e→(fN n / 146097 * 400+fK n)=400 * e+k:=by intro e _ h; rw [h,eK]; omega
 obtain ⟨e,he,hfe,hoe⟩:∃e:Int,(e=4∨e=5)∧fN n / 146097=e∧fO n=n+719468 - 146097 * e:=by
  rcases hera with ⟨a,b⟩ | ⟨a,b⟩
  ·exact ⟨4, .inl rfl,a,by omega⟩
  ·exact ⟨5, .inr rfl,a,by omega⟩
 have hmp:fM n= (5 * L+2) / 153:=by unfold fM; rw [hLL]
 obtain ⟨M,hM⟩:∃M,fM n=M:=⟨_,rfl⟩
 have hMb:0≤M∧M≤11:=by omega
 have hD:fD n=L - (153 * M+2) / 5+1:=by unfold fD; rw [hLL,hM]
 have hMo:fMo n= (M+2) % 12+1:=by unfold fMo; rw [hM]
 have hY:fY n=400 * e+k+(if (M+2) % 12+1≤2 then 1 else 0):=by unfold fY; rw [hMo,hfe,eK]; split <;> omega
 rw [hLL] at hL hL0 hL1
 rw [hM] at hmp
 rw [hoe] at hL c1 c2
 rw [hcst] at c1
 rw [hcen] at c2
 have fin:0≤fK n∧fK n < 400∧0≤fL n∧fL n < 366:=by omega
 refine ⟨((M+2) % 12+1).toNat,by rw [hMo]; omega,?_,fin⟩
 clear fin
 have:M=0∨M=1∨M=2∨M=3∨M=4∨M=5∨M=6∨M=7∨M=8∨M=9∨M=10∨M=11:=by omega
 have hk9:(k:Int)≤399:=by omega
 have hk0:(0:Int)≤k:=by omega
 obtain ⟨K,hK⟩:∃K:Int,(k:Int)=K:=⟨_,rfl⟩
 have hc2:n+719468 - 146097 * e < 365 * (K+1)+(K+1) / 4 - (K+1) / 100+(if K=399 then 1 else 0):=by
  rw [←hK]; split at c2 <;> rename_i h5
  ·subst h5; simp; omega
  ·rw [if_neg (by omega)]; omega
 rw [hK] at c1 hL hY hk9 hk0
 clear c2 hyear hera hcst hcen hfe hoe hLL hM eK hk hK
 have hif:(if K=399 then (1:Int) else 0)=1∧K=399∨(if K=399 then (1:Int) else 0)=0∧K≠399:=by
  by_cases h:K=399
  ·exact .inl ⟨if_pos h,h⟩
  ·exact .inr ⟨if_neg h,h⟩
 obtain ⟨I,hI⟩:∃I,(if K=399 then (1:Int) else 0)=I:=⟨_,rfl⟩
 rw [hI] at hc2 hif
 clear hI
 obtain ⟨Y,hYY⟩:∃Y,400 * e+K=Y:=⟨_,rfl⟩
 have A:Y / 4=100 * e+K / 4∧Y / 100=4 * e+K / 100∧Y / 400=e:=by omega
 have B:(Y+1) / 4=100 * e+(K+1) / 4∧(Y+1) / 100=4 * e+(K+1) / 100∧(Y+1) / 400=e+I:=by omega
 have H1:ysI Y+leapI Y=365 * (Y - 1970)+(100 * e+K / 4) - (4 * e+K / 100)+e - 477:=by
  unfold ysI leapI; rw [A.1,A.2.1,A.2.2]; omega
 have H2:ysI (Y+1)=365 * (Y+1 - 1970)+(100 * e+K / 4) - (4 * e+K / 100)+e - 477:=by
  unfold ysI; rw [show Y+1 - 1=Y by omega,A.1,A.2.1,A.2.2]
 have H3:leapI (Y+1)= (K+1) / 4 - K / 4 - ((K+1) / 100 - K / 100)+I:=by
  unfold leapI; rw [show Y+1 - 1=Y by omega,A.1,A.2.1,A.2.2,B.1,B.2.1,B.2.2]; omega
 have H4:2369≤Y→146097≤ysI (Y+1):=fun h=>by
  have h1:=ysI_mono 2370 (Y+1 - 2370).toNat
  have h2:ysI 2370=146097:=by decide
  rw [show (2370:Int)+((Y+1 - 2370).toNat:Int)=Y+1 by omega] at h1
  omega
 rw [hY,hD,hYY]
 clear hY hD hMo hMb A B
 rcases this with rfl | rfl | rfl | rfl | rfl | rfl | rfl | rfl | rfl | rfl | rfl | rfl
 all_goals
  refine ⟨?_,?_,by decide,by decide,?_,?_,?_⟩ <;> simp [lenI,msI] <;> omega
theorem fDate_year {n:Int} (h0:0≤n) (h1:n < 146097):1970≤fY n∧fY n≤2369∧1≤fMo n∧fMo n≤12∧1≤fD n∧fD n≤lenI (fY n) (fMo n):=by
 obtain ⟨m,e,hd,_⟩:=fDate n h0 h1
 rw [e]
 exact ⟨hd.y0,hd.y1,by have:=hd.m0; omega,by have:=hd.m1; omega,hd.d0,hd.d1⟩
end
section
open Go.RowKit
theorem Floor_pos (a b:Int) (w:World) (ha:0≤a) (hb:1≤b) (ha2:a≤9223372036854775807):Calls Tryz.prog 198 #[.int .i64 a, .int .i64 b] w fun e w'=>e= .returned (.int .i64 (a / b))∧w=w':=by
 have h1:¬b < 1:=by omega
 have h2:¬a % b < 0:=by have:=Int.emod_nonneg a (show b≠0 by omega); omega
 have h3:a / b≤a:=Int.ediv_le_self b ha
 have h4:0≤a / b:=Int.ediv_nonneg ha (by omega)
 go_enter Tryz.func198,Tryz.ntmps198
 go_wp2
 go_ret
 exact ⟨rfl,rfl⟩
theorem RFloor_pos (a b:Int) (w:World) (ha:0≤a) (hb:1≤b) (ha2:a≤9223372036854775807):Calls Tryz.prog 125 #[.int .i64 a, .int .i64 b] w fun e w'=>e= .returned (.int .i64 (a / b))∧w=w':=by
 have h1:¬b < 1:=by omega
 have h2:¬a % b < 0:=by have:=Int.emod_nonneg a (show b≠0 by omega); omega
 have h3:a / b≤a:=Int.ediv_le_self b ha
 have h4:0≤a / b:=Int.ediv_nonneg ha (by omega)
 go_enter Tryz.func125,Tryz.ntmps125
 go_wp2
 go_ret
 exact ⟨rfl,rfl⟩
theorem Mod_pos (a b:Int) (w:World) (ha:0≤a) (hb:1≤b):Calls Tryz.prog 199 #[.int .i64 a, .int .i64 b] w fun e w'=>e= .returned (.int .i64 (a % b))∧w=w':=by
 have h1:¬b < 1:=by omega
 have h2:¬a % b < 0:=by have:=Int.emod_nonneg a (show b≠0 by omega); omega
 go_enter Tryz.func199,Tryz.ntmps199
 go_wp2
 go_ret
 exact ⟨rfl,rfl⟩
theorem RMod_pos (a b:Int) (w:World) (ha:0≤a) (hb:1≤b) (ha2:a≤9223372036854775807):Calls Tryz.prog 126 #[.int .i64 a, .int .i64 b] w fun e w'=>e= .returned (.int .i64 (a % b))∧w=w':=by
 have c1:=hid (RFloor_pos a b w ha hb ha2)
 have h1:¬b < 1:=by omega
 have h3:b * (a / b)≤a:=Int.mul_ediv_self_le (by omega)
 have h4:0≤b * (a / b):=Int.mul_nonneg (by omega) (Int.ediv_nonneg ha (by omega))
 have h5:Hid (a - b * (a / b)=a % b):=by show _ = _; rw [Int.emod_def]
 obtain ⟨q,hq⟩:∃q,a / b=q:=⟨_,rfl⟩
 rw [hq] at c1 h3 h4 h5
 clear hq
 go_enter Tryz.func126,Tryz.ntmps126
 go_wp2_with fail
 refine c1.out.mono ?_
 rintro e w' ⟨rfl,rfl⟩
 go_wp2
 go_ret
 rw [←h5.out]
 exact ⟨rfl,rfl⟩
theorem Leap_any (y:Int) (w:World) (h0:0≤y):Calls Tryz.prog 201 #[.int .i64 y] w fun e w'=>e= .returned (.bool (leapB y))∧w=w':=by
 by_cases h4:y % 4=0
 ·by_cases h100:y % 100=0
  ·by_cases h400:y % 400=0
   ·have hr:Hid (leapB y=true):=decide_eq_true (by omega)
    go_enter Tryz.func201,Tryz.ntmps201
    go_wp2
    go_ret
    exact ⟨by rw [hr.out]; rfl,rfl⟩
   ·have hr:Hid (leapB y=false):=decide_eq_false (by omega)
    have hb:(y % 400 == 0)=false:=by simpa using h400
    go_enter Tryz.func201,Tryz.ntmps201
    go_wp2
    go_ret
    exact ⟨by rw [hr.out]; rfl,rfl⟩
  ·have hr:Hid (leapB y=true):=decide_eq_true (by omega)
   have hb:(y % 100 == 0)=false:=by simpa using h100
   have hb2:(y % 100 != 0)=true:=by simpa using h100
   go_enter Tryz.func201,Tryz.ntmps201
   go_wp2
   go_ret
   exact ⟨by rw [hr.out]; rfl,rfl⟩
 ·have hr:Hid (leapB y=false):=decide_eq_false (by omega)
  have hb:(y % 4 == 0)=false:=by simpa using h4
  go_enter Tryz.func201,Tryz.ntmps201
  go_wp2
  go_ret
  exact ⟨by rw [hr.out]; rfl,rfl⟩
theorem RLeap_any (y:Int) (w:World) (h0:0≤y):Calls Tryz.prog 180 #[.int .i64 y] w fun e w'=>e= .returned (.bool (leapB y))∧w=w':=by
 by_cases h400:y % 400=0
 ·have hr:Hid (leapB y=true):=decide_eq_true (by omega)
  go_enter Tryz.func180,Tryz.ntmps180
  go_wp2
  go_ret
  exact ⟨by rw [hr.out]; rfl,rfl⟩
 ·have hb4:(y % 400 == 0)=false:=by simpa using h400
  by_cases h4:y % 4=0
  ·by_cases h100:y % 100=0
   ·have hr:Hid (leapB y=false):=decide_eq_false (by omega)
    go_enter Tryz.func180,Tryz.ntmps180
    go_wp2
    go_ret
    exact ⟨by rw [hr.out]; rfl,rfl⟩
   ·have hr:Hid (leapB y=true):=decide_eq_true (by omega)
    have hb:(y % 100 == 0)=false:=by simpa using h100
    have hb2:(y % 100 != 0)=true:=by simpa using h100
    go_enter Tryz.func180,Tryz.ntmps180
    go_wp2
    go_ret
    exact ⟨by rw [hr.out]; rfl,rfl⟩
  ·have hr:Hid (leapB y=false):=decide_eq_false (by omega)
   have hb:(y % 4 == 0)=false:=by simpa using h4
   go_enter Tryz.func180,Tryz.ntmps180
   go_wp2
   go_ret
   exact ⟨by rw [hr.out]; rfl,rfl⟩
theorem twelve {m:Int} (h1:1≤m) (h2:m≤12):m=1∨m=2∨m=3∨m=4∨m=5∨m=6∨m=7∨m=8∨m=9∨m=10∨m=11∨m=12:=by omega
set_option maxHeartbeats 1600000 in
theorem Length_any (y m:Int) (w:World) (h0:0≤y) (h1:1≤m) (h2:m≤12):Calls Tryz.prog 171 #[.int .i64 y, .int .i64 m] w fun e w'=>e= .returned (.int .i64 (lenI y m))∧Below w.heap.size w w':=by
 have c1:=hid (fun W=>Leap_any y W h0)
 have hl:=leapB_I y
 rcases twelve h1 h2 with rfl | rfl | rfl | rfl | rfl | rfl | rfl | rfl | rfl | rfl | rfl | rfl
 case inr.inl=>
  clear h0 h1 h2
  rcases hl with ⟨e1,e2⟩ | ⟨e1,e2⟩
  all_goals
   have hr:lenI y 2=28+leapI y:=by simp [lenI]
   rw [e2] at hr
   rw [e1] at c1
   have Hr:=hid hr
   clear e1 e2 hr
   go_enter Tryz.func171,Tryz.ntmps171
   go_wp2_with fail
   refine (c1.out _).mono ?_
   rintro e w' ⟨rfl,rfl⟩
   go_wp2
   go_ret
   exact ⟨by rw [Hr.out]; rfl,below_new (Below.refl _ _) (zG _)⟩
 all_goals
  clear h0 h1 h2 hl
  go_enter Tryz.func171,Tryz.ntmps171
  go_wp2
  go_ret
  exact ⟨by simp [lenI],below_new (Below.refl _ _) (zG _)⟩
set_option maxHeartbeats 1600000 in
theorem RLength_any (y m:Int) (w:World) (h0:0≤y) (h1:1≤m) (h2:m≤12):Calls Tryz.prog 128 #[.int .i64 y, .int .i64 m] w fun e w'=>e= .returned (.int .i64 (lenI y m))∧w=w':=by
 have c1:=hid (fun W=>RLeap_any y W h0)
 have hl:=leapB_I y
 rcases twelve h1 h2 with rfl | rfl | rfl | rfl | rfl | rfl | rfl | rfl | rfl | rfl | rfl | rfl
 case inr.inl=>
  clear h0 h1 h2
  rcases hl with ⟨e1,e2⟩ | ⟨e1,e2⟩
  all_goals
   have hr:lenI y 2=28+leapI y:=by simp [lenI]
   rw [e2] at hr
   rw [e1] at c1
   have Hr:=hid hr
   clear e1 e2 hr
   go_enter Tryz.func128,Tryz.ntmps128
   go_wp2_with fail
   refine (c1.out _).mono ?_
   rintro e w' ⟨rfl,rfl⟩
   go_wp2
   go_ret
   exact ⟨by rw [Hr.out]; rfl,rfl⟩
 all_goals
  clear h0 h1 h2 hl
  go_enter Tryz.func128,Tryz.ntmps128
  go_wp2
  go_ret
  exact ⟨by simp [lenI],rfl⟩
theorem RYear_any (y:Int) (w:World) (h0:0≤y):Calls Tryz.prog 127 #[.int .i64 y] w fun e w'=>e= .returned (.int .i64 (365+leapI y))∧w=w':=by
 have c1:=hid (fun W=>RLeap_any y W h0)
 rcases leapB_I y with ⟨e1,e2⟩ | ⟨e1,e2⟩
 all_goals
  rw [e1] at c1
  rw [e2]
  clear e1 e2
  go_enter Tryz.func127,Tryz.ntmps127
  go_wp2_with fail
  refine (c1.out _).mono ?_
  rintro e w' ⟨rfl,rfl⟩
  go_wp2
  go_ret
  exact ⟨rfl,rfl⟩
theorem CMay_yes (y m d:Int) (w:World) (h0:0≤y) (hy:y≤3000) (h1:1≤m) (h2:m≤12) (h3:1≤d) (h4:d≤lenI y m):Calls Tryz.prog 200 #[.int .i64 y, .int .i64 m, .int .i64 d] w fun e w'=>e= .returned (.bool true)∧Below w.heap.size w w':=by
 have c1:=hid (fun W=>Length_any y m W h0 h1 h2)
 obtain ⟨l,hl⟩:∃l,lenI y m=l:=⟨_,rfl⟩
 rw [hl] at c1 h4
 clear hl
 go_enter Tryz.func200,Tryz.ntmps200
 go_wp2_with fail
 refine (c1.out _).mono ?_
 rintro e w' ⟨rfl,hB⟩
 have HB:=hid hB
 clear hB
 go_wp2
 go_ret
 exact ⟨ret_bool (by first | (simp; done) | (simp; omega)),HB.out⟩
end
end Go.Proofs.YtmjljpdeohbfbaaGreatDoor
