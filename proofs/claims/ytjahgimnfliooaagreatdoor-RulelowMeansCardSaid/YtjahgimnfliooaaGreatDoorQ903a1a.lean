/-
  The law of 'for x := range seq', for a body of which one says which blocks it owns. No condition on the program.
  The law of 'for x := range seq', where a round may know what has not turned since the loop began.
  The function that mask.All makes, told to a client that may ask what has turned.
  A labelled statement's scope in a fenced walk, where no jump by 'goto' leaves it. No condition.
  What tod.held, tod.from, tod.Next and feriaref07.In compute.
  A callback that collects what it is told: it appends to a list in a box, and stops at a number.
  A callback that collects what it is told in a list in a box, and stops at a number that no list reaches.
  ferialaw02.MaskBack answers true for every mask.
  What tod.greatest computes: the last number of a mask; a range over a function.
  The seconds of three lists of hours, minutes and seconds, rising; and that tod.Next's answer is the first one from a second on.
  ferialaw07.lives answers true.
  What feriaref07.Held, tod.Last and tod.Len compute.
  The first second from one on by a search through the list; the last one; how many.
-/
import Derived.Test.YtjahgimnfliooaaGreatDoorQ155bda
import Derived.TacticsInMore
import Derived.LoopNIn
import Derived.LoopIn
import Derived.Scope
import Derived.Test.YtjahgimnfliooaaGreatDoorQe6aba9
import Derived.Test.YtjahgimnfliooaaGreatDoorQe977ed
import Derived.Shelf.Abstract
import Derived.Test.YtjahgimnfliooaaGreatDoorQ4c06b4
import Derived.Deep.RegionHeld3
import Derived.RangeFuncNested
import Derived.RangeFuncLeaves
set_option maxRecDepth 100000
set_option maxHeartbeats 25600000
namespace Go.Proofs.YtjahgimnfliooaaGreatDoor
set_option linter.unusedVariables false
section
open Go.RowKit
abbrev OwnP:=Nat→(Nat→Prop)→World→Prop
structure Grow (O O':Nat→Prop) (W W':World):Prop where
 sub:∀b,O b→O' b
 new:∀b,O' b→O b∨W.heap.size≤b
 eff:Eff O W W'
theorem Grow.refl (O:Nat→Prop) (W:World):Grow O O W W:=⟨fun _ h=>h,fun _ h=> .inl h,Eff.refl O W⟩
theorem Grow.trans {O O' O2:Nat→Prop} {A B C:World} (h:Grow O O' A B) (k:Grow O' O2 B C):Grow O O2 A C:=
 ⟨fun b hb=>k.sub b (h.sub b hb),fun b hb=>by
  rcases k.new b hb with h1 | h1
  ·exact h.new b h1
  ·exact .inr (zI h.eff.size h1),h.eff.trans k.eff h.new⟩
theorem Eff.wide {O O':Nat→Prop} {W W':World} (h:Eff O W W') (hs:∀b,O b→O' b):Eff O' W W':=
 ⟨h.os,h.tape,h.output,h.size,fun k hk hn=>h.block k hk (fun ho=>hn (hs k ho))⟩
theorem Eff.putObj {O:Nat→Prop} {W W':World} (h:Eff O W W') {l:Nat} (hl:O l∨W.heap.size≤l) (o:Obj):Eff O W (W'.putObj l o):=
 ⟨h.os,h.tape,h.output,by rw [World.putObj_size]; exact h.size,fun k hk hn=>(World.putObj_heap_other (fun e=>by subst e; rcases hl with h1 | h1; exact hn h1; omega)).trans (h.block k hk hn)⟩
def ybD (I:OwnP):Prop:=∀k O W W',I k O W→W.heap.size≤W'.heap.size→(∀b,O b→W'.heap[b]? =W.heap[b]?)→I k O W'
def LtO (I:OwnP):Prop:=∀k O W,I k O W→∀b,O b→b < W.heap.size
def yis (I:OwnP) (Ix:Code→OwnP) (k:Nat) (O:Nat→Prop) (W:World):Exit→Act→World→Prop
 | .normal,_,W'=>∃O',Grow O O' W W'∧I (k+1) O' W'
 | .ret,_,W'=>∃O',Grow O O' W W'∧Ix .ret (k+1) O' W'
 | .exit id,_,W'=>∃O',Grow O O' W W'∧Ix (.exit id) (k+1) O' W'
 | .goto t,_,W'=>∃O',Grow O O' W W'∧Ix (.goto t) (k+1) O' W'
 | .panic _,_,_=>False
 | .outgrown,_,_=>False
def RJ (rc:Loop) (l:Nat) (Dk:Option Nat) (I:OwnP):OwnP:=fun k O W=>
 ∃O1:Nat→Prop,(∀b,O b↔O1 b∨b=l∨Dk=some b)∧¬O1 l∧(∀d,Dk=some d→¬O1 d∧d≠l∧W.heap[d]? =some (.deferred (some [])))∧I k O1 W∧W.heap[l]? =some (.loop rc)
theorem RJ.stab {rc:Loop} {l:Nat} {Dk:Option Nat} {I:OwnP} (hI:ybD I):ybD (RJ rc l Dk I):=by
 rintro k O W W' ⟨O1,h1,h2,h3,h4,h5⟩ hs hO
 exact ⟨O1,h1,h2,fun d hd=>⟨(h3 d hd).1,(h3 d hd).2.1,(hO d ((h1 d).mpr (.inr (.inr hd)))).trans (h3 d hd).2.2⟩,hI k O1 W W' h4 hs (fun b hb=>hO b ((h1 b).mpr (.inl hb))),(hO l ((h1 l).mpr (.inr (.inl rfl)))).trans h5⟩
theorem yan {W:World} {b:Nat} {o:Obj} (h:W.heap[b]? =some o):b < W.heap.size:=(Array.getElem?_eq_some_iff.1 h).1
theorem RJ.lt {rc:Loop} {l:Nat} {Dk:Option Nat} {I:OwnP} (hI:LtO I):LtO (RJ rc l Dk I):=by
 rintro k O W ⟨O1,h1,h2,h3,h4,h5⟩ b hb
 rcases (h1 b).mp hb with h | rfl | h
 ·exact hI k O1 W h4 b h
 ·exact yan h5
 ·exact yan (h3 b h).2.2
theorem ydl {r:Option Nat} {m m':Nat} {P:Program} {l:Nat} {f:FuncId} {tmps:Array Value} {assign body:Code} {w:World} {R:Ending→World→Prop}
  (h:RoundIn (WF r) m P l f tmps assign body w R):RoundIn (WF none) m' P l f tmps assign body w R:=⟨trivial,fun c cs _=>h.2 c cs (fun d hd=>by cases hd)⟩
abbrev yag (fn:FuncId) (tmps:Array Value) (ps:Array Tmp) (assign body:Code) (D:Nat) (st:LoopState) (pe:Option Code):Loop:={state:=st,pending:=pe,fn:=fn,tmps:=tmps,params:=ps,assign:=assign,body:=body,defers:=D}
end
section
open Go.RowKit
structure Client2 (P:Program) (y:Value) (xs:List Int) (J Jx:OwnP) (O0:Nat→Prop) (W0:World):Prop where
 form:∃f fi cap,y= .func f fi cap
 stab:ybD J
 stabx:ybD Jx
 lt:LtO J
 ltx:LtO Jx
 call:∀k O W,(hk:k < xs.length)→J k O W→Grow O0 O W0 W→CallV P y #[.int .i64 xs[k]] W fun e W'=>∃O':Nat→Prop,(∀b,O b→O' b)∧(∀b,O' b→O b∨W.heap.size≤b)∧Eff O W W'∧
  ((e= .returned (.bool true)∧J (k+1) O' W')∨(e= .returned (.bool false)∧Jx (k+1) O' W'))
theorem Client.two {P:Program} {y:Value} {xs:List Int} {J Jx:OwnP} (h:Client P y xs J Jx) (hy:∃f fi cap,y= .func f fi cap) (O0:Nat→Prop) (W0:World):Client2 P y xs J Jx O0 W0:=
 ⟨hy,h.stab,h.stabx,h.lt,h.ltx,fun k O W hk hj _=>h.call k O W hk hj⟩
theorem Grow.cell {O O':Nat→Prop} {W W':World} (h:Grow O O' W W') {b:Nat} (hb:b < W.heap.size) (hn:¬O b) (i:Nat):W'.cell? ⟨b,i,none⟩=W.cell? ⟨b,i,none⟩:=h.eff.cell (p:=⟨b,i,none⟩) hb hn
theorem Grow.not {O O':Nat→Prop} {W W':World} (h:Grow O O' W W') {b:Nat} (hb:b < W.heap.size) (hn:¬O b):¬O' b:=fun h1=>by
 rcases h.new b h1 with h2 | h2
 ·exact hn h2
 ·omega
theorem yer {P:Program} {n:Nat} {fn:FuncId} {tmps:Array Value} {ps:Array Tmp} {assign body:Code} {D l:Nat} {Dk:Option Nat} (xs:List Int) (hps:ps.size=1)
  {I:OwnP} {Ix:Code→OwnP} (hI:ybD I) (hIx:∀c,ybD (Ix c)) (hIl:LtO I) (hIxl:∀c,LtO (Ix c)) (A:Nat→(Nat→Prop)→Act→World→Prop) (hA:∀l o k O a' W,(∃r,W.heap[l]? =some (.loop r))→¬O l→A k O a' W→A k O a' (W.putObj l o))
  (Ow O0:Nat→Prop) (w W1:World) (hwl:w.heap.size≤l) (hconv:∀O O1 W,(∀b,O b↔O1 b∨b=l∨Dk=some b)→Grow O0 O W1 W→Grow Ow O1 w W)
  (hassign:∀k O W (K:Act→World→Prop) (hk:k < xs.length),I k O W→Grow Ow O w W→(∀a' O' W',Grow O O' W W'→A k O' a' W'→K a' W')→
    assign.wpIn (WF (some l)) n P (Exit.then K (fun _ _ _=>False)) {tmps:=(ps.zip #[.int .i64 xs[k]]).foldl (fun t (p,v)=>t.setIfInBounds p v) tmps,defers:= []} W)
  (hbody:∀k O a' W,(hk:k < xs.length)→Grow Ow O w W→(∃r,W.heap[l]? =some (.loop r))→¬O l→A k O a' W→body.wpIn (WF (some l)) n P (yis I Ix k O W) a' W) :
  Client2 P (.func (.yield l) #[] #[]) xs (RJ (yag fn tmps ps assign body D .ready none) l Dk I) (fun k O W=>∃c,RJ (yag fn tmps ps assign body D .done (some c)) l Dk (Ix c) k O W) O0 W1 where
 form:=⟨_,_,_,rfl⟩
 stab:=RJ.stab hI
 stabx:=fun k O W W' ⟨c,h⟩ hs hO=>⟨c,RJ.stab (hIx c) k O W W' h hs hO⟩
 lt:=RJ.lt hIl
 ltx:=fun k O W ⟨c,h⟩=>RJ.lt (hIxl c) k O W h
 call:=by
  rintro k O W hk ⟨O1,hO,hnl,hD,hi,hl⟩ hG0
  have hG:=hconv O O1 W hO hG0
  have hlt:=yan hl
  have hy:=run_yield (P:=P) (args:=#[.int .i64 xs[k]]) hl (by simp [hps])
  refine .inr ⟨l,_,_,_,_,rfl,hy,fun m=>ydl (r:=none) (m:=n) (roundIn_of_wpIn trivial ?_)⟩
  clear hy
  refine hassign k O1 W _ hk hi hG ?_
  intro a' O2 Wa hg2 ha
  have hla:=(hg2.eff.block l hlt hnl).trans hl
  have hDa:∀d,Dk=some d→Wa.heap[d]? =some (.deferred (some [])):=fun d hd=>(hg2.eff.block d (yan (hD d hd).2.2) (hD d hd).1).trans (hD d hd).2.2
  have hnew:∀b,b < W.heap.size→¬O1 b→¬O2 b:=fun b hb hn h=>by
   rcases hg2.new b h with h1 | h1
   ·exact hn h1
   ·omega
  have hnl2:=hnew l hlt hnl
  have hsz2:=hg2.eff.size
  refine ⟨_,run_beginRound hla rfl,?_⟩
  obtain ⟨Wb,hWb⟩:∃Wb,Wa.putObj l (.loop (yag fn tmps ps assign body D .busy none))=Wb:=⟨_,rfl⟩
  have hWs:Wb.heap.size=Wa.heap.size:=by rw [←hWb]; exact World.putObj_size
  have hWo:∀b,b≠l→Wb.heap[b]? =Wa.heap[b]?:=fun b hb=>by rw [←hWb]; exact World.putObj_heap_other hb
  have hWl:Wb.heap[l]? =some (.loop (yag fn tmps ps assign body D .busy none)):=by rw [←hWb]; exact World.putObj_heap_same (yan hla)
  have hEb:Eff O W Wb:=by rw [←hWb]; exact (hg2.eff.wide (fun b hb=>(hO b).mpr (.inl hb))).putObj (.inl ((hO l).mpr (.inr (.inl rfl)))) _
  have hGa:=hG.trans hg2
  have hb:=hbody k O2 a' Wb hk ⟨hGa.sub,hGa.new,by rw [←hWb]; exact hGa.eff.putObj (.inr hwl) _⟩ ⟨_,hWl⟩ hnl2 (by rw [←hWb]; exact hA _ _ _ _ _ _ ⟨_,hla⟩ hnl2 ha)
  rw [hWb]
  refine wpIn_mono hb ?_
  have fin:∀(jump:Option Code) (O3:Nat→Prop) (W3:World),Grow O2 O3 Wb W3→∀(X:OwnP),ybD X→X (k+1) O3 W3→∃O':Nat→Prop,(∀b,O b→O' b)∧(∀b,O' b→O b∨W.heap.size≤b)∧
    (Instr.endRound l jump).run P W3= .ok (.bool jump.isNone) (W3.putObj l (.loop (yag fn tmps ps assign body D (if jump.isNone then .ready else .done) jump)))∧Eff O W (W3.putObj l (.loop (yag fn tmps ps assign body D (if jump.isNone then .ready else .done) jump)))∧
    RJ (yag fn tmps ps assign body D (if jump.isNone then .ready else .done) jump) l Dk X (k+1) O' (W3.putObj l (.loop (yag fn tmps ps assign body D (if jump.isNone then .ready else .done) jump))):=fun jump O3 W3 hg3 X hX hx=>by
   have hl3:=(hg3.eff.block l (yan hWl) hnl2).trans hWl
   have hnew3:∀b,b < Wb.heap.size→¬O2 b→¬O3 b:=fun b hb hn h=>by
    rcases hg3.new b h with h1 | h1
    ·exact hn h1
    ·omega
   have hend:=run_endRound (P:=P) jump hl3
   refine ⟨fun b=>O3 b∨b=l∨Dk=some b,fun b hb=>?_,fun b hb=>?_,?_,?_,O3,fun b=>Iff.rfl,hnew3 l (yan hWl) hnl2,fun d hd=>?_,?_,?_⟩
   ·rcases (hO b).mp hb with h | h
    ·exact .inl (hg3.sub b (hg2.sub b h))
    ·exact .inr h
   ·rcases hb with h | h
    ·rcases hg3.new b h with h1 | h1
     ·rcases hg2.new b h1 with h2 | h2
      ·exact .inl ((hO b).mpr (.inl h2))
      ·exact .inr h2
     ·exact .inr (by omega)
    ·exact .inl ((hO b).mpr (.inr h))
   ·exact hend
   ·refine Eff.putObj (hEb.trans (hg3.eff) fun b hb=>?_) (.inl ((hO l).mpr (.inr (.inl rfl)))) _
    rcases hg2.new b hb with h2 | h2
    ·exact .inl ((hO b).mpr (.inl h2))
    ·exact .inr h2
   ·obtain ⟨d1,d2,d3⟩:=hD d hd
    have hd2:=hnew d (yan d3) d1
    have hdb:d < Wb.heap.size:=by have:=yan (hDa d hd); omega
    exact ⟨hnew3 d hdb hd2,d2,(World.putObj_heap_other d2).trans ((hg3.eff.block d hdb hd2).trans ((hWo d d2).trans (hDa d hd)))⟩
   ·exact hX _ _ _ _ hx (by rw [World.putObj_size]; exact zG _) (fun b hb=>World.putObj_heap_other (fun e=>hnew3 l (yan hWl) hnl2 (e ▸ hb)))
   ·exact World.putObj_heap_same (yan hl3)
  rintro e a3 W3 hp
  cases e with
  | normal=>
    obtain ⟨O3,hg3,hi3⟩:=hp
    obtain ⟨O',h1,h2,h3,h4,h5⟩:=fin none O3 W3 hg3 I hI hi3
    exact ⟨_,_,h3,O',h1,h2,h4, .inl ⟨rfl,h5⟩⟩
  | ret=>
    obtain ⟨O3,hg3,hi3⟩:=hp
    obtain ⟨O',h1,h2,h3,h4,h5⟩:=fin (some .ret) O3 W3 hg3 _ (hIx _) hi3
    exact ⟨_,_,h3,O',h1,h2,h4, .inr ⟨rfl,_,h5⟩⟩
  | exit id=>
    obtain ⟨O3,hg3,hi3⟩:=hp
    obtain ⟨O',h1,h2,h3,h4,h5⟩:=fin (some (.exit id)) O3 W3 hg3 _ (hIx _) hi3
    exact ⟨_,_,h3,O',h1,h2,h4, .inr ⟨rfl,_,h5⟩⟩
  | goto t=>
    obtain ⟨O3,hg3,hi3⟩:=hp
    obtain ⟨O',h1,h2,h3,h4,h5⟩:=fin (some (.goto t)) O3 W3 hg3 _ (hIx _) hi3
    exact ⟨_,_,h3,O',h1,h2,h4, .inr ⟨rfl,_,h5⟩⟩
  | panic ch=>exact hp.elim
  | outgrown=>exact hp.elim
def yjn (P:Program) (gf:Nat) (lb:Array Value) (xs:List Int) (Ow:Nat→Prop) (w:World):Prop:=
 ∀(y:Value) (J Jx:OwnP) (O:Nat→Prop) (W:World),(∀b,O b→Ow b∨w.heap.size≤b)→Below w.heap.size w W→Client2 P y xs J Jx O W→J 0 O W→Calls P gf (#[y] ++ lb) W fun e W'=>(∃v,e= .returned v)∧Told xs J Jx O W W'
theorem ybz {P:Program} {n:Nat} {g:Operand} {ps:Array Tmp} {assign body:Code} {Q:Exit→Act→World→Prop} {a:Act} {w:World} {gf:Nat} {lb:Array Value}
  (hg:a.eval g= .func (.func gf) #[] lb) (eg:∀args w,(callFunc gf args).run P w= .ok (.enter gf args) w) (xs:List Int) (Ow:Nat→Prop) (hps:ps.size=1) (hseq:yjn P gf lb xs Ow w)
  (I:OwnP) (Ix:Code→OwnP) (hI:ybD I) (hIx:∀c,ybD (Ix c)) (hIl:LtO I) (hIxl:∀c,LtO (Ix c)) (h0:I 0 Ow w) (A:Nat→(Nat→Prop)→Act→World→Prop) (hA:∀l o k O a' W,(∃r,W.heap[l]? =some (.loop r))→¬O l→A k O a' W→A k O a' (W.putObj l o))
  (hassign:∀l k O W (K:Act→World→Prop) (hk:k < xs.length),I k O W→Grow Ow O w W→(∀a' O' W',Grow O O' W W'→A k O' a' W'→K a' W')→
    assign.wpIn (WF (some l)) n P (Exit.then K (fun _ _ _=>False)) {tmps:=(ps.zip #[.int .i64 xs[k]]).foldl (fun t (p,v)=>t.setIfInBounds p v) a.tmps,defers:= []} W)
  (hbody:∀l k O a' W,(hk:k < xs.length)→Grow Ow O w W→w.heap.size≤l→(∃r,W.heap[l]? =some (.loop r))→¬O l→A k O a' W→body.wpIn (WF (some l)) n P (yis I Ix k O W) a' W)
  (hdone:∀O' W',Grow Ow O' w W'→I xs.length O' W'→W'.heap[w.heap.size]? =some (.deferred (some []))→¬O' w.heap.size→Q .normal {a with defers:={target:= .collected w.heap.size,args:=#[]} :: a.defers} W')
  (hstop:∀c k O' W',1≤k→k≤xs.length→Grow Ow O' w W'→Ix c k O' W'→W'.heap[w.heap.size]? =some (.deferred (some []))→¬O' w.heap.size→
    c.wpIn (WF none) n P Q {a with defers:={target:= .collected w.heap.size,args:=#[]} :: a.defers} W') :
  (Code.rangeFunc g ps assign body).wpIn (WF none) n P Q a w:=by
 refine wpIn_rangeFunc ?_
 intro fn hfn
 obtain ⟨W1,hW1⟩:∃W1,(w.alloc (.deferred (some []))).alloc (.loop (yag fn a.tmps ps assign body w.heap.size .ready none))=W1:=⟨_,rfl⟩
 have hL1:W1.heap[w.heap.size+1]? =some (.loop (yag fn a.tmps ps assign body w.heap.size .ready none)):=by
  rw [←hW1]; have:=World.alloc_heap_new (w.alloc (.deferred (some []))) (.loop (yag fn a.tmps ps assign body w.heap.size .ready none)); rwa [zzN] at this
 have hB1:Below w.heap.size w W1:=by rw [←hW1]; exact ((Below.refl _ w).alloc (zG _) _).alloc (by simp) _
 have hK1:W1.heap[w.heap.size]? =some (.deferred (some [])):=by
  rw [←hW1]; exact (Below.heap_alloc _ _ _ (by simp)).trans (World.alloc_heap_new w _)
 have hlt:=hIl 0 Ow w h0
 have hJ:RJ (yag fn a.tmps ps assign body w.heap.size .ready none) (w.heap.size+1) (some w.heap.size) I 0 (fun b=>Ow b∨b=w.heap.size+1∨some w.heap.size=some b) W1:=
  ⟨Ow,fun b=>Iff.rfl,fun h=>by have:=hlt _ h; omega,fun d hd=>by cases hd; exact ⟨fun h=>by have:=hlt _ h; omega,by omega,hK1⟩,hI 0 Ow w W1 h0 hB1.size (fun b hb=>hB1.block b (hlt b hb)),hL1⟩
 have hlc:=yan hL1
 have hC:=yer (P:=P) (n:=n) (fn:=fn) (tmps:=a.tmps) (D:=w.heap.size) (l:=w.heap.size+1) (Dk:=some w.heap.size) xs hps hI hIx hIl hIxl A hA Ow (fun b=>Ow b∨b=w.heap.size+1∨some w.heap.size=some b) w W1 (by omega) (fun O O1 W hO hG=>⟨fun b hb=>by
   have hb2:=hlt b hb
   rcases (hO b).mp (hG.sub b (.inl hb)) with h | h | h
   ·exact h
   ·omega
   ·cases h; omega,fun b hb=>by
   rcases hG.new b ((hO b).mpr (.inl hb)) with (h | h | h) | h
   ·exact .inl h
   ·exact .inr (by omega)
   ·cases h; exact .inr (by omega)
   ·exact .inr (by have:=hB1.size; omega),(Eff.of_below (O:=Ow) hB1).trans hG.eff fun b hb=>by
   rcases hb with h | h | h
   ·exact .inl h
   ·exact .inr (by omega)
   ·cases h; exact .inr (by omega)⟩) (hassign (w.heap.size+1)) (fun k O a' W hk hG=>hbody (w.heap.size+1) k O a' W hk hG (by omega))
 have hcall:=hseq _ _ _ _ W1 (fun b hb=>by rcases hb with h | h | h; exact .inl h; exact .inr (by omega); exact .inr (by cases h; omega)) hB1 hC hJ
 refine ⟨w.heap.size+1,[{target:= .collected w.heap.size,args:=#[]}],W1,{target:= .fn (.func gf) lb,args:=#[.func (.yield (w.heap.size+1)) #[] #[]]},W1,gf,
  #[.func (.yield (w.heap.size+1)) #[] #[]] ++ lb,W1,?_,?_,fun _ _=>trivial,?_,(fun h=>nomatch h),?_⟩
 ·rw [←hW1]; exact run_enterLoop_outer _ _ _ _ _
 ·simp only [resolve,hg]; simp [go_sem]
 ·simp [invoke,go_sem,eg]
 ·refine wf_calls.mpr (hcall.mono ?_)
  have back:∀(X:OwnP) (k:Nat) (O':Nat→Prop) (W2:World) (st:LoopState) (pe:Option Code),ybD X→st≠ .busy→(∀b,Ow b→O' b)→(∀b,O' b→(Ow b∨b=w.heap.size+1∨some w.heap.size=some b)∨W1.heap.size≤b)→
    Eff (fun b=>Ow b∨b=w.heap.size+1∨some w.heap.size=some b) W1 W2→RJ (yag fn a.tmps ps assign body w.heap.size st pe) (w.heap.size+1) (some w.heap.size) X k O' W2→
    (Instr.endLoop (w.heap.size+1)).run P W2= .ok pe (W2.putObj (w.heap.size+1) (.loop (yag fn a.tmps ps assign body w.heap.size .exhausted pe)))∧∃O2,Grow Ow O2 w (W2.putObj (w.heap.size+1) (.loop (yag fn a.tmps ps assign body w.heap.size .exhausted pe)))∧X k O2 (W2.putObj (w.heap.size+1) (.loop (yag fn a.tmps ps assign body w.heap.size .exhausted pe)))∧
      (W2.putObj (w.heap.size+1) (.loop (yag fn a.tmps ps assign body w.heap.size .exhausted pe))).heap[w.heap.size]? =some (.deferred (some []))∧¬O2 w.heap.size:=by
   rintro X k O' W2 st pe hX hst hsub hnew hE ⟨O1,hO,hnl,hD,hi,hl⟩
   have hr:=run_endLoop (P:=P) hl hst
   refine ⟨hr,O1,⟨fun b hb=>?_,fun b hb=>?_,?_⟩,hX _ _ _ _ hi (by rw [World.putObj_size]; exact zG _) (fun b hb=>World.putObj_heap_other (fun e=>hnl (e ▸ hb))),(World.putObj_heap_other (by omega)).trans (hD _ rfl).2.2,(hD _ rfl).1⟩
   ·have hb2:=hlt b hb
    rcases (hO b).mp (hsub b hb) with h | h | h
    ·exact h
    ·omega
    ·cases h; omega
   ·rcases hnew b ((hO b).mpr (.inl hb)) with (h | h | h) | h
    ·exact .inl h
    ·exact .inr (by omega)
    ·cases h; exact .inr (by omega)
    ·exact .inr (by have:=hB1.size; omega)
   ·refine Eff.putObj ((Eff.of_below (O:=Ow) hB1).trans hE fun b hb=>?_) (.inr (by omega)) _
    rcases hb with h | h | h
    ·exact .inl h
    ·exact .inr (by omega)
    ·cases h; exact .inr (by omega)
  rintro e W2 ⟨⟨v,rfl⟩,O',hsub,hnew,hE,hend⟩
  rcases hend with hj | ⟨k,hk1,hk2,c,hj⟩
  ·obtain ⟨h1,O2,h2,h3,h4,h5⟩:=back I xs.length O' W2 .ready none hI (by simp) (fun b hb=>hsub b (.inl hb)) hnew hE hj
   exact ⟨none,_,h1,hdone O2 _ h2 h3 h4 h5⟩
  ·obtain ⟨h1,O2,h2,h3,h4,h5⟩:=back (Ix c) k O' W2 .done (some c) (hIx c) (by simp) (fun b hb=>hsub b (.inl hb)) hnew hE hj
   exact ⟨some c,_,h1,hstop c k O2 _ hk1 hk2 h2 h3 h4 h5⟩
theorem yeo {P:Program} {n:Nat} {g:Operand} {ps:Array Tmp} {assign body:Code} {Q:Exit→Act→World→Prop} {a:Act} {w:World} {gf:Nat} {lb:Array Value} {l₀:Nat}
  (hl₀:∃r₀,w.heap[l₀]? =some (.loop r₀)) (hg:a.eval g= .func (.func gf) #[] lb) (eg:∀args w,(callFunc gf args).run P w= .ok (.enter gf args) w) (xs:List Int) (Ow:Nat→Prop) (hps:ps.size=1) (hseq:yjn P gf lb xs Ow w)
  (I:OwnP) (Ix:Code→OwnP) (hI:ybD I) (hIx:∀c,ybD (Ix c)) (hIl:LtO I) (hIxl:∀c,LtO (Ix c)) (h0:I 0 Ow w) (A:Nat→(Nat→Prop)→Act→World→Prop) (hA:∀l o k O a' W,(∃r,W.heap[l]? =some (.loop r))→¬O l→A k O a' W→A k O a' (W.putObj l o))
  (hassign:∀l k O W (K:Act→World→Prop) (hk:k < xs.length),I k O W→Grow Ow O w W→(∀a' O' W',Grow O O' W W'→A k O' a' W'→K a' W')→
    assign.wpIn (WF (some l)) n P (Exit.then K (fun _ _ _=>False)) {tmps:=(ps.zip #[.int .i64 xs[k]]).foldl (fun t (p,v)=>t.setIfInBounds p v) a.tmps,defers:= []} W)
  (hbody:∀l k O a' W,(hk:k < xs.length)→Grow Ow O w W→w.heap.size≤l→(∃r,W.heap[l]? =some (.loop r))→¬O l→A k O a' W→body.wpIn (WF (some l)) n P (yis I Ix k O W) a' W)
  (hdone:∀O' W',Grow Ow O' w W'→I xs.length O' W'→Q .normal a W')
  (hstop:∀c k O' W',1≤k→k≤xs.length→Grow Ow O' w W'→Ix c k O' W'→c.wpIn (WF (some l₀)) n P Q a W') :
  (Code.rangeFunc g ps assign body).wpIn (WF (some l₀)) n P Q a w:=by
 refine wpIn_rangeFunc ?_
 intro fn hfn
 obtain ⟨r₀,hr₀⟩:=hl₀
 obtain ⟨W1,hW1⟩:∃W1,w.alloc (.loop (yag fn a.tmps ps assign body r₀.defers .ready none))=W1:=⟨_,rfl⟩
 have hL1:W1.heap[w.heap.size]? =some (.loop (yag fn a.tmps ps assign body r₀.defers .ready none)):=by rw [←hW1]; exact World.alloc_heap_new w _
 have hB1:Below w.heap.size w W1:=by rw [←hW1]; exact (Below.refl _ w).alloc (zG _) _
 have hlt:=hIl 0 Ow w h0
 have hJ:RJ (yag fn a.tmps ps assign body r₀.defers .ready none) w.heap.size none I 0 (fun b=>Ow b∨b=w.heap.size∨none=some b) W1:=
  ⟨Ow,fun b=>Iff.rfl,fun h=>by have:=hlt _ h; omega,fun d hd=>(by cases hd),hI 0 Ow w W1 h0 hB1.size (fun b hb=>hB1.block b (hlt b hb)),hL1⟩
 have hlc:=yan hL1
 have hC:=yer (P:=P) (n:=n) (fn:=fn) (tmps:=a.tmps) (D:=r₀.defers) (l:=w.heap.size) (Dk:=none) xs hps hI hIx hIl hIxl A hA Ow (fun b=>Ow b∨b=w.heap.size∨none=some b) w W1 (zG _) (fun O O1 W hO hG=>⟨fun b hb=>by
   have hb2:=hlt b hb
   rcases (hO b).mp (hG.sub b (.inl hb)) with h | h | h
   ·exact h
   ·omega
   ·exact absurd h (by simp),fun b hb=>by
   rcases hG.new b ((hO b).mpr (.inl hb)) with (h | h | h) | h
   ·exact .inl h
   ·exact .inr (by omega)
   ·cases h
   ·exact .inr (by have:=hB1.size; omega),(Eff.of_below (O:=Ow) hB1).trans hG.eff fun b hb=>by
   rcases hb with h | h | h
   ·exact .inl h
   ·exact .inr (by omega)
   ·exact absurd h (by simp)⟩) (hassign w.heap.size) (fun k O a' W hk hG=>hbody w.heap.size k O a' W hk hG (zG _))
 have hcall:=hseq _ _ _ _ W1 (fun b hb=>by rcases hb with h | h | h; exact .inl h; exact .inr (by omega); cases h) hB1 hC hJ
 refine ⟨w.heap.size,[],W1,{target:= .fn (.func gf) lb,args:=#[.func (.yield w.heap.size) #[] #[]]},W1,gf,
  #[.func (.yield w.heap.size) #[] #[]] ++ lb,W1,?_,?_,fun _ _=>trivial,?_,(fun h=>nomatch h),?_⟩
 ·rw [←hW1]; exact run_enterLoop_inner hr₀ _ _ _ _ _
 ·simp only [resolve,hg]; simp [go_sem]
 ·simp [invoke,go_sem,eg]
 ·refine wf_calls.mpr (hcall.mono ?_)
  have back:∀(X:OwnP) (k:Nat) (O':Nat→Prop) (W2:World) (st:LoopState) (pe:Option Code),ybD X→st≠ .busy→(∀b,Ow b→O' b)→(∀b,O' b→(Ow b∨b=w.heap.size∨none=some b)∨W1.heap.size≤b)→
    Eff (fun b=>Ow b∨b=w.heap.size∨none=some b) W1 W2→RJ (yag fn a.tmps ps assign body r₀.defers st pe) w.heap.size none X k O' W2→
    (Instr.endLoop w.heap.size).run P W2= .ok pe (W2.putObj w.heap.size (.loop (yag fn a.tmps ps assign body r₀.defers .exhausted pe)))∧∃O2,Grow Ow O2 w (W2.putObj w.heap.size (.loop (yag fn a.tmps ps assign body r₀.defers .exhausted pe)))∧X k O2 (W2.putObj w.heap.size (.loop (yag fn a.tmps ps assign body r₀.defers .exhausted pe))):=by
   rintro X k O' W2 st pe hX hst hsub hnew hE ⟨O1,hO,hnl,hD,hi,hl⟩
   have hr:=run_endLoop (P:=P) hl hst
   refine ⟨hr,O1,⟨fun b hb=>?_,fun b hb=>?_,?_⟩,hX _ _ _ _ hi (by rw [World.putObj_size]; exact zG _) (fun b hb=>World.putObj_heap_other (fun e=>hnl (e ▸ hb)))⟩
   ·have hb2:=hlt b hb
    rcases (hO b).mp (hsub b hb) with h | h | h
    ·exact h
    ·omega
    ·cases h
   ·rcases hnew b ((hO b).mpr (.inl hb)) with (h | h | h) | h
    ·exact .inl h
    ·exact .inr (by omega)
    ·cases h
    ·exact .inr (by have:=hB1.size; omega)
   ·refine Eff.putObj ((Eff.of_below (O:=Ow) hB1).trans hE fun b hb=>?_) (.inr (by omega)) _
    rcases hb with h | h | h
    ·exact .inl h
    ·exact .inr (by omega)
    ·cases h
  rintro e W2 ⟨⟨v,rfl⟩,O',hsub,hnew,hE,hend⟩
  rcases hend with hj | ⟨k,hk1,hk2,c,hj⟩
  ·obtain ⟨h1,O2,h2,h3⟩:=back I xs.length O' W2 .ready none hI (by simp) (fun b hb=>hsub b (.inl hb)) hnew hE hj
   exact ⟨none,_,h1,hdone O2 _ h2 h3⟩
  ·obtain ⟨h1,O2,h2,h3⟩:=back (Ix c) k O' W2 .done (some c) (hIx c) (by simp) (fun b hb=>hsub b (.inl hb)) hnew hE hj
   exact ⟨some c,_,h1,hstop c k O2 _ hk1 hk2 h2 h3⟩
end
section
open Go.RowKit
attribute [local go_sem] Oper.semAt_some
theorem ygG (m b:Nat) (y:Value) (J Jx:Nat→(Nat→Prop)→World→Prop) (O:Nat→Prop) (W:World) (hm:m < 18446744073709551616) (hC:Client2 Tryz.prog y (sel m.testBit 64) J Jx O W) (hJ:J 0 O W)
  (hb:b < W.heap.size) (hbO:¬O b) (hbox:W.cell? ⟨b,0,none⟩=some (.int .u64 m)) (hT:Tab W) (hTO:¬O 0) :
  Calls Tryz.prog 198 #[y, .pointer (some ⟨b,0,none⟩)] W fun e W'=>(∃v,e= .returned v)∧Told (sel m.testBit 64) J Jx O W W':=by
 refine (wf_calls (r:=none) (n:=1)).mp ?_
 have HC:=hid hC
 have HT:=hid hT
 have HJ:=hid hJ
 have HO:=hid hbO
 have HTO:=hid hTO
 have hl:=least_at hm
 have cn:=hid (fun k hk=>next_at hm k hk)
 have cb:=hid (fun k hk=>yiP (p:=m.testBit) k hk)
 have cl:=hid (fun k hj hk=>sel_less (p:=m.testBit) k hj hk)
 have c1:=hid (fun W (h:Tab W)=>ydV m W hm h)
 have c2:=hid (fun n W (h:Tab W)=>Next_any m n W hm h)
 rw [hl.1,hl.2] at c1
 obtain ⟨l,hle⟩:∃l,sel m.testBit 64=l:=⟨_,rfl⟩
 rw [hle] at HC c1 cn cb cl⊢
 clear hl hle hC hT hJ hbO hTO
 gi_enter Tryz.func198,Tryz.ntmps198
 gi_wp2_with fail
 refine (wf_calls.mpr (c1.out _ HT.out)).mono ?_
 rintro e w' ⟨rfl,rfl⟩
 gi_wp2_with fail
 gi_loopw [3,4] (fun nv ok wr=>∃(k:Nat) (O':Nat→Prop),nv= .int .i64 (l.getD k 0)∧ok= .bool (decide (k < l.length))∧k≤l.length∧Hid (J k O' wr∧(∀b,O b→O' b)∧(∀b,O' b→O b∨W.heap.size≤b)∧Eff O W wr)) (fun nv ok wr=>twOf ok * (64 - intOf nv).toNat)
 case atStart=>exact ⟨0,O,rfl,rfl,by omega,HJ.out,fun _ h=>h,fun _ h=> .inl h,Eff.refl _ _⟩
 case round=>
  obtain ⟨k,O',rfl,rfl,hk,hI⟩:=hrel
  by_cases hlt:k < l.length
  ·obtain ⟨x,hx⟩:∃x,l[k]=x:=⟨_,rfl⟩
   have hgd:l.getD k 0=x:=by rw [List.getD_eq_getElem?_getD,zzp hlt]; exact hx
   have hok:decide (k < l.length)=true:=by simp [hlt]
   have hbd:=cb.out k hlt
   have hnx:=cn.out k hlt
   have hcall:=HC.out.call k O' wr hlt hI.out.1 ⟨hI.out.2.1,hI.out.2.2.1,hI.out.2.2.2⟩
   rw [hx] at hbd hnx hcall
   have Hnx:=hid hnx
   have Hcall:=hid hcall
   have Hx:=hid hx
   obtain ⟨x1,x2⟩:=hbd
   rw [hgd,hok]
   clear hgd hok hnx hcall hx
   gi_wp2_with (refine callv (.tmp 17) (.tmp 18) _ rfl rfl rfl rfl Hcall.out ?_)
   rintro e W2 O2 hOO hO2 hE hend
   have hE2:Eff O W W2:=hI.out.2.2.2.trans hE hI.out.2.2.1
   have hbox2:=(hE2.cell (p:=⟨b,0,none⟩) hb HO.out).trans hbox
   have hT2:=hid (HT.out.eff hE2 HTO.out)
   have hOs:Hid ((∀b,O b→O2 b)∧(∀b,O2 b→O b∨W.heap.size≤b)∧Eff O W W2):=⟨fun b h=>hOO b (hI.out.2.1 b h),fun b h=>by
    rcases hO2 b h with h1 | h1
    ·exact hI.out.2.2.1 b h1
    ·have:=hI.out.2.2.2.size; exact .inr (by omega),hE2⟩
   clear hOO hO2 hE hE2 hI
   rcases hend with ⟨rfl,hJ2⟩ | ⟨rfl,hJ2⟩
   ·have HJ2:=hid hJ2
    clear hJ2
    refine ⟨_,rfl,?_⟩
    gi_wp2_with fail
    refine (wf_calls.mpr (c2.out x _ hT2.out)).mono ?_
    rintro e w' ⟨rfl,rfl⟩
    rw [Hnx.out.1,Hnx.out.2]
    gi_wp2
    refine ⟨⟨k+1,O2,by rw [List.getD_eq_getElem?_getD],rfl,by omega,HJ2.out,hOs.out.1,hOs.out.2.1,hOs.out.2.2⟩,?_⟩
    by_cases h2:k+1 < l.length
    ·have h3:=cl.out k hlt h2
     rw [Hx.out] at h3
     have h4:=cb.out (k+1) h2
     simp only [h2,decide_true,twOf,intOf,zzp h2,Option.getD_some]
     omega
    ·simp only [h2,decide_false,twOf,intOf]
     omega
   ·have HJ2:=hid hJ2
    clear hJ2
    refine ⟨_,rfl,?_⟩
    gi_wp2
    refine bodyPost_ret (results_none rfl _ _ _) rfl ?_
    exact ⟨⟨_,rfl⟩,O2,hOs.out.1,hOs.out.2.1,hOs.out.2.2, .inr ⟨k+1,by omega,by omega,HJ2.out⟩⟩
  ·have hok:decide (k < l.length)=false:=by simp; omega
   obtain rfl:k=l.length:=by omega
   rw [hok]
   clear hok
   gi_wp2
   go_end0
   exact ⟨⟨_,rfl⟩,O',hI.out.2.1,hI.out.2.2.1,hI.out.2.2.2, .inl hI.out.1⟩
theorem ydn (m b:Nat) (Ow:Nat→Prop) (w:World) (hm:m < 18446744073709551616) (hb:b < w.heap.size) (hbO:¬Ow b) (hbox:w.cell? ⟨b,0,none⟩=some (.int .u64 m)) (hT:Tab w) (hTO:¬Ow 0) :
  yjn Tryz.prog 198 #[.pointer (some ⟨b,0,none⟩)] (sel m.testBit 64) Ow w:=by
 intro y J Jx O W hO hB hC hJ
 exact ygG m b y J Jx O W hm hC hJ (zH hb hB.size) (fun h=>by rcases hO b h with h1 | h1; exact hbO h1; omega) ((hB.cell (p:=⟨b,0,none⟩) hb).trans hbox) (hT.later hB) (fun h=>by rcases hO _ h with h1 | h1; exact hTO h1; have:=hT.1; omega)
end
section
open Go.RowKit
theorem ydX {F:Fence} {n:Nat} {P:Program} {Q:Exit→Act→World→Prop} {a:Act} {w:World} {c:Code} (h:c.wpIn F n P (Exit.noGoto Q) a w):(Code.scope c).wpIn F n P Q a w:=by
 intro b k cs hro hb hr
 have h0:(lone (b.atR a (.code (.scope c) :: k)) cs w).fenced P F:=fenced_calm hb hr rfl
 have s1:step P (lone (b.atR a (.code (.scope c) :: k)) cs w)= .next (lone (b.atR a (.code c :: .inScope c :: k)) cs w):=step_lone_go (by simp [stepG,stepG.exec,Frame.atR])
 obtain ⟨e,a₁,w₁,hq,harr⟩:=h b (.inScope c :: k) cs hro hb hr
 cases e with
 | normal=>exact ⟨.normal,a₁,w₁,hq, .head h0 s1 (StepsIn.trans harr (.one (fenced_calm hb hr rfl) (step_lone_go (by simp [stepG,stepG.exec,Frame.atR]))))⟩
 | exit id=>exact ⟨.exit id,a₁,w₁,hq, .of_steps (.one h0 s1) (show ArrivesIn _ P _ b k cs (.exit id) a₁ w₁ from ⟨fun k' hk=>harr.1 k' (by simpa [exitTo] using hk),fun hr' hk=>harr.2 hr' (by simpa [exitTo] using hk)⟩)⟩
 | goto l=>exact hq.elim
 | ret=>exact ⟨_,a₁,w₁,hq, .of_steps (.one h0 s1) harr⟩
 | panic ch=>exact ⟨_,a₁,w₁,hq, .of_steps (.one h0 s1) harr⟩
 | outgrown=>exact ⟨_,a₁,w₁,hq, .of_steps (.one h0 s1) harr⟩
end
section
open Go.RowKit
def cutM (m:Nat) (t:Int):Nat:=m &&& ybc 0 t 1
theorem yie {m:Nat} (t:Int) (hm:m < 18446744073709551616):cutM m t < 18446744073709551616:=ybk (b:=ybc 0 t 1) hm
theorem yfl (m:Nat) (t:Int) (k:Nat):(cutM m t).testBit k= (m.testBit k && (decide (k < 64) && decide ((k:Int)≤t))):=by
 rw [cutM,Nat.testBit_and,ybc,ybh]
 congr 2
 rw [ydc,zze]
 simp only [zzY]
 omega
theorem Held_any (hs ms ss:Nat) (w:World) (hh:hs < 18446744073709551616) (hm:ms < 18446744073709551616) (hss:ss < 18446744073709551616) :
  Calls Tryz.prog 195 #[.int .u64 hs, .int .u64 ms, .int .u64 ss] w fun e w'=>e= .returned (.tuple #[.int .u64 (cutM hs 23), .int .u64 (cutM ms 59), .int .u64 (cutM ss 59)])∧w=w':=by
 have e1:=hid (yaE hh (yaP (ydc 0 23 1)))
 have e2:=hid (yaE hm (yaP (ydc 0 59 1)))
 have e3:=hid (yaE hss (yaP (ydc 0 59 1)))
 have H1:=hid (ybO 0 23 1 w (by omega) (by omega))
 have H2:=hid (ybO 0 59 1 w (by omega) (by omega))
 go_enter Tryz.func195,Tryz.ntmps195
 go_wp2_with fail
 refine H2.out.mono ?_
 rintro e w' ⟨rfl,rfl⟩
 go_wp2_with fail
 refine H1.out.mono ?_
 rintro e w' ⟨rfl,rfl⟩
 go_wp2
 refine bodyPost_ret (v:= .tuple #[.int .u64 (cutM hs 23), .int .u64 (cutM ms 59), .int .u64 (cutM ss 59)]) ?_ rfl ⟨rfl,rfl⟩
 simp [results,Tryz.results195,go_sem]
 exact ⟨e1.out,e2.out,e3.out⟩
end
section
open Go.RowKit
theorem yaI {w w':World} {base:Nat} {e:TypeId} {s:Nat} {v:Value} {n:Nat} {xs:List Value} (h:w.ownsRow base e s v n xs) (hb:∀b,v.ownBlock=some b→w'.heap[b]? =w.heap[b]?):w'.ownsRow base e s v n xs:=by
 refine ⟨h.1,?_⟩
 rcases h.2 with h | ⟨g,cap,cur,rfl,hg,hc,r⟩
 ·exact .inl h
 ·exact .inr ⟨g,cap,cur,rfl,hg,(hb g rfl).trans hc,r⟩
theorem yaX {w:World} {base:Nat} {e:TypeId} {s:Nat} {v:Value} {n:Nat} {xs:List Value} (h:w.ownsRow base e s v n xs) {b:Nat} (hv:v.ownBlock=some b):base≤b∧b < w.heap.size:=by
 rcases h.2 with ⟨rfl,_⟩ | ⟨g,cap,cur,rfl,hg,hc,r⟩
 ·cases hv
 ·obtain rfl:g=b:=by simpa [Value.ownBlock] using hv
  exact ⟨hg,(Array.getElem?_eq_some_iff.1 hc).1⟩
def CollJ (bg bm base:Nat) (mv:Value) (xs:List Int) (k:Nat) (O:Nat→Prop) (W:World):Prop:=
 ∃v,W.cell? ⟨bg,0,none⟩=some v∧W.cell? ⟨bm,0,none⟩=some mv∧W.ownsRow base 3 1 v k (ints (xs.take k))∧W.frozen? ⟨bg,0,none⟩=false∧bg < base∧bm < base∧bg≠bm∧base≤W.heap.size∧
  O bg∧O bm∧(∀b,v.ownBlock=some b→O b)∧(∀b,O b→b < W.heap.size)
theorem CollJ.stab {bg bm base:Nat} {mv:Value} {xs:List Int} {k:Nat} {O:Nat→Prop} {W W':World} (h:CollJ bg bm base mv xs k O W) (hs:W.heap.size≤W'.heap.size) (hO:∀b,O b→W'.heap[b]? =W.heap[b]?):CollJ bg bm base mv xs k O W':=by
 obtain ⟨v,h1,h2,h3,h4,h5,h6,h7,h8,g1,g2,g3,g4⟩:=h
 exact ⟨v,(zzJ (w:=W) (a:=⟨bg,0,none⟩) (hO bg g1)).trans h1,(zzJ (w:=W) (a:=⟨bm,0,none⟩) (hO bm g2)).trans h2,yaI h3 (fun b hb=>hO b (g3 b hb)),
  (zzM (w:=W) (a:=⟨bg,0,none⟩) (hO bg g1)).trans h4,h5,h6,h7,by omega,g1,g2,g3,fun b hb=>by have:=g4 b hb; omega⟩
theorem CollJ.lt {bg bm base:Nat} {mv:Value} {xs:List Int} {k:Nat} {O:Nat→Prop} {W:World} (h:CollJ bg bm base mv xs k O W):∀b,O b→b < W.heap.size:=by
 obtain ⟨v,h1,h2,h3,h4,h5,h6,h7,h8,g1,g2,g3,g4⟩:=h
 exact g4
end
section
open Go.RowKit
def CollK (bg base:Nat) (xs:List Int) (k:Nat) (O:Nat→Prop) (W:World):Prop:=
 ∃v,W.cell? ⟨bg,0,none⟩=some v∧W.ownsRow base 3 1 v k (ints (xs.take k))∧W.frozen? ⟨bg,0,none⟩=false∧bg < base∧base≤W.heap.size∧
  O bg∧(∀b,v.ownBlock=some b→O b)∧(∀b,O b→b < W.heap.size)
theorem CollK.stab {bg base:Nat} {xs:List Int} {k:Nat} {O:Nat→Prop} {W W':World} (h:CollK bg base xs k O W) (hs:W.heap.size≤W'.heap.size) (hO:∀b,O b→W'.heap[b]? =W.heap[b]?):CollK bg base xs k O W':=by
 obtain ⟨v,h1,h3,h4,h5,h8,g1,g3,g4⟩:=h
 exact ⟨v,(zzJ (w:=W) (a:=⟨bg,0,none⟩) (hO bg g1)).trans h1,yaI h3 (fun b hb=>hO b (g3 b hb)),
  (zzM (w:=W) (a:=⟨bg,0,none⟩) (hO bg g1)).trans h4,h5,by omega,g1,g3,fun b hb=>by have:=g4 b hb; omega⟩
theorem CollK.lt {bg base:Nat} {xs:List Int} {k:Nat} {O:Nat→Prop} {W:World} (h:CollK bg base xs k O W):∀b,O b→b < W.heap.size:=by
 obtain ⟨v,h1,h3,h4,h5,h8,g1,g3,g4⟩:=h
 exact g4
end
section
open Go.RowKit
theorem andM_one {m:Nat} (hm:m < 18446744073709551616):andM [m]=m:=by
 show 18446744073709551615 &&& m=m
 rw [Nat.and_comm]
 exact Nat.and_two_pow_sub_one_of_lt_two_pow (n:=64) hm
abbrev BkS (w:World) (bg:Nat) (a:Option Addr) (cap:Nat) (xs:List Int) (W:World):Prop:=
 W.cell? ⟨bg,0,none⟩=some (.slice a xs.length cap)∧Sl W a (ints xs)∧Below w.heap.size w W∧bg < W.heap.size
theorem BkS.keep {w W W':World} {bg:Nat} {a:Option Addr} {cap:Nat} {xs:List Int} (h:BkS w bg a cap xs W) (hb:Below W.heap.size W W'):BkS w bg a cap xs W':=by
 obtain ⟨h1,h2,h3,h4⟩:=h
 exact ⟨(hb.cell (p:=⟨bg,0,none⟩) h4).trans h1,h2.below hb,h3.trans (hb.mono h3.size),zH h4 hb.size⟩
end
section
open Go.RowKit
attribute [local go_sem] Oper.semAt_some
theorem ydo:∀args w,(callFunc 198 args).run Tryz.prog w= .ok (.enter 198 args) w:=Go.Proofs.enters_of Tryz.func198 (by kernel_rfl) rfl
theorem yb4 {B:Nat} {A W:World} (h:Below B A W) {l:Nat} (hl:B≤l) (o:Obj):Below B A (W.putObj l o):=
 ⟨h.os,h.tape,h.output,by rw [World.putObj_size]; exact h.size,fun k hk=>(World.putObj_heap_other (by omega)).trans (h.block k hk)⟩
end
section
open Go.RowKit
def ycx (h m:Int) (S:List Int):List Int:=S.map (fun s=>3600 * h+60 * m+s)
def yaG (h:Int) (M S:List Int):List Int:=M.flatMap (fun m=>ycx h m S)
def secs (H M S:List Int):List Int:=H.flatMap (fun h=>yaG h M S)
theorem mem_secs {H M S:List Int} {x:Int}:x∈secs H M S↔∃h m s,h∈H∧m∈M∧s∈S∧x=3600 * h+60 * m+s:=by
 simp only [secs,yaG,ycx,List.mem_flatMap,List.mem_map]
 constructor
 ·rintro ⟨h,hh,m,hm,s,hs,rfl⟩; exact ⟨h,m,s,hh,hm,hs,rfl⟩
 ·rintro ⟨h,m,s,hh,hm,hs,rfl⟩; exact ⟨h,hh,m,hm,s,hs,rfl⟩
theorem yc1 (h m:Int) (S:List Int):(ycx h m S).length=S.length:=by simp [ycx]
theorem ycr (h:Int) (M S:List Int):(yaG h M S).length=M.length * S.length:=by
 induction M with
 | nil=>simp [yaG]
 | cons m M ih=>
   have:yaG h (m :: M) S=ycx h m S ++ yaG h M S:=by simp [yaG]
   rw [this,List.length_append,ih,yc1,List.length_cons,Nat.succ_mul]; omega
theorem secs_len (H M S:List Int):(secs H M S).length=H.length * (M.length * S.length):=by
 induction H with
 | nil=>simp [secs]
 | cons h H ih=>
   have:secs (h :: H) M S=yaG h M S ++ secs H M S:=by simp [secs]
   rw [this,List.length_append,ih,ycr,List.length_cons,Nat.succ_mul]; omega
theorem yhT {H M S:List Int} (hH:H.Pairwise (·< ·)) (hM:M.Pairwise (·< ·)) (hS:S.Pairwise (·< ·)) (bM:∀m∈M,0≤m∧m≤59) (bS:∀s∈S,0≤s∧s≤59):(secs H M S).Pairwise (·< ·):=by
 have row:∀h m,(ycx h m S).Pairwise (·< ·):=fun h m=>List.pairwise_map.mpr (hS.imp (fun {a b} hab=>by omega))
 have inRow:∀h m x,x∈ycx h m S→3600 * h+60 * m≤x∧x < 3600 * h+60 * m+60:=fun h m x hx=>by
  obtain ⟨s,hs,rfl⟩:=List.mem_map.mp hx
  have:=bS s hs
  omega
 have hour:∀h (M':List Int),M'.Pairwise (·< ·)→(yaG h M' S).Pairwise (·< ·):=fun h M' hM'=>by
  induction M' with
  | nil=>simp [yaG]
  | cons m M' ih=>
    have e:yaG h (m :: M') S=ycx h m S ++ yaG h M' S:=by simp [yaG]
    rw [e,List.pairwise_append]
    rw [List.pairwise_cons] at hM'
    refine ⟨row h m,ih hM'.2,fun x hx y hy=>?_⟩
    obtain ⟨m2,hm2,hy⟩:=List.mem_flatMap.mp hy
    have h1:=inRow h m x hx
    have h2:=inRow h m2 y hy
    have:=hM'.1 m2 hm2
    omega
 have inHour:∀h x,x∈yaG h M S→3600 * h≤x∧x < 3600 * h+3600:=fun h x hx=>by
  obtain ⟨m,hm,hx⟩:=List.mem_flatMap.mp hx
  have h1:=inRow h m x hx
  have:=bM m hm
  omega
 induction H with
 | nil=>simp [secs]
 | cons h H ih=>
   have e:secs (h :: H) M S=yaG h M S ++ secs H M S:=by simp [secs]
   rw [e,List.pairwise_append]
   rw [List.pairwise_cons] at hH
   refine ⟨hour h M hM,ih hH.2,fun x hx y hy=>?_⟩
   obtain ⟨h2,hh2,hy⟩:=List.mem_flatMap.mp hy
   have h1:=inHour h x hx
   have h3:=inHour h2 y hy
   have:=hH.1 h2 hh2
   omega
theorem yh7 {m:Nat} {x:Int}:x∈sel m.testBit 64↔∃k:Nat,k < 64∧m.testBit k=true∧x= (k:Int):=sel_mem
theorem hasB_spec {m:Nat} {n:Int} (hm:m < 18446744073709551616):hasB m n=true↔n∈sel m.testBit 64:=by
 rw [yh7]
 simp only [hasB,zzX,zzY]
 constructor
 ·rintro ⟨h1,h2⟩
  refine ⟨n.toNat,?_,h2,by omega⟩
  rcases Nat.lt_or_ge n.toNat 64 with h | h
  ·exact h
  ·rw [ydB hm h] at h2; cases h2
 ·rintro ⟨k,_,hb,rfl⟩
  exact ⟨by omega,by simpa using hb⟩
end
section
open Go.RowKit
end
section
open Go.RowKit
end
section
open Go.RowKit
theorem ycc (m:Nat) (t:Nat) {x:Int} (hx:x∈sel (cutM m t).testBit 64):0≤x∧x≤t:=by
 obtain ⟨k,hk,hb,rfl⟩:=sel_mem.mp hx
 rw [yfl] at hb
 simp at hb
 omega
def ybt (hs ms ss:Nat):List Int:=secs (sel (cutM hs 23).testBit 64) (sel (cutM ms 59).testBit 64) (sel (cutM ss 59).testBit 64)
theorem yf9 (hs ms ss:Nat):(ybt hs ms ss).Pairwise (·< ·):=
 yhT (yaH _ 64) (yaH _ 64) (yaH _ 64) (fun x hx=>ycc ms 59 hx) (fun x hx=>ycc ss 59 hx)
end
end Go.Proofs.YtjahgimnfliooaaGreatDoor
