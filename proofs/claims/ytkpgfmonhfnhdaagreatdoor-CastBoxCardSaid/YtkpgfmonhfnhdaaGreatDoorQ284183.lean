/-
  The law of a range over a function that has a state of its own, once more: the teller's blocks do not hold the loop's.
  seek.All's function, walked: it tells the instants of a set, from one to another one.
  seek.Next and seek.First.
  tally.counter (and its function) and tally.part.
  Keys that are two pointers: what meet.asked keeps.
  pulse.inners: the beats of discs, and those that are known again.
  cast.fresh: whether a disc is one that was not asked for yet.
  pulse.outer: which day, week, month and year a day is.
  What the beats of a clause's instants are, day by day (plain).
  pulse.inners, pulse.alone: the beats of one clause's instants.
-/
import Derived.Test.YtkpgfmonhfnhdaaGreatDoorQ13a173
import Derived.Test.YtkpgfmonhfnhdaaGreatDoorQb0eb1f
import Derived.Test.YtkpgfmonhfnhdaaGreatDoorQ5c72f1
import Derived.BigRegion
import Derived.Test.YtkpgfmonhfnhdaaGreatDoorQ79096b
import Derived.LaidEql
import Derived.Laws.EntriesVeiled
import Derived.Test.YtkpgfmonhfnhdaaGreatDoorQ06a435
import Derived.Test.YtkpgfmonhfnhdaaGreatDoorQ8f2e80
import Derived.Deep.Cut
import Derived.Test.YtkpgfmonhfnhdaaGreatDoorQ7ac251
import Derived.Test.YtkpgfmonhfnhdaaGreatDoorQ239293
import Derived.Test.YtkpgfmonhfnhdaaGreatDoorQf49d9a
set_option maxRecDepth 100000
set_option maxHeartbeats 25600000
namespace Go.Proofs.YtkpgfmonhfnhdaaGreatDoor
set_option linter.unusedVariables false
section
open Go.RowKit
theorem ydX {P:Program} {m:Nat} {g:Operand} {ps:Array Tmp} {assign body:Code} {Q:Exit→Act→World→Prop} {a:Act} {w:World} {gf:Nat} {lb:Array Value} {n:Nat} {V:Nat→Array Value→Blk→World→Prop} {H HN HS:Blk→World→Prop} {M F:Blk}
  (hg:a.eval g= .func (.func gf) #[] lb) (eg:∀args w,(callFunc gf args).run P w= .ok (.enter gf args) w) (Ow:Blk) (hps:∀k vs F W,V k vs F W→vs.size=ps.size) (hseq:TellsH P gf lb n V H HN HS M) (hH:HostOk H M) (hN:HostOk HN M) (hS:HostOk HS M) (hF:H F w) (hFO:∀b,F b→¬Ow b)
  (I:OwnF) (Ix:Code→OwnF) (hI:StabF M I) (hIx:∀c,StabF M (Ix c)) (hIl:LtF I) (hIxl:∀c,LtF (Ix c)) (h0:I 0 Ow F w)
  (A:Nat→Blk→Blk→Act→World→Prop) (hA:∀l o k O F a' W,(∃r,W.heap[l]? =some (.loop r))→¬O l→¬F l→A k O F a' W→A k O F a' (W.putObj l o))
  (hassign:∀l k O F W vs (K:Act→World→Prop),k < n→I k O F W→(∀b,F b→¬O b∧b≠l)→V k vs F W→GrowM M Ow O w W→(∀a' O' W',Grow O O' W W'→A k O' F a' W'→K a' W')→
    assign.wpIn (WF (some l)) m P (Exit.then K (fun _ _ _=>False)) {tmps:=(ps.zip vs).foldl (fun t (p,v)=>t.setIfInBounds p v) a.tmps,defers:= []} W)
  (hbody:∀l k O F a' W,k < n→GrowM M Ow O w W→w.heap.size≤l→(∃r,W.heap[l]? =some (.loop r))→¬O l→¬F l→A k O F a' W→body.wpIn (WF (some l)) m P (yhG (atF I F) (fun c=>atF (Ix c) F) k O W) a' W)
  (hdone:∀O' F' W',GrowM M Ow O' w W'→HN F' W'→(∀b,F b→F' b)→(∀b,F' b→F b∨w.heap.size≤b)→(∀b,F' b→¬O' b)→I n O' F' W'→W'.heap[w.heap.size]? =some (.deferred (some []))→¬O' w.heap.size→¬F' w.heap.size→Q .normal {a with defers:={target:= .collected w.heap.size,args:=#[]} :: a.defers} W')
  (hstop:∀c k O' F' W',1≤k→k≤n→GrowM M Ow O' w W'→HS F' W'→(∀b,F b→F' b)→(∀b,F' b→F b∨w.heap.size≤b)→(∀b,F' b→¬O' b)→Ix c k O' F' W'→W'.heap[w.heap.size]? =some (.deferred (some []))→¬O' w.heap.size→¬F' w.heap.size→
    c.wpIn (WF none) m P Q {a with defers:={target:= .collected w.heap.size,args:=#[]} :: a.defers} W') :
  (Code.rangeFunc g ps assign body).wpIn (WF none) m P Q a w:=by
 refine wpIn_rangeFunc ?_
 intro fn hfn
 obtain ⟨W1,hW1⟩:∃W1,(w.alloc (.deferred (some []))).alloc (.loop (yag fn a.tmps ps assign body w.heap.size .ready none))=W1:=⟨_,rfl⟩
 have hL1:W1.heap[w.heap.size+1]? =some (.loop (yag fn a.tmps ps assign body w.heap.size .ready none)):=by
  rw [←hW1]; have:=World.alloc_heap_new (w.alloc (.deferred (some []))) (.loop (yag fn a.tmps ps assign body w.heap.size .ready none)); rwa [zzN] at this
 have hB1:Below w.heap.size w W1:=by rw [←hW1]; exact ((Below.refl _ w).alloc (zG _) _).alloc (by simp) _
 have hK1:W1.heap[w.heap.size]? =some (.deferred (some [])):=by
  rw [←hW1]; exact (Below.heap_alloc _ _ _ (by simp)).trans (World.alloc_heap_new w _)
 have hlt:=hIl 0 Ow F w h0
 have hFlt:=hH.lt F w hF
 have hF1:H F W1:=hH.stab F w W1 hF hB1.size (fun b hb=>hB1.block b (hFlt b hb))
 have hMlt:∀b,M b→b < w.heap.size:=fun b hb=>hFlt b (hH.sub F w hF b hb)
 have hJ:RJF (yag fn a.tmps ps assign body w.heap.size .ready none) (w.heap.size+1) (some w.heap.size) I 0 (fun b=>Ow b∨b=w.heap.size+1∨some w.heap.size=some b) F W1:=
  ⟨Ow,fun b=>Iff.rfl,fun h=>by have:=hlt _ h; omega,fun d hd=>by cases hd; exact ⟨fun h=>by have:=hlt _ h; omega,by omega,hK1⟩,hI 0 Ow F F w W1 h0 hB1.size (fun _ h=>h) (fun b hb=>hB1.block b (hb.elim (hlt b) (fun h=>hFlt b h.1))),hL1⟩
 have hlc:=yah hL1
 have hC:=ygt (P:=P) (m:=m) (fn:=fn) (tmps:=a.tmps) (D:=w.heap.size) (l:=w.heap.size+1) (Dk:=some w.heap.size) (n:=n) (V:=V) (M:=M) hps hI hIx hIl hIxl A hA Ow (fun b=>Ow b∨b=w.heap.size+1∨some w.heap.size=some b) w W1 (by omega) (fun O O1 W hO hG=>⟨fun b hb=>by
   have hb2:=hlt b hb
   rcases (hO b).mp (hG.sub b (.inl hb)) with h | h | h
   ·exact h
   ·omega
   ·cases h; omega,fun b hb=>by
   rcases hG.new b ((hO b).mpr (.inl hb)) with (h | h | h) | h
   ·exact .inl h
   ·exact .inr (by omega)
   ·cases h; exact .inr (by omega)
   ·exact .inr (by have:=hB1.size; omega),(Eff.of_below (O:=fun b=>Ow b∨M b) hB1).trans hG.eff fun b hb=>by
   rcases hb with (h | h | h) | h
   ·exact .inl (.inl h)
   ·exact .inr (by omega)
   ·cases h; exact .inr (by omega)
   ·exact .inl (.inr h)⟩) (hassign (w.heap.size+1)) (fun k O F a' W hk hG=>hbody (w.heap.size+1) k O F a' W hk hG (by omega))
 have hcall:=hseq _ _ _ _ F W1 hF1 (fun b hb h=>by
  have:=hFlt b hb
  rcases h with h | h | h
  ·exact hFO b hb h
  ·omega
  ·cases h; omega) hC hJ
 refine ⟨w.heap.size+1,[{target:= .collected w.heap.size,args:=#[]}],W1,{target:= .fn (.func gf) lb,args:=#[.func (.yield (w.heap.size+1)) #[] #[]]},W1,gf,
  #[.func (.yield (w.heap.size+1)) #[] #[]] ++ lb,W1,?_,?_,fun _ _=>trivial,?_,(fun h=>nomatch h),?_⟩
 ·rw [←hW1]; exact run_enterLoop_outer _ _ _ _ _
 ·simp only [resolve,hg]; simp [go_sem]
 ·simp [invoke,go_sem,eg]
 ·refine wf_calls.mpr (hcall.mono ?_)
  have back:∀(X:OwnF) (H2:Blk→World→Prop) (k:Nat) (O' F':Nat→Prop) (W2:World) (st:LoopState) (pe:Option Code),StabF M X→HostOk H2 M→st≠ .busy→GrowM M (fun b=>Ow b∨b=w.heap.size+1∨some w.heap.size=some b) O' W1 W2→
    H2 F' W2→(∀b,F' b→¬O' b)→RJF (yag fn a.tmps ps assign body w.heap.size st pe) (w.heap.size+1) (some w.heap.size) X k O' F' W2→
    (Instr.endLoop (w.heap.size+1)).run P W2= .ok pe (W2.putObj (w.heap.size+1) (.loop (yag fn a.tmps ps assign body w.heap.size .exhausted pe)))∧∃O2,GrowM M Ow O2 w (W2.putObj (w.heap.size+1) (.loop (yag fn a.tmps ps assign body w.heap.size .exhausted pe)))∧
      H2 F' (W2.putObj (w.heap.size+1) (.loop (yag fn a.tmps ps assign body w.heap.size .exhausted pe)))∧(∀b,F' b→¬O2 b)∧X k O2 F' (W2.putObj (w.heap.size+1) (.loop (yag fn a.tmps ps assign body w.heap.size .exhausted pe)))∧
      (W2.putObj (w.heap.size+1) (.loop (yag fn a.tmps ps assign body w.heap.size .exhausted pe))).heap[w.heap.size]? =some (.deferred (some []))∧¬O2 w.heap.size:=by
   rintro X H2 k O' F' W2 st pe hX hH2 hst hGM hF2 hFO2 ⟨O1,hO,hnl,hD,hi,hl⟩
   have hr:=run_endLoop (P:=P) hl hst
   have hO1:∀b,O1 b→O' b:=fun b hb=>(hO b).mpr (.inl hb)
   have hOl:O' (w.heap.size+1):=(hO _).mpr (.inr (.inl rfl))
   refine ⟨hr,O1,⟨fun b hb=>?_,fun b hb=>?_,?_⟩,hH2.stab F' W2 _ hF2 (by rw [World.putObj_size]; exact zG _) (fun b hb=>World.putObj_heap_other (fun e=>hFO2 b hb (e ▸ hOl))),fun b hb h=>hFO2 b hb (hO1 b h),hX _ _ _ _ _ _ hi (by rw [World.putObj_size]; exact zG _) (fun _ h=>h) (fun b hb=>World.putObj_heap_other (fun e=>by
     rcases hb with hb | hb
     ·exact hnl (e ▸ hb)
     ·exact hFO2 b hb.1 (e ▸ hOl))),(World.putObj_heap_other (by omega)).trans (hD _ rfl).2.2,(hD _ rfl).1⟩
   ·have hb2:=hlt b hb
    rcases (hO b).mp (hGM.sub b (.inl hb)) with h | h | h
    ·exact h
    ·omega
    ·cases h; omega
   ·rcases hGM.new b ((hO b).mpr (.inl hb)) with (h | h | h) | h
    ·exact .inl h
    ·exact .inr (by omega)
    ·cases h; exact .inr (by omega)
    ·exact .inr (by have:=hB1.size; omega)
   ·refine Eff.putObj ((Eff.of_below (O:=fun b=>Ow b∨M b) hB1).trans hGM.eff fun b hb=>?_) (.inr (by omega)) _
    rcases hb with (h | h | h) | h
    ·exact .inl (.inl h)
    ·exact .inr (by omega)
    ·cases h; exact .inr (by omega)
    ·exact .inl (.inr h)
  rintro e W2 ⟨⟨v,rfl⟩,O',F',hGM,hFs,hFn,hFO2,hend⟩
  have hFn2:∀b,F' b→F b∨w.heap.size≤b:=fun b hb=>by
   rcases hFn b hb with h | h
   ·exact .inl h
   ·exact .inr (by have:=hB1.size; omega)
  have nFD:¬F' w.heap.size:=fun h=>hFO2 _ h (hGM.sub _ (.inr (.inr rfl)))
  rcases hend with ⟨hF2,hj⟩ | ⟨hF2,k,hk1,hk2,c,hj⟩
  ·obtain ⟨h1,O2,h2,h3,h4,h5,h6,h7⟩:=back I HN n O' F' W2 .ready none hI hN (by simp) hGM hF2 hFO2 hj
   exact ⟨none,_,h1,hdone O2 F' _ h2 h3 hFs hFn2 h4 h5 h6 h7 nFD⟩
  ·obtain ⟨h1,O2,h2,h3,h4,h5,h6,h7⟩:=back (Ix c) HS k O' F' W2 .done (some c) (hIx c) hS (by simp) hGM hF2 hFO2 hj
   exact ⟨some c,_,h1,hstop c k O2 F' _ hk1 hk2 h2 h3 hFs hFn2 h4 h5 h6 h7 nFD⟩
end
section
open Go.RowKit Go.Maps
attribute [local go_sem] Oper.semAt_some
structure BxF (M:Blk) (xf xu:Nat) (f u:Int) (F:Blk) (W:World):Prop where
 inf:F xf∧¬M xf
 inu:F xu∧¬M xu
 cf:W.cell? ⟨xf,0,none⟩=some (.int .i64 f)
 cu:W.cell? ⟨xu,0,none⟩=some (.int .i64 u)
theorem BxF.keep {M:Blk} {xf xu:Nat} {f u:Int} {F F':Blk} {W W':World} (h:BxF M xf xu f u F W) (hF:∀b,F b→F' b) (hb:∀b,F b∧¬M b→W'.heap[b]? =W.heap[b]?):BxF M xf xu f u F' W':=
 ⟨⟨hF _ h.inf.1,h.inf.2⟩,⟨hF _ h.inu.1,h.inu.2⟩,(zzJ (w:=W) (a:=⟨xf,0,none⟩) (hb _ h.inf)).trans h.cf,(zzJ (w:=W) (a:=⟨xu,0,none⟩) (hb _ h.inu)).trans h.cu⟩
structure HSk (cs:List Cl) (br bk:Nat) (bps:List Nat) (xe xf xu xr:Nat) (f u:Int) (Inv:(Nat→Bool)→Nat→Prop) (F:Blk) (W:World):Prop where
 roll:∃ws m,RollS W cs br bk bps F ws m∧Inv ws m
 bx:BxF (RM br bk bps) xf xu f u F W
 ine:F xe∧¬RM br bk bps xe
 inr:F xr∧¬RM br bk bps xr
 ce:W.cell? ⟨xe,0,none⟩=some (.int .i64 0)
 cr:W.cell? ⟨xr,0,none⟩=some (.pointer (some ⟨br,0,none⟩))
section
variable {cs:List Cl} {br bk:Nat} {bps:List Nat} {xe xf xu xr:Nat} {f u:Int} {Inv Inv':(Nat→Bool)→Nat→Prop} {F F':Blk} {W W':World}
theorem HSk.keep (h:HSk cs br bk bps xe xf xu xr f u Inv F W) (hs:W.heap.size≤W'.heap.size) (hb:∀b,F b→W'.heap[b]? =W.heap[b]?):HSk cs br bk bps xe xf xu xr f u Inv F W':=by
 obtain ⟨ws,m,h1,h2⟩:=h.roll
 exact ⟨⟨ws,m,h1.keep hs hb,h2⟩,h.bx.keep (fun _ h=>h) (fun b hF=>hb b hF.1),h.ine,h.inr,(zzJ (w:=W) (a:=⟨xe,0,none⟩) (hb _ h.ine.1)).trans h.ce,(zzJ (w:=W) (a:=⟨xr,0,none⟩) (hb _ h.inr.1)).trans h.cr⟩
theorem HSk.lt (h:HSk cs br bk bps xe xf xu xr f u Inv F W):∀b,F b→b < W.heap.size:=by
 obtain ⟨ws,m,h1,h2⟩:=h.roll; exact h1.x.lt
theorem HSk.sub (h:HSk cs br bk bps xe xf xu xr f u Inv F W):∀b,RM br bk bps b→F b:=by
 obtain ⟨ws,m,h1,h2⟩:=h.roll; exact h1.x.sub
theorem HSk.host:HostOk (HSk cs br bk bps xe xf xu xr f u Inv) (RM br bk bps):=⟨fun F W W' h hs hb=>h.keep hs hb,fun F W h=>h.lt,fun F W h=>h.sub⟩
theorem HSk.step (h:HSk cs br bk bps xe xf xu xr f u Inv F W) {ws:Nat→Bool} {m:Nat} (hR:RollS W' cs br bk bps F' ws m) (hI:Inv' ws m) (hF:∀b,F b→F' b) (hb:∀b,F b→¬RM br bk bps b→W'.heap[b]? =W.heap[b]?):HSk cs br bk bps xe xf xu xr f u Inv' F' W':=
 ⟨⟨ws,m,hR,hI⟩,h.bx.keep hF (fun b hF=>hb b hF.1 hF.2),⟨hF _ h.ine.1,h.ine.2⟩,⟨hF _ h.inr.1,h.inr.2⟩,(zzJ (w:=W) (a:=⟨xe,0,none⟩) (hb _ h.ine.1 h.ine.2)).trans h.ce,(zzJ (w:=W) (a:=⟨xr,0,none⟩) (hb _ h.inr.1 h.inr.2)).trans h.cr⟩
end
def InvS (j:Nat) (ws:Nat→Bool) (m:Nat):Prop:=m≤j
theorem ygx {cs:List Cl} {n:Int} {j:Nat} {ws ws':Nat→Bool} {m m':Nat} (h:InvS j ws m) (hs:yba cs n ws m ws' m'):InvS (j+1) ws' m':=by
 have:=(at_more hs).1; rw [InvS] at h⊢; omega
theorem ycT (args:Array Value) (w:World):(callFunc 63 args).run Tryz.prog w= .ok (.enter 63 args) w:=by simp [go_sem]
structure SkD (cs:List Cl) (M:Blk) (n:Int) (d bx:Nat) (O F:Blk) (W:World):Prop where
 dj:∀b,F b→¬O b
 di:DiF W F M d (dayQ cs n)
 tab:Tab W∧F 0
 lt:∀b,F b→b < W.heap.size
 lx:bx < W.heap.size
 nx:¬O bx∧¬F bx
 sh:ShS W bx (shF n)
theorem SkD.put {cs:List Cl} {M:Blk} {n:Int} {d bx l:Nat} {O F:Blk} {W:World} {o:Obj} (h:SkD cs M n d bx O F W) (hr:∃r,W.heap[l]? =some (.loop r)) (hF:¬F l):SkD cs M n d bx O F (W.putObj l o):=by
 have ps:(W.putObj l o).heap.size=W.heap.size:=World.putObj_size
 have ko:∀b,F b→(W.putObj l o).heap[b]? =W.heap[b]?:=fun b hb=>World.putObj_heap_other (fun e=>hF (e ▸ hb))
 exact ⟨h.dj,⟨h.di.1,h.di.2.1,h.di.2.2.block (by rw [ps]; exact zG _) (ko _ h.di.1)⟩,⟨⟨by rw [ps]; exact h.tab.1.1,fun i hi=>(zzJ (w:=W) (a:=⟨0,i,none⟩) (ko _ h.tab.2)).trans (h.tab.1.2 i hi)⟩,h.tab.2⟩,by rw [ps]; exact h.lt,by rw [ps]; exact h.lx,h.nx,yg8 h.sh hr⟩
def SkT (h0 h1 h2 h3 h4 h5 h6 h7:Value) (ds:List Deferred) (a:Act):Prop:=∃V:Nat→Value,a= {tmps:=#[h0,h1,h2,h3,h4,h5,h6,h7,V 8,V 9,V 10,V 11,V 12,V 13,V 14,V 15,V 16,V 17,V 18,V 19,V 20,V 21,V 22,V 23,V 24,V 25,V 26,V 27,V 28,V 29,V 30,V 31,V 32,V 33,V 34,V 35,V 36,V 37,V 38,V 39,V 40,V 41,V 42,V 43,V 44,V 45,V 46,V 47,V 48,V 49,V 50,V 51,V 52,V 53,V 54,V 55,V 56,V 57,V 58],defers:=ds}
theorem SkT.of {h0 h1 h2 h3 h4 h5 h6 h7 u8 u9 u10 u11 u12 u13 u14 u15 u16 u17 u18 u19 u20 u21 u22 u23 u24 u25 u26 u27 u28 u29 u30 u31 u32 u33 u34 u35 u36 u37 u38 u39 u40 u41 u42 u43 u44 u45 u46 u47 u48 u49 u50 u51 u52 u53 u54 u55 u56 u57 u58:Value} {ds:List Deferred}:SkT h0 h1 h2 h3 h4 h5 h6 h7 ds {tmps:=#[h0,h1,h2,h3,h4,h5,h6,h7,u8,u9,u10,u11,u12,u13,u14,u15,u16,u17,u18,u19,u20,u21,u22,u23,u24,u25,u26,u27,u28,u29,u30,u31,u32,u33,u34,u35,u36,u37,u38,u39,u40,u41,u42,u43,u44,u45,u46,u47,u48,u49,u50,u51,u52,u53,u54,u55,u56,u57,u58],defers:=ds}:=⟨fun i=>(#[u8,u9,u10,u11,u12,u13,u14,u15,u16,u17,u18,u19,u20,u21,u22,u23,u24,u25,u26,u27,u28,u29,u30,u31,u32,u33,u34,u35,u36,u37,u38,u39,u40,u41,u42,u43,u44,u45,u46,u47,u48,u49,u50,u51,u52,u53,u54,u55,u56,u57,u58]:Array Value).getD (#[0,0,0,0,0,0,0,0,0,1,2,3,4,5,6,7,8,9,10,11,12,13,14,15,16,17,18,19,20,21,22,23,24,25,26,27,28,29,30,31,32,33,34,35,36,37,38,39,40,41,42,43,44,45,46,47,48,49,50].getD i 0) undef,rfl⟩
end
section
open Go.RowKit Go.Maps
attribute [local go_sem] Oper.semAt_some
structure TwoC (b:Nat) (x y:Int) (O:Blk) (W:World):Prop where
 c4:W.cell? ⟨b,0,none⟩=some (.int .i64 x)
 c5:W.cell? ⟨b+1,0,none⟩=some (.int .i64 y)
 f4:W.frozen? ⟨b,0,none⟩=false
 f5:W.frozen? ⟨b+1,0,none⟩=false
 o4:O b
 o5:O (b+1)
 lt:∀c,O c→c < W.heap.size
theorem TwoC.keep {b:Nat} {x y:Int} {O:Blk} {W W':World} (h:TwoC b x y O W) (hs:W.heap.size≤W'.heap.size) (hb:∀c,O c→W'.heap[c]? =W.heap[c]?):TwoC b x y O W':=
 ⟨(zzJ (w:=W) (a:=⟨b,0,none⟩) (hb _ h.o4)).trans h.c4,(zzJ (w:=W) (a:=⟨b+1,0,none⟩) (hb _ h.o5)).trans h.c5,
  (zzM (w:=W) (a:=⟨b,0,none⟩) (hb _ h.o4)).trans h.f4,(zzM (w:=W) (a:=⟨b+1,0,none⟩) (hb _ h.o5)).trans h.f5,h.o4,h.o5,fun c hc=>zH (h.lt c hc) hs⟩
theorem TwoC.set {b:Nat} {x y x' y':Int} {O:Blk} {W:World} (h:TwoC b x y O W):TwoC b x' y' O ((W.setCell ⟨b,0,none⟩ (.int .i64 x')).setCell ⟨b+1,0,none⟩ (.int .i64 y')):=by
 obtain ⟨h1,h2,h3,h4,h5,h6,h7⟩:=h
 refine ⟨?_,?_,?_,?_,h5,h6,fun c hc=>by simpa using h7 c hc⟩ <;> simp [go_sem,h1,h2,h3,h4]
end
section
open Go.RowKit Go.Maps
theorem yfw {P:Program} {w:World} {d x:Nat} (cd:(w.cell? ⟨d,0,none⟩).isSome=true) (cx:(w.cell? ⟨x,0,none⟩).isSome=true) (hd:∀i,w.frozen? ⟨d,i,none⟩=false) (hx:∀i,w.frozen? ⟨x,i,none⟩=false) (hne:d≠x) :
  (sameAddr ⟨d,0,none⟩ ⟨x,0,none⟩).run P w= .ok false w:=by
 have key:∀b,(w.cell? ⟨b,0,none⟩).isSome=true→∃c t s,w.heap[b]? =some (.cells c t s):=fun b h=>by
  unfold World.cell? at h
  split at h
  ·exact ⟨_,_,_,by assumption⟩
  ·cases h
 obtain ⟨c1,t1,s1,e1⟩:=key d cd
 obtain ⟨c2,t2,s2,e2⟩:=key x cx
 have sd:w.shape? d=some (t1,c1.size):=by unfold World.shape?; rw [e1]
 have sx:w.shape? x=some (t2,c2.size):=by unfold World.shape?; rw [e2]
 simp [sameAddr,hne,noView,viewAt,mayBeOne,stringish,hd,hx,sd,sx]
structure CntC (bl:Nat) (c:Option Nat) (m:Int) (W:World):Prop where
 cl:W.cell? ⟨bl,0,none⟩=some (dptr c)
 cm:W.cell? ⟨bl+1,0,none⟩=some (.int .i64 m)
 fl:W.frozen? ⟨bl,0,none⟩=false
 fm:W.frozen? ⟨bl+1,0,none⟩=false
 lt:bl+1 < W.heap.size
theorem CntC.block {bl:Nat} {c:Option Nat} {m:Int} {W W':World} (h:CntC bl c m W) (hs:W.heap.size≤W'.heap.size) (h0:W'.heap[bl]? =W.heap[bl]?) (h1:W'.heap[bl+1]? =W.heap[bl+1]?):CntC bl c m W':=
 ⟨(zzJ (w:=W) (a:=⟨bl,0,none⟩) h0).trans h.cl,(zzJ (w:=W) (a:=⟨bl+1,0,none⟩) h1).trans h.cm,
  (zzM (w:=W) (a:=⟨bl,0,none⟩) h0).trans h.fl,(zzM (w:=W) (a:=⟨bl+1,0,none⟩) h1).trans h.fm,zH h.lt hs⟩
theorem CntC.set {bl:Nat} {c c':Option Nat} {m m':Int} {W:World} (h:CntC bl c m W):CntC bl c' m' ((W.setCell ⟨bl,0,none⟩ (dptr c')).setCell ⟨bl+1,0,none⟩ (.int .i64 m')):=by
 obtain ⟨h1,h2,h3,h4,h5⟩:=h
 refine ⟨?_,?_,?_,?_,by simpa using h5⟩ <;> simp [go_sem,h1,h2,h3,h4]
def Knows (c:Option Nat) (m:Int) (M F:Blk) (W:World):Prop:=∀x,c=some x→F x∧¬M x∧∃q,DiscAt W x q∧m= ((secL q).length:Nat)
theorem Knows.none {m:Int} {M F:Blk} {W:World}:Knows none m M F W:=fun x h=>by cases h
theorem Knows.keep {c:Option Nat} {m:Int} {M F F':Blk} {W W':World} (h:Knows c m M F W) (hs:W.heap.size≤W'.heap.size) (hF:∀b,F b→F' b) (hb:∀b,F b∧¬M b→W'.heap[b]? =W.heap[b]?):Knows c m M F' W':=fun x hx=>by
 obtain ⟨h1,h2,q,h3,h4⟩:=h x hx
 exact ⟨hF x h1,h2,q,h3.block hs (hb x ⟨h1,h2⟩),h4⟩
end
section
open Go.RowKit Go.Maps
def PtrOk (w:World) (d:Option Nat):Prop:=∀x,d=some x→(w.cell? ⟨x,0,none⟩).isSome=true∧∀i,w.frozen? ⟨x,i,none⟩=false
theorem PtrOk.disc {w:World} {d:Option Nat} {q:Nat→Bool} (h:DiscO w d q):PtrOk w d:=fun x hx=>by
 subst hx
 obtain ⟨f,h1,h2,-⟩:=h
 exact ⟨by rw [h1 0 (by omega)]; rfl,h2⟩
theorem PtrOk.block {w w':World} {d:Option Nat} (h:PtrOk w d) (hb:∀x,d=some x→w'.heap[x]? =w.heap[x]?):PtrOk w' d:=fun x hx=>by
 obtain ⟨h1,h2⟩:=h x hx
 exact ⟨by rw [zzJ (w:=w) (a:=⟨x,0,none⟩) (hb x hx)]; exact h1,fun i=>(zzM (w:=w) (a:=⟨x,i,none⟩) (hb x hx)).trans (h2 i)⟩
def PairK (w:World) (v:Value):Prop:=∃d e,v= .agg #[dptr d,dptr e]∧PtrOk w d∧PtrOk w e
theorem yex {w:World} {d e:Option Nat} (hd:PtrOk w d) (he:PtrOk w e) (n:Nat):(Op.equalIn (n+1) 72 (dptr d) (dptr e)).run Tryz.prog w= .ok (decide (d=e)) w:=by
 have hp:=Tryz.underlying72
 cases d with
 | none=>
   cases e with
   | none=>simp [Op.equalIn,run_underlying hp,dptr]
   | some y=>simp [Op.equalIn,run_underlying hp,dptr]
 | some x=>
   cases e with
   | none=>simp [Op.equalIn,run_underlying hp,dptr]
   | some y=>
     have hi:((Tryz.prog.info? 131).map fun i=>decide (i.size≠0))=some true:=by kernel_rfl
     cases hj:Tryz.prog.info? 131 with
     | none=>rw [hj] at hi; cases hi
     | some j=>
       rw [hj] at hi
       have hsz:j.size≠0:=by simpa using hi
       have hs:(sameAddr ⟨x,0,none⟩ ⟨y,0,none⟩).run Tryz.prog w= .ok (decide (x=y)) w:=by
        by_cases hne:x=y
        ·subst hne; rw [run_sameAddr_same]; simp
        ·rw [yfw (hd x rfl).1 (he y rfl).1 (hd x rfl).2 (he y rfl).2 hne]; simp [hne]
       simp [Op.equalIn,run_underlying hp,sizeOf,typeInfo,hj,hsz,hs,dptr]
theorem part0 (w:World) (x y:Value):(part 72 #[x,y] 0).run Tryz.prog w= .ok x w:=by kernel_rfl
theorem part1 (w:World) (x y:Value):(part 72 #[x,y] 1).run Tryz.prog w= .ok y w:=by kernel_rfl
theorem yi3 {w:World} {d e d' e':Option Nat} (h1:PtrOk w d) (h2:PtrOk w e) (h3:PtrOk w d') (h4:PtrOk w e') :
  (Op.equal 231 (.agg #[dptr d,dptr e]) (.agg #[dptr d',dptr e'])).run Tryz.prog w= .ok (decide (d=d') && decide (e=e')) w:=by
 have g1:=yex h1 h3 9998
 have g2:=yex h2 h4 9998
 have hp:=Tryz.underlying231
 have hi:((Tryz.prog.info? 72).map fun i=>i.size)=some 1:=by kernel_rfl
 cases hj:Tryz.prog.info? 72 with
 | none=>rw [hj] at hi; cases hi
 | some j=>
   rw [hj] at hi
   have hsz:j.size=1:=by simpa using hi
   unfold Op.equal Op.maxDepth
   rw [Op.equalIn]
   simp only [Sem.run_bind,run_underlying hp,Result.andThen_ok,sizeOf,typeInfo]
   have g1':(Op.equalIn 9999 72 (dptr d) (dptr d')).run Tryz.prog w= .ok (decide (d=d')) w:=g1
   have g2':(Op.equalIn 9999 72 (dptr e) (dptr e')).run Tryz.prog w= .ok (decide (e=e')) w:=g2
   simp [hj,hsz]
   rw [show List.range' 0 2= [0,1] from rfl]
   obtain ⟨b1,hb1⟩:∃b,decide (d=d')=b:=⟨_,rfl⟩
   obtain ⟨b2,hb2⟩:∃b,decide (e=e')=b:=⟨_,rfl⟩
   rw [hb1] at g1'⊢
   rw [hb2] at g2'⊢
   cases b1 <;> cases b2 <;> simp [part0,part1,g1',g2',List.forIn_cons]
theorem pairT (w:World):KeyT Tryz.prog 231 (PairK w) w:=by
 refine KeyT.ask Tryz.underlying231 ?_ ?_ ?_ ?_
 ·rintro _ _ ⟨d,e,rfl,-,-⟩ ⟨d',e',rfl,-,-⟩; rfl
 ·rintro em _ ⟨d,e,rfl,-,-⟩
  cases d <;> cases e <;> kernel_rfl
 ·rintro _ _ ⟨d,e,rfl,h1,h2⟩ ⟨d',e',rfl,h3,h4⟩
  refine ⟨_,yi3 h1 h2 h3 h4,fun h=>?_⟩
  simp only [zzX,zzY] at h
  rw [h.1,h.2]
 ·rintro _ ⟨d,e,rfl,-,-⟩
  cases d <;> cases e <;> simp [Instr.sameBits,dptr]
end
section
open Go.RowKit Go.Maps
def DiK (W:World) (F M:Blk) (v:Value):Prop:=∃d q,v= .pointer (some ⟨d,0,none⟩)∧DiF W F M d q
def DiG (W:World) (F M:Blk) (x v:Value):Prop:=∃d q,x= .pointer (some ⟨d,0,none⟩)∧DiF W F M d q∧v=bv3 (nrB (secL q))
section
variable {W W':World} {F F' M:Blk}
theorem DiF.keepI {d:Nat} {q:Nat→Bool} (h:DiF W F M d q) (hs:W.heap.size≤W'.heap.size) (hF:∀b,F b→F' b) (hb:∀b,F b∧¬M b→W'.heap[b]? =W.heap[b]?):DiF W' F' M d q:=
 ⟨hF _ h.1,h.2.1,h.2.2.block hs (hb _ ⟨h.1,h.2.1⟩)⟩
theorem DiK.keep {v:Value} (h:DiK W F M v) (hs:W.heap.size≤W'.heap.size) (hF:∀b,F b→F' b) (hb:∀b,F b∧¬M b→W'.heap[b]? =W.heap[b]?):DiK W' F' M v:=by
 obtain ⟨d,q,h1,h2⟩:=h
 exact ⟨d,q,h1,h2.keepI hs hF hb⟩
theorem DiG.keep {x v:Value} (h:DiG W F M x v) (hs:W.heap.size≤W'.heap.size) (hF:∀b,F b→F' b) (hb:∀b,F b∧¬M b→W'.heap[b]? =W.heap[b]?):DiG W' F' M x v:=by
 obtain ⟨d,q,h1,h2,h3⟩:=h
 exact ⟨d,q,h1,h2.keepI hs hF hb,h3⟩
theorem MapI.keep {b n:Nat} (h:MapS (DiK W F M) (DiG W F M) W b n) (hs:W.heap.size≤W'.heap.size) (hF:∀b,F b→F' b) (hb:∀b,F b∧¬M b→W'.heap[b]? =W.heap[b]?) (hm:W'.heap[b]? =W.heap[b]?):MapS (DiK W' F' M) (DiG W' F' M) W' b n:=
 (h.keep hm).mono (zG _) (fun v hv=>hv.keep hs hF hb) (fun x v hv=>hv.keep hs hF hb)
theorem discT (W:World) (F M:Blk):KeyT Tryz.prog 72 (DiK W F M) W:=by
 refine KeyT.ask Tryz.underlying72 ?_ ?_ ?_ ?_
 ·rintro _ _ ⟨d,q,rfl,-⟩ ⟨d',q',rfl,-⟩; rfl
 ·rintro em _ ⟨d,q,rfl,-⟩; kernel_rfl
 ·rintro _ _ ⟨d,q,rfl,h⟩ ⟨d',q',rfl,h'⟩
  have e:=yex (w:=W) (d:=some d) (e:=some d') (PtrOk.disc (d:=some d) (q:=q) h.2.2) (PtrOk.disc (d:=some d') (q:=q') h'.2.2) 9999
  refine ⟨_,e,fun hd=>?_⟩
  rw [zzY] at hd
  injection hd with hd
  rw [hd]
 ·rintro _ ⟨d,q,rfl,-⟩; simp [Instr.sameBits]
end
structure PuS (bx bm:Nat) (F M:Blk) (W:World):Prop where
 c:W.cell? ⟨bx,0,none⟩=some (.map (some bm))
 m:MapS (DiK W F M) (DiG W F M) W bm 512
 nx:¬F bx
 nm:¬F bm
 ne:bx≠bm
 lx:bx < W.heap.size
 lt:∀b,F b→b < W.heap.size
theorem PuS.keep {bx bm:Nat} {F F' M:Blk} {W W':World} (h:PuS bx bm F M W) (hs:W.heap.size≤W'.heap.size) (hF:∀b,F b→F' b) (hN:∀b,F' b→F b∨W.heap.size≤b) (hl:∀b,F' b→b < W'.heap.size) (hb:∀b,F b∧¬M b→W'.heap[b]? =W.heap[b]?) (hx:W'.heap[bx]? =W.heap[bx]?) (hm:W'.heap[bm]? =W.heap[bm]?):PuS bx bm F' M W':=
 ⟨(zzJ (w:=W) (a:=⟨bx,0,none⟩) hx).trans h.c,MapI.keep h.m hs hF hb hm,fun e=>(hN _ e).elim h.nx (fun g=>by have:=h.lx; omega),fun e=>(hN _ e).elim h.nm (fun g=>by have:=h.m.lt; omega),h.ne,zH h.lx hs,hl⟩
end
section
open Go.RowKit Go.Maps
def lookF (v x:Value):Sem Value:=Instr.lookup 182 v x false
theorem look_f (v x:Value):Instr.lookup 182 v x false=lookF v x:=rfl
def lnF (v:Value):Sem Value:=Builtin.len_ #[182] 3 #[v]
theorem ln_f (v:Value):Builtin.len_ #[182] 3 #[v]=lnF v:=rfl
def updF (v x y:Value):Sem Unit:=Instr.mapUpdate 182 v x y
theorem upd_f (v x y:Value):Instr.mapUpdate 182 v x y=updF v x y:=rfl
attribute [local go_sem ↓] look_f ln_f upd_f
def FrG (W:World) (F M:Blk) (P:List Int→Prop) (x v:Value):Prop:=∃d q,x= .pointer (some ⟨d,0,none⟩)∧DiF W F M d q∧v= .bool true∧P (secL q)
theorem FrG.keep {W W':World} {F F' M:Blk} {P:List Int→Prop} {x v:Value} (h:FrG W F M P x v) (hs:W.heap.size≤W'.heap.size) (hF:∀b,F b→F' b) (hb:∀b,F b∧¬M b→W'.heap[b]? =W.heap[b]?):FrG W' F' M P x v:=by
 obtain ⟨d,q,h1,h2,h3,h4⟩:=h
 exact ⟨d,q,h1,h2.keepI hs hF hb,h3,h4⟩
structure FrW (bx bm:Nat) (F M:Blk) (P:List Int→Prop) (W:World):Prop where
 c:W.cell? ⟨bx,0,none⟩=some (.map (some bm))
 m:MapS (DiK W F M) (FrG W F M P) W bm 512
theorem FrW.keep {bx bm:Nat} {F F' M:Blk} {P:List Int→Prop} {W W':World} (h:FrW bx bm F M P W) (hs:W.heap.size≤W'.heap.size) (hF:∀b,F b→F' b) (hb:∀b,F b∧¬M b→W'.heap[b]? =W.heap[b]?) (hx:W'.heap[bx]? =W.heap[bx]?) (hm:W'.heap[bm]? =W.heap[bm]?):FrW bx bm F' M P W':=
 ⟨(zzJ (w:=W) (a:=⟨bx,0,none⟩) hx).trans h.c,(h.m.keep hm).mono (zG _) (fun v hv=>hv.keep hs hF hb) (fun x v hv=>hv.keep hs hF hb)⟩
theorem FrW.mono {bx bm:Nat} {F M:Blk} {P P':List Int→Prop} {W:World} (h:FrW bx bm F M P W) (hp:∀L,P L→P' L):FrW bx bm F M P' W:=
 ⟨h.c,h.m.mono (zG _) (fun _ h=>h) (fun x v ⟨d,q,h1,h2,h3,h4⟩=>⟨d,q,h1,h2,h3,hp _ h4⟩)⟩
attribute [local go_sem] run_makeMap
theorem yfm (w:World):Calls Tryz.prog 56 #[] w fun e w'=>e= .returned (.func (.func 103) #[] #[.pointer (some ⟨w.heap.size+1,0,none⟩)])∧w' = (w.alloc (.map #[] 0)).alloc (.cells #[.map (some w.heap.size)] 182):=by
 go_enter Tryz.func56,Tryz.ntmps56
 go_wp2
 go_ret
 exact ⟨rfl,rfl⟩
theorem FrW.made {w w5:World} {F M:Blk} {P:List Int→Prop} (h:w5.heap[w.heap.size]? = ((w.alloc (.map #[] 0)).heap)[w.heap.size]?) (hc:w5.cell? ⟨w.heap.size+1,0,none⟩=some (.map (some w.heap.size))):FrW (w.heap.size+1) w.heap.size F M P w5:=
 ⟨hc,((MapS.made w (DiK w5 F M) (FrG w5 F M P)).keep h).mono (by omega) (fun _ h=>h) (fun _ _ h=>h)⟩
theorem yeT {bx bm d:Nat} {F M:Blk} {P:List Int→Prop} {q:Nat→Bool} {W:World} (h:FrW bx bm F M P W) (nx:¬F bx) (nm:¬F bm) (ne:bx≠bm) (lx:bx < W.heap.size) (lt:∀b,F b→b < W.heap.size) (hd:DiF W F M d q) :
  Calls Tryz.prog 103 #[.pointer (some ⟨d,0,none⟩), .pointer (some ⟨bx,0,none⟩)] W fun e W'=>((e= .returned (.bool false)∧P (secL q)∧FrW bx bm F M P W')∨(e= .returned (.bool true)∧FrW bx bm F M (fun L=>P L∨L=secL q) W'))∧Eff (fun c=>c=bm) W W':=by
 have hL:=h.m.lookup (discT W F M) (t:=182) Tryz.underlying182 (z:= .bool false) (by kernel_rfl) false (x:= .pointer (some ⟨d,0,none⟩)) ⟨d,q,rfl,hd⟩
 have c1:=h.c
 obtain ⟨k,hk,hPk,ql⟩:=h.m.count (t:=182) Tryz.underlying182 3
 replace ql:(lnF (.map (some bm))).run Tryz.prog W= .ok (.int .i64 k) W:=ql
 have HPk:=hid hPk
 have Hk:=hid hk
 have HH:=hid h
 have HD:=hid hd
 have HN:=hid (And.intro nx (And.intro nm (And.intro ne (And.intro lx lt))))
 clear hPk hk h hd nx nm ne lx lt
 go_enter Tryz.func103,Tryz.ntmps103
 rcases hL with hl | ⟨v,hv,hl⟩
 rotate_left
 ·obtain ⟨d',q',e1,hd',rfl,hP⟩:=hv
  have hq:secL q' =secL q:=by
   injection e1 with e1; injection e1 with e1; injection e1 with e1
   subst e1
   have e:(List.range 86400).filter q' = (List.range 86400).filter q:=List.filter_congr fun k hk=>DiscAt.unique hd'.2.2 HD.out.2.2 k (List.mem_range.1 hk)
   rw [secL,secL,sel,sel,e]
  rw [hq] at hP
  replace hl:(lookF (.map (some bm)) (.pointer (some ⟨d,0,none⟩))).run Tryz.prog W= .ok (.bool true) W:=hl
  have HP:=hid hP
  clear hd' hq e1 hP ql
  go_wp2
  go_ret
  exact ⟨.inl ⟨rfl,HP.out,HH.out⟩,Eff.refl _ _⟩
 ·replace hl:(lookF (.map (some bm)) (.pointer (some ⟨d,0,none⟩))).run Tryz.prog W= .ok (.bool false) W:=hl
  go_upto_region 3 with fail
  iterate 13 go_step
  (try dsimp only)
  go_cut [9] from 10 (fun _ wx=>Hid (MapS (DiK wx F M) (FrG wx F M P) wx bm 511∧Eff (fun c=>c=bm) W wx))
  case first=>
   by_cases h5:(k:Int)=512
   ·have hkd:((k:Int) == 512)=true:=by rw [h5]; rfl
    clear h5
    go_wp2_with (with_reducible refine ybD (t:=182) (.tmp 10) rfl rfl Tryz.underlying182 HH.out.m rfl ?_)
    intro w3 hM3 hg3
    have hE3:Eff (fun c=>c=bm) W w3:=Eff.of_grown hg3 rfl
    have hb:∀b,F b∧¬M b→w3.heap[b]? =W.heap[b]?:=fun b hb=>hE3.block b (HN.out.2.2.2.2 b hb.1) (fun e=>HN.out.2.1 (e ▸ hb.1))
    have HS3:Hid (MapS (DiK w3 F M) (FrG w3 F M P) w3 bm 511∧Eff (fun c=>c=bm) W w3):=⟨hM3.mono (by omega) (fun v hv=>hv.keep hE3.size (fun _ h=>h) hb) (fun x v hv=>hv.keep hE3.size (fun _ h=>h) hb),hE3⟩
    clear ql hkd c1 hM3 hg3 hE3 hb
    go_wp2
    go_meet
    exact HS3
   ·have hkd:((k:Int) == 512)=false:=by simpa using h5
    have HS3:Hid (MapS (DiK W F M) (FrG W F M P) W bm 511∧Eff (fun c=>c=bm) W W):=⟨HPk.out.mono (by have:=Hk.out; omega) (fun _ h=>h) (fun _ _ h=>h),Eff.refl _ _⟩
    clear h5
    go_wp2
    go_meet
    exact HS3
  case rest=>
   obtain ⟨m5,e5⟩:=hcut.out
   have l5:=e5.size
   have hb5:∀b,F b∧¬M b→wc.heap[b]? =W.heap[b]?:=fun b hb=>e5.block b (HN.out.2.2.2.2 b hb.1) (fun e=>HN.out.2.1 (e ▸ hb.1))
   have d5:DiF wc F M d q:=HD.out.keepI l5 (fun _ h=>h) hb5
   have c5:wc.cell? ⟨bx,0,none⟩=some (.map (some bm)):=(e5.cell (p:=⟨bx,0,none⟩) HN.out.2.2.2.1 HN.out.2.2.1).trans c1
   have m5':MapS (DiK wc F M) (FrG wc F M (fun L=>P L∨L=secL q)) wc bm 511:=m5.mono (zG _) (fun _ h=>h) (fun x v ⟨d,q,h1,h2,h3,h4⟩=>⟨d,q,h1,h2,h3, .inl h4⟩)
   obtain ⟨w6,q6,m6,g6⟩:=m5'.update (discT wc F M) (t:=182) (e:=4) Tryz.underlying182 (x:= .pointer (some ⟨d,0,none⟩)) ⟨d,q,rfl,d5⟩ (v:= .bool true) ⟨d,q,rfl,d5,rfl, .inr rfl⟩
   replace q6:(updF (.map (some bm)) (.pointer (some ⟨d,0,none⟩)) (.bool true)).run Tryz.prog wc= .ok () w6:=q6
   have e6:Eff (fun c=>c=bm) wc w6:=Eff.of_grown g6 rfl
   have hb6:∀b,F b∧¬M b→w6.heap[b]? =wc.heap[b]?:=fun b hb=>e6.block b (zH (HN.out.2.2.2.2 b hb.1) l5) (fun e=>HN.out.2.1 (e ▸ hb.1))
   have c6:w6.cell? ⟨bx,0,none⟩=some (.map (some bm)):=(e6.cell (p:=⟨bx,0,none⟩) (zH HN.out.2.2.2.1 l5) HN.out.2.2.1).trans c5
   have H6:Hid (FrW bx bm F M (fun L=>P L∨L=secL q) w6):=⟨c6,m6.mono (zG _) (fun v hv=>hv.keep e6.size (fun _ h=>h) hb6) (fun x v hv=>hv.keep e6.size (fun _ h=>h) hb6)⟩
   have E6:=hid (e5.trans e6 (fun _ h=> .inl h))
   clear m5 e5 hb5 d5 m5' m6 g6 e6 hb6 c6 hcut ql hl l5
   go_wp2
   go_ret
   exact ⟨.inr ⟨rfl,H6.out⟩,E6.out⟩
end
section
open Go.RowKit Go.Maps
def L7 (f:Nat→Int):List Value:=(List.range 7).map fun i=> .int .i64 (f i)
theorem yiL (f:Nat→Int):(L7 f).length=7:=by simp [L7]
theorem L7_at (f:Nat→Int) {j:Nat} (hj:j < (L7 f).length):(L7 f)[j]= .int .i64 (f j):=by simp [L7]
structure Ar7 (b:Nat) (f:Nat→Int) (W:World):Prop where
 c:∀i,i < 7→W.cell? ⟨b,i,none⟩=some (.int .i64 (f i))
 z:∀i,W.frozen? ⟨b,i,none⟩=false
 lt:b < W.heap.size
theorem Ar7.block {b:Nat} {f:Nat→Int} {W W':World} (h:Ar7 b f W) (hs:W.heap.size≤W'.heap.size) (hb:W'.heap[b]? =W.heap[b]?):Ar7 b f W':=
 ⟨fun i hi=>(zzJ (w:=W) (a:=⟨b,i,none⟩) hb).trans (h.c i hi),fun i=>(zzM (w:=W) (a:=⟨b,i,none⟩) hb).trans (h.z i),zH h.lt hs⟩
theorem Ar7.range {b:Nat} {f:Nat→Int} {W:World} (h:Ar7 b f W):W.rangeAt b 0 (L7 f):=fun j v hv=>by
 obtain ⟨hj,e⟩:=zzq.1 hv
 rw [L7_at] at e
 rw [zzn,h.c j (by rw [yiL] at hj; exact hj),←e]
theorem Ar7.there {b:Nat} {f:Nat→Int} {W:World} (h:Ar7 b f W) (g:Nat→Int):W.there b 0 (L7 g).toArray.size:=fun j hj=>by
 rw [List.size_toArray,yiL] at hj
 rw [zzn]
 exact ⟨by rw [h.c j hj]; rfl,h.z j⟩
theorem Ar7.put {b:Nat} {f:Nat→Int} {W:World} (h:Ar7 b f W) (g:Nat→Int):Ar7 b g (W.setCells b 0 (L7 g)):=by
 have hs:=(Eff.setCells (O:=fun x=>x=b) rfl (L7 g) 0 W (Eff.refl _ W)).size
 refine ⟨fun i hi=>?_,fun i=>by rw [World.frozen?_setCells]; exact h.z i,zH h.lt hs⟩
 have:=World.cell?_setCells_in b (L7 g) 0 W (fun j hj=>by rw [yiL] at hj; rw [zzn,h.c j hj]; rfl) i (by rw [yiL]; exact hi)
 rw [zzn,L7_at] at this
 exact this
def outF (n:Int) (u:Nat):Int:=if u=3 then n else if u=4 then wkN n else if u=5 then 12 * fY n+fMo n else if u=6 then fY n else 0
end
section
open Go.RowKit Go.Maps
def unN (n:Int) (j u:Nat):Int:=if u < 3 then (86400 * n+j) / szI u else outF n u
theorem outF_bd {n:Int} (h0:0≤n) (h1:n < 146097) (u:Nat):0≤outF n u∧outF n u≤146097:=by
 obtain ⟨y0,y1,m0,m1,-,-⟩:=yay h0 h1
 have hk:=wkN_bd h0 h1
 rw [outF]
 split
 ·omega
 ·split
  ·omega
  ·split
   ·omega
   ·split <;> omega
theorem unN_bd {n:Int} (h0:0≤n) (h1:n < 146097) {j:Nat} (hj:j < 86400) (u:Nat):0≤unN n j u∧unN n j u≤12622780799:=by
 rw [unN]
 split
 ·have hz:=szI_pos u
  exact ⟨Int.ediv_nonneg (by omega) (by omega),Int.le_trans (Int.ediv_le_self _ (by omega)) (by omega)⟩
 ·have:=outF_bd h0 h1 u; omega
def UD (cs:List Cl) (k u:Nat) (x:Int):Prop:=∃(i:Nat) (D:Int) (j:Nat),i < k∧(dayS cs (yaf 0 146096))[i]? =some D∧j < 86400∧dayQ cs D j=true∧x=unN D j u
def BQ (cs:List Cl) (k:Nat) (B:Nat→Bt):Prop:=∀u,u < 7→BeatQ (UD cs k u) (B u)
theorem yhw {cs:List Cl} {i:Nat} {D:Int} (h:(dayS cs (yaf 0 146096))[i]? =some D):0≤D∧D < 146097∧∃j,j < 86400∧dayQ cs D j=true:=by
 have hm:=List.mem_of_getElem? h
 rw [dayS,List.mem_filter,yaE] at hm
 obtain ⟨⟨a,b⟩,c⟩:=hm
 refine ⟨a,by omega,?_⟩
 rw [anyQ,List.any_eq_true] at c
 obtain ⟨j,hj,hq⟩:=c
 exact ⟨j,List.mem_range.1 hj,hq⟩
theorem UD.rng {cs:List Cl} {k u:Nat} {x:Int} (h:UD cs k u x):0≤x∧x≤12622780799:=by
 obtain ⟨i,D,j,-,hD,hj,-,rfl⟩:=h
 obtain ⟨a,b,-⟩:=yhw hD
 exact unN_bd a b hj u
theorem BQ.bd {cs:List Cl} {k:Nat} {B:Nat→Bt} (h:BQ cs k B) {u:Nat} (hu:u < 7):M62 (B u).2.1∧M62 (B u).2.2:=by
 have:=BeatP.bd (M:=12622780799) (h u hu) (by omega) fun x hx=>hx.rng
 simp only [M62]; omega
theorem UD.more {cs:List Cl} {k u:Nat} {D:Int} (hD:(dayS cs (yaf 0 146096))[k]? =some D) (x:Int):UD cs (k+1) u x↔UD cs k u x∨∃j,j < 86400∧dayQ cs D j=true∧x=unN D j u:=by
 constructor
 ·rintro ⟨i,D',j,hi,h1,h2,h3,h4⟩
  rcases Nat.lt_succ_iff_lt_or_eq.1 hi with h | h
  ·exact .inl ⟨i,D',j,h,h1,h2,h3,h4⟩
  ·subst h
   rw [hD] at h1
   cases h1
   exact .inr ⟨j,h2,h3,h4⟩
 ·rintro (⟨i,D',j,hi,h⟩ | ⟨j,h⟩)
  ·exact ⟨i,D',j,by omega,h⟩
  ·exact ⟨k,D,j,by omega,hD,h⟩
theorem yas {q:Nat→Bool} {x:Int}:x∈secL q↔∃j,j < 86400∧q j=true∧x= (j:Int):=by rw [secL]; exact sel_mem
end
section
open Go.RowKit Go.Maps
attribute [local irreducible] secL
attribute [local go_sem] Oper.semAt_some
attribute [local go_sem ↓] yan
attribute [local go_sem] run_makeMap
structure PuW (bx bm:Nat) (F M:Blk) (W:World):Prop where
 c:W.cell? ⟨bx,0,none⟩=some (.map (some bm))
 m:MapS (DiK W F M) (DiG W F M) W bm 512
theorem PuW.keep {bx bm:Nat} {F F' M:Blk} {W W':World} (h:PuW bx bm F M W) (hs:W.heap.size≤W'.heap.size) (hF:∀b,F b→F' b) (hb:∀b,F b∧¬M b→W'.heap[b]? =W.heap[b]?) (hx:W'.heap[bx]? =W.heap[bx]?) (hm:W'.heap[bm]? =W.heap[bm]?):PuW bx bm F' M W':=
 ⟨(zzJ (w:=W) (a:=⟨bx,0,none⟩) hx).trans h.c,MapI.keep h.m hs hF hb hm⟩
theorem fault_one {c:Cl} (h:mayC c=true):yai [c]=0:=by
 rw [yai,if_neg (by simp),if_pos (by simp [h])]
def AlT (h0 h1 h2 h3 h4 h5 h6 h7 h8:Value) (ds:List Deferred) (a:Act):Prop:=∃V:Nat→Value,a= {tmps:=#[h0,h1,h2,h3,h4,h5,h6,h7,h8,V 9,V 10,V 11,V 12,V 13,V 14,V 15,V 16,V 17,V 18,V 19,V 20,V 21,V 22,V 23,V 24,V 25,V 26,V 27,V 28,V 29,V 30,V 31,V 32,V 33,V 34,V 35,V 36,V 37,V 38,V 39,V 40,V 41,V 42,V 43,V 44,V 45,V 46,V 47,V 48,V 49,V 50,V 51,V 52,V 53,V 54,V 55,V 56,V 57,V 58,V 59,V 60,V 61,V 62,V 63,V 64,V 65,V 66,V 67,V 68,V 69,V 70],defers:=ds}
theorem AlT.of {h0 h1 h2 h3 h4 h5 h6 h7 h8 u9 u10 u11 u12 u13 u14 u15 u16 u17 u18 u19 u20 u21 u22 u23 u24 u25 u26 u27 u28 u29 u30 u31 u32 u33 u34 u35 u36 u37 u38 u39 u40 u41 u42 u43 u44 u45 u46 u47 u48 u49 u50 u51 u52 u53 u54 u55 u56 u57 u58 u59 u60 u61 u62 u63 u64 u65 u66 u67 u68 u69 u70:Value} {ds:List Deferred}:AlT h0 h1 h2 h3 h4 h5 h6 h7 h8 ds {tmps:=#[h0,h1,h2,h3,h4,h5,h6,h7,h8,u9,u10,u11,u12,u13,u14,u15,u16,u17,u18,u19,u20,u21,u22,u23,u24,u25,u26,u27,u28,u29,u30,u31,u32,u33,u34,u35,u36,u37,u38,u39,u40,u41,u42,u43,u44,u45,u46,u47,u48,u49,u50,u51,u52,u53,u54,u55,u56,u57,u58,u59,u60,u61,u62,u63,u64,u65,u66,u67,u68,u69,u70],defers:=ds}:=⟨fun i=>(#[u9,u10,u11,u12,u13,u14,u15,u16,u17,u18,u19,u20,u21,u22,u23,u24,u25,u26,u27,u28,u29,u30,u31,u32,u33,u34,u35,u36,u37,u38,u39,u40,u41,u42,u43,u44,u45,u46,u47,u48,u49,u50,u51,u52,u53,u54,u55,u56,u57,u58,u59,u60,u61,u62,u63,u64,u65,u66,u67,u68,u69,u70]:Array Value).getD (#[0,0,0,0,0,0,0,0,0,0,1,2,3,4,5,6,7,8,9,10,11,12,13,14,15,16,17,18,19,20,21,22,23,24,25,26,27,28,29,30,31,32,33,34,35,36,37,38,39,40,41,42,43,44,45,46,47,48,49,50,51,52,53,54,55,56,57,58,59,60,61].getD i 0) undef,rfl⟩
end
end Go.Proofs.YtkpgfmonhfnhdaaGreatDoor
