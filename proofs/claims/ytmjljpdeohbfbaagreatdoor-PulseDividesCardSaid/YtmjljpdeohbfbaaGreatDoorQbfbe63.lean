/-
  seek.Next and seek.First.
  tally.counter (and its function) and tally.part.
  Keys that are two pointers: what meet.asked keeps.
  pulse.inners: the beats of discs, and those that are known again.
-/
import Derived.Test.YtmjljpdeohbfbaaGreatDoorQ409703
import Derived.Test.YtmjljpdeohbfbaaGreatDoorQ5463c1
import Derived.LaidEql
import Derived.Laws.EntriesVeiled
import Derived.Test.YtmjljpdeohbfbaaGreatDoorQb23b8c
import Derived.Test.YtmjljpdeohbfbaaGreatDoorQ4a7798
import Derived.Deep.Cut
import Derived.BigRegion
namespace Go.Proofs.YtmjljpdeohbfbaaGreatDoor
set_option linter.unusedVariables false
section
open Go.RowKit Go.Maps
attribute [local go_sem] Oper.semAt_some
def headP:List Int→Int × Int
 | []=>(0,15)
 | x :: _=>(x,0)
def nextP (l:List Cl) (t:Int):Int × Int:=if faultL l≠0 then (0,faultL l) else headP (instA l (heldI t+1) 12622780799)
structure TwoC (b:Nat) (x y:Int) (O:Blk) (W:World):Prop where
 c4:W.cell? ⟨b,0,none⟩=some (.int .i64 x)
 c5:W.cell? ⟨b+1,0,none⟩=some (.int .i64 y)
 f4:W.frozen? ⟨b,0,none⟩=false
 f5:W.frozen? ⟨b+1,0,none⟩=false
 o4:O b
 o5:O (b+1)
 lt:∀c,O c→c < W.heap.size
theorem TwoC.keep {b:Nat} {x y:Int} {O:Blk} {W W':World} (h:TwoC b x y O W) (hs:W.heap.size≤W'.heap.size) (hb:∀c,O c→W'.heap[c]? =W.heap[c]?):TwoC b x y O W':=
 ⟨(World.cell?_of_block (w:=W) (a:=⟨b,0,none⟩) (hb _ h.o4)).trans h.c4,(World.cell?_of_block (w:=W) (a:=⟨b+1,0,none⟩) (hb _ h.o5)).trans h.c5,
  (World.frozen?_of_block (w:=W) (a:=⟨b,0,none⟩) (hb _ h.o4)).trans h.f4,(World.frozen?_of_block (w:=W) (a:=⟨b+1,0,none⟩) (hb _ h.o5)).trans h.f5,h.o4,h.o5,fun c hc=>zH (h.lt c hc) hs⟩
theorem TwoC.set {b:Nat} {x y x' y':Int} {O:Blk} {W:World} (h:TwoC b x y O W):TwoC b x' y' O ((W.setCell ⟨b,0,none⟩ (.int .i64 x')).setCell ⟨b+1,0,none⟩ (.int .i64 y')):=by
 obtain ⟨h1,h2,h3,h4,h5,h6,h7⟩:=h
 refine ⟨?_,?_,?_,?_,h5,h6,fun c hc=>by simpa using h7 c hc⟩ <;> simp [go_sem,h1,h2,h3,h4]
def NxI19 (b:Nat):OwnF:=fun k O _ W=>k=0∧TwoC b 0 0 O W
def NxX19 (b:Nat) (xs:List Int) (c:Code):OwnF:=fun k O _ W=>c= .ret∧∃x,xs[0]? =some x∧TwoC b x 0 O W
theorem nxI19_stab (b:Nat) (M:Blk):StabF M (NxI19 b):=fun k O F F' W W' h hs hF hO=>⟨h.1,h.2.keep hs (fun c hc=>hO c (.inl hc))⟩
theorem nxX19_stab (b:Nat) (xs:List Int) (M:Blk) (c:Code):StabF M (NxX19 b xs c):=fun k O F F' W W' ⟨h1,x,h2,h3⟩ hs hF hO=>⟨h1,x,h2,h3.keep hs (fun c hc=>hO c (.inl hc))⟩
theorem nxI19_lt (b:Nat):LtF (NxI19 b):=fun k O F W h=>h.2.lt
theorem nxX19_lt (b:Nat) (xs:List Int) (c:Code):LtF (NxX19 b xs c):=fun k O F W ⟨_,_,_,h⟩=>h.lt
theorem seekall_enters (args:Array Value) (w:World):(callFunc 183 args).run Tryz.prog w= .ok (.enter 183 args) w:=by simp [go_sem]
theorem held_ge (t:Int):-1≤heldI t:=by rw [heldI]; omega
theorem held_le (t:Int):heldI t≤12622780800:=by rw [heldI]; omega
set_option maxRecDepth 100000 in
set_option maxHeartbeats 3200000 in
theorem SkNext_any (a:Option Addr) (cap:Nat) (l:List Cl) (t:Int) (w:World) (hl:l.length≤9223372036854775807) (hlc:l.length≤cap) (hs:Sl w a (cls l)) (hno:a=none→cap=0) (hok:∀c∈l,c.Ok) (hT:Tab w) :
  Calls Tryz.prog 75 #[.slice a l.length cap, .int .i64 t] w fun e w'=>e= .returned (.tuple #[.int .i64 (nextP l t).1, .int .i64 (nextP l t).2])∧Below w.heap.size w w':=by
 obtain ⟨W1,hW1⟩:∃W1,(w.alloc (.cells #[.int .i64 0] 2)).alloc (.cells #[.int .i64 0] 27)=W1:=⟨_,rfl⟩
 have hB1:Below w.heap.size w W1:=by rw [←hW1]; exact below_new (below_new (Below.refl _ _) (zG _)) (by simp)
 have s1:W1.heap.size=w.heap.size+2:=by rw [←hW1]; simp
 have hC1:TwoC w.heap.size 0 0 (fun b=>b=w.heap.size∨b=w.heap.size+1) W1:=by
  refine ⟨?_,?_,?_,?_, .inl rfl, .inr rfl,fun c hc=>by omega⟩ <;> (rw [←hW1]; simp [go_sem])
 have cO:=hid (IOf_any a cap l W1 hl hlc (hs.below hB1) hno hok)
 have cH:=hid (fun W=>SkHeld_any t W)
 have cA:=hid (fun W (hB:Below W1.heap.size W1 W) f u h=>SkAllC_any a cap l f u W hl hlc ((hs.below hB1).below hB) hno hok ((hT.later hB1).later hB) h)
 have g0:=held_ge t
 have g1:=held_le t
 obtain ⟨h0,hh0⟩:∃x,heldI t=x:=⟨_,rfl⟩
 have hP:Hid (nextP l t=if faultL l≠0 then (0,faultL l) else headP (instA l (h0+1) 12622780799)):=by show _ = _; rw [nextP,hh0]
 rw [hh0] at cH g0 g1
 obtain ⟨pr,hpr⟩:∃x,nextP l t=x:=⟨_,rfl⟩
 rw [hpr] at hP⊢
 have HB1:=hid hB1
 have HW1:=hid hW1
 have S1:=hid s1
 have C1:=hid hC1
 have Ht0:Hid (0 < w.heap.size):=hT.1
 clear hW1 hB1 hs hok hT s1 hno hlc hh0 hpr hC1
 refine (wf_calls (r:=none) (n:=1)).mp ?_
 refine callsIn_of_wp_marks Tryz.func75 rfl trivial ?_ rfl
 simp only [Tryz.ntmps75,List.size_toArray,List.length_cons,List.length_nil,Nat.reduceAdd,Nat.reduceSub,Array.replicate_succ,Array.replicate_zero,List.push_toArray,List.append_toArray,List.nil_append,List.cons_append]
 gi_wp2_with fail
 rw [HW1.out]
 refine (wf_calls.mpr cO.out).mono ?_
 rintro e w2 ⟨⟨v,rfl,-⟩,hB2⟩
 have HB2:=hid hB2
 have hB02:=hid (HB1.out.trans (hB2.mono HB1.out.size))
 have C2:Hid (TwoC w.heap.size 0 0 (fun b=>b=w.heap.size∨b=w.heap.size+1) w2):=C1.out.keep hB2.size (fun c hc=>hB2.block c (C1.out.lt c hc))
 by_cases hf:faultL l=0
 ·have Hf:=hid hf
  have cA2:=hid (cA.out w2 hB2 (h0+1) 12622780799 hf)
  rw [hf]
  clear hB2 hf cA
  gi_wp2_with fail
  refine (wf_calls.mpr (cH.out w2)).mono ?_
  rintro e wx ⟨rfl,hwx⟩
  rw [hwx]
  clear cH hwx
  gi_wp2_with fail
  refine (wf_calls.mpr cA2.out).mono ?_
  rintro e w3 ⟨br,bk,bps,xe,xf,xu,xr,rfl,hB3,hS3,hM3⟩
  have e1:max (h0+1) 0=h0+1:=by omega
  have e2:min 12622780799 12622780799= (12622780799:Int):=by omega
  rw [e1,e2] at hS3
  have tl:=hid (SkTells_any (cs:=l) (br:=br) (bk:=bk) (bps:=bps) xe xf xu xr (h0+1) 12622780799 (by omega) (by omega))
  obtain ⟨L,hL⟩:∃L,instA l (h0+1) 12622780799=L:=⟨_,rfl⟩
  rw [hL] at tl hP
  have hP2:Hid (pr=headP L):=by show _ = _; rw [hP.out,if_neg (by rw [Hf.out]; simp)]
  have S12:Hid (w.heap.size+2≤w2.heap.size):=by have:=HB2.out.size; have:=S1.out; show _≤_; omega
  have HB3:=hid (hB02.out.trans (hB3.mono hB02.out.size))
  have C3:=hid (C2.out.keep hB3.size (fun c hc=>hB3.block c (C2.out.lt c hc)))
  have HS3:=hid hS3
  have HM3:=hid hM3
  have HFO:Hid (∀b,FSk w2 w3 b→¬(b=w.heap.size∨b=w.heap.size+1)):=fun b hb h=>by
   have:=S12.out; have:=Ht0.out
   rcases hb with hb | hb <;> omega
  clear hB3 hS3 hM3 hL cA2 hP e1 e2
  gi_wp2_with fail
  refine range_outerG (F:=FSk w2 w3) (M:=RM br bk bps) (gf:=183) (lb:=#[.pointer (some ⟨xe,0,none⟩), .pointer (some ⟨xf,0,none⟩), .pointer (some ⟨xu,0,none⟩), .pointer (some ⟨xr,0,none⟩)]) rfl seekall_enters (fun b=>b=w.heap.size∨b=w.heap.size+1)
   (fun k vs F W h=>by obtain ⟨_,_,rfl⟩:=h; rfl) tl.out HSk.host HSk.host HSk.host HS3.out HFO.out
   (NxI19 w.heap.size) (NxX19 w.heap.size L) (nxI19_stab _ _) (nxX19_stab _ _ _) (nxI19_lt _) (nxX19_lt _ _) ⟨rfl,C3.out⟩
   (fun k O F a' W=>NxI19 w.heap.size k O F W∧∃x,L[0]? =some x∧∃(u0 u1 u2 u3 u6 u7 u9 u10 u11 u12 u13 u14 u15 u16 u17 u18 u19 u20 u21 u22 u23:Value),a' = {tmps:=#[u0,u1,u2,u3, .pointer (some ⟨w.heap.size,0,none⟩), .pointer (some ⟨w.heap.size+1,0,none⟩),u6,u7, .int .i64 x,u9,u10,u11,u12,u13,u14,u15,u16,u17,u18,u19,u20,u21,u22,u23],defers:= []})
   ?putl ?assign ?body ?done ?stop
  case putl=>
   rintro l' o k O F a' W hr hnO hnF ⟨h1,h2⟩
   exact ⟨nxI19_stab _ (RM br bk bps) k O F F W _ h1 (by rw [World.putObj_size]; exact zG _) (fun _ h=>h) (fun b hb=>World.putObj_heap_other (fun e=>hb.elim (fun h=>hnO (e ▸ h)) (fun h=>hnF (e ▸ h.1)))),h2⟩
  case assign=>
   rintro l' k O6 F6 W6 vs K hk ⟨rfl,hI⟩ hFl ⟨x,hx,rfl⟩ hG6 hK
   have HI:=hid hI
   have Hx:=hid hx
   clear hI hx hG6 hFl
   gi_wp2
   exact hK _ O6 W6 (Grow.refl _ _) ⟨⟨rfl,HI.out⟩,x,Hx.out,_,_,_,_,_,_,_,_,_,_,_,_,_,_,_,_,_,_,_,_,_,rfl⟩
  case body=>
   rintro l3 k O6 F6 a' W6 hk hG6 hl3 hrec6 hnl3 hnF3 ⟨⟨rfl,hI⟩,x,hx,u0,u1,u2,u3,u6,u7,u9,u10,u11,u12,u13,u14,u15,u16,u17,u18,u19,u20,u21,u22,u23,rfl⟩
   have HI:=hid hI
   have Hx:=hid hx
   obtain ⟨c4,c5,f4,f5,-,-,-⟩:=hI
   clear hx hG6 hk
   gi_wp2
   exact ⟨O6,⟨fun _ h=>h,fun _ h=> .inl h,((Eff.refl O6 W6).set HI.out.o4 _ _).set HI.out.o5 _ _⟩,rfl,x,Hx.out,HI.out.set⟩
  case stop=>
   rintro c k O9 F9 w9 hk1 hk2 hG9 hHN hFs hFn hFO9 ⟨rfl,x,hx,hX⟩ hD hnD hnF
   have hX':TwoC w.heap.size x 0 O9 (w9.putObj w3.heap.size (.deferred none)):=hX.keep (by rw [World.putObj_size]; exact zG _) (fun b hb=>World.putObj_heap_other (fun e=>hnD (e ▸ hb)))
   have hBf:Hid (Below w.heap.size w (w9.putObj w3.heap.size (.deferred none))):=below_putObj (HB3.out.trans (hG9.eff.below (fun b hb=>by
    rcases hb with (h | h) | h
    ·omega
    ·omega
    ·have:=HM3.out b h; have:=S12.out; omega) HB3.out.size)) HB3.out.size _
   have HD:=hid hD
   have HX:=hid hX'
   have hpr:Hid (pr= (x,0)):=by
    show _ = _
    rw [hP2.out]
    cases L with
    | nil=>simp at hx
    | cons y m=>simp at hx; rw [hx]; rfl
   clear hX hG9 hD hX' hHN hFs hFn hFO9 hnD hnF hx
   gi_wp2
   refine ⟨by simp, .inl ⟨_,_,rfl,run_takeDeferred HD.out,?_⟩⟩
   obtain ⟨c4,c5,-,-,-,-,-⟩:=HX.out
   refine ⟨.tuple #[.int .i64 x, .int .i64 0],?_,by rw [hpr.out],hBf.out⟩
   simp [results,Tryz.results75,go_sem,c4,c5]
  case done=>
   rintro O9 F9 w9 hG9 hHN hFs hFn hFO9 ⟨hk,hI⟩ hD hnD hnF
   have hpr:Hid (pr= (0,15)):=by
    show _ = _
    rw [hP2.out,show L= [] from List.length_eq_zero_iff.mp hk]; rfl
   have hX':=hI.set (x':=0) (y':=15)
   have hB9:Below w.heap.size w w9:=HB3.out.trans (hG9.eff.below (fun b hb=>by
    rcases hb with (h | h) | h
    ·omega
    ·omega
    ·have:=HM3.out b h; have:=S12.out; omega) HB3.out.size)
   have HB9:=hid hB9
   have HX:=hid hX'
   have HDx:Hid (((w9.setCell ⟨w.heap.size,0,none⟩ (.int .i64 0)).setCell ⟨w.heap.size+1,0,none⟩ (.int .i64 15)).heap[w3.heap.size]? =some (.deferred (some []))):=by
    show _ = _
    rw [Below.heap_setCell _ _ _ _ (fun e=>hnD (by rw [e]; exact hI.o5)),Below.heap_setCell _ _ _ _ (fun e=>hnD (by rw [e]; exact hI.o4))]
    exact hD
   have HND:=hid hnD
   obtain ⟨c4,c5,f4,f5,-,-,-⟩:=hI
   clear hG9 hHN hFs hFn hFO9 hnD hnF hD hB9 hX' hk
   gi_wp2
   refine ⟨by simp, .inl ⟨_,_,rfl,run_takeDeferred HDx.out,?_⟩⟩
   have hBf:=below_putObj (below_set (below_set HB9.out (by omega)) (by omega):Below w.heap.size w ((w9.setCell ⟨w.heap.size,0,none⟩ (.int .i64 0)).setCell ⟨w.heap.size+1,0,none⟩ (.int .i64 15))) HB3.out.size (.deferred none)
   have hX2:=HX.out.keep (W':=((w9.setCell ⟨w.heap.size,0,none⟩ (.int .i64 0)).setCell ⟨w.heap.size+1,0,none⟩ (.int .i64 15)).putObj w3.heap.size (.deferred none)) (by rw [World.putObj_size]; exact zG _) (fun b hb=>World.putObj_heap_other (fun e=>HND.out (e ▸ hb)))
   refine ⟨.tuple #[.int .i64 0, .int .i64 15],?_,by rw [hpr.out],hBf⟩
   obtain ⟨WF,hWF⟩:∃W,((w9.setCell ⟨w.heap.size,0,none⟩ (.int .i64 0)).setCell ⟨w.heap.size+1,0,none⟩ (.int .i64 15)).putObj w3.heap.size (.deferred none)=W:=⟨_,rfl⟩
   rw [hWF] at hX2
   obtain ⟨c4,c5,-,-,-,-,-⟩:=hX2
   rw [hWF]
   simp [results,Tryz.results75,go_sem,c4,c5]
 ·have hpr:Hid (pr= (0,faultL l)):=by show _ = _; rw [hP.out,if_pos hf]
  have hBf:Hid (Below w.heap.size w ((w2.setCell ⟨w.heap.size,0,none⟩ (.int .i64 0)).setCell ⟨w.heap.size+1,0,none⟩ (.int .i64 (faultL l)))):=below_set (below_set hB02.out (by omega)) (by omega)
  obtain ⟨X,hX⟩:∃X,faultL l=X:=⟨_,rfl⟩
  rw [hX] at hf hpr hBf⊢
  have HX:=hid (C2.out.set (x':=0) (y':=X))
  obtain ⟨c4,c5,f4,f5,-,-,-⟩:=C2.out
  have hX0:(X == 0)=false:=by simpa using hf
  have hX1:(X != 0)=true:=by simpa using hf
  clear hB2 cA hX hP
  gi_wp2
  obtain ⟨d4,d5,-,-,-,-,-⟩:=HX.out
  refine ⟨_,?_,by rw [hpr.out],hBf.out⟩
  simp [results,Tryz.results75,go_sem,d4,d5]
set_option maxRecDepth 100000 in
set_option maxHeartbeats 800000 in
theorem SkFirst_any (a:Option Addr) (cap:Nat) (l:List Cl) (w:World) (hl:l.length≤9223372036854775807) (hlc:l.length≤cap) (hs:Sl w a (cls l)) (hno:a=none→cap=0) (hok:∀c∈l,c.Ok) (hT:Tab w) :
  Calls Tryz.prog 36 #[.slice a l.length cap] w fun e w'=>e= .returned (.tuple #[.int .i64 (nextP l (-1)).1, .int .i64 (nextP l (-1)).2])∧Below w.heap.size w w':=by
 have cN:=hid (SkNext_any a cap l (-1) w hl hlc hs hno hok hT)
 obtain ⟨pr,hpr⟩:∃x,nextP l (-1)=x:=⟨_,rfl⟩
 rw [hpr] at cN⊢
 clear hs hno hok hT hpr
 go_enter Tryz.func36,Tryz.ntmps36
 go_wp2_with fail
 refine cN.out.mono ?_
 rintro e w2 ⟨rfl,hB⟩
 have HB:=hid hB
 clear hB
 go_wp2
 go_ret2
 exact ⟨rfl,HB.out⟩
end
section
open Go.RowKit Go.Maps
theorem run_same_diff {P:Program} {w:World} {d x:Nat} (cd:(w.cell? ⟨d,0,none⟩).isSome=true) (cx:(w.cell? ⟨x,0,none⟩).isSome=true) (hd:∀i,w.frozen? ⟨d,i,none⟩=false) (hx:∀i,w.frozen? ⟨x,i,none⟩=false) (hne:d≠x) :
  (sameAddr ⟨d,0,none⟩ ⟨x,0,none⟩).run P w= .ok false w:=by
 have key:∀b,(w.cell? ⟨b,0,none⟩).isSome=true→∃c t s,w.heap[b]? =some (.cells c t s):=fun b h=>by
  unfold World.cell? at h
  split at h
  ·exact ⟨_,_,_,by assumption⟩
  ·cases h
 obtain ⟨c1,t1,s1,e1⟩:=key d cd
 obtain ⟨c2,t2,s2,e2⟩:=key x cx
 have sd:w.shape? d=some (t1,c1.size):=by unfold World.shape?; rw [e1]
 have sx:w.shape? x=some (t2,c2.size):=by unfold World.shape?; rw [e2]
 simp [sameAddr,hne,noView,viewAt,mayBeOne,stringish,hd,hx,sd,sx]
structure CntC (bl:Nat) (c:Option Nat) (m:Int) (W:World):Prop where
 cl:W.cell? ⟨bl,0,none⟩=some (dptr c)
 cm:W.cell? ⟨bl+1,0,none⟩=some (.int .i64 m)
 fl:W.frozen? ⟨bl,0,none⟩=false
 fm:W.frozen? ⟨bl+1,0,none⟩=false
 lt:bl+1 < W.heap.size
theorem CntC.block {bl:Nat} {c:Option Nat} {m:Int} {W W':World} (h:CntC bl c m W) (hs:W.heap.size≤W'.heap.size) (h0:W'.heap[bl]? =W.heap[bl]?) (h1:W'.heap[bl+1]? =W.heap[bl+1]?):CntC bl c m W':=
 ⟨(World.cell?_of_block (w:=W) (a:=⟨bl,0,none⟩) h0).trans h.cl,(World.cell?_of_block (w:=W) (a:=⟨bl+1,0,none⟩) h1).trans h.cm,
  (World.frozen?_of_block (w:=W) (a:=⟨bl,0,none⟩) h0).trans h.fl,(World.frozen?_of_block (w:=W) (a:=⟨bl+1,0,none⟩) h1).trans h.fm,zH h.lt hs⟩
theorem CntC.set {bl:Nat} {c c':Option Nat} {m m':Int} {W:World} (h:CntC bl c m W):CntC bl c' m' ((W.setCell ⟨bl,0,none⟩ (dptr c')).setCell ⟨bl+1,0,none⟩ (.int .i64 m')):=by
 obtain ⟨h1,h2,h3,h4,h5⟩:=h
 refine ⟨?_,?_,?_,?_,by simpa using h5⟩ <;> simp [go_sem,h1,h2,h3,h4]
def Knows (c:Option Nat) (m:Int) (M F:Blk) (W:World):Prop:=∀x,c=some x→F x∧¬M x∧∃q,DiscAt W x q∧m= ((secL q).length:Nat)
theorem Knows.none {m:Int} {M F:Blk} {W:World}:Knows none m M F W:=fun x h=>by cases h
theorem Knows.keep {c:Option Nat} {m:Int} {M F F':Blk} {W W':World} (h:Knows c m M F W) (hs:W.heap.size≤W'.heap.size) (hF:∀b,F b→F' b) (hb:∀b,F b∧¬M b→W'.heap[b]? =W.heap[b]?):Knows c m M F' W':=fun x hx=>by
 obtain ⟨h1,h2,q,h3,h4⟩:=h x hx
 exact ⟨hF x h1,h2,q,h3.block hs (hb x ⟨h1,h2⟩),h4⟩
end
section
open Go.RowKit Go.Maps
def PtrOk (w:World) (d:Option Nat):Prop:=∀x,d=some x→(w.cell? ⟨x,0,none⟩).isSome=true∧∀i,w.frozen? ⟨x,i,none⟩=false
theorem PtrOk.disc {w:World} {d:Option Nat} {q:Nat→Bool} (h:DiscO w d q):PtrOk w d:=fun x hx=>by
 subst hx
 obtain ⟨f,h1,h2,-⟩:=h
 exact ⟨by rw [h1 0 (by omega)]; rfl,h2⟩
theorem PtrOk.block {w w':World} {d:Option Nat} (h:PtrOk w d) (hb:∀x,d=some x→w'.heap[x]? =w.heap[x]?):PtrOk w' d:=fun x hx=>by
 obtain ⟨h1,h2⟩:=h x hx
 exact ⟨by rw [World.cell?_of_block (w:=w) (a:=⟨x,0,none⟩) (hb x hx)]; exact h1,fun i=>(World.frozen?_of_block (w:=w) (a:=⟨x,i,none⟩) (hb x hx)).trans (h2 i)⟩
theorem ptrEq_run {w:World} {d e:Option Nat} (hd:PtrOk w d) (he:PtrOk w e) (n:Nat):(Op.equalIn (n+1) 106 (dptr d) (dptr e)).run Tryz.prog w= .ok (decide (d=e)) w:=by
 have hp:=Tryz.underlying106
 cases d with
 | none=>
   cases e with
   | none=>simp [Op.equalIn,run_underlying hp,dptr]
   | some y=>simp [Op.equalIn,run_underlying hp,dptr]
 | some x=>
   cases e with
   | none=>simp [Op.equalIn,run_underlying hp,dptr]
   | some y=>
     have hi:((Tryz.prog.info? 185).map fun i=>decide (i.size≠0))=some true:=by kernel_rfl
     cases hj:Tryz.prog.info? 185 with
     | none=>rw [hj] at hi; cases hi
     | some j=>
       rw [hj] at hi
       have hsz:j.size≠0:=by simpa using hi
       have hs:(sameAddr ⟨x,0,none⟩ ⟨y,0,none⟩).run Tryz.prog w= .ok (decide (x=y)) w:=by
        by_cases hne:x=y
        ·subst hne; rw [run_sameAddr_same]; simp
        ·rw [run_same_diff (hd x rfl).1 (he y rfl).1 (hd x rfl).2 (he y rfl).2 hne]; simp [hne]
       simp [Op.equalIn,run_underlying hp,sizeOf,typeInfo,hj,hsz,hs,dptr]
end
section
open Go.RowKit Go.Maps
attribute [local go_sem ↓] loadAt_3b storeAt_3b
def lookI (v x:Value):Sem Value:=Instr.lookup 250 v x true
theorem look_i (v x:Value):Instr.lookup 250 v x true=lookI v x:=rfl
def lnI (v:Value):Sem Value:=Builtin.len_ #[250] 3 #[v]
theorem ln_i (v:Value):Builtin.len_ #[250] 3 #[v]=lnI v:=rfl
def updI (v x y:Value):Sem Unit:=Instr.mapUpdate 250 v x y
theorem upd_i (v x y:Value):Instr.mapUpdate 250 v x y=updI v x y:=rfl
attribute [local go_sem ↓] look_i ln_i upd_i
def DiK (W:World) (F M:Blk) (v:Value):Prop:=∃d q,v= .pointer (some ⟨d,0,none⟩)∧DiF W F M d q
def DiG (W:World) (F M:Blk) (x v:Value):Prop:=∃d q,x= .pointer (some ⟨d,0,none⟩)∧DiF W F M d q∧v=bv3 (nrB (secL q))
section
variable {W W':World} {F F' M:Blk}
theorem DiF.keepI {d:Nat} {q:Nat→Bool} (h:DiF W F M d q) (hs:W.heap.size≤W'.heap.size) (hF:∀b,F b→F' b) (hb:∀b,F b∧¬M b→W'.heap[b]? =W.heap[b]?):DiF W' F' M d q:=
 ⟨hF _ h.1,h.2.1,h.2.2.block hs (hb _ ⟨h.1,h.2.1⟩)⟩
theorem DiK.keep {v:Value} (h:DiK W F M v) (hs:W.heap.size≤W'.heap.size) (hF:∀b,F b→F' b) (hb:∀b,F b∧¬M b→W'.heap[b]? =W.heap[b]?):DiK W' F' M v:=by
 obtain ⟨d,q,h1,h2⟩:=h
 exact ⟨d,q,h1,h2.keepI hs hF hb⟩
theorem DiG.keep {x v:Value} (h:DiG W F M x v) (hs:W.heap.size≤W'.heap.size) (hF:∀b,F b→F' b) (hb:∀b,F b∧¬M b→W'.heap[b]? =W.heap[b]?):DiG W' F' M x v:=by
 obtain ⟨d,q,h1,h2,h3⟩:=h
 exact ⟨d,q,h1,h2.keepI hs hF hb,h3⟩
theorem MapI.keep {b n:Nat} (h:MapS (DiK W F M) (DiG W F M) W b n) (hs:W.heap.size≤W'.heap.size) (hF:∀b,F b→F' b) (hb:∀b,F b∧¬M b→W'.heap[b]? =W.heap[b]?) (hm:W'.heap[b]? =W.heap[b]?):MapS (DiK W' F' M) (DiG W' F' M) W' b n:=
 (h.keep hm).mono (zG _) (fun v hv=>hv.keep hs hF hb) (fun x v hv=>hv.keep hs hF hb)
set_option maxRecDepth 100000 in
theorem discT (W:World) (F M:Blk):KeyT Tryz.prog 106 (DiK W F M) W:=by
 refine KeyT.ask Tryz.underlying106 ?_ ?_ ?_ ?_
 ·rintro _ _ ⟨d,q,rfl,-⟩ ⟨d',q',rfl,-⟩; rfl
 ·rintro em _ ⟨d,q,rfl,-⟩; kernel_rfl
 ·rintro _ _ ⟨d,q,rfl,h⟩ ⟨d',q',rfl,h'⟩
  have e:=ptrEq_run (w:=W) (d:=some d) (e:=some d') (PtrOk.disc (d:=some d) (q:=q) h.2.2) (PtrOk.disc (d:=some d') (q:=q') h'.2.2) 9999
  refine ⟨_,e,fun hd=>?_⟩
  rw [decide_eq_true_eq] at hd
  injection hd with hd
  rw [hd]
 ·rintro _ ⟨d,q,rfl,-⟩; simp [Instr.sameBits]
end
structure PuS (bx bm:Nat) (F M:Blk) (W:World):Prop where
 c:W.cell? ⟨bx,0,none⟩=some (.map (some bm))
 m:MapS (DiK W F M) (DiG W F M) W bm 512
 nx:¬F bx
 nm:¬F bm
 ne:bx≠bm
 lx:bx < W.heap.size
 lt:∀b,F b→b < W.heap.size
theorem PuS.keep {bx bm:Nat} {F F' M:Blk} {W W':World} (h:PuS bx bm F M W) (hs:W.heap.size≤W'.heap.size) (hF:∀b,F b→F' b) (hN:∀b,F' b→F b∨W.heap.size≤b) (hl:∀b,F' b→b < W'.heap.size) (hb:∀b,F b∧¬M b→W'.heap[b]? =W.heap[b]?) (hx:W'.heap[bx]? =W.heap[bx]?) (hm:W'.heap[bm]? =W.heap[bm]?):PuS bx bm F' M W':=
 ⟨(World.cell?_of_block (w:=W) (a:=⟨bx,0,none⟩) hx).trans h.c,MapI.keep h.m hs hF hb hm,fun e=>(hN _ e).elim h.nx (fun g=>by have:=h.lx; omega),fun e=>(hN _ e).elim h.nm (fun g=>by have:=h.m.lt; omega),h.ne,zH h.lx hs,hl⟩
structure PuM (bx bm b0 b1:Nat) (F M:Blk) (n:Nat) (W0 W:World):Prop where
 c:W.cell? ⟨bx,0,none⟩=some (.map (some bm))
 m:MapS (DiK W F M) (DiG W F M) W bm n
 eff:Eff (fun c=>c=bm) W0 W
 a0:BtS b0 3 (fun _=>(false,0,0)) W
 a1:∃B,BtS b1 3 B W
set_option maxRecDepth 100000 in
set_option maxHeartbeats 3200000 in
theorem PInners1_any {bx bm d:Nat} {F M:Blk} {q:Nat→Bool} {W:World} (h:PuS bx bm F M W) (hd:DiF W F M d q) (hT:Tab W) (hTF:F 0) :
  Calls Tryz.prog 176 #[.pointer (some ⟨d,0,none⟩), .pointer (some ⟨bx,0,none⟩)] W fun e W'=>e= .returned (bv3 (nrB (secL q)))∧PuS bx bm F M W'∧Eff (fun c=>c=bm) W W':=by
 obtain ⟨W1,hW1⟩:∃W1,W.alloc (.cells #[.bool false, .int .i64 0, .int .i64 0, .bool false, .int .i64 0, .int .i64 0, .bool false, .int .i64 0, .int .i64 0] 192)=W1:=⟨_,rfl⟩
 have hB1:Below W.heap.size W W1:=by rw [←hW1]; exact below_new (Below.refl _ _) (zG _)
 have s1:W1.heap.size=W.heap.size+1:=by rw [←hW1]; simp
 have hA0:BtS W.heap.size 3 (fun _=>(false,0,0)) W1:=by rw [←hW1]; exact btS_new W 192 3
 have hk:∀b,F b∧¬M b→W1.heap[b]? =W.heap[b]?:=fun b hb=>hB1.block b (h.lt b hb.1)
 have hP1:=h.keep (F':=F) hB1.size (fun _ h=>h) (fun _ h=> .inl h) (fun b hb=>zH (h.lt b hb) hB1.size) hk (hB1.block _ h.lx) (hB1.block _ h.m.lt)
 have hd1:=hd.keepI (W':=W1) (F':=F) hB1.size (fun _ h=>h) hk
 have hL:=hP1.m.lookup (discT W1 F M) (t:=250) Tryz.underlying250 (z:=bv3 (fun _=>(false,0,0))) (by kernel_rfl) true (x:= .pointer (some ⟨d,0,none⟩)) ⟨d,q,rfl,hd1⟩
 have hN:∀c,(c=bm∨c=bx∨F c)→c < W.heap.size:=fun c hc=>by
  rcases hc with rfl | rfl | hc
  ·exact h.m.lt
  ·exact h.lx
  ·exact h.lt c hc
 have c1:=hP1.c
 have HH:=hid h
 have HP1:=hid hP1
 have HB1:=hid hB1
 have S1:=hid s1
 have HA0:=hid hA0
 have HN:=hid hN
 have HD1:=hid hd1
 have HW1:=hid hW1
 have HT:=hid (And.intro hT hTF)
 -- the box of what is found
 have hbox:Hid (∀B:Nat→Bt,(store3S (.pointer (some ⟨W1.heap.size,0,none⟩)) (bv3 B)).run Tryz.prog (W1.alloc (.cells #[.bool false, .int .i64 0, .int .i64 0, .bool false, .int .i64 0, .int .i64 0, .bool false, .int .i64 0, .int .i64 0] 192))= .ok () ((W1.alloc (.cells #[.bool false, .int .i64 0, .int .i64 0, .bool false, .int .i64 0, .int .i64 0, .bool false, .int .i64 0, .int .i64 0] 192)).setCells W1.heap.size 0 (btL 3 B))∧
   BtS W1.heap.size 3 B ((W1.alloc (.cells #[.bool false, .int .i64 0, .int .i64 0, .bool false, .int .i64 0, .int .i64 0, .bool false, .int .i64 0, .int .i64 0] 192)).setCells W1.heap.size 0 (btL 3 B))∧Below W1.heap.size W1 ((W1.alloc (.cells #[.bool false, .int .i64 0, .int .i64 0, .bool false, .int .i64 0, .int .i64 0, .bool false, .int .i64 0, .int .i64 0] 192)).setCells W1.heap.size 0 (btL 3 B))):=fun B=>by
  have e:BtS W1.heap.size 3 (fun _=>(false,0,0)) (W1.alloc (.cells #[.bool false, .int .i64 0, .int .i64 0, .bool false, .int .i64 0, .int .i64 0, .bool false, .int .i64 0, .int .i64 0] 192)):=btS_new W1 192 3
  exact ⟨e.st3 B,e.put B,(below_new (Below.refl _ _) (zG _)).trans ((Eff.setCells (O:=fun x=>x=W1.heap.size) rfl (btL 3 B) 0 _ (Eff.refl _ _)).below (by rintro b rfl; exact zG _) (by simp))⟩
 have hfin:Hid (∀B W2,BtS W.heap.size 3 (fun _=>(false,0,0)) W2→(store3S (.pointer (some ⟨W.heap.size,0,none⟩)) (bv3 B)).run Tryz.prog W2= .ok () (W2.setCells W.heap.size 0 (btL 3 B))∧BtS W.heap.size 3 B (W2.setCells W.heap.size 0 (btL 3 B))∧Eff (fun c=>c=W.heap.size) W2 (W2.setCells W.heap.size 0 (btL 3 B))):=fun B W2 e=>
  ⟨e.st3 B,e.put B,Eff.setCells (O:=fun x=>x=W.heap.size) rfl (btL 3 B) 0 _ (Eff.refl _ _)⟩
 obtain ⟨B,hB⟩:∃B,nrB (secL q)=B:=⟨_,rfl⟩
 rw [hB]
 have HBq:=hid hB
 clear hW1 hB1 s1 hA0 hk hP1 hd1 h hd hN hT hTF hB
 go_enter Tryz.func176,Tryz.ntmps176
 go_upto_region 1 with fail
 rw [HW1.out]
 rcases hL with hl | ⟨v,hv,hl⟩
 rotate_left
 ·obtain ⟨d',q',e1,hd',rfl⟩:=hv
  have hq:secL q' =secL q:=by
   injection e1 with e1; injection e1 with e1; injection e1 with e1
   subst e1
   have e:(List.range 86400).filter q' = (List.range 86400).filter q:=List.filter_congr fun k hk=>DiscAt.unique hd'.2.2 HD1.out.2.2 k (List.mem_range.1 hk)
   rw [secL,secL,sel,sel,e]
  rw [hq,HBq.out] at hl
  replace hl:(lookI (.map (some bm)) (.pointer (some ⟨d,0,none⟩))).run Tryz.prog W1= .ok (.tuple #[bv3 B, .bool true]) W1:=hl
  obtain ⟨b1,b2,b3⟩:=hbox.out B
  have H2:=hid b2
  have H3:=hid b3
  clear b2 b3 hd' hq e1
  go_upto_region 2 with fail
  obtain ⟨w2,hw2⟩:∃w2,(W1.alloc (.cells #[.bool false, .int .i64 0, .int .i64 0, .bool false, .int .i64 0, .int .i64 0, .bool false, .int .i64 0, .int .i64 0] 192)).setCells W1.heap.size 0 (btL 3 B)=w2:=⟨_,rfl⟩
  rw [hw2] at H2 H3
  rw [hw2]
  have ld:=H2.out.ld3
  have hA2:BtS W.heap.size 3 (fun _=>(false,0,0)) w2:=HA0.out.block H3.out.size (H3.out.block _ HA0.out.lt)
  obtain ⟨f1,f2,f3⟩:=hfin.out B w2 hA2
  have F2:=hid f2
  have F3:=hid f3
  have HB2:Hid (Below W.heap.size W w2):=HB1.out.trans (H3.out.mono HB1.out.size)
  clear b1 hl hw2 hA2 f2 f3 c1
  go_wp2
  have hB4:Below W.heap.size W (w2.setCells W.heap.size 0 (btL 3 B)):=HB2.out.trans (F3.out.below (by rintro b rfl; exact zG _) HB2.out.size)
  refine bodyPost_ret (results_cell_mid rfl _ _ W.heap.size 0 _ _ rfl F2.out.range Tryz.underlying192 rfl (by rw [btL_len]; exact info3b)) rfl ⟨rfl,?_,Eff.of_below hB4⟩
  exact HH.out.keep hB4.size (fun _ h=>h) (fun _ h=> .inl h) (fun b hb=>zH (HH.out.lt b hb) hB4.size) (fun b hb=>hB4.block b (HH.out.lt b hb.1)) (hB4.block _ HH.out.lx) (hB4.block _ HH.out.m.lt)
 ·replace hl:(lookI (.map (some bm)) (.pointer (some ⟨d,0,none⟩))).run Tryz.prog W1= .ok (.tuple #[bv3 (fun _=>(false,0,0)), .bool false]) W1:=hl
  obtain ⟨b1,b2,b3⟩:=hbox.out (fun _=>(false,0,0))
  have H2:=hid b2
  have H3:=hid b3
  clear b2 b3
  go_upto_region 2 with fail
  obtain ⟨w2,hw2⟩:∃w2,(W1.alloc (.cells #[.bool false, .int .i64 0, .int .i64 0, .bool false, .int .i64 0, .int .i64 0, .bool false, .int .i64 0, .int .i64 0] 192)).setCells W1.heap.size 0 (btL 3 fun _=>(false,0,0))=w2:=⟨_,rfl⟩
  rw [hw2] at H2 H3
  rw [hw2]
  have HB2:Hid (Below W.heap.size W w2):=HB1.out.trans (H3.out.mono HB1.out.size)
  have hk2:∀b,F b∧¬M b→w2.heap[b]? =W.heap[b]?:=fun b hb=>HB2.out.block b (HH.out.lt b hb.1)
  have hm2:MapS (DiK w2 F M) (DiG w2 F M) w2 bm 512:=MapI.keep HH.out.m HB2.out.size (fun _ h=>h) hk2 (HB2.out.block _ HH.out.m.lt)
  have c2:w2.cell? ⟨bx,0,none⟩=some (.map (some bm)):=(HB2.out.cell (p:=⟨bx,0,none⟩) HH.out.lx).trans HH.out.c
  have HA2:Hid (BtS W.heap.size 3 (fun _=>(false,0,0)) w2):=HA0.out.block H3.out.size (H3.out.block _ HA0.out.lt)
  obtain ⟨k,hk,hPk,ql⟩:=hm2.count (t:=250) Tryz.underlying250 3
  replace ql:(lnI (.map (some bm))).run Tryz.prog w2= .ok (.int .i64 k) w2:=ql
  have HPk:=hid hPk
  have Hk:=hid hk
  have Hm2:=hid hm2
  have Hc2:=hid c2
  obtain ⟨bb,hbb⟩:∃c,W1.heap.size=c:=⟨_,rfl⟩
  have Hbb:Hid (bb=W.heap.size+1):=by show _ = _; rw [←hbb,S1.out]
  rw [hbb] at H2 H3
  rw [hbb]
  clear b1 hl hw2 hk2 hm2 c1 hPk hk hbox hbb
  iterate 12 go_step
  (try dsimp only)
  go_cut [] from 18 (fun wx=>PuM bx bm W.heap.size bb F M 511 W wx)
  case first=>
   by_cases h5:(k:Int)=512
   ·have hkd:((k:Int) == 512)=true:=by rw [h5]; rfl
    clear h5
    go_wp2_with (with_reducible refine wpList_clearS (t:=250) (.tmp 17) rfl rfl Tryz.underlying250 Hm2.out rfl ?_)
    intro w3 hM3 hg3
    have hE3:Eff (fun c=>c=bm) w2 w3:=Eff.of_grown hg3 rfl
    have hS3:PuM bx bm W.heap.size bb F M 511 W w3:=by
     have hb:∀b,b < w2.heap.size→b≠bm→w3.heap[b]? =w2.heap[b]?:=fun b hb hn=>hE3.block b hb hn
     have l2:=HB2.out.size
     have lm:=HH.out.m.lt
     refine ⟨(World.cell?_of_block (w:=w2) (a:=⟨bx,0,none⟩) (hb bx (zH HH.out.lx l2) HH.out.ne)).trans Hc2.out,?_,(Eff.of_below HB2.out).trans hE3 (fun b h=> .inl h),HA2.out.block hE3.size (hb _ HA2.out.lt (by omega)),_,H2.out.block hE3.size (hb _ H2.out.lt (by have:=Hbb.out; omega))⟩
     exact hM3.mono (by omega) (fun v hv=>hv.keep hE3.size (fun _ h=>h) (fun b hf=>hb b (zH (HH.out.lt b hf.1) l2) (fun e=>HH.out.nm (e ▸ hf.1)))) (fun x v hv=>hv.keep hE3.size (fun _ h=>h) (fun b hf=>hb b (zH (HH.out.lt b hf.1) l2) (fun e=>HH.out.nm (e ▸ hf.1))))
    have HS3:=hid hS3
    clear ql hkd c2 hM3 hg3 hE3 hS3
    go_wp2
    go_meet
    exact HS3.out
   ·have hkd:((k:Int) == 512)=false:=by simpa using h5
    have HS3:Hid (PuM bx bm W.heap.size bb F M 511 W w2):=⟨Hc2.out,HPk.out.mono (by have:=Hk.out; omega) (fun _ h=>h) (fun _ _ h=>h),Eff.of_below HB2.out,HA2.out,_,H2.out⟩
    clear h5
    go_wp2
    go_meet
    exact HS3.out
  case rest=>
   have HC:=hid hcut
   have lm:=HH.out.m.lt
   have hdn:d≠bm:=fun e=>HH.out.nm (e ▸ HD1.out.1)
   have hld:d < W.heap.size:=HH.out.lt d HD1.out.1
   have hdc:DiscAt wc d q:=by
    have h0:DiscAt W1 d q:=HD1.out.2.2
    have e:wc.heap[d]? =W1.heap[d]?:=(hcut.eff.block d hld hdn).trans (HB1.out.block d hld).symm
    exact DiscAt.block h0 (by have:=S1.out; have:=hcut.a1; have:=hcut.a0.lt; obtain ⟨B',hB'⟩:=hcut.a1; have:=hB'.lt; have:=Hbb.out; omega) e
   have hTc:Tab wc:=HT.out.1.eff hcut.eff (fun e=>HH.out.nm (e ▸ HT.out.2))
   have cI:=hid (Inner_any d q wc hTc hdc)
   rw [HBq.out] at cI
   clear hcut lm hdn hld hdc hTc ql c2
   go_wp2_with fail
   refine cI.out.mono ?_
   rintro e w4 ⟨rfl,hB4⟩
   obtain ⟨B4,hB4'⟩:=HC.out.a1
   have l4:=hB4.size
   have g4:=hB4'.block (W':=w4) l4 (hB4.block _ hB4'.lt)
   have st4:=g4.st3 B
   have p4:=hid (g4.put B)
   have e4:Eff (fun c=>c=bb) w4 (w4.setCells bb 0 (btL 3 B)):=Eff.setCells (O:=fun x=>x=bb) rfl (btL 3 B) 0 _ (Eff.refl _ _)
   have E4:=hid ((HC.out.eff.trans (Eff.of_below (O:=fun c=>c=bm) hB4) (fun _ h=> .inl h)).trans e4 (fun b hb=> .inr (by have:=Hbb.out; omega)))
   have lm:=HH.out.m.lt
   have lx:=HH.out.lx
   have hne:=HH.out.ne
   have kb:∀b,b < W.heap.size→(w4.setCells bb 0 (btL 3 B)).heap[b]? =wc.heap[b]?:=fun b hb=>by
    have hl:b < wc.heap.size:=zH hb HC.out.eff.size
    exact (e4.block b (zH hl l4) (by have:=Hbb.out; omega)).trans (hB4.block b hl)
   have c5:(w4.setCells bb 0 (btL 3 B)).cell? ⟨bx,0,none⟩=some (.map (some bm)):=(World.cell?_of_block (w:=wc) (a:=⟨bx,0,none⟩) (kb bx lx)).trans HC.out.c
   have m5:MapS (DiK (w4.setCells bb 0 (btL 3 B)) F M) (DiG (w4.setCells bb 0 (btL 3 B)) F M) (w4.setCells bb 0 (btL 3 B)) bm 511:=
    MapI.keep HC.out.m (zI l4 e4.size) (fun _ h=>h) (fun b hb=>kb b (HH.out.lt b hb.1)) (kb bm lm)
   have a5:BtS W.heap.size 3 (fun _=>(false,0,0)) (w4.setCells bb 0 (btL 3 B)):=(HC.out.a0.block l4 (hB4.block _ HC.out.a0.lt)).block e4.size (e4.block _ (zH HC.out.a0.lt l4) (by have:=Hbb.out; omega))
   have d5:DiF (w4.setCells bb 0 (btL 3 B)) F M d q:=HD1.out.keepI (by have:=E4.out.size; have:=S1.out; have:=p4.out.lt; have:=Hbb.out; omega) (fun _ h=>h) (fun b hb=>(kb b (HH.out.lt b hb.1)).trans ((HC.out.eff.block b (HH.out.lt b hb.1) (fun e=>HH.out.nm (e ▸ hb.1))).trans (HB1.out.block b (HH.out.lt b hb.1)).symm))
   obtain ⟨w5,hw5⟩:∃w5,w4.setCells bb 0 (btL 3 B)=w5:=⟨_,rfl⟩
   rw [hw5] at st4 p4 E4 c5 m5 a5 d5
   obtain ⟨w6,q6,m6,g6⟩:=m5.update (discT w5 F M) (t:=250) (e:=192) Tryz.underlying250 (x:= .pointer (some ⟨d,0,none⟩)) ⟨d,q,rfl,d5⟩ (v:=bv3 B) ⟨d,q,rfl,d5,by rw [HBq.out]⟩
   replace q6:(updI (.map (some bm)) (.pointer (some ⟨d,0,none⟩)) (bv3 B)).run Tryz.prog w5= .ok () w6:=q6
   have e6:Eff (fun c=>c=bm) w5 w6:=Eff.of_grown g6 rfl
   have ld5:=p4.out.ld3
   have lb6:bb≠bm:=by have:=Hbb.out; omega
   have p6:=p4.out.block e6.size (e6.block _ p4.out.lt lb6)
   have ld6:=p6.ld3
   have a6:=a5.block e6.size (e6.block _ a5.lt (by omega))
   obtain ⟨f1,f2,f3⟩:=hfin.out B w6 a6
   have F2:=hid f2
   have hE7:Eff (fun c=>c=bm) W (w6.setCells W.heap.size 0 (btL 3 B)):=(E4.out.trans e6 (fun _ h=> .inl h)).trans f3 (fun b hb=> .inr (by omega))
   have hm6:MapS (DiK w6 F M) (DiG w6 F M) w6 bm 512:=m6.mono (zG _) (fun v hv=>hv.keep e6.size (fun _ h=>h) (fun b hb=>e6.block b (zH (HH.out.lt b hb.1) E4.out.size) (fun e=>HH.out.nm (e ▸ hb.1)))) (fun x v hv=>hv.keep e6.size (fun _ h=>h) (fun b hb=>e6.block b (zH (HH.out.lt b hb.1) E4.out.size) (fun e=>HH.out.nm (e ▸ hb.1))))
   have hS7:PuS bx bm F M (w6.setCells W.heap.size 0 (btL 3 B)):=by
    have k7:∀b,b < W.heap.size→(w6.setCells W.heap.size 0 (btL 3 B)).heap[b]? =w6.heap[b]?:=fun b hb=>f3.block b (zH hb (zI E4.out.size e6.size)) (by omega)
    have c6:w6.cell? ⟨bx,0,none⟩=some (.map (some bm)):=(e6.cell (p:=⟨bx,0,none⟩) (zH lx E4.out.size) hne).trans c5
    exact ⟨(World.cell?_of_block (w:=w6) (a:=⟨bx,0,none⟩) (k7 bx lx)).trans c6,MapI.keep hm6 f3.size (fun _ h=>h) (fun b hb=>k7 b (HH.out.lt b hb.1)) (k7 bm lm),HH.out.nx,HH.out.nm,hne,zH lx hE7.size,fun b hb=>zH (HH.out.lt b hb) hE7.size⟩
   have HS7:=hid hS7
   have HE7:=hid hE7
   have Hw5:=hid hw5
   have c6:w6.cell? ⟨bx,0,none⟩=some (.map (some bm)):=(e6.cell (p:=⟨bx,0,none⟩) (zH lx E4.out.size) hne).trans c5
   clear hB4 hB4' g4 e4 kb m5 a5 d5 m6 g6 e6 p6 a6 f2 f3 hE7 hm6 hS7 lb6 lm lx hne l4 hw5 cI
   go_wp2
   exact bodyPost_ret (results_cell_mid rfl _ _ W.heap.size 0 _ _ rfl F2.out.range Tryz.underlying192 rfl (by rw [btL_len]; exact info3b)) rfl ⟨rfl,HS7.out,HE7.out⟩
end
end Go.Proofs.YtmjljpdeohbfbaaGreatDoor
