/-
  seek.Next and seek.First.
  tally.counter (and its function) and tally.part.
  Keys that are two pointers: what meet.asked keeps.
  pulse.inners: the beats of discs, and those that are known again.
  cast.fresh: whether a disc is one that was not asked for yet.
  pulse.outer: which day, week, month and year a day is.
  What the beats of a clause's instants are, day by day (plain).
  pulse.inners, pulse.alone: the beats of one clause's instants.
-/
import Derived.Test.YtkpgfmonhfnhdaaGreatDoorQ09eccc
import Derived.Test.YtkpgfmonhfnhdaaGreatDoorQfd7bf8
import Derived.LaidEql
import Derived.Laws.EntriesVeiled
import Derived.Test.YtkpgfmonhfnhdaaGreatDoorQ4d98a8
import Derived.Test.YtkpgfmonhfnhdaaGreatDoorQfea719
import Derived.Test.YtkpgfmonhfnhdaaGreatDoorQ82e313
import Derived.Deep.Cut
import Derived.BigRegion
import Derived.Test.YtkpgfmonhfnhdaaGreatDoorQ1af996
import Derived.Test.YtkpgfmonhfnhdaaGreatDoorQ446fa1
import Derived.Test.YtkpgfmonhfnhdaaGreatDoorQf7cea8
import Derived.Test.YtkpgfmonhfnhdaaGreatDoorQ0be0eb
set_option maxRecDepth 100000
set_option maxHeartbeats 25600000
namespace Go.Proofs.YtkpgfmonhfnhdaaGreatDoor
set_option linter.unusedVariables false
section
open Go.RowKit Go.Maps
attribute [local go_sem] Oper.semAt_some
def ygc:List Int→Int × Int
 | []=>(0,15)
 | x :: _=>(x,0)
def ydn (l:List Cl) (t:Int):Int × Int:=if yah l≠0 then (0,yah l) else ygc (ybh l (ybX t+1) 12622780799)
structure TwoC (b:Nat) (x y:Int) (O:Blk) (W:World):Prop where
 c4:W.cell? ⟨b,0,none⟩=some (.int .i64 x)
 c5:W.cell? ⟨b+1,0,none⟩=some (.int .i64 y)
 f4:W.frozen? ⟨b,0,none⟩=false
 f5:W.frozen? ⟨b+1,0,none⟩=false
 o4:O b
 o5:O (b+1)
 lt:∀c,O c→c < W.heap.size
theorem TwoC.keep {b:Nat} {x y:Int} {O:Blk} {W W':World} (h:TwoC b x y O W) (hs:W.heap.size≤W'.heap.size) (hb:∀c,O c→W'.heap[c]? =W.heap[c]?):TwoC b x y O W':=
 ⟨(zzJ (w:=W) (a:=⟨b,0,none⟩) (hb _ h.o4)).trans h.c4,(zzJ (w:=W) (a:=⟨b+1,0,none⟩) (hb _ h.o5)).trans h.c5,
  (zzM (w:=W) (a:=⟨b,0,none⟩) (hb _ h.o4)).trans h.f4,(zzM (w:=W) (a:=⟨b+1,0,none⟩) (hb _ h.o5)).trans h.f5,h.o4,h.o5,fun c hc=>zH (h.lt c hc) hs⟩
theorem TwoC.set {b:Nat} {x y x' y':Int} {O:Blk} {W:World} (h:TwoC b x y O W):TwoC b x' y' O ((W.setCell ⟨b,0,none⟩ (.int .i64 x')).setCell ⟨b+1,0,none⟩ (.int .i64 y')):=by
 obtain ⟨h1,h2,h3,h4,h5,h6,h7⟩:=h
 refine ⟨?_,?_,?_,?_,h5,h6,fun c hc=>by simpa using h7 c hc⟩ <;> simp [go_sem,h1,h2,h3,h4]
def NxI19 (b:Nat):OwnF:=fun k O _ W=>k=0∧TwoC b 0 0 O W
def NxX19 (b:Nat) (xs:List Int) (c:Code):OwnF:=fun k O _ W=>c= .ret∧∃x,xs[0]? =some x∧TwoC b x 0 O W
theorem yfp (b:Nat) (M:Blk):StabF M (NxI19 b):=fun k O F F' W W' h hs hF hO=>⟨h.1,h.2.keep hs (fun c hc=>hO c (.inl hc))⟩
theorem yjE (b:Nat) (xs:List Int) (M:Blk) (c:Code):StabF M (NxX19 b xs c):=fun k O F F' W W' ⟨h1,x,h2,h3⟩ hs hF hO=>⟨h1,x,h2,h3.keep hs (fun c hc=>hO c (.inl hc))⟩
theorem nxI19_lt (b:Nat):LtF (NxI19 b):=fun k O F W h=>h.2.lt
theorem nxX19_lt (b:Nat) (xs:List Int) (c:Code):LtF (NxX19 b xs c):=fun k O F W ⟨_,_,_,h⟩=>h.lt
theorem yfa (args:Array Value) (w:World):(callFunc 131 args).run Tryz.prog w= .ok (.enter 131 args) w:=by simp [go_sem]
theorem held_ge (t:Int):-1≤ybX t:=by rw [ybX]; omega
theorem held_le (t:Int):ybX t≤12622780800:=by rw [ybX]; omega
theorem yj7 (a:Option Addr) (cap:Nat) (l:List Cl) (t:Int) (w:World) (hl:l.length≤9223372036854775807) (hlc:l.length≤cap) (hs:Sl w a (cls l)) (hno:a=none→cap=0) (hok:∀c∈l,c.Ok) (hT:Tab w) :
  Calls Tryz.prog 52 #[.slice a l.length cap, .int .i64 t] w fun e w'=>e= .returned (.tuple #[.int .i64 (ydn l t).1, .int .i64 (ydn l t).2])∧Below w.heap.size w w':=by
 obtain ⟨W1,hW1⟩:∃W1,(w.alloc (.cells #[.int .i64 0] 2)).alloc (.cells #[.int .i64 0] 29)=W1:=⟨_,rfl⟩
 have hB1:Below w.heap.size w W1:=by rw [←hW1]; exact yaa (yaa (Below.refl _ _) (zG _)) (by simp)
 have s1:W1.heap.size=w.heap.size+2:=by rw [←hW1]; simp
 have hC1:TwoC w.heap.size 0 0 (fun b=>b=w.heap.size∨b=w.heap.size+1) W1:=by
  refine ⟨?_,?_,?_,?_, .inl rfl, .inr rfl,fun c hc=>by omega⟩ <;> (rw [←hW1]; simp [go_sem])
 have cO:=hid (IOf_any a cap l W1 hl hlc (hs.below hB1) hno hok)
 have cH:=hid (fun W=>yfE t W)
 have cA:=hid (fun W (hB:Below W1.heap.size W1 W) f u h=>ykb a cap l f u W hl hlc ((hs.below hB1).below hB) hno hok ((hT.later hB1).later hB) h)
 have g0:=held_ge t
 have g1:=held_le t
 obtain ⟨h0,hh0⟩:∃x,ybX t=x:=⟨_,rfl⟩
 have hP:Hid (ydn l t=if yah l≠0 then (0,yah l) else ygc (ybh l (h0+1) 12622780799)):=by show _ = _; rw [ydn,hh0]
 rw [hh0] at cH g0 g1
 obtain ⟨pr,hpr⟩:∃x,ydn l t=x:=⟨_,rfl⟩
 rw [hpr] at hP⊢
 have HB1:=hid hB1
 have HW1:=hid hW1
 have S1:=hid s1
 have C1:=hid hC1
 have Ht0:Hid (0 < w.heap.size):=hT.1
 clear hW1 hB1 hs hok hT s1 hno hlc hh0 hpr hC1
 refine (wf_calls (r:=none) (n:=1)).mp ?_
 refine callsIn_of_wp_marks Tryz.func52 rfl trivial ?_ rfl
 simp only [Tryz.ntmps52,List.size_toArray,List.length_cons,List.length_nil,Nat.reduceAdd,Nat.reduceSub,Array.replicate_succ,Array.replicate_zero,List.push_toArray,List.append_toArray,List.nil_append,List.cons_append]
 gi_wp2_with fail
 rw [HW1.out]
 refine (wf_calls.mpr cO.out).mono ?_
 rintro e w2 ⟨⟨v,rfl,-⟩,hB2⟩
 have HB2:=hid hB2
 have hB02:=hid (HB1.out.trans (hB2.mono HB1.out.size))
 have C2:Hid (TwoC w.heap.size 0 0 (fun b=>b=w.heap.size∨b=w.heap.size+1) w2):=C1.out.keep hB2.size (fun c hc=>hB2.block c (C1.out.lt c hc))
 by_cases hf:yah l=0
 ·have Hf:=hid hf
  have cA2:=hid (cA.out w2 hB2 (h0+1) 12622780799 hf)
  rw [hf]
  clear hB2 hf cA
  gi_wp2_with fail
  refine (wf_calls.mpr (cH.out w2)).mono ?_
  rintro e wx ⟨rfl,hwx⟩
  rw [hwx]
  clear cH hwx
  gi_wp2_with fail
  refine (wf_calls.mpr cA2.out).mono ?_
  rintro e w3 ⟨br,bk,bps,xe,xf,xu,xr,rfl,hB3,hS3,hM3⟩
  have e1:max (h0+1) 0=h0+1:=by omega
  have e2:min 12622780799 12622780799= (12622780799:Int):=by omega
  rw [e1,e2] at hS3
  have tl:=hid (yh6 (cs:=l) (br:=br) (bk:=bk) (bps:=bps) xe xf xu xr (h0+1) 12622780799 (by omega) (by omega))
  obtain ⟨L,hL⟩:∃L,ybh l (h0+1) 12622780799=L:=⟨_,rfl⟩
  rw [hL] at tl hP
  have hP2:Hid (pr=ygc L):=by show _ = _; rw [hP.out,if_neg (by rw [Hf.out]; simp)]
  have S12:Hid (w.heap.size+2≤w2.heap.size):=by have:=HB2.out.size; have:=S1.out; show _≤_; omega
  have HB3:=hid (hB02.out.trans (hB3.mono hB02.out.size))
  have C3:=hid (C2.out.keep hB3.size (fun c hc=>hB3.block c (C2.out.lt c hc)))
  have HS3:=hid hS3
  have HM3:=hid hM3
  have HFO:Hid (∀b,FSk w2 w3 b→¬(b=w.heap.size∨b=w.heap.size+1)):=fun b hb h=>by
   have:=S12.out; have:=Ht0.out
   rcases hb with hb | hb <;> omega
  clear hB3 hS3 hM3 hL cA2 hP e1 e2
  gi_wp2_with fail
  refine ybv (F:=FSk w2 w3) (M:=RM br bk bps) (gf:=131) (lb:=#[.pointer (some ⟨xe,0,none⟩), .pointer (some ⟨xf,0,none⟩), .pointer (some ⟨xu,0,none⟩), .pointer (some ⟨xr,0,none⟩)]) rfl yfa (fun b=>b=w.heap.size∨b=w.heap.size+1)
   (fun k vs F W h=>by obtain ⟨_,_,rfl⟩:=h; rfl) tl.out HSk.host HSk.host HSk.host HS3.out HFO.out
   (NxI19 w.heap.size) (NxX19 w.heap.size L) (yfp _ _) (yjE _ _ _) (nxI19_lt _) (nxX19_lt _ _) ⟨rfl,C3.out⟩
   (fun k O F a' W=>NxI19 w.heap.size k O F W∧∃x,L[0]? =some x∧∃(u0 u1 u2 u3 u6 u7 u9 u10 u11 u12 u13 u14 u15 u16 u17 u18 u19 u20 u21 u22 u23:Value),a' = {tmps:=#[u0,u1,u2,u3, .pointer (some ⟨w.heap.size,0,none⟩), .pointer (some ⟨w.heap.size+1,0,none⟩),u6,u7, .int .i64 x,u9,u10,u11,u12,u13,u14,u15,u16,u17,u18,u19,u20,u21,u22,u23],defers:= []})
   ?putl ?assign ?body ?done ?stop
  case putl=>
   rintro l' o k O F a' W hr hnO hnF ⟨h1,h2⟩
   exact ⟨yfp _ (RM br bk bps) k O F F W _ h1 (by rw [World.putObj_size]; exact zG _) (fun _ h=>h) (fun b hb=>World.putObj_heap_other (fun e=>hb.elim (fun h=>hnO (e ▸ h)) (fun h=>hnF (e ▸ h.1)))),h2⟩
  case assign=>
   rintro l' k O6 F6 W6 vs K hk ⟨rfl,hI⟩ hFl ⟨x,hx,rfl⟩ hG6 hK
   have HI:=hid hI
   have Hx:=hid hx
   clear hI hx hG6 hFl
   gi_wp2
   exact hK _ O6 W6 (Grow.refl _ _) ⟨⟨rfl,HI.out⟩,x,Hx.out,_,_,_,_,_,_,_,_,_,_,_,_,_,_,_,_,_,_,_,_,_,rfl⟩
  case body=>
   rintro l3 k O6 F6 a' W6 hk hG6 hl3 hrec6 hnl3 hnF3 ⟨⟨rfl,hI⟩,x,hx,u0,u1,u2,u3,u6,u7,u9,u10,u11,u12,u13,u14,u15,u16,u17,u18,u19,u20,u21,u22,u23,rfl⟩
   have HI:=hid hI
   have Hx:=hid hx
   obtain ⟨c4,c5,f4,f5,-,-,-⟩:=hI
   clear hx hG6 hk
   gi_wp2
   exact ⟨O6,⟨fun _ h=>h,fun _ h=> .inl h,((Eff.refl O6 W6).set HI.out.o4 _ _).set HI.out.o5 _ _⟩,rfl,x,Hx.out,HI.out.set⟩
  case stop=>
   rintro c k O9 F9 w9 hk1 hk2 hG9 hHN hFs hFn hFO9 ⟨rfl,x,hx,hX⟩ hD hnD hnF
   have hX':TwoC w.heap.size x 0 O9 (w9.putObj w3.heap.size (.deferred none)):=hX.keep (by rw [World.putObj_size]; exact zG _) (fun b hb=>World.putObj_heap_other (fun e=>hnD (e ▸ hb)))
   have hBf:Hid (Below w.heap.size w (w9.putObj w3.heap.size (.deferred none))):=yaK (HB3.out.trans (hG9.eff.below (fun b hb=>by
    rcases hb with (h | h) | h
    ·omega
    ·omega
    ·have:=HM3.out b h; have:=S12.out; omega) HB3.out.size)) HB3.out.size _
   have HD:=hid hD
   have HX:=hid hX'
   have hpr:Hid (pr= (x,0)):=by
    show _ = _
    rw [hP2.out]
    cases L with
    | nil=>simp at hx
    | cons y m=>simp at hx; rw [hx]; rfl
   clear hX hG9 hD hX' hHN hFs hFn hFO9 hnD hnF hx
   gi_wp2
   refine ⟨by simp, .inl ⟨_,_,rfl,run_takeDeferred HD.out,?_⟩⟩
   obtain ⟨c4,c5,-,-,-,-,-⟩:=HX.out
   refine ⟨.tuple #[.int .i64 x, .int .i64 0],?_,by rw [hpr.out],hBf.out⟩
   simp [results,Tryz.results52,go_sem,c4,c5]
  case done=>
   rintro O9 F9 w9 hG9 hHN hFs hFn hFO9 ⟨hk,hI⟩ hD hnD hnF
   have hpr:Hid (pr= (0,15)):=by
    show _ = _
    rw [hP2.out,show L= [] from List.length_eq_zero_iff.mp hk]; rfl
   have hX':=hI.set (x':=0) (y':=15)
   have hB9:Below w.heap.size w w9:=HB3.out.trans (hG9.eff.below (fun b hb=>by
    rcases hb with (h | h) | h
    ·omega
    ·omega
    ·have:=HM3.out b h; have:=S12.out; omega) HB3.out.size)
   have HB9:=hid hB9
   have HX:=hid hX'
   have HDx:Hid (((w9.setCell ⟨w.heap.size,0,none⟩ (.int .i64 0)).setCell ⟨w.heap.size+1,0,none⟩ (.int .i64 15)).heap[w3.heap.size]? =some (.deferred (some []))):=by
    show _ = _
    rw [Below.heap_setCell _ _ _ _ (fun e=>hnD (by rw [e]; exact hI.o5)),Below.heap_setCell _ _ _ _ (fun e=>hnD (by rw [e]; exact hI.o4))]
    exact hD
   have HND:=hid hnD
   obtain ⟨c4,c5,f4,f5,-,-,-⟩:=hI
   clear hG9 hHN hFs hFn hFO9 hnD hnF hD hB9 hX' hk
   gi_wp2
   refine ⟨by simp, .inl ⟨_,_,rfl,run_takeDeferred HDx.out,?_⟩⟩
   have hBf:=yaK (yab (yab HB9.out (by omega)) (by omega):Below w.heap.size w ((w9.setCell ⟨w.heap.size,0,none⟩ (.int .i64 0)).setCell ⟨w.heap.size+1,0,none⟩ (.int .i64 15))) HB3.out.size (.deferred none)
   have hX2:=HX.out.keep (W':=((w9.setCell ⟨w.heap.size,0,none⟩ (.int .i64 0)).setCell ⟨w.heap.size+1,0,none⟩ (.int .i64 15)).putObj w3.heap.size (.deferred none)) (by rw [World.putObj_size]; exact zG _) (fun b hb=>World.putObj_heap_other (fun e=>HND.out (e ▸ hb)))
   refine ⟨.tuple #[.int .i64 0, .int .i64 15],?_,by rw [hpr.out],hBf⟩
   obtain ⟨WF,hWF⟩:∃W,((w9.setCell ⟨w.heap.size,0,none⟩ (.int .i64 0)).setCell ⟨w.heap.size+1,0,none⟩ (.int .i64 15)).putObj w3.heap.size (.deferred none)=W:=⟨_,rfl⟩
   rw [hWF] at hX2
   obtain ⟨c4,c5,-,-,-,-,-⟩:=hX2
   rw [hWF]
   simp [results,Tryz.results52,go_sem,c4,c5]
 ·have hpr:Hid (pr= (0,yah l)):=by show _ = _; rw [hP.out,if_pos hf]
  have hBf:Hid (Below w.heap.size w ((w2.setCell ⟨w.heap.size,0,none⟩ (.int .i64 0)).setCell ⟨w.heap.size+1,0,none⟩ (.int .i64 (yah l)))):=yab (yab hB02.out (by omega)) (by omega)
  obtain ⟨X,hX⟩:∃X,yah l=X:=⟨_,rfl⟩
  rw [hX] at hf hpr hBf⊢
  have HX:=hid (C2.out.set (x':=0) (y':=X))
  obtain ⟨c4,c5,f4,f5,-,-,-⟩:=C2.out
  have hX0:(X == 0)=false:=by simpa using hf
  have hX1:(X != 0)=true:=by simpa using hf
  clear hB2 cA hX hP
  gi_wp2
  obtain ⟨d4,d5,-,-,-,-,-⟩:=HX.out
  refine ⟨_,?_,by rw [hpr.out],hBf.out⟩
  simp [results,Tryz.results52,go_sem,d4,d5]
theorem yh7 (a:Option Addr) (cap:Nat) (l:List Cl) (w:World) (hl:l.length≤9223372036854775807) (hlc:l.length≤cap) (hs:Sl w a (cls l)) (hno:a=none→cap=0) (hok:∀c∈l,c.Ok) (hT:Tab w) :
  Calls Tryz.prog 20 #[.slice a l.length cap] w fun e w'=>e= .returned (.tuple #[.int .i64 (ydn l (-1)).1, .int .i64 (ydn l (-1)).2])∧Below w.heap.size w w':=by
 have cN:=hid (yj7 a cap l (-1) w hl hlc hs hno hok hT)
 obtain ⟨pr,hpr⟩:∃x,ydn l (-1)=x:=⟨_,rfl⟩
 rw [hpr] at cN⊢
 clear hs hno hok hT hpr
 go_enter Tryz.func20,Tryz.ntmps20
 go_wp2_with fail
 refine cN.out.mono ?_
 rintro e w2 ⟨rfl,hB⟩
 have HB:=hid hB
 clear hB
 go_wp2
 go_ret2
 exact ⟨rfl,HB.out⟩
end
section
open Go.RowKit Go.Maps
theorem yfT {P:Program} {w:World} {d x:Nat} (cd:(w.cell? ⟨d,0,none⟩).isSome=true) (cx:(w.cell? ⟨x,0,none⟩).isSome=true) (hd:∀i,w.frozen? ⟨d,i,none⟩=false) (hx:∀i,w.frozen? ⟨x,i,none⟩=false) (hne:d≠x) :
  (sameAddr ⟨d,0,none⟩ ⟨x,0,none⟩).run P w= .ok false w:=by
 have key:∀b,(w.cell? ⟨b,0,none⟩).isSome=true→∃c t s,w.heap[b]? =some (.cells c t s):=fun b h=>by
  unfold World.cell? at h
  split at h
  ·exact ⟨_,_,_,by assumption⟩
  ·cases h
 obtain ⟨c1,t1,s1,e1⟩:=key d cd
 obtain ⟨c2,t2,s2,e2⟩:=key x cx
 have sd:w.shape? d=some (t1,c1.size):=by unfold World.shape?; rw [e1]
 have sx:w.shape? x=some (t2,c2.size):=by unfold World.shape?; rw [e2]
 simp [sameAddr,hne,noView,viewAt,mayBeOne,stringish,hd,hx,sd,sx]
structure CntC (bl:Nat) (c:Option Nat) (m:Int) (W:World):Prop where
 cl:W.cell? ⟨bl,0,none⟩=some (dptr c)
 cm:W.cell? ⟨bl+1,0,none⟩=some (.int .i64 m)
 fl:W.frozen? ⟨bl,0,none⟩=false
 fm:W.frozen? ⟨bl+1,0,none⟩=false
 lt:bl+1 < W.heap.size
theorem CntC.block {bl:Nat} {c:Option Nat} {m:Int} {W W':World} (h:CntC bl c m W) (hs:W.heap.size≤W'.heap.size) (h0:W'.heap[bl]? =W.heap[bl]?) (h1:W'.heap[bl+1]? =W.heap[bl+1]?):CntC bl c m W':=
 ⟨(zzJ (w:=W) (a:=⟨bl,0,none⟩) h0).trans h.cl,(zzJ (w:=W) (a:=⟨bl+1,0,none⟩) h1).trans h.cm,
  (zzM (w:=W) (a:=⟨bl,0,none⟩) h0).trans h.fl,(zzM (w:=W) (a:=⟨bl+1,0,none⟩) h1).trans h.fm,zH h.lt hs⟩
theorem CntC.set {bl:Nat} {c c':Option Nat} {m m':Int} {W:World} (h:CntC bl c m W):CntC bl c' m' ((W.setCell ⟨bl,0,none⟩ (dptr c')).setCell ⟨bl+1,0,none⟩ (.int .i64 m')):=by
 obtain ⟨h1,h2,h3,h4,h5⟩:=h
 refine ⟨?_,?_,?_,?_,by simpa using h5⟩ <;> simp [go_sem,h1,h2,h3,h4]
def Knows (c:Option Nat) (m:Int) (M F:Blk) (W:World):Prop:=∀x,c=some x→F x∧¬M x∧∃q,DiscAt W x q∧m= ((secL q).length:Nat)
theorem Knows.none {m:Int} {M F:Blk} {W:World}:Knows none m M F W:=fun x h=>by cases h
theorem Knows.keep {c:Option Nat} {m:Int} {M F F':Blk} {W W':World} (h:Knows c m M F W) (hs:W.heap.size≤W'.heap.size) (hF:∀b,F b→F' b) (hb:∀b,F b∧¬M b→W'.heap[b]? =W.heap[b]?):Knows c m M F' W':=fun x hx=>by
 obtain ⟨h1,h2,q,h3,h4⟩:=h x hx
 exact ⟨hF x h1,h2,q,h3.block hs (hb x ⟨h1,h2⟩),h4⟩
end
section
open Go.RowKit Go.Maps
def PtrOk (w:World) (d:Option Nat):Prop:=∀x,d=some x→(w.cell? ⟨x,0,none⟩).isSome=true∧∀i,w.frozen? ⟨x,i,none⟩=false
theorem PtrOk.disc {w:World} {d:Option Nat} {q:Nat→Bool} (h:DiscO w d q):PtrOk w d:=fun x hx=>by
 subst hx
 obtain ⟨f,h1,h2,-⟩:=h
 exact ⟨by rw [h1 0 (by omega)]; rfl,h2⟩
theorem PtrOk.block {w w':World} {d:Option Nat} (h:PtrOk w d) (hb:∀x,d=some x→w'.heap[x]? =w.heap[x]?):PtrOk w' d:=fun x hx=>by
 obtain ⟨h1,h2⟩:=h x hx
 exact ⟨by rw [zzJ (w:=w) (a:=⟨x,0,none⟩) (hb x hx)]; exact h1,fun i=>(zzM (w:=w) (a:=⟨x,i,none⟩) (hb x hx)).trans (h2 i)⟩
def PairK (w:World) (v:Value):Prop:=∃d e,v= .agg #[dptr d,dptr e]∧PtrOk w d∧PtrOk w e
theorem yeD {w:World} {d e:Option Nat} (hd:PtrOk w d) (he:PtrOk w e) (n:Nat):(Op.equalIn (n+1) 72 (dptr d) (dptr e)).run Tryz.prog w= .ok (decide (d=e)) w:=by
 have hp:=Tryz.underlying72
 cases d with
 | none=>
   cases e with
   | none=>simp [Op.equalIn,run_underlying hp,dptr]
   | some y=>simp [Op.equalIn,run_underlying hp,dptr]
 | some x=>
   cases e with
   | none=>simp [Op.equalIn,run_underlying hp,dptr]
   | some y=>
     have hi:((Tryz.prog.info? 131).map fun i=>decide (i.size≠0))=some true:=by kernel_rfl
     cases hj:Tryz.prog.info? 131 with
     | none=>rw [hj] at hi; cases hi
     | some j=>
       rw [hj] at hi
       have hsz:j.size≠0:=by simpa using hi
       have hs:(sameAddr ⟨x,0,none⟩ ⟨y,0,none⟩).run Tryz.prog w= .ok (decide (x=y)) w:=by
        by_cases hne:x=y
        ·subst hne; rw [run_sameAddr_same]; simp
        ·rw [yfT (hd x rfl).1 (he y rfl).1 (hd x rfl).2 (he y rfl).2 hne]; simp [hne]
       simp [Op.equalIn,run_underlying hp,sizeOf,typeInfo,hj,hsz,hs,dptr]
theorem part0 (w:World) (x y:Value):(part 72 #[x,y] 0).run Tryz.prog w= .ok x w:=by kernel_rfl
theorem part1 (w:World) (x y:Value):(part 72 #[x,y] 1).run Tryz.prog w= .ok y w:=by kernel_rfl
theorem yjC {w:World} {d e d' e':Option Nat} (h1:PtrOk w d) (h2:PtrOk w e) (h3:PtrOk w d') (h4:PtrOk w e') :
  (Op.equal 231 (.agg #[dptr d,dptr e]) (.agg #[dptr d',dptr e'])).run Tryz.prog w= .ok (decide (d=d') && decide (e=e')) w:=by
 have g1:=yeD h1 h3 9998
 have g2:=yeD h2 h4 9998
 have hp:=Tryz.underlying231
 have hi:((Tryz.prog.info? 72).map fun i=>i.size)=some 1:=by kernel_rfl
 cases hj:Tryz.prog.info? 72 with
 | none=>rw [hj] at hi; cases hi
 | some j=>
   rw [hj] at hi
   have hsz:j.size=1:=by simpa using hi
   unfold Op.equal Op.maxDepth
   rw [Op.equalIn]
   simp only [Sem.run_bind,run_underlying hp,Result.andThen_ok,sizeOf,typeInfo]
   have g1':(Op.equalIn 9999 72 (dptr d) (dptr d')).run Tryz.prog w= .ok (decide (d=d')) w:=g1
   have g2':(Op.equalIn 9999 72 (dptr e) (dptr e')).run Tryz.prog w= .ok (decide (e=e')) w:=g2
   simp [hj,hsz]
   rw [show List.range' 0 2= [0,1] from rfl]
   obtain ⟨b1,hb1⟩:∃b,decide (d=d')=b:=⟨_,rfl⟩
   obtain ⟨b2,hb2⟩:∃b,decide (e=e')=b:=⟨_,rfl⟩
   rw [hb1] at g1'⊢
   rw [hb2] at g2'⊢
   cases b1 <;> cases b2 <;> simp [part0,part1,g1',g2',List.forIn_cons]
theorem pairT (w:World):KeyT Tryz.prog 231 (PairK w) w:=by
 refine KeyT.ask Tryz.underlying231 ?_ ?_ ?_ ?_
 ·rintro _ _ ⟨d,e,rfl,-,-⟩ ⟨d',e',rfl,-,-⟩; rfl
 ·rintro em _ ⟨d,e,rfl,-,-⟩
  cases d <;> cases e <;> kernel_rfl
 ·rintro _ _ ⟨d,e,rfl,h1,h2⟩ ⟨d',e',rfl,h3,h4⟩
  refine ⟨_,yjC h1 h2 h3 h4,fun h=>?_⟩
  simp only [zzX,zzY] at h
  rw [h.1,h.2]
 ·rintro _ ⟨d,e,rfl,-,-⟩
  cases d <;> cases e <;> simp [Instr.sameBits,dptr]
end
section
open Go.RowKit Go.Maps
def DiK (W:World) (F M:Blk) (v:Value):Prop:=∃d q,v= .pointer (some ⟨d,0,none⟩)∧DiF W F M d q
def DiG (W:World) (F M:Blk) (x v:Value):Prop:=∃d q,x= .pointer (some ⟨d,0,none⟩)∧DiF W F M d q∧v=bv3 (nrB (secL q))
section
variable {W W':World} {F F' M:Blk}
theorem DiF.keepI {d:Nat} {q:Nat→Bool} (h:DiF W F M d q) (hs:W.heap.size≤W'.heap.size) (hF:∀b,F b→F' b) (hb:∀b,F b∧¬M b→W'.heap[b]? =W.heap[b]?):DiF W' F' M d q:=
 ⟨hF _ h.1,h.2.1,h.2.2.block hs (hb _ ⟨h.1,h.2.1⟩)⟩
theorem DiK.keep {v:Value} (h:DiK W F M v) (hs:W.heap.size≤W'.heap.size) (hF:∀b,F b→F' b) (hb:∀b,F b∧¬M b→W'.heap[b]? =W.heap[b]?):DiK W' F' M v:=by
 obtain ⟨d,q,h1,h2⟩:=h
 exact ⟨d,q,h1,h2.keepI hs hF hb⟩
theorem DiG.keep {x v:Value} (h:DiG W F M x v) (hs:W.heap.size≤W'.heap.size) (hF:∀b,F b→F' b) (hb:∀b,F b∧¬M b→W'.heap[b]? =W.heap[b]?):DiG W' F' M x v:=by
 obtain ⟨d,q,h1,h2,h3⟩:=h
 exact ⟨d,q,h1,h2.keepI hs hF hb,h3⟩
theorem MapI.keep {b n:Nat} (h:MapS (DiK W F M) (DiG W F M) W b n) (hs:W.heap.size≤W'.heap.size) (hF:∀b,F b→F' b) (hb:∀b,F b∧¬M b→W'.heap[b]? =W.heap[b]?) (hm:W'.heap[b]? =W.heap[b]?):MapS (DiK W' F' M) (DiG W' F' M) W' b n:=
 (h.keep hm).mono (zG _) (fun v hv=>hv.keep hs hF hb) (fun x v hv=>hv.keep hs hF hb)
theorem discT (W:World) (F M:Blk):KeyT Tryz.prog 72 (DiK W F M) W:=by
 refine KeyT.ask Tryz.underlying72 ?_ ?_ ?_ ?_
 ·rintro _ _ ⟨d,q,rfl,-⟩ ⟨d',q',rfl,-⟩; rfl
 ·rintro em _ ⟨d,q,rfl,-⟩; kernel_rfl
 ·rintro _ _ ⟨d,q,rfl,h⟩ ⟨d',q',rfl,h'⟩
  have e:=yeD (w:=W) (d:=some d) (e:=some d') (PtrOk.disc (d:=some d) (q:=q) h.2.2) (PtrOk.disc (d:=some d') (q:=q') h'.2.2) 9999
  refine ⟨_,e,fun hd=>?_⟩
  rw [zzY] at hd
  injection hd with hd
  rw [hd]
 ·rintro _ ⟨d,q,rfl,-⟩; simp [Instr.sameBits]
end
structure PuS (bx bm:Nat) (F M:Blk) (W:World):Prop where
 c:W.cell? ⟨bx,0,none⟩=some (.map (some bm))
 m:MapS (DiK W F M) (DiG W F M) W bm 512
 nx:¬F bx
 nm:¬F bm
 ne:bx≠bm
 lx:bx < W.heap.size
 lt:∀b,F b→b < W.heap.size
theorem PuS.keep {bx bm:Nat} {F F' M:Blk} {W W':World} (h:PuS bx bm F M W) (hs:W.heap.size≤W'.heap.size) (hF:∀b,F b→F' b) (hN:∀b,F' b→F b∨W.heap.size≤b) (hl:∀b,F' b→b < W'.heap.size) (hb:∀b,F b∧¬M b→W'.heap[b]? =W.heap[b]?) (hx:W'.heap[bx]? =W.heap[bx]?) (hm:W'.heap[bm]? =W.heap[bm]?):PuS bx bm F' M W':=
 ⟨(zzJ (w:=W) (a:=⟨bx,0,none⟩) hx).trans h.c,MapI.keep h.m hs hF hb hm,fun e=>(hN _ e).elim h.nx (fun g=>by have:=h.lx; omega),fun e=>(hN _ e).elim h.nm (fun g=>by have:=h.m.lt; omega),h.ne,zH h.lx hs,hl⟩
end
section
open Go.RowKit Go.Maps
def lookF (v x:Value):Sem Value:=Instr.lookup 182 v x false
theorem look_f (v x:Value):Instr.lookup 182 v x false=lookF v x:=rfl
def lnF (v:Value):Sem Value:=Builtin.len_ #[182] 3 #[v]
theorem ln_f (v:Value):Builtin.len_ #[182] 3 #[v]=lnF v:=rfl
def updF (v x y:Value):Sem Unit:=Instr.mapUpdate 182 v x y
theorem upd_f (v x y:Value):Instr.mapUpdate 182 v x y=updF v x y:=rfl
attribute [local go_sem ↓] look_f ln_f upd_f
def FrG (W:World) (F M:Blk) (P:List Int→Prop) (x v:Value):Prop:=∃d q,x= .pointer (some ⟨d,0,none⟩)∧DiF W F M d q∧v= .bool true∧P (secL q)
theorem FrG.keep {W W':World} {F F' M:Blk} {P:List Int→Prop} {x v:Value} (h:FrG W F M P x v) (hs:W.heap.size≤W'.heap.size) (hF:∀b,F b→F' b) (hb:∀b,F b∧¬M b→W'.heap[b]? =W.heap[b]?):FrG W' F' M P x v:=by
 obtain ⟨d,q,h1,h2,h3,h4⟩:=h
 exact ⟨d,q,h1,h2.keepI hs hF hb,h3,h4⟩
structure FrW (bx bm:Nat) (F M:Blk) (P:List Int→Prop) (W:World):Prop where
 c:W.cell? ⟨bx,0,none⟩=some (.map (some bm))
 m:MapS (DiK W F M) (FrG W F M P) W bm 512
theorem FrW.keep {bx bm:Nat} {F F' M:Blk} {P:List Int→Prop} {W W':World} (h:FrW bx bm F M P W) (hs:W.heap.size≤W'.heap.size) (hF:∀b,F b→F' b) (hb:∀b,F b∧¬M b→W'.heap[b]? =W.heap[b]?) (hx:W'.heap[bx]? =W.heap[bx]?) (hm:W'.heap[bm]? =W.heap[bm]?):FrW bx bm F' M P W':=
 ⟨(zzJ (w:=W) (a:=⟨bx,0,none⟩) hx).trans h.c,(h.m.keep hm).mono (zG _) (fun v hv=>hv.keep hs hF hb) (fun x v hv=>hv.keep hs hF hb)⟩
theorem FrW.mono {bx bm:Nat} {F M:Blk} {P P':List Int→Prop} {W:World} (h:FrW bx bm F M P W) (hp:∀L,P L→P' L):FrW bx bm F M P' W:=
 ⟨h.c,h.m.mono (zG _) (fun _ h=>h) (fun x v ⟨d,q,h1,h2,h3,h4⟩=>⟨d,q,h1,h2,h3,hp _ h4⟩)⟩
attribute [local go_sem] run_makeMap
theorem yfJ (w:World):Calls Tryz.prog 56 #[] w fun e w'=>e= .returned (.func (.func 103) #[] #[.pointer (some ⟨w.heap.size+1,0,none⟩)])∧w' = (w.alloc (.map #[] 0)).alloc (.cells #[.map (some w.heap.size)] 182):=by
 go_enter Tryz.func56,Tryz.ntmps56
 go_wp2
 go_ret
 exact ⟨rfl,rfl⟩
theorem FrW.made {w w5:World} {F M:Blk} {P:List Int→Prop} (h:w5.heap[w.heap.size]? = ((w.alloc (.map #[] 0)).heap)[w.heap.size]?) (hc:w5.cell? ⟨w.heap.size+1,0,none⟩=some (.map (some w.heap.size))):FrW (w.heap.size+1) w.heap.size F M P w5:=
 ⟨hc,((MapS.made w (DiK w5 F M) (FrG w5 F M P)).keep h).mono (by omega) (fun _ h=>h) (fun _ _ h=>h)⟩
theorem ye8 {bx bm d:Nat} {F M:Blk} {P:List Int→Prop} {q:Nat→Bool} {W:World} (h:FrW bx bm F M P W) (nx:¬F bx) (nm:¬F bm) (ne:bx≠bm) (lx:bx < W.heap.size) (lt:∀b,F b→b < W.heap.size) (hd:DiF W F M d q) :
  Calls Tryz.prog 103 #[.pointer (some ⟨d,0,none⟩), .pointer (some ⟨bx,0,none⟩)] W fun e W'=>((e= .returned (.bool false)∧P (secL q)∧FrW bx bm F M P W')∨(e= .returned (.bool true)∧FrW bx bm F M (fun L=>P L∨L=secL q) W'))∧Eff (fun c=>c=bm) W W':=by
 have hL:=h.m.lookup (discT W F M) (t:=182) Tryz.underlying182 (z:= .bool false) (by kernel_rfl) false (x:= .pointer (some ⟨d,0,none⟩)) ⟨d,q,rfl,hd⟩
 have c1:=h.c
 obtain ⟨k,hk,hPk,ql⟩:=h.m.count (t:=182) Tryz.underlying182 3
 replace ql:(lnF (.map (some bm))).run Tryz.prog W= .ok (.int .i64 k) W:=ql
 have HPk:=hid hPk
 have Hk:=hid hk
 have HH:=hid h
 have HD:=hid hd
 have HN:=hid (And.intro nx (And.intro nm (And.intro ne (And.intro lx lt))))
 clear hPk hk h hd nx nm ne lx lt
 go_enter Tryz.func103,Tryz.ntmps103
 rcases hL with hl | ⟨v,hv,hl⟩
 rotate_left
 ·obtain ⟨d',q',e1,hd',rfl,hP⟩:=hv
  have hq:secL q' =secL q:=by
   injection e1 with e1; injection e1 with e1; injection e1 with e1
   subst e1
   have e:(List.range 86400).filter q' = (List.range 86400).filter q:=List.filter_congr fun k hk=>DiscAt.unique hd'.2.2 HD.out.2.2 k (List.mem_range.1 hk)
   rw [secL,secL,sel,sel,e]
  rw [hq] at hP
  replace hl:(lookF (.map (some bm)) (.pointer (some ⟨d,0,none⟩))).run Tryz.prog W= .ok (.bool true) W:=hl
  have HP:=hid hP
  clear hd' hq e1 hP ql
  go_wp2
  go_ret
  exact ⟨.inl ⟨rfl,HP.out,HH.out⟩,Eff.refl _ _⟩
 ·replace hl:(lookF (.map (some bm)) (.pointer (some ⟨d,0,none⟩))).run Tryz.prog W= .ok (.bool false) W:=hl
  go_upto_region 3 with fail
  iterate 13 go_step
  (try dsimp only)
  go_cut [9] from 10 (fun _ wx=>Hid (MapS (DiK wx F M) (FrG wx F M P) wx bm 511∧Eff (fun c=>c=bm) W wx))
  case first=>
   by_cases h5:(k:Int)=512
   ·have hkd:((k:Int) == 512)=true:=by rw [h5]; rfl
    clear h5
    go_wp2_with (with_reducible refine ybG (t:=182) (.tmp 10) rfl rfl Tryz.underlying182 HH.out.m rfl ?_)
    intro w3 hM3 hg3
    have hE3:Eff (fun c=>c=bm) W w3:=Eff.of_grown hg3 rfl
    have hb:∀b,F b∧¬M b→w3.heap[b]? =W.heap[b]?:=fun b hb=>hE3.block b (HN.out.2.2.2.2 b hb.1) (fun e=>HN.out.2.1 (e ▸ hb.1))
    have HS3:Hid (MapS (DiK w3 F M) (FrG w3 F M P) w3 bm 511∧Eff (fun c=>c=bm) W w3):=⟨hM3.mono (by omega) (fun v hv=>hv.keep hE3.size (fun _ h=>h) hb) (fun x v hv=>hv.keep hE3.size (fun _ h=>h) hb),hE3⟩
    clear ql hkd c1 hM3 hg3 hE3 hb
    go_wp2
    go_meet
    exact HS3
   ·have hkd:((k:Int) == 512)=false:=by simpa using h5
    have HS3:Hid (MapS (DiK W F M) (FrG W F M P) W bm 511∧Eff (fun c=>c=bm) W W):=⟨HPk.out.mono (by have:=Hk.out; omega) (fun _ h=>h) (fun _ _ h=>h),Eff.refl _ _⟩
    clear h5
    go_wp2
    go_meet
    exact HS3
  case rest=>
   obtain ⟨m5,e5⟩:=hcut.out
   have l5:=e5.size
   have hb5:∀b,F b∧¬M b→wc.heap[b]? =W.heap[b]?:=fun b hb=>e5.block b (HN.out.2.2.2.2 b hb.1) (fun e=>HN.out.2.1 (e ▸ hb.1))
   have d5:DiF wc F M d q:=HD.out.keepI l5 (fun _ h=>h) hb5
   have c5:wc.cell? ⟨bx,0,none⟩=some (.map (some bm)):=(e5.cell (p:=⟨bx,0,none⟩) HN.out.2.2.2.1 HN.out.2.2.1).trans c1
   have m5':MapS (DiK wc F M) (FrG wc F M (fun L=>P L∨L=secL q)) wc bm 511:=m5.mono (zG _) (fun _ h=>h) (fun x v ⟨d,q,h1,h2,h3,h4⟩=>⟨d,q,h1,h2,h3, .inl h4⟩)
   obtain ⟨w6,q6,m6,g6⟩:=m5'.update (discT wc F M) (t:=182) (e:=4) Tryz.underlying182 (x:= .pointer (some ⟨d,0,none⟩)) ⟨d,q,rfl,d5⟩ (v:= .bool true) ⟨d,q,rfl,d5,rfl, .inr rfl⟩
   replace q6:(updF (.map (some bm)) (.pointer (some ⟨d,0,none⟩)) (.bool true)).run Tryz.prog wc= .ok () w6:=q6
   have e6:Eff (fun c=>c=bm) wc w6:=Eff.of_grown g6 rfl
   have hb6:∀b,F b∧¬M b→w6.heap[b]? =wc.heap[b]?:=fun b hb=>e6.block b (zH (HN.out.2.2.2.2 b hb.1) l5) (fun e=>HN.out.2.1 (e ▸ hb.1))
   have c6:w6.cell? ⟨bx,0,none⟩=some (.map (some bm)):=(e6.cell (p:=⟨bx,0,none⟩) (zH HN.out.2.2.2.1 l5) HN.out.2.2.1).trans c5
   have H6:Hid (FrW bx bm F M (fun L=>P L∨L=secL q) w6):=⟨c6,m6.mono (zG _) (fun v hv=>hv.keep e6.size (fun _ h=>h) hb6) (fun x v hv=>hv.keep e6.size (fun _ h=>h) hb6)⟩
   have E6:=hid (e5.trans e6 (fun _ h=> .inl h))
   clear m5 e5 hb5 d5 m5' m6 g6 e6 hb6 c6 hcut ql hl l5
   go_wp2
   go_ret
   exact ⟨.inr ⟨rfl,H6.out⟩,E6.out⟩
end
section
open Go.RowKit Go.Maps
def L7 (f:Nat→Int):List Value:=(List.range 7).map fun i=> .int .i64 (f i)
theorem yjk (f:Nat→Int):(L7 f).length=7:=by simp [L7]
theorem L7_at (f:Nat→Int) {j:Nat} (hj:j < (L7 f).length):(L7 f)[j]= .int .i64 (f j):=by simp [L7]
structure Ar7 (b:Nat) (f:Nat→Int) (W:World):Prop where
 c:∀i,i < 7→W.cell? ⟨b,i,none⟩=some (.int .i64 (f i))
 z:∀i,W.frozen? ⟨b,i,none⟩=false
 lt:b < W.heap.size
theorem Ar7.block {b:Nat} {f:Nat→Int} {W W':World} (h:Ar7 b f W) (hs:W.heap.size≤W'.heap.size) (hb:W'.heap[b]? =W.heap[b]?):Ar7 b f W':=
 ⟨fun i hi=>(zzJ (w:=W) (a:=⟨b,i,none⟩) hb).trans (h.c i hi),fun i=>(zzM (w:=W) (a:=⟨b,i,none⟩) hb).trans (h.z i),zH h.lt hs⟩
theorem Ar7.range {b:Nat} {f:Nat→Int} {W:World} (h:Ar7 b f W):W.rangeAt b 0 (L7 f):=fun j v hv=>by
 obtain ⟨hj,e⟩:=zzq.1 hv
 rw [L7_at] at e
 rw [zzn,h.c j (by rw [yjk] at hj; exact hj),←e]
theorem Ar7.there {b:Nat} {f:Nat→Int} {W:World} (h:Ar7 b f W) (g:Nat→Int):W.there b 0 (L7 g).toArray.size:=fun j hj=>by
 rw [List.size_toArray,yjk] at hj
 rw [zzn]
 exact ⟨by rw [h.c j hj]; rfl,h.z j⟩
theorem Ar7.put {b:Nat} {f:Nat→Int} {W:World} (h:Ar7 b f W) (g:Nat→Int):Ar7 b g (W.setCells b 0 (L7 g)):=by
 have hs:=(Eff.setCells (O:=fun x=>x=b) rfl (L7 g) 0 W (Eff.refl _ W)).size
 refine ⟨fun i hi=>?_,fun i=>by rw [World.frozen?_setCells]; exact h.z i,zH h.lt hs⟩
 have:=World.cell?_setCells_in b (L7 g) 0 W (fun j hj=>by rw [yjk] at hj; rw [zzn,h.c j hj]; rfl) i (by rw [yjk]; exact hi)
 rw [zzn,L7_at] at this
 exact this
def outF (n:Int) (u:Nat):Int:=if u=3 then n else if u=4 then wkN n else if u=5 then 12 * fY n+fMo n else if u=6 then fY n else 0
end
section
open Go.RowKit Go.Maps
def unN (n:Int) (j u:Nat):Int:=if u < 3 then (86400 * n+j) / szI u else outF n u
theorem outF_bd {n:Int} (h0:0≤n) (h1:n < 146097) (u:Nat):0≤outF n u∧outF n u≤146097:=by
 obtain ⟨y0,y1,m0,m1,-,-⟩:=yaB h0 h1
 have hk:=wkN_bd h0 h1
 rw [outF]
 split
 ·omega
 ·split
  ·omega
  ·split
   ·omega
   ·split <;> omega
theorem unN_low {n:Int} {j u:Nat} (hu:u < 3):unN n j u=n * (86400 / szI u)+(j:Int) / szI u:=by
 have h3:u=0∨u=1∨u=2:=by omega
 rcases h3 with rfl | rfl | rfl
 ·show (86400 * n+j) / 1=n * (86400 / 1)+(j:Int) / 1; omega
 ·show (86400 * n+j) / 60=n * (86400 / 60)+(j:Int) / 60; omega
 ·show (86400 * n+j) / 3600=n * (86400 / 3600)+(j:Int) / 3600; omega
theorem unN_bd {n:Int} (h0:0≤n) (h1:n < 146097) {j:Nat} (hj:j < 86400) (u:Nat):0≤unN n j u∧unN n j u≤12622780799:=by
 rw [unN]
 split
 ·have hz:=szI_pos u
  exact ⟨Int.ediv_nonneg (by omega) (by omega),Int.le_trans (Int.ediv_le_self _ (by omega)) (by omega)⟩
 ·have:=outF_bd h0 h1 u; omega
def UD (cs:List Cl) (k u:Nat) (x:Int):Prop:=∃(i:Nat) (D:Int) (j:Nat),i < k∧(dayS cs (yac 0 146096))[i]? =some D∧j < 86400∧dayQ cs D j=true∧x=unN D j u
def BQ (cs:List Cl) (k:Nat) (B:Nat→Bt):Prop:=∀u,u < 7→BeatQ (UD cs k u) (B u)
theorem ygl {cs:List Cl} {i:Nat} {D:Int} (h:(dayS cs (yac 0 146096))[i]? =some D):0≤D∧D < 146097∧∃j,j < 86400∧dayQ cs D j=true:=by
 have hm:=List.mem_of_getElem? h
 rw [dayS,List.mem_filter,yaz] at hm
 obtain ⟨⟨a,b⟩,c⟩:=hm
 refine ⟨a,by omega,?_⟩
 rw [anyQ,List.any_eq_true] at c
 obtain ⟨j,hj,hq⟩:=c
 exact ⟨j,List.mem_range.1 hj,hq⟩
theorem UD.rng {cs:List Cl} {k u:Nat} {x:Int} (h:UD cs k u x):0≤x∧x≤12622780799:=by
 obtain ⟨i,D,j,-,hD,hj,-,rfl⟩:=h
 obtain ⟨a,b,-⟩:=ygl hD
 exact unN_bd a b hj u
theorem BQ.bd {cs:List Cl} {k:Nat} {B:Nat→Bt} (h:BQ cs k B) {u:Nat} (hu:u < 7):M62 (B u).2.1∧M62 (B u).2.2:=by
 have:=BeatP.bd (M:=12622780799) (h u hu) (by omega) fun x hx=>hx.rng
 simp only [M62]; omega
theorem UD.more {cs:List Cl} {k u:Nat} {D:Int} (hD:(dayS cs (yac 0 146096))[k]? =some D) (x:Int):UD cs (k+1) u x↔UD cs k u x∨∃j,j < 86400∧dayQ cs D j=true∧x=unN D j u:=by
 constructor
 ·rintro ⟨i,D',j,hi,h1,h2,h3,h4⟩
  rcases Nat.lt_succ_iff_lt_or_eq.1 hi with h | h
  ·exact .inl ⟨i,D',j,h,h1,h2,h3,h4⟩
  ·subst h
   rw [hD] at h1
   cases h1
   exact .inr ⟨j,h2,h3,h4⟩
 ·rintro (⟨i,D',j,hi,h⟩ | ⟨j,h⟩)
  ·exact ⟨i,D',j,by omega,h⟩
  ·exact ⟨k,D,j,by omega,hD,h⟩
theorem BeatP.shift {S:Int→Prop} {f g:Int} (h:BeatP S true f g) (c:Int):BeatP (fun x=>S (x - c)) true (c+f) g:=
 ⟨fun e=>(by cases e),fun _=>(by show S (c+f - c); rw [show c+f - c=f by omega]; exact h.yes rfl),h.ge,fun d=>by
  rw [h.dvd d]
  constructor
  ·intro p x y hx hy
   have:=p _ _ hx hy
   rwa [show x - c - (y - c)=x - y by omega] at this
  ·intro p x y hx hy
   have:=p (x+c) (y+c) (by show S (x+c - c); rw [show x+c - c=x by omega]; exact hx) (by show S (y+c - c); rw [show y+c - c=y by omega]; exact hy)
   rwa [show x+c - (y+c)=x - y by omega] at this⟩
def nxB (D:Int) (N B:Nat→Bt) (u:Nat):Bt:=if u < 3 then gcdB (yee (B u) (D * (86400 / szI u)+(N u).2.1)) (N u).2.2 else yee (B u) (outF D u)
theorem yas {q:Nat→Bool} {x:Int}:x∈secL q↔∃j,j < 86400∧q j=true∧x= (j:Int):=by rw [secL]; exact sel_mem
attribute [local irreducible] secL
theorem BQ.next {cs:List Cl} {k:Nat} {D:Int} {B:Nat→Bt} (h:BQ cs k B) (hD:(dayS cs (yac 0 146096))[k]? =some D):BQ cs (k+1) (nxB D (nrB (secL (dayQ cs D))) B):=fun u hu=>by
 obtain ⟨a,b,j0,hj0,hq0⟩:=ygl hD
 rw [nxB]
 by_cases h3:u < 3
 ·rw [if_pos h3]
  have hn:=nrB_q (secL (dayQ cs D)) u _ (zG _)
  rw [List.take_length] at hn
  obtain ⟨N,hN⟩:∃N,nrB (secL (dayQ cs D)) u=N:=⟨_,rfl⟩
  rw [hN] at hn⊢
  obtain ⟨y,f,g⟩:=N
  simp only [BeatQ] at hn
  have hy:y=true:=by
   cases y
   ·exact absurd ⟨(j0:Int),yas.2 ⟨j0,hj0,hq0,rfl⟩,rfl⟩ ((hn.no rfl).2.2 ((j0:Int) / szI u))
   ·rfl
  subst hy
  refine BeatP.congr ((h u hu).both (hn.shift (D * (86400 / szI u)))) fun x=>?_
  rw [UD.more hD]
  refine or_congr Iff.rfl ?_
  constructor
  ·rintro ⟨v,hv,e⟩
   obtain ⟨j,h1,h2,rfl⟩:=yas.1 hv
   exact ⟨j,h1,h2,by rw [unN_low h3]; omega⟩
  ·rintro ⟨j,h1,h2,rfl⟩
   exact ⟨j,yas.2 ⟨j,h1,h2,rfl⟩,by rw [unN_low h3]; omega⟩
 ·rw [if_neg h3]
  refine BeatP.congr ((h u hu).take (outF D u)) fun x=>?_
  rw [UD.more hD]
  refine or_congr Iff.rfl ?_
  constructor
  ·rintro rfl; exact ⟨j0,hj0,hq0,by rw [unN,if_neg h3]⟩
  ·rintro ⟨j,_,_,rfl⟩; rw [unN,if_neg h3]
end
section
open Go.RowKit Go.Maps
attribute [local irreducible] secL
attribute [local go_sem] Oper.semAt_some
attribute [local go_sem ↓] yaq
attribute [local go_sem] run_makeMap
structure PuW (bx bm:Nat) (F M:Blk) (W:World):Prop where
 c:W.cell? ⟨bx,0,none⟩=some (.map (some bm))
 m:MapS (DiK W F M) (DiG W F M) W bm 512
theorem PuW.keep {bx bm:Nat} {F F' M:Blk} {W W':World} (h:PuW bx bm F M W) (hs:W.heap.size≤W'.heap.size) (hF:∀b,F b→F' b) (hb:∀b,F b∧¬M b→W'.heap[b]? =W.heap[b]?) (hx:W'.heap[bx]? =W.heap[bx]?) (hm:W'.heap[bm]? =W.heap[bm]?):PuW bx bm F' M W':=
 ⟨(zzJ (w:=W) (a:=⟨bx,0,none⟩) hx).trans h.c,MapI.keep h.m hs hF hb hm⟩
theorem fault_one {c:Cl} (h:mayC c=true):yah [c]=0:=by
 rw [yah,if_neg (by simp),if_pos (by simp [h])]
def AlT (h0 h1 h2 h3 h4 h5 h6 h7 h8:Value) (ds:List Deferred) (a:Act):Prop:=∃V:Nat→Value,a= {tmps:=#[h0,h1,h2,h3,h4,h5,h6,h7,h8,V 9,V 10,V 11,V 12,V 13,V 14,V 15,V 16,V 17,V 18,V 19,V 20,V 21,V 22,V 23,V 24,V 25,V 26,V 27,V 28,V 29,V 30,V 31,V 32,V 33,V 34,V 35,V 36,V 37,V 38,V 39,V 40,V 41,V 42,V 43,V 44,V 45,V 46,V 47,V 48,V 49,V 50,V 51,V 52,V 53,V 54,V 55,V 56,V 57,V 58,V 59,V 60,V 61,V 62,V 63,V 64,V 65,V 66,V 67,V 68,V 69,V 70],defers:=ds}
theorem AlT.of {h0 h1 h2 h3 h4 h5 h6 h7 h8 u9 u10 u11 u12 u13 u14 u15 u16 u17 u18 u19 u20 u21 u22 u23 u24 u25 u26 u27 u28 u29 u30 u31 u32 u33 u34 u35 u36 u37 u38 u39 u40 u41 u42 u43 u44 u45 u46 u47 u48 u49 u50 u51 u52 u53 u54 u55 u56 u57 u58 u59 u60 u61 u62 u63 u64 u65 u66 u67 u68 u69 u70:Value} {ds:List Deferred}:AlT h0 h1 h2 h3 h4 h5 h6 h7 h8 ds {tmps:=#[h0,h1,h2,h3,h4,h5,h6,h7,h8,u9,u10,u11,u12,u13,u14,u15,u16,u17,u18,u19,u20,u21,u22,u23,u24,u25,u26,u27,u28,u29,u30,u31,u32,u33,u34,u35,u36,u37,u38,u39,u40,u41,u42,u43,u44,u45,u46,u47,u48,u49,u50,u51,u52,u53,u54,u55,u56,u57,u58,u59,u60,u61,u62,u63,u64,u65,u66,u67,u68,u69,u70],defers:=ds}:=⟨fun i=>(#[u9,u10,u11,u12,u13,u14,u15,u16,u17,u18,u19,u20,u21,u22,u23,u24,u25,u26,u27,u28,u29,u30,u31,u32,u33,u34,u35,u36,u37,u38,u39,u40,u41,u42,u43,u44,u45,u46,u47,u48,u49,u50,u51,u52,u53,u54,u55,u56,u57,u58,u59,u60,u61,u62,u63,u64,u65,u66,u67,u68,u69,u70]:Array Value).getD (#[0,0,0,0,0,0,0,0,0,0,1,2,3,4,5,6,7,8,9,10,11,12,13,14,15,16,17,18,19,20,21,22,23,24,25,26,27,28,29,30,31,32,33,34,35,36,37,38,39,40,41,42,43,44,45,46,47,48,49,50,51,52,53,54,55,56,57,58,59,60,61].getD i 0) undef,rfl⟩
end
end Go.Proofs.YtkpgfmonhfnhdaaGreatDoor
