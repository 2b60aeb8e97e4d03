/-
  seek.Next and seek.First.
  math/bits.Len64, by the kit's shelf: how long a number is, in bits.
  A disc's Prev.
  The greatest instant of a set below another one, day by day.
-/
import Derived.Test.YtjahgimnfliooaaGreatDoorQ7d48fe
import Derived.Test.YtjahgimnfliooaaGreatDoorQ5ec33b
import Derived.Shelf.Strconv.Itoa0
import Derived.Test.YtjahgimnfliooaaGreatDoorQf20948
import Derived.Test.YtjahgimnfliooaaGreatDoorQf33c73
set_option maxRecDepth 100000
set_option maxHeartbeats 25600000
namespace Go.Proofs.YtjahgimnfliooaaGreatDoor
set_option linter.unusedVariables false
section
open Go.RowKit Go.Maps
attribute [local go_sem] Oper.semAt_some
def ygy:List Int→Int × Int
 | []=>(0,15)
 | x :: _=>(x,0)
def ycv (l:List Cl) (t:Int):Int × Int:=if yas l≠0 then (0,yas l) else ygy (yaQ l (ybY t+1) 12622780799)
structure TwoC (b:Nat) (x y:Int) (O:Blk) (W:World):Prop where
 c4:W.cell? ⟨b,0,none⟩=some (.int .i64 x)
 c5:W.cell? ⟨b+1,0,none⟩=some (.int .i64 y)
 f4:W.frozen? ⟨b,0,none⟩=false
 f5:W.frozen? ⟨b+1,0,none⟩=false
 o4:O b
 o5:O (b+1)
 lt:∀c,O c→c < W.heap.size
theorem TwoC.keep {b:Nat} {x y:Int} {O:Blk} {W W':World} (h:TwoC b x y O W) (hs:W.heap.size≤W'.heap.size) (hb:∀c,O c→W'.heap[c]? =W.heap[c]?):TwoC b x y O W':=
 ⟨(zzJ (w:=W) (a:=⟨b,0,none⟩) (hb _ h.o4)).trans h.c4,(zzJ (w:=W) (a:=⟨b+1,0,none⟩) (hb _ h.o5)).trans h.c5,
  (zzM (w:=W) (a:=⟨b,0,none⟩) (hb _ h.o4)).trans h.f4,(zzM (w:=W) (a:=⟨b+1,0,none⟩) (hb _ h.o5)).trans h.f5,h.o4,h.o5,fun c hc=>zH (h.lt c hc) hs⟩
theorem TwoC.set {b:Nat} {x y x' y':Int} {O:Blk} {W:World} (h:TwoC b x y O W):TwoC b x' y' O ((W.setCell ⟨b,0,none⟩ (.int .i64 x')).setCell ⟨b+1,0,none⟩ (.int .i64 y')):=by
 obtain ⟨h1,h2,h3,h4,h5,h6,h7⟩:=h
 refine ⟨?_,?_,?_,?_,h5,h6,fun c hc=>by simpa using h7 c hc⟩ <;> simp [go_sem,h1,h2,h3,h4]
def NxI19 (b:Nat):OwnF:=fun k O _ W=>k=0∧TwoC b 0 0 O W
def NxX19 (b:Nat) (xs:List Int) (c:Code):OwnF:=fun k O _ W=>c= .ret∧∃x,xs[0]? =some x∧TwoC b x 0 O W
theorem yfL (b:Nat) (M:Blk):StabF M (NxI19 b):=fun k O F F' W W' h hs hF hO=>⟨h.1,h.2.keep hs (fun c hc=>hO c (.inl hc))⟩
theorem yjY (b:Nat) (xs:List Int) (M:Blk) (c:Code):StabF M (NxX19 b xs c):=fun k O F F' W W' ⟨h1,x,h2,h3⟩ hs hF hO=>⟨h1,x,h2,h3.keep hs (fun c hc=>hO c (.inl hc))⟩
theorem nxI19_lt (b:Nat):LtF (NxI19 b):=fun k O F W h=>h.2.lt
theorem nxX19_lt (b:Nat) (xs:List Int) (c:Code):LtF (NxX19 b xs c):=fun k O F W ⟨_,_,_,h⟩=>h.lt
theorem yfx (args:Array Value) (w:World):(callFunc 142 args).run Tryz.prog w= .ok (.enter 142 args) w:=by simp [go_sem]
theorem held_ge (t:Int):-1≤ybY t:=by rw [ybY]; omega
theorem held_le (t:Int):ybY t≤12622780800:=by rw [ybY]; omega
theorem ykx (a:Option Addr) (cap:Nat) (l:List Cl) (t:Int) (w:World) (hl:l.length≤9223372036854775807) (hlc:l.length≤cap) (hs:Sl w a (cls l)) (hno:a=none→cap=0) (hok:∀c∈l,c.Ok) (hT:Tab w) :
  Calls Tryz.prog 50 #[.slice a l.length cap, .int .i64 t] w fun e w'=>e= .returned (.tuple #[.int .i64 (ycv l t).1, .int .i64 (ycv l t).2])∧Below w.heap.size w w':=by
 obtain ⟨W1,hW1⟩:∃W1,(w.alloc (.cells #[.int .i64 0] 2)).alloc (.cells #[.int .i64 0] 35)=W1:=⟨_,rfl⟩
 have hB1:Below w.heap.size w W1:=by rw [←hW1]; exact yaa (yaa (Below.refl _ _) (zG _)) (by simp)
 have s1:W1.heap.size=w.heap.size+2:=by rw [←hW1]; simp
 have hC1:TwoC w.heap.size 0 0 (fun b=>b=w.heap.size∨b=w.heap.size+1) W1:=by
  refine ⟨?_,?_,?_,?_, .inl rfl, .inr rfl,fun c hc=>by omega⟩ <;> (rw [←hW1]; simp [go_sem])
 have cO:=hid (IOf_any a cap l W1 hl hlc (hs.below hB1) hno hok)
 have cH:=hid (fun W=>yfZ t W)
 have cA:=hid (fun W (hB:Below W1.heap.size W1 W) f u h=>ykB a cap l f u W hl hlc ((hs.below hB1).below hB) hno hok ((hT.later hB1).later hB) h)
 have g0:=held_ge t
 have g1:=held_le t
 obtain ⟨h0,hh0⟩:∃x,ybY t=x:=⟨_,rfl⟩
 have hP:Hid (ycv l t=if yas l≠0 then (0,yas l) else ygy (yaQ l (h0+1) 12622780799)):=by show _ = _; rw [ycv,hh0]
 rw [hh0] at cH g0 g1
 obtain ⟨pr,hpr⟩:∃x,ycv l t=x:=⟨_,rfl⟩
 rw [hpr] at hP⊢
 have HB1:=hid hB1
 have HW1:=hid hW1
 have S1:=hid s1
 have C1:=hid hC1
 have Ht0:Hid (0 < w.heap.size):=hT.1
 clear hW1 hB1 hs hok hT s1 hno hlc hh0 hpr hC1
 refine (wf_calls (r:=none) (n:=1)).mp ?_
 refine callsIn_of_wp_marks Tryz.func50 rfl trivial ?_ rfl
 simp only [Tryz.ntmps50,List.size_toArray,List.length_cons,List.length_nil,Nat.reduceAdd,Nat.reduceSub,Array.replicate_succ,Array.replicate_zero,List.push_toArray,List.append_toArray,List.nil_append,List.cons_append]
 gi_wp2_with fail
 rw [HW1.out]
 refine (wf_calls.mpr cO.out).mono ?_
 rintro e w2 ⟨⟨v,rfl,-⟩,hB2⟩
 have HB2:=hid hB2
 have hB02:=hid (HB1.out.trans (hB2.mono HB1.out.size))
 have C2:Hid (TwoC w.heap.size 0 0 (fun b=>b=w.heap.size∨b=w.heap.size+1) w2):=C1.out.keep hB2.size (fun c hc=>hB2.block c (C1.out.lt c hc))
 by_cases hf:yas l=0
 ·have Hf:=hid hf
  have cA2:=hid (cA.out w2 hB2 (h0+1) 12622780799 hf)
  rw [hf]
  clear hB2 hf cA
  gi_wp2_with fail
  refine (wf_calls.mpr (cH.out w2)).mono ?_
  rintro e wx ⟨rfl,hwx⟩
  rw [hwx]
  clear cH hwx
  gi_wp2_with fail
  refine (wf_calls.mpr cA2.out).mono ?_
  rintro e w3 ⟨br,bk,bps,xe,xf,xu,xr,rfl,hB3,hS3,hM3⟩
  have e1:max (h0+1) 0=h0+1:=by omega
  have e2:min 12622780799 12622780799= (12622780799:Int):=by omega
  rw [e1,e2] at hS3
  have tl:=hid (yiq (cs:=l) (br:=br) (bk:=bk) (bps:=bps) xe xf xu xr (h0+1) 12622780799 (by omega) (by omega))
  obtain ⟨L,hL⟩:∃L,yaQ l (h0+1) 12622780799=L:=⟨_,rfl⟩
  rw [hL] at tl hP
  have hP2:Hid (pr=ygy L):=by show _ = _; rw [hP.out,if_neg (by rw [Hf.out]; simp)]
  have S12:Hid (w.heap.size+2≤w2.heap.size):=by have:=HB2.out.size; have:=S1.out; show _≤_; omega
  have HB3:=hid (hB02.out.trans (hB3.mono hB02.out.size))
  have C3:=hid (C2.out.keep hB3.size (fun c hc=>hB3.block c (C2.out.lt c hc)))
  have HS3:=hid hS3
  have HM3:=hid hM3
  have HFO:Hid (∀b,FSk w2 w3 b→¬(b=w.heap.size∨b=w.heap.size+1)):=fun b hb h=>by
   have:=S12.out; have:=Ht0.out
   rcases hb with hb | hb <;> omega
  clear hB3 hS3 hM3 hL cA2 hP e1 e2
  gi_wp2_with fail
  refine yb1 (F:=FSk w2 w3) (M:=RM br bk bps) (gf:=142) (lb:=#[.pointer (some ⟨xe,0,none⟩), .pointer (some ⟨xf,0,none⟩), .pointer (some ⟨xu,0,none⟩), .pointer (some ⟨xr,0,none⟩)]) rfl yfx (fun b=>b=w.heap.size∨b=w.heap.size+1)
   (fun k vs F W h=>by obtain ⟨_,_,rfl⟩:=h; rfl) tl.out HSk.host HSk.host HSk.host HS3.out HFO.out
   (NxI19 w.heap.size) (NxX19 w.heap.size L) (yfL _ _) (yjY _ _ _) (nxI19_lt _) (nxX19_lt _ _) ⟨rfl,C3.out⟩
   (fun k O F a' W=>NxI19 w.heap.size k O F W∧∃x,L[0]? =some x∧∃(u0 u1 u2 u3 u6 u7 u9 u10 u11 u12 u13 u14 u15 u16 u17 u18 u19 u20 u21 u22 u23:Value),a' = {tmps:=#[u0,u1,u2,u3, .pointer (some ⟨w.heap.size,0,none⟩), .pointer (some ⟨w.heap.size+1,0,none⟩),u6,u7, .int .i64 x,u9,u10,u11,u12,u13,u14,u15,u16,u17,u18,u19,u20,u21,u22,u23],defers:= []})
   ?putl ?assign ?body ?done ?stop
  case putl=>
   rintro l' o k O F a' W hr hnO hnF ⟨h1,h2⟩
   exact ⟨yfL _ (RM br bk bps) k O F F W _ h1 (by rw [World.putObj_size]; exact zG _) (fun _ h=>h) (fun b hb=>World.putObj_heap_other (fun e=>hb.elim (fun h=>hnO (e ▸ h)) (fun h=>hnF (e ▸ h.1)))),h2⟩
  case assign=>
   rintro l' k O6 F6 W6 vs K hk ⟨rfl,hI⟩ hFl ⟨x,hx,rfl⟩ hG6 hK
   have HI:=hid hI
   have Hx:=hid hx
   clear hI hx hG6 hFl
   gi_wp2
   exact hK _ O6 W6 (Grow.refl _ _) ⟨⟨rfl,HI.out⟩,x,Hx.out,_,_,_,_,_,_,_,_,_,_,_,_,_,_,_,_,_,_,_,_,_,rfl⟩
  case body=>
   rintro l3 k O6 F6 a' W6 hk hG6 hl3 hrec6 hnl3 hnF3 ⟨⟨rfl,hI⟩,x,hx,u0,u1,u2,u3,u6,u7,u9,u10,u11,u12,u13,u14,u15,u16,u17,u18,u19,u20,u21,u22,u23,rfl⟩
   have HI:=hid hI
   have Hx:=hid hx
   obtain ⟨c4,c5,f4,f5,-,-,-⟩:=hI
   clear hx hG6 hk
   gi_wp2
   exact ⟨O6,⟨fun _ h=>h,fun _ h=> .inl h,((Eff.refl O6 W6).set HI.out.o4 _ _).set HI.out.o5 _ _⟩,rfl,x,Hx.out,HI.out.set⟩
  case stop=>
   rintro c k O9 F9 w9 hk1 hk2 hG9 hHN hFs hFn hFO9 ⟨rfl,x,hx,hX⟩ hD hnD hnF
   have hX':TwoC w.heap.size x 0 O9 (w9.putObj w3.heap.size (.deferred none)):=hX.keep (by rw [World.putObj_size]; exact zG _) (fun b hb=>World.putObj_heap_other (fun e=>hnD (e ▸ hb)))
   have hBf:Hid (Below w.heap.size w (w9.putObj w3.heap.size (.deferred none))):=yaW (HB3.out.trans (hG9.eff.below (fun b hb=>by
    rcases hb with (h | h) | h
    ·omega
    ·omega
    ·have:=HM3.out b h; have:=S12.out; omega) HB3.out.size)) HB3.out.size _
   have HD:=hid hD
   have HX:=hid hX'
   have hpr:Hid (pr= (x,0)):=by
    show _ = _
    rw [hP2.out]
    cases L with
    | nil=>simp at hx
    | cons y m=>simp at hx; rw [hx]; rfl
   clear hX hG9 hD hX' hHN hFs hFn hFO9 hnD hnF hx
   gi_wp2
   refine ⟨by simp, .inl ⟨_,_,rfl,run_takeDeferred HD.out,?_⟩⟩
   obtain ⟨c4,c5,-,-,-,-,-⟩:=HX.out
   refine ⟨.tuple #[.int .i64 x, .int .i64 0],?_,by rw [hpr.out],hBf.out⟩
   simp [results,Tryz.results50,go_sem,c4,c5]
  case done=>
   rintro O9 F9 w9 hG9 hHN hFs hFn hFO9 ⟨hk,hI⟩ hD hnD hnF
   have hpr:Hid (pr= (0,15)):=by
    show _ = _
    rw [hP2.out,show L= [] from List.length_eq_zero_iff.mp hk]; rfl
   have hX':=hI.set (x':=0) (y':=15)
   have hB9:Below w.heap.size w w9:=HB3.out.trans (hG9.eff.below (fun b hb=>by
    rcases hb with (h | h) | h
    ·omega
    ·omega
    ·have:=HM3.out b h; have:=S12.out; omega) HB3.out.size)
   have HB9:=hid hB9
   have HX:=hid hX'
   have HDx:Hid (((w9.setCell ⟨w.heap.size,0,none⟩ (.int .i64 0)).setCell ⟨w.heap.size+1,0,none⟩ (.int .i64 15)).heap[w3.heap.size]? =some (.deferred (some []))):=by
    show _ = _
    rw [Below.heap_setCell _ _ _ _ (fun e=>hnD (by rw [e]; exact hI.o5)),Below.heap_setCell _ _ _ _ (fun e=>hnD (by rw [e]; exact hI.o4))]
    exact hD
   have HND:=hid hnD
   obtain ⟨c4,c5,f4,f5,-,-,-⟩:=hI
   clear hG9 hHN hFs hFn hFO9 hnD hnF hD hB9 hX' hk
   gi_wp2
   refine ⟨by simp, .inl ⟨_,_,rfl,run_takeDeferred HDx.out,?_⟩⟩
   have hBf:=yaW (yab (yab HB9.out (by omega)) (by omega):Below w.heap.size w ((w9.setCell ⟨w.heap.size,0,none⟩ (.int .i64 0)).setCell ⟨w.heap.size+1,0,none⟩ (.int .i64 15))) HB3.out.size (.deferred none)
   have hX2:=HX.out.keep (W':=((w9.setCell ⟨w.heap.size,0,none⟩ (.int .i64 0)).setCell ⟨w.heap.size+1,0,none⟩ (.int .i64 15)).putObj w3.heap.size (.deferred none)) (by rw [World.putObj_size]; exact zG _) (fun b hb=>World.putObj_heap_other (fun e=>HND.out (e ▸ hb)))
   refine ⟨.tuple #[.int .i64 0, .int .i64 15],?_,by rw [hpr.out],hBf⟩
   obtain ⟨WF,hWF⟩:∃W,((w9.setCell ⟨w.heap.size,0,none⟩ (.int .i64 0)).setCell ⟨w.heap.size+1,0,none⟩ (.int .i64 15)).putObj w3.heap.size (.deferred none)=W:=⟨_,rfl⟩
   rw [hWF] at hX2
   obtain ⟨c4,c5,-,-,-,-,-⟩:=hX2
   rw [hWF]
   simp [results,Tryz.results50,go_sem,c4,c5]
 ·have hpr:Hid (pr= (0,yas l)):=by show _ = _; rw [hP.out,if_pos hf]
  have hBf:Hid (Below w.heap.size w ((w2.setCell ⟨w.heap.size,0,none⟩ (.int .i64 0)).setCell ⟨w.heap.size+1,0,none⟩ (.int .i64 (yas l)))):=yab (yab hB02.out (by omega)) (by omega)
  obtain ⟨X,hX⟩:∃X,yas l=X:=⟨_,rfl⟩
  rw [hX] at hf hpr hBf⊢
  have HX:=hid (C2.out.set (x':=0) (y':=X))
  obtain ⟨c4,c5,f4,f5,-,-,-⟩:=C2.out
  have hX0:(X == 0)=false:=by simpa using hf
  have hX1:(X != 0)=true:=by simpa using hf
  clear hB2 cA hX hP
  gi_wp2
  obtain ⟨d4,d5,-,-,-,-,-⟩:=HX.out
  refine ⟨_,?_,by rw [hpr.out],hBf.out⟩
  simp [results,Tryz.results50,go_sem,d4,d5]
theorem yir (a:Option Addr) (cap:Nat) (l:List Cl) (w:World) (hl:l.length≤9223372036854775807) (hlc:l.length≤cap) (hs:Sl w a (cls l)) (hno:a=none→cap=0) (hok:∀c∈l,c.Ok) (hT:Tab w) :
  Calls Tryz.prog 15 #[.slice a l.length cap] w fun e w'=>e= .returned (.tuple #[.int .i64 (ycv l (-1)).1, .int .i64 (ycv l (-1)).2])∧Below w.heap.size w w':=by
 have cN:=hid (ykx a cap l (-1) w hl hlc hs hno hok hT)
 obtain ⟨pr,hpr⟩:∃x,ycv l (-1)=x:=⟨_,rfl⟩
 rw [hpr] at cN⊢
 clear hs hno hok hT hpr
 go_enter Tryz.func15,Tryz.ntmps15
 go_wp2_with fail
 refine cN.out.mono ?_
 rintro e w2 ⟨rfl,hB⟩
 have HB:=hid hB
 clear hB
 go_wp2
 go_ret2
 exact ⟨rfl,HB.out⟩
end
section
open Go.RowKit Go.Shelf
def ren64:Ren:={f:=fun n=>if n=129 then 145 else 0,t:=fun n=>if n=3 then 3 else if n=4 then 4 else if n=5 then 5 else if n=9 then 9 else if n=46 then 222 else if n=53 then 28 else 0,g:=fun _=>0}
theorem yj4:Tryz.f145=Body.n129 ren64:=by kernel_rfl
theorem lays64:Lays.n129 Tryz.prog ren64 where
 mixed:=rfl
 f129:=by
  show Tryz.prog.funcs[145]? = _
  rw [Tryz.func145,yj4]
 t3:=Tryz.underlying3
 a3:=Tryz.isAgg3
 z3:=Tryz.sizeOf3
 v3:=Tryz.zeroValue3
 t4:=Tryz.underlying4
 a4:=Tryz.isAgg4
 z4:=Tryz.sizeOf4
 v4:=Tryz.zeroValue4
 t5:=Tryz.underlying5
 a5:=Tryz.isAgg5
 z5:=Tryz.sizeOf5
 v5:=Tryz.zeroValue5
 t9:=Tryz.underlying9
 a9:=Tryz.isAgg9
 z9:=Tryz.sizeOf9
 v9:=Tryz.zeroValue9
 t46:=Tryz.underlying222
 a46:=Tryz.isAgg222
 z46:=Tryz.sizeOf222
 v46:=Tryz.zeroValue222
 t53:=Tryz.underlying28
 a53:=Tryz.isAgg28
 z53:=Tryz.sizeOf28
 v53:=Tryz.zeroValue28
theorem Len64_any (x:Nat) (w:World) (hx:x < 18446744073709551616):Calls Tryz.prog 145 #[.int .u64 (x:Nat)] w fun e w'=>e= .returned (.int .i64 ((Lib.bitLen x:Nat):Int))∧w' =w:=by
 exact Any.bits_Len64 lays64 (x:Nat) w (by omega) (by omega)
theorem yeg:∀(n x:Nat),x < 2 ^ n→n≤64→x≠0→1≤Lib.bitLen x∧Lib.bitLen x≤n∧x.testBit (Lib.bitLen x - 1)=true∧∀j,Lib.bitLen x≤j→x.testBit j=false
 | 0,x,h,_,h0=>by simp at h; omega
 | n+1,x,h,hn,h0=>by
   have h64:x < 2 ^ 64:=zH h (Nat.pow_le_pow_right (by omega) hn)
   have e:=Lib.bitLen_half x h0 h64
   by_cases h1:x / 2=0
   ·have:x=1:=by omega
    subst this
    refine ⟨by decide,by rw [e]; rw [h1]; simp [show Lib.bitLen 0=0 from rfl],by decide,fun j hj=>?_⟩
    have:Lib.bitLen 1=1:=by decide
    rw [this] at hj
    obtain ⟨k,rfl⟩:∃k,j=k+1:=⟨j - 1,by omega⟩
    rw [Nat.testBit_succ]; simp
   ·have h2:x / 2 < 2 ^ n:=by rw [Nat.pow_succ] at h; omega
    obtain ⟨g1,g2,g3,g4⟩:=yeg n (x / 2) h2 (by omega) h1
    rw [e]
    refine ⟨by omega,by omega,?_,fun j hj=>?_⟩
    ·rw [show 1+Lib.bitLen (x / 2) - 1= (Lib.bitLen (x / 2) - 1)+1 by omega,Nat.testBit_succ]; exact g3
    ·obtain ⟨k,rfl⟩:∃k,j=k+1:=⟨j - 1,by omega⟩
     rw [Nat.testBit_succ]; exact g4 k (by omega)
end
section
open Go.RowKit
def LastOf (p:Nat→Bool) (n:Int) (ok:Bool):Prop:=
 (ok=true∧∃k:Nat,n=k∧k < 86400∧p k=true∧∀j,k < j→j < 86400→p j=false)∨(ok=false∧n=0∧∀j,j < 86400→p j=false)
theorem LastOf.congr {p q:Nat→Bool} {n:Int} {ok:Bool} (h:LastOf p n ok) (e:∀k,k < 86400→p k=q k):LastOf q n ok:=by
 rcases h with ⟨rfl,k,rfl,hk,h1,h2⟩ | ⟨rfl,rfl,h2⟩
 ·exact .inl ⟨rfl,k,rfl,hk,by rw [←e k hk]; exact h1,fun j hj h=>by rw [←e j h]; exact h2 j hj h⟩
 ·exact .inr ⟨rfl,rfl,fun j h=>by rw [←e j h]; exact h2 j h⟩
theorem last_word (h:Nat→Nat) (k:Nat) (hk:k < 1350) (hz:∀j,k < j→j < 1350→h j=0) (hb:h k < 18446744073709551616) (h0:h k≠0):LastOf (bitW h) ((k:Int) * 64+(Lib.bitLen (h k):Nat) - 1) true:=by
 obtain ⟨h1,h2,h3,h4⟩:=yeg 64 (h k) (by simpa using hb) (by omega) h0
 generalize Lib.bitLen (h k)=L at *
 refine .inl ⟨rfl,k * 64+(L - 1),by omega,by omega,?_,fun j hj hj2=>?_⟩
 ·rw [bitW,show (k * 64+(L - 1)) / 64=k by omega,show (k * 64+(L - 1)) % 64=L - 1 by omega]; exact h3
 ·rw [bitW]
  by_cases e:j / 64=k
  ·rw [e]; exact h4 _ (by omega)
  ·rw [hz (j / 64) (by omega) (by omega),Nat.zero_testBit]
theorem last_none (h:Nat→Nat) (hz:∀j,j < 1350→h j=0):LastOf (bitW h) 0 false:= .inr ⟨rfl,rfl,fun j hj=>by rw [bitW,hz (j / 64) (by omega),Nat.zero_testBit]⟩
def yb7 (f:Nat→Nat) (s j:Nat):Nat:=mk (fun t=>(f j).testBit t && decide (64 * j+t≤s))
theorem uptoW_lt (f:Nat→Nat) (s j:Nat):yb7 f s j < 18446744073709551616:=yaU _
theorem yjM (f:Nat→Nat) (s j:Nat) (h:s / 64 < j):yb7 f s j=0:=by
 rw [yb7,←yb2]
 exact ybj fun k hk=>by rw [zzd (by omega),Bool.and_false]
theorem uptoW_low (f:Nat→Nat) (s j:Nat) (h:j < s / 64) (hf:f j < 18446744073709551616):yb7 f s j=f j:=by
 refine (yfA hf fun k hk=>?_).symm
 rw [zzZ (by omega),Bool.and_true]
theorem uptoW_bit (f:Nat→Nat) (s k:Nat):bitW (yb7 f s) k= (bitW f k && decide (k≤s)):=by
 rw [bitW,yb7,ybd,bitW,zzZ (Nat.mod_lt _ (by omega)),zzo]
 have:64 * (k / 64)+k % 64=k:=Nat.div_add_mod k 64
 rw [this]
theorem uptoW_at (f:Nat→Nat) (s:Nat) (hf:f (s / 64) < 18446744073709551616):yb7 f s (s / 64)=f (s / 64) * 2 ^ (63 - s % 64) % 18446744073709551616 / 2 ^ (63 - s % 64):=by
 have h1:f (s / 64) * 2 ^ (63 - s % 64) % 18446744073709551616 / 2 ^ (63 - s % 64)≤f (s / 64) * 2 ^ (63 - s % 64) % 18446744073709551616:=Nat.div_le_self _ _
 have h2:f (s / 64) * 2 ^ (63 - s % 64) % 18446744073709551616 < 18446744073709551616:=Nat.mod_lt _ (by omega)
 refine (yfA (by omega) fun k hk=>?_).symm
 rw [←Nat.shiftRight_eq_div_pow,Nat.testBit_shiftRight,show (18446744073709551616:Nat)=2 ^ 64 from rfl,Nat.testBit_mod_two_pow,←Nat.shiftLeft_eq,Nat.testBit_shiftLeft]
 by_cases h:k≤s % 64
 ·rw [zzZ (show 63 - s % 64+k < 64 by omega),zzZ (show 63 - s % 64+k ≥ 63 - s % 64 by omega),zzZ (show 64 * (s / 64)+k≤s by omega),show 63 - s % 64+k - (63 - s % 64)=k by omega,zzo,zzo,Bool.and_true]
 ·rw [zzd (show¬63 - s % 64+k < 64 by omega),zzd (show¬64 * (s / 64)+k≤s by omega),Bool.false_and,Bool.and_false]
theorem ykS (b:Nat) (q:Nat→Bool) (s:Nat) (w:World) (hs:s < 86400) (hd:DiscAt w b q) :
  Calls Tryz.prog 98 #[.pointer (some ⟨b,0,none⟩), .int .i64 s] w fun r w'=>(∃n ok,r= .returned (.tuple #[.int .i64 n, .bool ok])∧LastOf (fun k=>q k && decide (k≤s)) n ok)∧w' =w:=by
 obtain ⟨f,f1,f2,f3,f4,f5⟩:=hd
 have c1:=hid (yd1 (s:Int) w)
 rw [yfe,zzZ hs] at c1
 have c2:=hid (fun m (hm:m < 18446744073709551616)=>Len64_any m w hm)
 have HC:=hid f1
 have Hf:=hid f3
 have hlt:=hid (fun j=>uptoW_lt f s j)
 have hhigh:=hid (fun j h=>yjM f s j h)
 have hlow:=hid (fun j h hf=>uptoW_low f s j h hf)
 have hsh:Hid (IntKind.u64.wrap ((f (s / 64):Int) * 2 ^ (63 - s % 64)) / 2 ^ (63 - s % 64)= ((yb7 f s (s / 64):Nat):Int)):=by
  show _ = _
  have h2:=f3 (s / 64) (by omega)
  rw [uptoW_at f s h2,IntKind.wrap_u64]
  simp
 have hbit:Hid (∀k,k < 86400→bitW (yb7 f s) k= (q k && decide (k≤s))):=fun k hk=>by rw [uptoW_bit,f4 k hk]
 have hsI:(s:Int) < 86400:=by omega
 have hi:s / 64 < 1350:=by omega
 have e1:=f1 (s / 64) hi
 have hs0:(0:Int)≤s:=by omega
 have hmn:min (s:Int) 86399=s:=by omega
 clear hs f1 f2 f3 f4 f5
 go_enter Tryz.func98,Tryz.ntmps98
 go_wp2_with fail
 refine c1.out.mono ?_
 rintro e w' ⟨rfl,rfl⟩
 go_wp2_with fail
 rw [hsh.out]
 clear hsh e1
 go_loopw [7,8] (fun m i wr=>∃k:Nat,i= .int .i64 k∧m= .int .u64 (yb7 f s k:Nat)∧Hid (k≤s / 64)∧k < 1350∧Hid (∀j,k < j→j < 1350→yb7 f s j=0)∧wr=w) (fun _ i _=>(intOf i).toNat)
 case atStart=>exact ⟨s / 64,by simp,rfl,zG _,hi,fun j h _=>hhigh.out j h,rfl⟩
 case round=>
  obtain ⟨k,rfl,rfl,hsk,hk2,hz,rfl⟩:=hrel
  have d4:=hid (c2.out _ (hlt.out k))
  by_cases hB:yb7 f s k=0
  ·have hz2:Hid (∀j,k≤j→j < 1350→yb7 f s j=0):=fun j hj hj2=>by
    by_cases e:j=k
    ·rw [e]; exact hB
    ·exact hz.out j (by omega) hj2
   have hbz:(((yb7 f s k:Nat):Int) != 0)=false:=by simp [hB]
   have hbz2:(((yb7 f s k:Nat):Int) == 0)=true:=by simp [hB]
   clear hB
   by_cases hlast:k=0
   ·have hbq:decide ((k:Int) - 1 < 0)=true:=zzZ (by omega)
    have hz3:Hid (LastOf (bitW (yb7 f s)) 0 false):=last_none _ (fun j hj=>hz2.out j (by omega) hj)
    clear hlast
    go_wp2
    go_ret2
    exact ⟨⟨_,_,rfl,hz3.out.congr hbit.out⟩,rfl⟩
   ·have hk3:k - 1 < 1350:=by omega
    have hbq:decide ((k:Int) - 1 < 0)=false:=zzd (by omega)
    have e5:=HC.out (k - 1) hk3
    have e6:=hlow.out (k - 1) (by have:=hsk.out; omega) (Hf.out _ hk3)
    rw [←e6] at e5
    have hsk2:Hid (k - 1≤s / 64):=by have:=hsk.out; show _≤_; omega
    have hk1:0≤(k:Int) - 1:=by omega
    have hk4:(k:Int) - 1 < 1350:=by omega
    have hk5:((k:Int) - 1).toNat=k - 1:=by omega
    clear e6
    go_wp2
    exact ⟨⟨k - 1,by congr 1; omega,rfl,hsk2.out,hk3,fun j h1 h2=>hz2.out j (by omega) h2,by trivial⟩,by simp [intOf]; omega⟩
  ·have hr:=hid (last_word (yb7 f s) k hk2 hz.out (hlt.out k) hB)
   have hbz:(((yb7 f s k:Nat):Int) != 0)=true:=by simp [hB]
   have hbz2:(((yb7 f s k:Nat):Int) == 0)=false:=by simp [hB]
   obtain ⟨-,hL,-,-⟩:=yeg 64 (yb7 f s k) (by simpa using hlt.out k) (by omega) hB
   obtain ⟨L,hLe⟩:∃L,Lib.bitLen (yb7 f s k)=L:=⟨_,rfl⟩
   rw [hLe] at d4 hr hL
   clear hLe hB
   go_wp2_with fail
   refine d4.out.mono ?_
   rintro e w' ⟨rfl,rfl⟩
   go_wp2
   go_ret2
   exact ⟨⟨_,_,rfl,hr.out.congr hbit.out⟩,rfl⟩
end
section
open Go.RowKit Go.Maps
def ydd (l:List Cl) (t:Int):Int × Int:=if yas l≠0 then (0,yas l) else ygy (yaQ l 0 (ybY t - 1)).reverse
def LastI (cs:List Cl) (T x:Int):Prop:=ybc cs x=true∧x < T∧∀y,x < y→y < T→ybc cs y=false
theorem head_last {cs:List Cl} {T x:Int} (h:LastI cs T x):ygy (yaQ cs 0 (T - 1)).reverse= (x,0):=by
 obtain ⟨h1,h2,h3⟩:=h
 have hm:x∈yaQ cs 0 (T - 1):=ybh.2 ⟨(ybx h1).1,by omega,h1⟩
 have hp:=yb5 cs 0 (T - 1)
 have hmem:∀y∈yaQ cs 0 (T - 1),y < T∧ybc cs y=true:=fun y hy=>by have:=ybh.1 hy; exact ⟨by omega,this.2.2⟩
 generalize yaQ cs 0 (T - 1)=L at *
 have hpr:L.reverse.Pairwise (·> ·):=List.pairwise_reverse.2 hp
 have hmr:x∈L.reverse:=List.mem_reverse.2 hm
 have hmemr:∀y∈L.reverse,y < T∧ybc cs y=true:=fun y hy=>hmem y (List.mem_reverse.1 hy)
 generalize L.reverse=R at *
 cases R with
 | nil=>simp at hmr
 | cons z R=>
   rcases List.mem_cons.1 hmr with e | e
   ·rw [ygy,e]
   ·have g1:=(List.pairwise_cons.1 hpr).1 x e
    have g2:=hmemr z (by simp)
    have:=h3 z (by omega) g2.1
    rw [g2.2] at this; cases this
theorem head_none {cs:List Cl} {T:Int} (h:∀y,y < T→ybc cs y=false):ygy (yaQ cs 0 (T - 1)).reverse= (0,15):=by
 have:yaQ cs 0 (T - 1)= []:=by
  rw [List.eq_nil_iff_forall_not_mem]
  intro y hy
  have:=ybh.1 hy
  rw [h y (by omega)] at this
  exact absurd this.2.2 (by simp)
 rw [this]; rfl
def yeh (cs:List Cl) (T:Int):List Int:=(dayS cs (yaj 0 ((T - 1) / 86400))).reverse
theorem yhw {cs:List Cl} {T n:Int}:n∈yeh cs T↔0≤n∧n≤(T - 1) / 86400∧anyQ (dayQ cs n)=true:=by
 rw [yeh,List.mem_reverse,dayS,List.mem_filter,ybA,and_assoc]
theorem ykq (cs:List Cl) (T:Int):(yeh cs T).Pairwise (·> ·):=List.pairwise_reverse.2 (yih cs _ _)
def yfr (cs:List Cl) (T:Int) (k:Nat):Prop:=∀j n y,j < k→(yeh cs T)[j]? =some n→y / 86400=n→y < T→ybc cs y=false
theorem late_zero (cs:List Cl) (T:Int):yfr cs T 0:=fun j n y h=>absurd h (by omega)
theorem inst_any {cs:List Cl} {y:Int} (h:ybc cs y=true):anyQ (dayQ cs (y / 86400))=true:=
 ycn.2 ⟨(y % 86400).toNat,by omega,by rw [yck,show 86400 * (y / 86400)+((y % 86400).toNat:Int)=y by omega]; exact h⟩
theorem yja {cs:List Cl} {T:Int} {k:Nat} (h:yfr cs T k) {y:Int} (hy:y < T) (hi:ybc cs y=true):∃j,k≤j∧(yeh cs T)[j]? =some (y / 86400):=by
 have hm:y / 86400∈yeh cs T:=yhw.2 ⟨by have:=(ybx hi).1; omega,by omega,inst_any hi⟩
 obtain ⟨j,hj,e⟩:=List.mem_iff_getElem.1 hm
 have e2:(yeh cs T)[j]? =some (y / 86400):=by rw [zzp hj,e]
 refine ⟨j,?_,e2⟩
 apply Nat.le_of_not_lt
 intro h2
 have:=h j _ y h2 e2 rfl hy
 rw [hi] at this; cases this
theorem down_at {L:List Int} (h:L.Pairwise (·> ·)) {i j:Nat} {a b:Int} (ha:L[i]? =some a) (hb:L[j]? =some b) (hij:i≤j):b≤a:=by
 obtain ⟨h1,rfl⟩:=zzq.1 ha
 obtain ⟨h2,rfl⟩:=zzq.1 hb
 rcases Nat.lt_or_ge i j with h3 | h3
 ·have:=List.pairwise_iff_getElem.1 h i j h1 h2 h3; omega
 ·obtain rfl:i=j:=by omega
  exact Int.le_refl _
theorem late_last {cs:List Cl} {T n at':Int} {k lo:Nat} (h:yfr cs T k) (hn:(yeh cs T)[k]? =some n) (hlo:(lo:Int)=min (T - 1 - 86400 * n) 86399) (hL:LastOf (fun j=>dayQ cs n j && decide (j≤lo)) at' true):LastI cs T (86400 * n+at'):=by
 rcases hL with ⟨-,j,rfl,hj,h1,h2⟩ | ⟨h1,-⟩
 ·rw [zzX,zzY,yck] at h1
  refine ⟨h1.1,by omega,fun y hy hyT=>?_⟩
  cases hi:ybc cs y
  ·rfl
  ·obtain ⟨i,hki,ei⟩:=yja h hyT hi
   have h3:=down_at (ykq cs T) hn ei hki
   have h4:y / 86400=n:=by omega
   have h5:(dayQ cs n (y % 86400).toNat && decide ((y % 86400).toNat≤lo))=false:=h2 (y % 86400).toNat (by omega) (by omega)
   rw [yck,show 86400 * n+((y % 86400).toNat:Int)=y by omega,hi,zzZ (by omega)] at h5
   cases h5
 ·cases h1
theorem late_more {cs:List Cl} {T n at':Int} {k lo:Nat} (h:yfr cs T k) (hn:(yeh cs T)[k]? =some n) (hlo:(lo:Int)=min (T - 1 - 86400 * n) 86399) (hL:LastOf (fun j=>dayQ cs n j && decide (j≤lo)) at' false):yfr cs T (k+1):=by
 intro j m y hj hm hy hyT
 rcases Nat.lt_or_ge j k with h1 | h1
 ·exact h j m y h1 hm hy hyT
 ·obtain rfl:j=k:=by omega
  rw [hn] at hm
  obtain rfl:=Option.some.inj hm
  rcases hL with ⟨h1,-⟩ | ⟨-,-,h2⟩
  ·cases h1
  ·have h5:(dayQ cs n (y % 86400).toNat && decide ((y % 86400).toNat≤lo))=false:=h2 (y % 86400).toNat (by omega)
   rw [yck,show 86400 * n+((y % 86400).toNat:Int)=y by omega,zzZ (by omega),Bool.and_true] at h5
   exact h5
theorem late_none {cs:List Cl} {T:Int} {k:Nat} (h:yfr cs T k) (hk:(yeh cs T).length=k) {y:Int} (hy:y < T):ybc cs y=false:=by
 cases hi:ybc cs y
 ·rfl
 ·obtain ⟨j,h1,h2⟩:=yja h hy hi
  have:=(zzq.1 h2).1
  omega
theorem back_clip (cs:List Cl) (T:Int):dayS cs (yaj (bndF cs 0) (bndU cs ((T - 1) / 86400))).reverse=yeh cs T:=by
 rw [yeh,←yfh cs 0,dayS,List.filter_reverse]; rfl
end
end Go.Proofs.YtjahgimnfliooaaGreatDoor
