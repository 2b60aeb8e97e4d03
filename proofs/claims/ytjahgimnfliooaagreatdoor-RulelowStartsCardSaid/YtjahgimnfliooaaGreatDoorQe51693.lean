/-
  seek.Prev and seek.Last.
  What Next and Prev of a set tell, in plain words.
  seek.Some.
  The first instants above one, in plain words.
  The n-th instant of a set, in plain words.
  The set of a rule, with its count (plain); the chapter's example.
  rulelow.fault; ferialaw35.Fault.
  A struct's cells in a block, cell by cell.
-/
import Derived.Test.YtjahgimnfliooaaGreatDoorQ09ea5c
import Derived.Test.YtjahgimnfliooaaGreatDoorQ497b5f
import Derived.Test.YtjahgimnfliooaaGreatDoorQ736a52
import Derived.Test.YtjahgimnfliooaaGreatDoorQ575788
import Derived.Test.YtjahgimnfliooaaGreatDoorQfed6a8
import Derived.Test.YtjahgimnfliooaaGreatDoorQ6f5c7a
import Derived.Test.YtjahgimnfliooaaGreatDoorQ7245e7
set_option maxRecDepth 100000
set_option maxHeartbeats 25600000
namespace Go.Proofs.YtjahgimnfliooaaGreatDoor
set_option linter.unusedVariables false
section
open Go.RowKit Go.Maps
attribute [local go_sem] Oper.semAt_some
structure PvC (b:Nat) (T x y:Int) (O:Blk) (W:World):Prop where
 two:TwoC (b+1) x y O W
 c3:W.cell? ⟨b,0,none⟩=some (.int .i64 T)
 o3:O b
theorem PvC.keep {b:Nat} {T x y:Int} {O:Blk} {W W':World} (h:PvC b T x y O W) (hs:W.heap.size≤W'.heap.size) (hb:∀c,O c→W'.heap[c]? =W.heap[c]?):PvC b T x y O W':=
 ⟨h.two.keep hs hb,(zzJ (w:=W) (a:=⟨b,0,none⟩) (hb _ h.o3)).trans h.c3,h.o3⟩
def PvI (cs:List Cl) (b:Nat) (T:Int):OwnF:=fun k O _ W=>PvC b T 0 0 O W∧yfr cs T k
def PvX (cs:List Cl) (b:Nat) (T:Int) (c:Code):OwnF:=fun k O _ W=>c= .ret∧∃x,LastI cs T x∧TwoC (b+1) x 0 O W
theorem ygl (cs:List Cl) (b:Nat) (T:Int) (M:Blk):StabF M (PvI cs b T):=fun k O F F' W W' h hs hF hO=>⟨h.1.keep hs (fun c hc=>hO c (.inl hc)),h.2⟩
theorem pvX_stab (cs:List Cl) (b:Nat) (T:Int) (M:Blk) (c:Code):StabF M (PvX cs b T c):=fun k O F F' W W' ⟨h1,x,h2,h3⟩ hs hF hO=>⟨h1,x,h2,h3.keep hs (fun c hc=>hO c (.inl hc))⟩
theorem pvI_lt (cs:List Cl) (b:Nat) (T:Int):LtF (PvI cs b T):=fun k O F W h=>h.1.two.lt
theorem pvX_lt (cs:List Cl) (b:Nat) (T:Int) (c:Code):LtF (PvX cs b T c):=fun k O F W ⟨_,_,_,h⟩=>h.lt
def PvT (h0 h1 h2 h3 h4 h5 h6 h7 h8 h9:Value) (ds:List Deferred) (a:Act):Prop:=∃u:Nat→Value,a= {tmps:=#[h0,h1,h2,h3,h4,h5,h6,h7,h8,h9,u 0,u 1,u 2,u 3,u 4,u 5,u 6,u 7,u 8,u 9,u 10,u 11,u 12,u 13,u 14,u 15,u 16,u 17,u 18,u 19,u 20,u 21,u 22,u 23,u 24,u 25,u 26,u 27,u 28,u 29,u 30,u 31,u 32,u 33,u 34,u 35,u 36,u 37,u 38],defers:=ds}
theorem PvT.of {h0 h1 h2 h3 h4 h5 h6 h7 h8 h9 u10 u11 u12 u13 u14 u15 u16 u17 u18 u19 u20 u21 u22 u23 u24 u25 u26 u27 u28 u29 u30 u31 u32 u33 u34 u35 u36 u37 u38 u39 u40 u41 u42 u43 u44 u45 u46 u47 u48:Value} {ds:List Deferred}:PvT h0 h1 h2 h3 h4 h5 h6 h7 h8 h9 ds {tmps:=#[h0,h1,h2,h3,h4,h5,h6,h7,h8,h9,u10,u11,u12,u13,u14,u15,u16,u17,u18,u19,u20,u21,u22,u23,u24,u25,u26,u27,u28,u29,u30,u31,u32,u33,u34,u35,u36,u37,u38,u39,u40,u41,u42,u43,u44,u45,u46,u47,u48],defers:=ds}:=
 ⟨fun i=>(#[u10,u11,u12,u13,u14,u15,u16,u17,u18,u19,u20,u21,u22,u23,u24,u25,u26,u27,u28,u29,u30,u31,u32,u33,u34,u35,u36,u37,u38,u39,u40,u41,u42,u43,u44,u45,u46,u47,u48]:Array Value).getD i undef,rfl⟩
theorem yeW (args:Array Value) (w:World):(callFunc 144 args).run Tryz.prog w= .ok (.enter 144 args) w:=by simp [go_sem]
theorem ykw (a:Option Addr) (cap:Nat) (l:List Cl) (t:Int) (w:World) (hl:l.length≤9223372036854775807) (hlc:l.length≤cap) (hs:Sl w a (cls l)) (hno:a=none→cap=0) (hok:∀c∈l,c.Ok) (hT:Tab w) :
  Calls Tryz.prog 51 #[.slice a l.length cap, .int .i64 t] w fun e w'=>e= .returned (.tuple #[.int .i64 (ydd l t).1, .int .i64 (ydd l t).2])∧Below w.heap.size w w':=by
 obtain ⟨W1,hW1⟩:∃W1,((w.alloc (.cells #[.int .i64 t] 2)).alloc (.cells #[.int .i64 0] 2)).alloc (.cells #[.int .i64 0] 35)=W1:=⟨_,rfl⟩
 have hB1:Below w.heap.size w W1:=by rw [←hW1]; exact yaa (yaa (yaa (Below.refl _ _) (zG _)) (by simp)) (by simp; omega)
 have s1:W1.heap.size=w.heap.size+3:=by rw [←hW1]; simp
 have hC1:PvC w.heap.size t 0 0 (fun b=>b=w.heap.size∨b=w.heap.size+1∨b=w.heap.size+1+1) W1:=by
  refine ⟨⟨?_,?_,?_,?_, .inr (.inl rfl), .inr (.inr rfl),fun c hc=>by omega⟩,?_, .inl rfl⟩ <;> (rw [←hW1]; simp [go_sem])
 have z3:W1.frozen? ⟨w.heap.size,0,none⟩=false:=by rw [←hW1]; simp [go_sem]
 have cN:=hid (ygN a cap l W1 hl hlc (hs.below hB1) hno hok (hT.later hB1))
 have cH:=hid (fun W=>yfZ t W)
 have g1:=held_le t
 obtain ⟨T,hh0⟩:∃x,ybY t=x:=⟨_,rfl⟩
 have hP:Hid (ydd l t=if yas l≠0 then (0,yas l) else ygy (yaQ l 0 (T - 1)).reverse):=by show _ = _; rw [ydd,hh0]
 rw [hh0] at cH g1
 obtain ⟨pr,hpr⟩:∃x,ydd l t=x:=⟨_,rfl⟩
 rw [hpr] at hP⊢
 have HB1:=hid hB1
 have HW1:=hid hW1
 have S1:=hid s1
 have C1:=hid hC1
 have Ht0:Hid (0 < w.heap.size):=hT.1
 clear hW1 hB1 hs hok hT s1 hno hlc hh0 hpr hC1
 refine (wf_calls (r:=none) (n:=1)).mp ?_
 refine callsIn_of_wp_marks Tryz.func51 rfl trivial ?_ rfl
 simp only [Tryz.ntmps51,List.size_toArray,List.length_cons,List.length_nil,Nat.reduceAdd,Nat.reduceSub,Array.replicate_succ,Array.replicate_zero,List.push_toArray,List.append_toArray,List.nil_append,List.cons_append]
 gi_wp2_with fail
 rw [HW1.out]
 refine (wf_calls.mpr cN.out).mono ?_
 rintro e w2 ⟨hN,hB2⟩
 have hB02:=hid (HB1.out.trans (hB2.mono HB1.out.size))
 have S2:Hid (w.heap.size+3≤w2.heap.size):=by have:=hB2.size; have:=S1.out; show _≤_; omega
 have C2:Hid (PvC w.heap.size t 0 0 (fun b=>b=w.heap.size∨b=w.heap.size+1∨b=w.heap.size+1+1) w2):=C1.out.keep hB2.size (fun c hc=>hB2.block c (C1.out.two.lt c hc))
 have z32:=(hB2.frozen (p:=⟨w.heap.size,0,none⟩) (by have:=S1.out; simp only []; omega)).trans z3
 rcases hN with ⟨hf,rfl⟩ | ⟨hf,br,bk,bps,rfl,hR,hM⟩
 ·have hpr:Hid (pr= (0,yas l)):=by show _ = _; rw [hP.out,if_pos hf]
  have hBf:Hid (Below w.heap.size w ((w2.setCell ⟨w.heap.size+1,0,none⟩ (.int .i64 0)).setCell ⟨w.heap.size+1+1,0,none⟩ (.int .i64 (yas l)))):=yab (yab hB02.out (by omega)) (by omega)
  obtain ⟨X,hX⟩:∃X,yas l=X:=⟨_,rfl⟩
  rw [hX] at hf hpr hBf⊢
  have HX:=hid (C2.out.two.set (x':=0) (y':=X))
  obtain ⟨⟨c4,c5,f4,f5,-,-,-⟩,-,-⟩:=C2.out
  have hX0:(X == 0)=false:=by simpa using hf
  have hX1:(X != 0)=true:=by simpa using hf
  clear hB2 hX hP z3 z32
  gi_wp2
  obtain ⟨d4,d5,-,-,-,-,-⟩:=HX.out
  refine ⟨_,?_,by rw [hpr.out],hBf.out⟩
  simp [results,Tryz.results51,go_sem,d4,d5]
 ·have Hf:=hid hf
  have HR:=hid hR
  have HM:=hid hM
  have c32:=C2.out.c3
  clear hB2 z3 hR hM hf
  gi_wp2_with fail
  refine (wf_calls.mpr (cH.out w2)).mono ?_
  rintro e wx ⟨rfl,hwx⟩
  rw [hwx]
  clear cH hwx
  obtain ⟨w3,hw3⟩:∃w3,w2.setCell ⟨w.heap.size,0,none⟩ (.int .i64 T)=w3:=⟨_,rfl⟩
  have sz3:w3.heap.size=w2.heap.size:=by rw [←hw3]; simp
  have C3:PvC w.heap.size T 0 0 (fun b=>b=w.heap.size∨b=w.heap.size+1∨b=w.heap.size+1+1) w3:=by
   obtain ⟨⟨c4,c5,f4,f5,h1,h2,h3⟩,c3,o3⟩:=C2.out
   refine ⟨⟨?_,?_,?_,?_,h1,h2,fun c hc=>by rw [sz3]; exact h3 c hc⟩,?_,o3⟩ <;> (rw [←hw3]; simp [go_sem,c4,c5,f4,f5,c3])
  have B3:Below w.heap.size w w3:=by rw [←hw3]; exact yab hB02.out (zG _)
  have hHP:=hid hP.out
  by_cases h1:T < 1
  ·have e1:decide (T < 1)=true:=zzZ h1
   have hpr:Hid (pr= (0,15)):=by
    show _ = _
    rw [hHP.out,if_neg (by rw [Hf.out]; simp),yhl (by omega)]; rfl
   have hBf:Hid (Below w.heap.size w ((w3.setCell ⟨w.heap.size+1,0,none⟩ (.int .i64 0)).setCell ⟨w.heap.size+1+1,0,none⟩ (.int .i64 15))):=yab (yab B3 (by omega)) (by omega)
   have HX:=hid (C3.two.set (x':=0) (y':=15))
   have k3:=C3.c3
   obtain ⟨⟨c4,c5,f4,f5,-,-,-⟩,-,-⟩:=C2.out
   have Hw3:=hid hw3
   rw [←hw3] at k3
   clear hP hw3 sz3 B3 h1 C3
   gi_wp2
   rw [Hw3.out]
   obtain ⟨d4,d5,-,-,-,-,-⟩:=HX.out
   refine ⟨_,?_,by rw [hpr.out],hBf.out⟩
   simp [results,Tryz.results51,go_sem,d4,d5]
  ·have e1:decide (T < 1)=false:=zzd h1
   have t1:1≤T:=by omega
   have k3:=C3.c3
   have HC3:=hid C3
   have HB3:=hid B3
   have Hw3:=hid hw3
   have SZ3:=hid sz3
   clear hP hw3 sz3 B3 h1 C3 k3
   gi_wp2_with fail
   rw [Hw3.out]
   have hFb:∀b,FNew W1 w2 b→b≠w.heap.size∧b≠w.heap.size+1∧b≠w.heap.size+1+1:=fun b hb=>by
    have:=S1.out; have:=Ht0.out
    rcases hb with hb | hb <;> omega
   have HR3:Hid (RollS w3 l br bk bps (FNew W1 w2) (fun _=>false) 0):=HR.out.keep (by rw [SZ3.out]; exact zG _) (fun b hb=>by rw [←Hw3.out]; exact Below.heap_setCell _ _ _ _ (hFb b hb).1)
   have HFb:=hid hFb
   have cB:=hid (ykH 0 ((T - 1) / 86400) HR3.out (InvS 0) (zG 0))
   have hbr:=yil l (f:=0) (t:=(T - 1) / 86400) (by omega) (by omega)
   have hclip:=back_clip l T
   obtain ⟨X1,hX1⟩:∃X,bndF l 0=X:=⟨_,rfl⟩
   obtain ⟨X2,hX2⟩:∃X,bndU l ((T - 1) / 86400)=X:=⟨_,rfl⟩
   rw [hX1,hX2] at cB hbr hclip
   have tl:=ykG (cs:=l) (br:=br) (bk:=bk) (bps:=bps) InvS (w3.heap.size+2) (w3.heap.size+1) w3.heap.size X1 X2 hbr.1 hbr.2.1 hbr.2.2.1 hbr.2.2.2
    (fun j n ws m ws' m' hn hi hs=>ye4 hi hs) (fun j ws m hi hj=>by rw [List.length_reverse,ya1] at hj; rw [InvS] at hi; omega)
   rw [hclip] at tl
   obtain ⟨L,hL⟩:∃L,(yaj X1 X2).reverse.length=L:=⟨_,rfl⟩
   rw [hL] at tl
   have TL:=hid tl
   have hP2:Hid (pr=ygy (yaQ l 0 (T - 1)).reverse):=by show _ = _; rw [hHP.out,if_neg (by rw [Hf.out]; simp)]
   clear hFb hbr hclip tl hL hX1 hX2 z32 c32
   refine (wf_calls.mpr cB.out).mono ?_
   rintro e w4 ⟨rfl,hB4,hl4,hHA⟩
   have HB4:=hid (HB3.out.trans (hB4.mono HB3.out.size))
   have C4:=hid (HC3.out.keep hB4.size (fun c hc=>hB4.block c (HC3.out.two.lt c hc)))
   have HHA:=hid hHA
   have S3:Hid (w.heap.size+3≤w3.heap.size):=by show _≤_; rw [SZ3.out]; exact S2.out
   have HFO:Hid (∀b,F3 (FNew W1 w2) w3.heap.size b→¬(b=w.heap.size∨b=w.heap.size+1∨b=w.heap.size+1+1)):=fun b hb h=>by
    have:=S3.out
    rcases hb with hb | hb
    ·have:=HFb.out b hb; omega
    ·omega
   clear hB4 hHA cB e1
   gi_wp2_with fail
   refine yb1 (F:=F3 (FNew W1 w2) w3.heap.size) (M:=RM br bk bps) (gf:=144) (lb:=#[.pointer (some ⟨w3.heap.size+2,0,none⟩), .pointer (some ⟨w3.heap.size+1,0,none⟩), .pointer (some ⟨w3.heap.size,0,none⟩)]) rfl yeW (fun b=>b=w.heap.size∨b=w.heap.size+1∨b=w.heap.size+1+1)
    (fun k vs F W h=>by obtain ⟨_,_,_,_,_,rfl,_⟩:=h; rfl) TL.out HA.host HA.host HA.hostE HHA.out HFO.out
    (PvI l w.heap.size T) (PvX l w.heap.size T) (ygl _ _ _ _) (pvX_stab _ _ _ _) (pvI_lt _ _ _) (pvX_lt _ _ _) ⟨C4.out,late_zero _ _⟩
    (fun k O F a' W=>PvI l w.heap.size T k O F W∧∃bx n d,(yeh l T)[k]? =some n∧SkD l (RM br bk bps) n d bx O F W∧PvT (.slice a l.length cap) (.int .i64 t) undef (.pointer (some ⟨w.heap.size,0,none⟩)) (.pointer (some ⟨w.heap.size+1,0,none⟩)) (.pointer (some ⟨w.heap.size+1+1,0,none⟩)) (.pointer (some ⟨br,0,none⟩)) (.int .i64 0) (.pointer (some ⟨bx,0,none⟩)) (.pointer (some ⟨d,0,none⟩)) [] a')
    ?putl ?assign ?body ?done ?stop
   case putl=>
    rintro l' o k O F a' W hr hnO hnF ⟨h1,bx,n,d,h3,h4,h5⟩
    have ko:∀b,O b∨(F b∧¬RM br bk bps b)→(W.putObj l' o).heap[b]? =W.heap[b]?:=fun b hb=>World.putObj_heap_other (fun e=>hb.elim (fun h=>hnO (e ▸ h)) (fun h=>hnF (e ▸ h.1)))
    exact ⟨ygl _ _ _ (RM br bk bps) k O F F W _ h1 (by rw [World.putObj_size]; exact zG _) (fun _ h=>h) ko,bx,n,d,h3,h4.put hr hnF,h5⟩
   case assign=>
    rintro l' k O6 F6 W6 vs K hk hJ6 hFl ⟨n,d,hn,h0,h1,rfl,hd,ht,hlt⟩ hG6 hK
    rw [←yaT]
    obtain ⟨s,hs⟩:∃s,shF n=s:=⟨_,rfl⟩
    rw [hs,shq]
    have Hs:=hid hs
    have HP:=hid (And.intro hJ6 (And.intro hFl (And.intro hn (And.intro hd (And.intro ht (And.intro hlt hG6))))))
    clear hs hJ6 hFl hn hd ht hlt hG6 h0 h1
    gi_wp2
    obtain ⟨hJ6,hFl,hn,hd,ht,hlt,hG6⟩:=HP.out
    have hbel:=yaa (o:= .cells (yaO s).toArray 88) (Below.refl W6.heap.size W6) (zG _)
    have hlO:=pvI_lt _ _ _ _ _ _ _ hJ6
    refine hK _ O6 _ (Grow.of_below hbel) ⟨ygl _ _ _ (RM br bk bps) _ O6 F6 F6 W6 _ hJ6 hbel.size (fun _ h=>h) (fun b hb=>hbel.block b (hb.elim (hlO b) (fun h=>hlt b h.1))),W6.heap.size,n,d,hn,
     ⟨fun b hb=>(hFl b hb).1,⟨hd.1,hd.2.1,hd.2.2.block hbel.size (hbel.block d (hlt d hd.1))⟩,⟨ht.1.later hbel,ht.2.1⟩,fun b hb=>zH (hlt b hb) hbel.size,by simp,⟨fun h=>by have:=hlO _ h; omega,fun h=>by have:=hlt _ h; omega⟩,by rw [Hs.out]; exact ybT W6 88 _ _ _ _ _ _ _ _ _ _⟩,PvT.of⟩
   case done=>
    rintro O9 F9 w9 hG9 hHN hFs hFn hFO9 ⟨hI,hLt⟩ hD hnD hnF
    have hpr:Hid (pr= (0,15)):=by
     show _ = _
     rw [hP2.out,head_none (fun y hy=>late_none hLt rfl hy)]
    have hI2:=hI.two
    have HX:=hid (hI2.set (x':=0) (y':=15))
    have HB9:Hid (Below w.heap.size w w9):=HB4.out.trans (hG9.eff.below (fun b hb=>by
     rcases hb with (h | h | h) | h
     ·omega
     ·omega
     ·omega
     ·have:=HM.out b h; have:=S1.out; omega) HB4.out.size)
    have HDx:Hid (((w9.setCell ⟨w.heap.size+1,0,none⟩ (.int .i64 0)).setCell ⟨w.heap.size+1+1,0,none⟩ (.int .i64 15)).heap[w4.heap.size]? =some (.deferred (some []))):=by
     show _ = _
     rw [Below.heap_setCell _ _ _ _ (fun e=>hnD (by rw [e]; exact hI2.o5)),Below.heap_setCell _ _ _ _ (fun e=>hnD (by rw [e]; exact hI2.o4))]
     exact hD
    have HND:=hid hnD
    obtain ⟨c4,c5,f4,f5,-,-,-⟩:=hI2
    clear hG9 hHN hFs hFn hFO9 hnD hnF hD hLt hI
    gi_wp2
    refine ⟨by simp, .inl ⟨_,_,rfl,run_takeDeferred HDx.out,?_⟩⟩
    have hBf:=yaW (yab (yab HB9.out (by omega)) (by omega):Below w.heap.size w ((w9.setCell ⟨w.heap.size+1,0,none⟩ (.int .i64 0)).setCell ⟨w.heap.size+1+1,0,none⟩ (.int .i64 15))) HB4.out.size (.deferred none)
    have hX2:=HX.out.keep (W':=((w9.setCell ⟨w.heap.size+1,0,none⟩ (.int .i64 0)).setCell ⟨w.heap.size+1+1,0,none⟩ (.int .i64 15)).putObj w4.heap.size (.deferred none)) (by rw [World.putObj_size]; exact zG _) (fun b hb=>World.putObj_heap_other (fun e=>HND.out (e ▸ hb)))
    refine ⟨.tuple #[.int .i64 0, .int .i64 15],?_,by rw [hpr.out],hBf⟩
    obtain ⟨WF,hWF⟩:∃W,((w9.setCell ⟨w.heap.size+1,0,none⟩ (.int .i64 0)).setCell ⟨w.heap.size+1+1,0,none⟩ (.int .i64 15)).putObj w4.heap.size (.deferred none)=W:=⟨_,rfl⟩
    rw [hWF] at hX2
    obtain ⟨c4,c5,-,-,-,-,-⟩:=hX2
    rw [hWF]
    simp [results,Tryz.results51,go_sem,c4,c5]
   case stop=>
    rintro c k O9 F9 w9 hk1 hk2 hG9 hHN hFs hFn hFO9 ⟨rfl,x,hx,hX⟩ hD hnD hnF
    have hX':TwoC (w.heap.size+1) x 0 O9 (w9.putObj w4.heap.size (.deferred none)):=hX.keep (by rw [World.putObj_size]; exact zG _) (fun b hb=>World.putObj_heap_other (fun e=>hnD (e ▸ hb)))
    have hBf:Hid (Below w.heap.size w (w9.putObj w4.heap.size (.deferred none))):=yaW (HB4.out.trans (hG9.eff.below (fun b hb=>by
     rcases hb with (h | h | h) | h
     ·omega
     ·omega
     ·omega
     ·have:=HM.out b h; have:=S1.out; omega) HB4.out.size)) HB4.out.size _
    have HD:=hid hD
    have HX:=hid hX'
    have hpr:Hid (pr= (x,0)):=by
     show _ = _
     rw [hP2.out,head_last hx]
    clear hX hG9 hD hX' hHN hFs hFn hFO9 hnD hnF hx
    gi_wp2
    refine ⟨by simp, .inl ⟨_,_,rfl,run_takeDeferred HD.out,?_⟩⟩
    obtain ⟨c4,c5,-,-,-,-,-⟩:=HX.out
    refine ⟨.tuple #[.int .i64 x, .int .i64 0],?_,by rw [hpr.out],hBf.out⟩
    simp [results,Tryz.results51,go_sem,c4,c5]
   case body=>
    rintro l3 k O6 F6 a' W6 hk hG6 hl3 hrec6 hnl3 hnF3 ⟨⟨hI6,hN6⟩,bx,n,d,en,hD,V,rfl⟩
    have hmem:=yhw.1 (List.mem_of_getElem? en)
    obtain ⟨lo,hlo⟩:∃lo:Nat,(lo:Int)=min (T - 1 - 86400 * n) 86399:=⟨(min (T - 1 - 86400 * n) 86399).toNat,by omega⟩
    have cP:=hid (ykS d (dayQ l n) lo W6 (by omega) hD.di.2.2)
    have cP1:Hid (∀v:Int,v=lo→Calls Tryz.prog 98 #[.pointer (some ⟨d,0,none⟩), .int .i64 v] W6 fun r w'=>(∃n2 ok,r= .returned (.tuple #[.int .i64 n2, .bool ok])∧LastOf (fun k=>dayQ l n k && decide (k≤lo)) n2 ok)∧w' =W6):=by
     rintro v rfl; exact cP.out
    obtain ⟨s,hs⟩:∃s,shF n=s:=⟨_,rfl⟩
    have hs0:s 0=n:=by rw [←hs]; rfl
    have hsh:=hD.sh
    rw [hs] at hsh
    obtain ⟨s0,-⟩:=hsh
    rw [hs0] at s0
    have n0:=hmem.1
    have n1:n < 146097:=by omega
    have k3:=hI6.c3
    have HI6:=hid hI6
    have HN6:=hid hN6
    have En:=hid en
    have Hlo:=hid hlo
    obtain ⟨⟨c4,c5,f4,f5,-,-,-⟩,-,-⟩:=hI6
    clear hG6 hs hs0 hD hmem hk hN6 en hlo cP
    gi_wp2_with fail
    all_goals
     refine (wf_calls.mpr (cP1.out _ (by have:=Hlo.out; omega))).mono ?_
     rintro e w7 ⟨⟨a7,ok7,rfl,hF7⟩,hw7⟩
     rw [hw7]
     clear hw7 cP1
     cases ok7
     ·have HN7:=hid (late_more HN6.out En.out Hlo.out hF7)
      clear hF7 s0
      gi_wp2
      exact ⟨O6,⟨fun _ h=>h,fun _ h=> .inl h,Eff.refl _ _⟩,HI6.out,HN7.out⟩
     ·have HL7:=hid (late_last HN6.out En.out Hlo.out hF7)
      have a70:0≤a7∧a7 < 86400:=by
       rcases hF7 with ⟨-,j,rfl,hj,-⟩ | ⟨h,-⟩
       ·omega
       ·cases h
      obtain ⟨a0,a1⟩:=a70
      clear hF7 s0
      gi_wp2
      have hHL:=HL7.out
      first
       | exact ⟨O6,⟨fun _ h=>h,fun _ h=> .inl h,((Eff.refl O6 W6).set HI6.out.two.o4 _ _).set HI6.out.two.o5 _ _⟩,rfl,_,hHL,HI6.out.two.set⟩
       | (rw [Int.mul_comm] at hHL; exact ⟨O6,⟨fun _ h=>h,fun _ h=> .inl h,((Eff.refl O6 W6).set HI6.out.two.o4 _ _).set HI6.out.two.o5 _ _⟩,rfl,_,hHL,HI6.out.two.set⟩)
theorem yky (a:Option Addr) (cap:Nat) (l:List Cl) (w:World) (hl:l.length≤9223372036854775807) (hlc:l.length≤cap) (hs:Sl w a (cls l)) (hno:a=none→cap=0) (hok:∀c∈l,c.Ok) (hT:Tab w) :
  Calls Tryz.prog 16 #[.slice a l.length cap] w fun e w'=>e= .returned (.tuple #[.int .i64 (ydd l 12622780800).1, .int .i64 (ydd l 12622780800).2])∧Below w.heap.size w w':=by
 have cN:=hid (ykw a cap l 12622780800 w hl hlc hs hno hok hT)
 obtain ⟨pr,hpr⟩:∃x,ydd l 12622780800=x:=⟨_,rfl⟩
 rw [hpr] at cN⊢
 clear hs hno hok hT hpr
 go_enter Tryz.func16,Tryz.ntmps16
 go_wp2_with fail
 refine cN.out.mono ?_
 rintro e w2 ⟨rfl,hB⟩
 have HB:=hid hB
 clear hB
 go_wp2
 go_ret2
 exact ⟨rfl,HB.out⟩
end
section
open Go.RowKit Go.Maps
theorem held_lt {t y:Int} (h0:0≤y) (h1:y < 12622780800):ybY t+1≤y↔t < y:=by rw [ybY]; omega
theorem held_gt {t y:Int} (h0:0≤y) (h1:y < 12622780800):y≤ybY t - 1↔y < t:=by rw [ybY]; omega
def NextI (cs:List Cl) (t x:Int):Prop:=ybc cs x=true∧t < x∧∀y,t < y→y < x→ybc cs y=false
theorem yfM {l:List Cl} {t:Int} (h:yas l=0):(∃x,ycv l t= (x,0)∧NextI l t x)∨(ycv l t= (0,15)∧∀y,t < y→ybc l y=false):=by
 rw [ycv,if_neg (by simp [h])]
 have hp:=yb5 l (ybY t+1) 12622780799
 have hm:∀y,y∈yaQ l (ybY t+1) 12622780799↔t < y∧ybc l y=true:=fun y=>by
  rw [ybh]
  constructor
  ·rintro ⟨h1,h2,h3⟩
   have:=ybx h3
   exact ⟨(held_lt this.1 this.2).1 h1,h3⟩
  ·rintro ⟨h1,h3⟩
   have:=ybx h3
   exact ⟨(held_lt this.1 this.2).2 h1,by omega,h3⟩
 generalize yaQ l (ybY t+1) 12622780799=L at *
 cases L with
 | nil=>
   refine .inr ⟨rfl,fun y hy=>?_⟩
   cases e:ybc l y
   ·rfl
   ·have:=(hm y).2 ⟨hy,e⟩; cases this
 | cons x L=>
   have hx:=(hm x).1 (by simp)
   refine .inl ⟨x,rfl,hx.2,hx.1,fun y h1 h2=>?_⟩
   cases e:ybc l y
   ·rfl
   ·rcases List.mem_cons.1 ((hm y).2 ⟨h1,e⟩) with h3 | h3
    ·omega
    ·have:=(List.pairwise_cons.1 hp).1 y h3; omega
theorem yfJ {l:List Cl} {t:Int} (h:yas l=0):(∃x,ydd l t= (x,0)∧LastI l t x)∨(ydd l t= (0,15)∧∀y,y < t→ybc l y=false):=by
 rw [ydd,if_neg (by simp [h])]
 have hp:(yaQ l 0 (ybY t - 1)).reverse.Pairwise (·> ·):=List.pairwise_reverse.2 (yb5 l 0 (ybY t - 1))
 have hm:∀y,y∈(yaQ l 0 (ybY t - 1)).reverse↔y < t∧ybc l y=true:=fun y=>by
  rw [List.mem_reverse,ybh]
  constructor
  ·rintro ⟨h1,h2,h3⟩
   have:=ybx h3
   exact ⟨(held_gt this.1 this.2).1 h2,h3⟩
  ·rintro ⟨h1,h3⟩
   have:=ybx h3
   exact ⟨this.1,(held_gt this.1 this.2).2 h1,h3⟩
 generalize (yaQ l 0 (ybY t - 1)).reverse=L at *
 cases L with
 | nil=>
   refine .inr ⟨rfl,fun y hy=>?_⟩
   cases e:ybc l y
   ·rfl
   ·have:=(hm y).2 ⟨hy,e⟩; cases this
 | cons x L=>
   have hx:=(hm x).1 (by simp)
   refine .inl ⟨x,rfl,hx.2,hx.1,fun y h1 h2=>?_⟩
   cases e:ybc l y
   ·rfl
   ·rcases List.mem_cons.1 ((hm y).2 ⟨h2,e⟩) with h3 | h3
    ·omega
    ·have:=(List.pairwise_cons.1 hp).1 y h3; omega
theorem nextP_is {l:List Cl} {t x:Int} (h:yas l=0) (hx:NextI l t x):ycv l t= (x,0):=by
 obtain ⟨h1,h2,h3⟩:=hx
 rcases yfM (t:=t) h with ⟨y,e,g1,g2,g3⟩ | ⟨e,g⟩
 ·rw [e]
  by_cases h4:x < y
  ·have:=g3 x h2 h4; rw [h1] at this; cases this
  ·by_cases h5:y < x
   ·have:=h3 y g2 h5; rw [g1] at this; cases this
   ·rw [show x=y by omega]
 ·have:=g x h2; rw [h1] at this; cases this
end
section
open Go.RowKit Go.Maps
attribute [local go_sem] Oper.semAt_some
structure SmC (b5 bg base:Nat) (many:Int) (xs:List Int) (k:Nat) (O:Nat→Prop) (W:World) (v:Value):Prop where
 cg:W.cell? ⟨bg,0,none⟩=some v
 c5:W.cell? ⟨b5,0,none⟩=some (.int .i64 many)
 own:W.ownsRow base 2 1 v k (ints (xs.take k))
 fg:W.frozen? ⟨bg,0,none⟩=false
 lg:bg < base
 l5:b5 < base
 ne:bg≠b5
 bs:base≤W.heap.size
 og:O bg
 o5:O b5
 ov:∀b,v.ownBlock=some b→O b
 lt:∀b,O b→b < W.heap.size
theorem SmC.keep {b5 bg base:Nat} {many:Int} {xs:List Int} {k:Nat} {O:Nat→Prop} {W W':World} {v:Value} (h:SmC b5 bg base many xs k O W v) (hs:W.heap.size≤W'.heap.size) (hO:∀b,O b→W'.heap[b]? =W.heap[b]?):SmC b5 bg base many xs k O W' v:=
 ⟨(zzJ (w:=W) (a:=⟨bg,0,none⟩) (hO bg h.og)).trans h.cg,(zzJ (w:=W) (a:=⟨b5,0,none⟩) (hO b5 h.o5)).trans h.c5,yaK h.own (fun b hb=>hO b (h.ov b hb)),
   (zzM (w:=W) (a:=⟨bg,0,none⟩) (hO bg h.og)).trans h.fg,h.lg,h.l5,h.ne,zI h.bs hs,h.og,h.o5,h.ov,fun b hb=>zH (h.lt b hb) hs⟩
def SmT (h0 h1 h2 h3 h4 h5 h6 h7:Value) (ds:List Deferred) (a:Act):Prop:=∃u:Nat→Value,a= {tmps:=#[h0,h1,h2,h3,h4,h5,u 0,u 1,u 2,u 3,h6,h7,u 4,u 5,u 6,u 7,u 8,u 9,u 10,u 11,u 12,u 13,u 14,u 15,u 16,u 17,u 18,u 19,u 20,u 21,u 22,u 23,u 24,u 25,u 26,u 27,u 28,u 29,u 30,u 31,u 32],defers:=ds}
theorem SmT.of {h0 h1 h2 h3 h4 h5 h6 h7 u6 u7 u8 u9 u12 u13 u14 u15 u16 u17 u18 u19 u20 u21 u22 u23 u24 u25 u26 u27 u28 u29 u30 u31 u32 u33 u34 u35 u36 u37 u38 u39 u40:Value} {ds:List Deferred}:SmT h0 h1 h2 h3 h4 h5 h6 h7 ds {tmps:=#[h0,h1,h2,h3,h4,h5,u6,u7,u8,u9,h6,h7,u12,u13,u14,u15,u16,u17,u18,u19,u20,u21,u22,u23,u24,u25,u26,u27,u28,u29,u30,u31,u32,u33,u34,u35,u36,u37,u38,u39,u40],defers:=ds}:=
 ⟨fun i=>(#[u6,u7,u8,u9,u12,u13,u14,u15,u16,u17,u18,u19,u20,u21,u22,u23,u24,u25,u26,u27,u28,u29,u30,u31,u32,u33,u34,u35,u36,u37,u38,u39,u40]:Array Value).getD i undef,rfl⟩
end
section
open Go.RowKit Go.Maps
theorem yjN {L:List Int} (hp:L.Pairwise (·< ·)) {i j:Nat} (hi:i < L.length) (hj:j < L.length):L[i] < L[j]↔i < j:=by
 rw [List.pairwise_iff_getElem] at hp
 constructor
 ·intro h
  rcases Nat.lt_trichotomy i j with h1 | h1 | h1
  ·exact h1
  ·subst h1; omega
  ·have:=hp j i hj hi h1; omega
 ·exact hp i j hi hj
end
section
open Go.RowKit Go.Maps
def allI (l:List Cl):List Int:=yaQ l 0 12622780799
def nthP (l:List Cl) (n:Int):Int × Int:=if yas l≠0 then (0,yas l) else if n < 1 then (0,1) else if n≤(allI l).length then ((allI l).getD (n.toNat - 1) 0,0) else (0,15)
theorem ydT {l:List Cl} {y:Int}:y∈allI l↔ybc l y=true:=by
 rw [allI,ybh]
 exact ⟨fun h=>h.2.2,fun h=>by have:=ybx h; exact ⟨this.1,by omega,h⟩⟩
theorem yh7 {l:List Cl} (hf:yas l=0) (h:0 < (allI l).length):ycv l (-1)= ((allI l)[0],0):=by
 have hp:(allI l).Pairwise (·< ·):=yb5 l 0 12622780799
 refine nextP_is hf ⟨ydT.1 (zzr h),?_,fun y h1 h2=>?_⟩
 ·have:=(ybx (ydT.1 (zzr h))).1; omega
 ·cases e:ybc l y
  ·rfl
  ·obtain ⟨j,hj,rfl⟩:=List.mem_iff_getElem.1 (ydT.2 e)
   have:=(yjN hp hj h).1 h2
   omega
theorem up_first {L:List Int} (hp:L.Pairwise (·< ·)) {m:Nat} (h0:0 < L.length) (hm:m < L.length):L[m]=L[0]↔m=0:=by
 constructor
 ·intro h
  rcases Nat.eq_zero_or_pos m with h3 | h3
  ·exact h3
  ·have:=(yjN hp h0 hm).2 h3
   omega
 ·intro h; simp only [h]
theorem cntT_allI {l:List Cl} {i:Nat} (h:i < (allI l).length):cntT l 0 (allI l)[i]=i+1:=cntT_upto l h
theorem nth_cases {l:List Cl} {n:Int} (hf:yas l=0) (hn:1≤n) :
  (∃x,nthP l n= (x,0)∧ybc l x=true∧(cntT l 0 x:Int)=n∧n≤cntT l 0 12622780799∧∃y,ycv l (-1)= (y,0)∧(n=1↔x=y))∨(nthP l n= (0,15)∧(cntT l 0 12622780799:Int) < n):=by
 rw [nthP,if_neg (by simp [hf]),if_neg (by omega)]
 by_cases h:n≤(allI l).length
 ·rw [if_pos h]
  have h1:n.toNat - 1 < (allI l).length:=by omega
  have e:(allI l).getD (n.toNat - 1) 0= (allI l)[n.toNat - 1]:=by rw [List.getD_eq_getElem?_getD,zzp h1]; rfl
  rw [e]
  have hp:(allI l).Pairwise (·< ·):=yb5 l 0 12622780799
  refine .inl ⟨_,rfl,ydT.1 (zzr h1),?_,h,_,yh7 hf (by omega),?_⟩
  ·rw [cntT_allI h1]; omega
  ·rw [up_first hp (by omega) h1]; omega
 ·rw [if_neg h]
  exact .inr ⟨rfl,by show ((allI l).length:Int) < n; omega⟩
theorem yjk {q:Nat→Bool} {s at':Int} {ok:Bool} {j:Nat} (hj:j < (secL q).length) (hs:∀x∈secL q,s≤x↔(secL q)[j]≤x) (h:FirstOf (fun k=>q k && decide (s≤(k:Int))) at' ok):at' = (secL q)[j]∧ok=true:=by
 have hm:∀x,x∈secL q↔∃k:Nat,k < 86400∧q k=true∧x=k:=fun x=>by rw [secL,sel_mem]
 obtain ⟨k0,hk0,hq0,e0⟩:=(hm _).1 (zzr hj)
 have hs0:=(hs _ (zzr hj)).2 (Int.le_refl _)
 rcases h with ⟨rfl,k,rfl,hk,hp,hno⟩ | ⟨rfl,-,hno⟩
 ·rw [zzX,zzY] at hp
  refine ⟨?_,rfl⟩
  have h1:=(hs _ ((hm _).2 ⟨k,hk,hp.1,rfl⟩)).1 hp.2
  rcases Nat.lt_or_ge k0 k with h2 | h2
  ·have h3:(q k0 && decide (s≤(k0:Int)))=false:=hno k0 h2
   rw [hq0,zzZ (by omega)] at h3; cases h3
  ·omega
 ·have h3:(q k0 && decide (s≤(k0:Int)))=false:=hno k0 hk0
  rw [hq0,zzZ (by omega)] at h3; cases h3
theorem yfT {q:Nat→Bool} {at':Int} {ok:Bool} (hj:0 < (secL q).length) (h:FirstOf (fun k=>q k && decide ((0:Int)≤(k:Int))) at' ok):at' = (secL q)[0]∧ok=true:=by
 refine yjk hj (fun x hx=>?_) h
 have hp:(secL q).Pairwise (·< ·):=yaI _ _
 constructor
 ·intro _
  obtain ⟨i,hi,rfl⟩:=List.mem_iff_getElem.1 hx
  rcases Nat.eq_zero_or_pos i with h1 | h1
  ·subst h1; exact Int.le_refl _
  ·have:=(yjN hp hj hi).2 h1; omega
 ·intro _
  rw [secL,sel_mem] at hx
  obtain ⟨k,-,-,rfl⟩:=hx
  omega
theorem ykg {q:Nat→Bool} {at':Int} {ok:Bool} {j:Nat} (hj:j+1 < (secL q).length) (h:FirstOf (fun k=>q k && decide ((secL q)[j]+1≤(k:Int))) at' ok):at' = (secL q)[j+1]∧ok=true:=by
 refine yjk hj (fun x hx=>?_) h
 have hp:(secL q).Pairwise (·< ·):=yaI _ _
 obtain ⟨i,hi,rfl⟩:=List.mem_iff_getElem.1 hx
 have h1:=yjN hp (show j < (secL q).length by omega) hi
 have h2:=yjN hp hi hj
 constructor
 ·intro h3
  have:=h1.1 (by omega)
  apply Int.le_of_not_gt
  intro h4
  have:=h2.1 h4
  omega
 ·intro h3
  have:¬i < j+1:=fun h4=>by have:=h2.2 h4; omega
  have:=h1.2 (by omega)
  omega
theorem nth_hit {l:List Cl} {d n:Int} {k p:Nat} (hd:(dayS l (yaj 0 146096))[k]? =some d) (hp:p < (secL (dayQ l d)).length) (h0:0≤d) (h1:d < 146097):(allI l)[cntI l 0 12622780799 (dayS l (yaj 0 146096)) k+p]? =some (86400 * d+(secL (dayQ l d))[p]):=by
 have e:allI l=ybW l 0 12622780799 (dayS l (yaj 0 146096)):=rfl
 rw [e]
 refine inst_at hd ?_
 rw [dayI_all l (by omega) (by omega),List.getElem?_map,zzp hp]; rfl
theorem nth_more {l:List Cl} {d:Int} {k:Nat} (hd:(dayS l (yaj 0 146096))[k]? =some d) (h0:0≤d) (h1:d < 146097):cntI l 0 12622780799 (dayS l (yaj 0 146096)) (k+1)=cntI l 0 12622780799 (dayS l (yaj 0 146096)) k+(secL (dayQ l d)).length:=by
 rw [ydP hd,yko l (by omega) (by omega)]
theorem nth_all (l:List Cl):cntI l 0 12622780799 (dayS l (yaj 0 146096)) (dayS l (yaj 0 146096)).length= (allI l).length:=by rw [yjr]; rfl
end
section
open Go.RowKit Go.Maps
attribute [local irreducible] secL
def lowF (r:Ru):Cl:=if 0 < r.co∧(nthP [lowC r] r.co).2=0 then {lowC r with un:=(nthP [lowC r] r.co).1} else lowC r
theorem yhf {r:Ru} (hc:yaf r=0):yas [lowC r]=0:=by
 have h:mayL [lowC r]=true:=by simp [mayL,ygq hc]
 rw [ycN,zzY] at h; exact h
theorem yia {r:Ru} (hc:yaf r=0) (hn:1≤r.co):(∃x,nthP [lowC r] r.co= (x,0)∧hasC (lowC r) x=true)∨nthP [lowC r] r.co= (0,15):=by
 rcases nth_cases (yhf hc) hn with ⟨x,e,h,-⟩ | ⟨e,-⟩
 ·exact .inl ⟨x,e,by simpa [ybc] using h⟩
 ·exact .inr e
theorem lowF_ok {r:Ru} (hn:r.Num) (hc:yaf r=0):(lowF r).Ok:=by
 have h:=low_ok hn
 rw [lowF]
 split
 ·rename_i hp
  rcases yia hc (by omega) with ⟨x,e,hx⟩ | e
  ·refine {h with un:=?_}
   have hw:=(Bool.and_eq_true_iff.1 (by rw [hasC] at hx; exact hx)).1
   have:=yeo hw
   show i64B (nthP [lowC r] r.co).1
   rw [e]; unfold i64B; simp only []; omega
  ·rw [e] at hp; exact absurd hp.2 (by decide)
 ·exact h
theorem yi6 {r:Ru} (hc:yaf r=0):mayC (lowF r)=true:=by
 have h:=ygq hc
 rw [lowF]
 split
 ·exact h
 ·exact h
def ru0:Ru:={st:=0,fq:=3,iv:=1,co:=3,un:=-1,l5:= [],a5:=none,c5:=0,l6:= [],a6:=none,c6:=0,l7:= [],a7:=none,c7:=0,l8:= [],a8:=none,c8:=0,l9:= [],a9:=none,c9:=0,lx:= [],ax:=none,cx:=0}
theorem yg6:yaf ru0=0:=by kernel_rfl
theorem ru0_has (t:Int):hasC (lowC ru0) t= (winB t && decide (t % 86400=0)):=by
 rw [low_has yg6,ydk]
 by_cases ht:winB t=true
 ·obtain ⟨t0,t1⟩:=yeo ht
  have e1:yfB ru0 (shF (t / 86400))=true:=rfl
  have e2:onB ru0.fq ru0.iv ru0.st t=true:=by
   show onB 3 1 0 t=true
   rw [onB,yaZ,yaZ,ht,ybK]; simp
   decide
  have e3:yeN ru0 (t % 86400)=decide (t % 86400=0):=by
   rw [yeN,ycD,ycD,ycD]
   show (((true && (decide ((3:Int) < 3) || decide (t % 86400 / 3600=0 % 86400 / 3600))) || decide (t % 86400 / 3600∈([]:List Int))) && (((true && (decide ((3:Int) < 2) || decide (t % 86400 % 3600 / 60=0 % 86400 / 60 % 60))) || decide (t % 86400 % 3600 / 60∈([]:List Int))) && ((true && (decide ((3:Int) < 1) || decide (t % 86400 % 60=0 % 86400 % 60))) || decide (t % 86400 % 60∈([]:List Int)))))= _
   rw [zze]
   simp
   omega
  rw [ht,e1,e2,e3]
  show (true && ((decide ((0:Int)≤t) && (decide ((-1:Int)= -1) || _)) && _))= _
  rw [zzZ t0]; simp
 ·have e:winB t=false:=by simpa using ht
  rw [e,Bool.false_and,Bool.false_and]
theorem ru0_all:allI [lowC ru0]= (yaj 0 146096).map fun d=>86400 * d:=by
 refine ybP (yb5 _ _ _) ?_ fun t=>?_
 ·rw [yaj,List.map_map]
  exact List.Pairwise.map _ (fun a b h=>by simp only [Function.comp]; omega) List.pairwise_lt_range
 ·rw [ydT,List.mem_map,show ybc [lowC ru0] t=hasC (lowC ru0) t by simp [ybc],ru0_has,zzX,zzY]
  constructor
  ·rintro ⟨h1,h2⟩
   have:=yeo h1
   exact ⟨t / 86400,ybA.2 ⟨by omega,by omega⟩,by omega⟩
  ·rintro ⟨d,hd,rfl⟩
   have:=ybA.1 hd
   exact ⟨by rw [winB,zzY]; omega,by omega⟩
theorem ru0_nth:nthP [lowC ru0] 3= (172800,0):=by
 have hl:(allI [lowC ru0]).length=146097:=by rw [ru0_all,List.length_map,ya1]; rfl
 rw [nthP,if_neg (by rw [yhf yg6]; simp),if_neg (by decide),hl,if_pos (by decide),ru0_all]
 have h:2 < (yaj 0 146096).length:=by rw [ya1]; decide
 rw [List.getD_eq_getElem?_getD,List.getElem?_map,show (3:Int).toNat - 1=2 from rfl,zzp h,ycj]
 rfl
end
section
open Go.RowKit Go.Maps
attribute [local irreducible] secL
theorem yiw (r:Ru) (w:World) (hr:RuS w r) (hm:r.Sm 1000000):Calls Tryz.prog 21 #[ruv r] w fun e w'=>e= .returned (.int .i64 (lowE r))∧Below w.heap.size w w':=by
 have hB0:Below w.heap.size w (w.alloc (.cells (yai r).toArray 25)):=yaa (Below.refl _ _) (zG _)
 have cB:=hid (yhP r _ (hr.below hB0) hm)
 have HB0:=hid hB0
 have HRB:=hid (yaJ w r 25)
 obtain ⟨c,hc⟩:∃c,yaf r=c:=⟨_,rfl⟩
 have HE:Hid (lowE r=if c=0 then (if 100000000000 < r.iv∨1000000 < r.co then 14 else 0) else c):=by show _ = _; rw [lowE,hc]
 obtain ⟨x,hx⟩:∃x,lowE r=x:=⟨_,rfl⟩
 rw [hx] at HE⊢
 rw [hc] at cB
 clear hc hx hr hm hB0
 go_enter Tryz.func21,Tryz.ntmps21
 go_wp2_with fail
 refine cB.out.mono ?_
 rintro e w1 ⟨rfl,hB1⟩
 have HB1:=hid (HB0.out.trans (hB1.mono HB0.out.size))
 obtain ⟨⟨-,-,k2,k3,-⟩,-⟩:=(HRB.out.below hB1 (by rw [zzN]; omega)).all
 clear hB1 cB HRB
 by_cases h0:c=0
 ·have hE:=HE.out
  rw [if_pos h0] at hE
  subst h0
  by_cases h1:100000000000 < r.iv
  ·rw [if_pos (.inl h1)] at hE
   have HX:=hid hE
   clear hE
   go_wp2
   go_ret
   exact ⟨by rw [HX.out] <;> rfl,HB1.out⟩
  ·by_cases h2:1000000 < r.co
   ·rw [if_pos (.inr h2)] at hE
    have HX:=hid hE
    clear hE
    go_wp2
    go_ret
    exact ⟨by rw [HX.out] <;> rfl,HB1.out⟩
   ·rw [if_neg (by omega)] at hE
    have HX:=hid hE
    clear hE
    go_wp2
    go_ret
    exact ⟨by rw [HX.out] <;> rfl,HB1.out⟩
 ·have hE:=HE.out
  rw [if_neg h0] at hE
  have HX:=hid hE
  have q1:(c == 0)=false:=by simpa using h0
  have q2:(c != 0)=true:=by simpa using h0
  clear hE
  go_wp2
  go_ret
  exact ⟨by rw [HX.out] <;> rfl,HB1.out⟩
theorem yhJ (r:Ru) (w:World) (hr:RuS w r) (hm:r.Sm 1000000):Calls Tryz.prog 9 #[ruv r] w fun e w'=>e= .returned (.int .i64 (lowE r))∧Below w.heap.size w w':=by
 have hB0:Below w.heap.size w (w.alloc (.cells (yai r).toArray 25)):=yaa (Below.refl _ _) (zG _)
 have cB:=hid (ykF r _ (hr.below hB0) hm)
 have HB0:=hid hB0
 have HRB:=hid (yaJ w r 25)
 obtain ⟨c,hc⟩:∃c,yaf r=c:=⟨_,rfl⟩
 have HE:Hid (lowE r=if c=0 then (if 100000000000 < r.iv∨1000000 < r.co then 14 else 0) else c):=by show _ = _; rw [lowE,hc]
 obtain ⟨x,hx⟩:∃x,lowE r=x:=⟨_,rfl⟩
 rw [hx] at HE⊢
 rw [hc] at cB
 clear hc hx hr hm hB0
 go_enter Tryz.func9,Tryz.ntmps9
 go_wp2_with fail
 refine cB.out.mono ?_
 rintro e w1 ⟨rfl,hB1⟩
 have HB1:=hid (HB0.out.trans (hB1.mono HB0.out.size))
 obtain ⟨⟨-,-,k2,k3,-⟩,-⟩:=(HRB.out.below hB1 (by rw [zzN]; omega)).all
 clear hB1 cB HRB
 by_cases h0:c=0
 ·have hE:=HE.out
  rw [if_pos h0] at hE
  subst h0
  by_cases h1:100000000000 < r.iv
  ·rw [if_pos (.inl h1)] at hE
   have HX:=hid hE
   clear hE
   go_wp2
   go_ret
   exact ⟨by rw [HX.out] <;> rfl,HB1.out⟩
  ·by_cases h2:1000000 < r.co
   ·rw [if_pos (.inr h2)] at hE
    have HX:=hid hE
    clear hE
    go_wp2
    go_ret
    exact ⟨by rw [HX.out] <;> rfl,HB1.out⟩
   ·rw [if_neg (by omega)] at hE
    have HX:=hid hE
    clear hE
    go_wp2
    go_ret
    exact ⟨by rw [HX.out] <;> rfl,HB1.out⟩
 ·have hE:=HE.out
  rw [if_neg h0] at hE
  have HX:=hid hE
  have q1:(c == 0)=false:=by simpa using h0
  clear hE
  go_wp2
  go_ret
  exact ⟨by rw [HX.out] <;> rfl,HB1.out⟩
end
section
open Go.RowKit
structure LsB (b:Nat) (L:List Value) (W:World):Prop where
 r:W.rangeAt b 0 L
 z:∀i,W.frozen? ⟨b,i,none⟩=false
 lt:b < W.heap.size
theorem LsB.block {b:Nat} {L:List Value} {W W':World} (h:LsB b L W) (hs:W.heap.size≤W'.heap.size) (hb:W'.heap[b]? =W.heap[b]?):LsB b L W':=
 ⟨fun j v hv=>(zzJ (w:=W) (a:=⟨b,0+j,none⟩) hb).trans (h.r j v hv),fun i=>(zzM (w:=W) (a:=⟨b,i,none⟩) hb).trans (h.z i),zH h.lt hs⟩
theorem LsB.set {b:Nat} {L:List Value} {W:World} (h:LsB b L W) {k:Nat} (hk:k < L.length) (u:Value):LsB b (L.set k u) (W.setCell ⟨b,k,none⟩ u):=by
 refine ⟨fun j v hv=>?_,fun i=>by simpa [go_sem] using h.z i,by simpa using h.lt⟩
 rw [zzn]
 by_cases hj:j=k
 ·subst hj
  rw [List.getElem?_set_self hk] at hv
  have hv':u=v:=by simpa using hv
  have h6:=h.r j _ (zzp hk)
  rw [zzn] at h6
  rw [←hv']
  exact zzW _ _ _ (by rw [h6])
 ·rw [List.getElem?_set_ne (by omega)] at hv
  have h6:=h.r j v hv
  rw [zzn] at h6
  rw [zzL _ _ _ _ (by intro e; injection e with _ e2 _; exact hj (by omega))]
  exact h6
theorem LsB.at {b:Nat} {L:List Value} {W:World} (h:LsB b L W) {k:Nat} {v:Value} (e:L[k]? =some v):W.cell? ⟨b,k,none⟩=some v:=by
 have:=h.r k v e
 rwa [zzn] at this
def ygm:List Value→Nat→List Value→List Value
 | L,_,[]=>L
 | L,o,v :: vs=>ygm (L.set o v) (o+1) vs
@[simp] theorem putCs_len:∀(vs:List Value) (o:Nat) (L:List Value),(ygm L o vs).length=L.length
 | [],_,_=>rfl
 | v :: vs,o,L=>by rw [ygm,putCs_len vs,List.length_set]
theorem LsB.sets {b:Nat}:∀(vs:List Value) (o:Nat) {L:List Value} {W:World},LsB b L W→o+vs.length≤L.length→LsB b (ygm L o vs) (W.setCells b o vs)
 | [],_,_,_,h,_=>h
 | v :: vs,o,L,W,h,hl=>by
   rw [ygm,World.setCells]
   rw [List.length_cons] at hl
   exact LsB.sets vs (o+1) (h.set (by omega) v) (by rw [List.length_set]; omega)
theorem LsB.there {b:Nat} {L:List Value} {W:World} (h:LsB b L W) {o n:Nat} (hl:o+n≤L.length):W.there b o n:=fun j hj=>by
 have h6:=h.at (zzp (l:=L) (i:=o+j) (by omega))
 exact ⟨by rw [h6]; rfl,h.z (o+j)⟩
end
end Go.Proofs.YtjahgimnfliooaaGreatDoor
