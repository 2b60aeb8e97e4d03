/-
  The greatest instant of a set below another one, day by day.
  seek.Prev and seek.Last.
  What Next and Prev of a set tell, in plain words.
  span.Cut of a span that does not meet a day; meet.within.
-/
import Derived.Test.YtkpgfmonhfnhdaaGreatDoorQ98c01e
import Derived.Test.YtkpgfmonhfnhdaaGreatDoorQ5d8002
import Derived.Test.YtkpgfmonhfnhdaaGreatDoorQecfa9a
import Derived.Test.YtkpgfmonhfnhdaaGreatDoorQ4b1f4b
set_option maxRecDepth 100000
set_option maxHeartbeats 25600000
namespace Go.Proofs.YtkpgfmonhfnhdaaGreatDoor
set_option linter.unusedVariables false
section
open Go.RowKit Go.Maps
def ydm (l:List Cl) (t:Int):Int × Int:=if yah l≠0 then (0,yah l) else ygc (ybh l 0 (ybX t - 1)).reverse
def LastI (cs:List Cl) (T x:Int):Prop:=yam cs x=true∧x < T∧∀y,x < y→y < T→yam cs y=false
theorem head_last {cs:List Cl} {T x:Int} (h:LastI cs T x):ygc (ybh cs 0 (T - 1)).reverse= (x,0):=by
 obtain ⟨h1,h2,h3⟩:=h
 have hm:x∈ybh cs 0 (T - 1):=yca.2 ⟨(ybJ h1).1,by omega,h1⟩
 have hp:=yf8 cs 0 (T - 1)
 have hmem:∀y∈ybh cs 0 (T - 1),y < T∧yam cs y=true:=fun y hy=>by have:=yca.1 hy; exact ⟨by omega,this.2.2⟩
 generalize ybh cs 0 (T - 1)=L at *
 have hpr:L.reverse.Pairwise (·> ·):=List.pairwise_reverse.2 hp
 have hmr:x∈L.reverse:=List.mem_reverse.2 hm
 have hmemr:∀y∈L.reverse,y < T∧yam cs y=true:=fun y hy=>hmem y (List.mem_reverse.1 hy)
 generalize L.reverse=R at *
 cases R with
 | nil=>simp at hmr
 | cons z R=>
   rcases List.mem_cons.1 hmr with e | e
   ·rw [ygc,e]
   ·have g1:=(List.pairwise_cons.1 hpr).1 x e
    have g2:=hmemr z (by simp)
    have:=h3 z (by omega) g2.1
    rw [g2.2] at this; cases this
theorem head_none {cs:List Cl} {T:Int} (h:∀y,y < T→yam cs y=false):ygc (ybh cs 0 (T - 1)).reverse= (0,15):=by
 have:ybh cs 0 (T - 1)= []:=by
  rw [List.eq_nil_iff_forall_not_mem]
  intro y hy
  have:=yca.1 hy
  rw [h y (by omega)] at this
  exact absurd this.2.2 (by simp)
 rw [this]; rfl
def yd0 (cs:List Cl) (T:Int):List Int:=(dayS cs (yac 0 ((T - 1) / 86400))).reverse
theorem yhe {cs:List Cl} {T n:Int}:n∈yd0 cs T↔0≤n∧n≤(T - 1) / 86400∧anyQ (dayQ cs n)=true:=by
 rw [yd0,List.mem_reverse,dayS,List.mem_filter,yaz,and_assoc]
theorem yj1 (cs:List Cl) (T:Int):(yd0 cs T).Pairwise (·> ·):=List.pairwise_reverse.2 (yhY cs _ _)
def ye5 (cs:List Cl) (T:Int) (k:Nat):Prop:=∀j n y,j < k→(yd0 cs T)[j]? =some n→y / 86400=n→y < T→yam cs y=false
theorem late_zero (cs:List Cl) (T:Int):ye5 cs T 0:=fun j n y h=>absurd h (by omega)
theorem inst_any {cs:List Cl} {y:Int} (h:yam cs y=true):anyQ (dayQ cs (y / 86400))=true:=
 ybA.2 ⟨(y % 86400).toNat,by omega,by rw [ya2,show 86400 * (y / 86400)+((y % 86400).toNat:Int)=y by omega]; exact h⟩
theorem yiO {cs:List Cl} {T:Int} {k:Nat} (h:ye5 cs T k) {y:Int} (hy:y < T) (hi:yam cs y=true):∃j,k≤j∧(yd0 cs T)[j]? =some (y / 86400):=by
 have hm:y / 86400∈yd0 cs T:=yhe.2 ⟨by have:=(ybJ hi).1; omega,by omega,inst_any hi⟩
 obtain ⟨j,hj,e⟩:=List.mem_iff_getElem.1 hm
 have e2:(yd0 cs T)[j]? =some (y / 86400):=by rw [zzp hj,e]
 refine ⟨j,?_,e2⟩
 apply Nat.le_of_not_lt
 intro h2
 have:=h j _ y h2 e2 rfl hy
 rw [hi] at this; cases this
theorem down_at {L:List Int} (h:L.Pairwise (·> ·)) {i j:Nat} {a b:Int} (ha:L[i]? =some a) (hb:L[j]? =some b) (hij:i≤j):b≤a:=by
 obtain ⟨h1,rfl⟩:=zzq.1 ha
 obtain ⟨h2,rfl⟩:=zzq.1 hb
 rcases Nat.lt_or_ge i j with h3 | h3
 ·have:=List.pairwise_iff_getElem.1 h i j h1 h2 h3; omega
 ·obtain rfl:i=j:=by omega
  exact Int.le_refl _
theorem late_last {cs:List Cl} {T n at':Int} {k lo:Nat} (h:ye5 cs T k) (hn:(yd0 cs T)[k]? =some n) (hlo:(lo:Int)=min (T - 1 - 86400 * n) 86399) (hL:LastOf (fun j=>dayQ cs n j && decide (j≤lo)) at' true):LastI cs T (86400 * n+at'):=by
 rcases hL with ⟨-,j,rfl,hj,h1,h2⟩ | ⟨h1,-⟩
 ·rw [zzX,zzY,ya2] at h1
  refine ⟨h1.1,by omega,fun y hy hyT=>?_⟩
  cases hi:yam cs y
  ·rfl
  ·obtain ⟨i,hki,ei⟩:=yiO h hyT hi
   have h3:=down_at (yj1 cs T) hn ei hki
   have h4:y / 86400=n:=by omega
   have h5:(dayQ cs n (y % 86400).toNat && decide ((y % 86400).toNat≤lo))=false:=h2 (y % 86400).toNat (by omega) (by omega)
   rw [ya2,show 86400 * n+((y % 86400).toNat:Int)=y by omega,hi,zzZ (by omega)] at h5
   cases h5
 ·cases h1
theorem late_more {cs:List Cl} {T n at':Int} {k lo:Nat} (h:ye5 cs T k) (hn:(yd0 cs T)[k]? =some n) (hlo:(lo:Int)=min (T - 1 - 86400 * n) 86399) (hL:LastOf (fun j=>dayQ cs n j && decide (j≤lo)) at' false):ye5 cs T (k+1):=by
 intro j m y hj hm hy hyT
 rcases Nat.lt_or_ge j k with h1 | h1
 ·exact h j m y h1 hm hy hyT
 ·obtain rfl:j=k:=by omega
  rw [hn] at hm
  obtain rfl:=Option.some.inj hm
  rcases hL with ⟨h1,-⟩ | ⟨-,-,h2⟩
  ·cases h1
  ·have h5:(dayQ cs n (y % 86400).toNat && decide ((y % 86400).toNat≤lo))=false:=h2 (y % 86400).toNat (by omega)
   rw [ya2,show 86400 * n+((y % 86400).toNat:Int)=y by omega,zzZ (by omega),Bool.and_true] at h5
   exact h5
theorem late_none {cs:List Cl} {T:Int} {k:Nat} (h:ye5 cs T k) (hk:(yd0 cs T).length=k) {y:Int} (hy:y < T):yam cs y=false:=by
 cases hi:yam cs y
 ·rfl
 ·obtain ⟨j,h1,h2⟩:=yiO h hy hi
  have:=(zzq.1 h2).1
  omega
theorem back_clip (cs:List Cl) (T:Int):dayS cs (yac (bndF cs 0) (bndU cs ((T - 1) / 86400))).reverse=yd0 cs T:=by
 rw [yd0,←ydx cs 0,dayS,List.filter_reverse]; rfl
end
section
open Go.RowKit Go.Maps
attribute [local go_sem] Oper.semAt_some
structure PvC (b:Nat) (T x y:Int) (O:Blk) (W:World):Prop where
 two:TwoC (b+1) x y O W
 c3:W.cell? ⟨b,0,none⟩=some (.int .i64 T)
 o3:O b
theorem PvC.keep {b:Nat} {T x y:Int} {O:Blk} {W W':World} (h:PvC b T x y O W) (hs:W.heap.size≤W'.heap.size) (hb:∀c,O c→W'.heap[c]? =W.heap[c]?):PvC b T x y O W':=
 ⟨h.two.keep hs hb,(zzJ (w:=W) (a:=⟨b,0,none⟩) (hb _ h.o3)).trans h.c3,h.o3⟩
def PvI (cs:List Cl) (b:Nat) (T:Int):OwnF:=fun k O _ W=>PvC b T 0 0 O W∧ye5 cs T k
def PvX (cs:List Cl) (b:Nat) (T:Int) (c:Code):OwnF:=fun k O _ W=>c= .ret∧∃x,LastI cs T x∧TwoC (b+1) x 0 O W
theorem yfX (cs:List Cl) (b:Nat) (T:Int) (M:Blk):StabF M (PvI cs b T):=fun k O F F' W W' h hs hF hO=>⟨h.1.keep hs (fun c hc=>hO c (.inl hc)),h.2⟩
theorem pvX_stab (cs:List Cl) (b:Nat) (T:Int) (M:Blk) (c:Code):StabF M (PvX cs b T c):=fun k O F F' W W' ⟨h1,x,h2,h3⟩ hs hF hO=>⟨h1,x,h2,h3.keep hs (fun c hc=>hO c (.inl hc))⟩
theorem pvI_lt (cs:List Cl) (b:Nat) (T:Int):LtF (PvI cs b T):=fun k O F W h=>h.1.two.lt
theorem pvX_lt (cs:List Cl) (b:Nat) (T:Int) (c:Code):LtF (PvX cs b T c):=fun k O F W ⟨_,_,_,h⟩=>h.lt
def PvT (h0 h1 h2 h3 h4 h5 h6 h7 h8 h9:Value) (ds:List Deferred) (a:Act):Prop:=∃u:Nat→Value,a= {tmps:=#[h0,h1,h2,h3,h4,h5,h6,h7,h8,h9,u 0,u 1,u 2,u 3,u 4,u 5,u 6,u 7,u 8,u 9,u 10,u 11,u 12,u 13,u 14,u 15,u 16,u 17,u 18,u 19,u 20,u 21,u 22,u 23,u 24,u 25,u 26,u 27,u 28,u 29,u 30,u 31,u 32,u 33,u 34,u 35,u 36,u 37,u 38],defers:=ds}
theorem PvT.of {h0 h1 h2 h3 h4 h5 h6 h7 h8 h9 u10 u11 u12 u13 u14 u15 u16 u17 u18 u19 u20 u21 u22 u23 u24 u25 u26 u27 u28 u29 u30 u31 u32 u33 u34 u35 u36 u37 u38 u39 u40 u41 u42 u43 u44 u45 u46 u47 u48:Value} {ds:List Deferred}:PvT h0 h1 h2 h3 h4 h5 h6 h7 h8 h9 ds {tmps:=#[h0,h1,h2,h3,h4,h5,h6,h7,h8,h9,u10,u11,u12,u13,u14,u15,u16,u17,u18,u19,u20,u21,u22,u23,u24,u25,u26,u27,u28,u29,u30,u31,u32,u33,u34,u35,u36,u37,u38,u39,u40,u41,u42,u43,u44,u45,u46,u47,u48],defers:=ds}:=
 ⟨fun i=>(#[u10,u11,u12,u13,u14,u15,u16,u17,u18,u19,u20,u21,u22,u23,u24,u25,u26,u27,u28,u29,u30,u31,u32,u33,u34,u35,u36,u37,u38,u39,u40,u41,u42,u43,u44,u45,u46,u47,u48]:Array Value).getD i undef,rfl⟩
theorem yeB (args:Array Value) (w:World):(callFunc 133 args).run Tryz.prog w= .ok (.enter 133 args) w:=by simp [go_sem]
theorem yj6 (a:Option Addr) (cap:Nat) (l:List Cl) (t:Int) (w:World) (hl:l.length≤9223372036854775807) (hlc:l.length≤cap) (hs:Sl w a (cls l)) (hno:a=none→cap=0) (hok:∀c∈l,c.Ok) (hT:Tab w) :
  Calls Tryz.prog 53 #[.slice a l.length cap, .int .i64 t] w fun e w'=>e= .returned (.tuple #[.int .i64 (ydm l t).1, .int .i64 (ydm l t).2])∧Below w.heap.size w w':=by
 obtain ⟨W1,hW1⟩:∃W1,((w.alloc (.cells #[.int .i64 t] 2)).alloc (.cells #[.int .i64 0] 2)).alloc (.cells #[.int .i64 0] 29)=W1:=⟨_,rfl⟩
 have hB1:Below w.heap.size w W1:=by rw [←hW1]; exact yaa (yaa (yaa (Below.refl _ _) (zG _)) (by simp)) (by simp; omega)
 have s1:W1.heap.size=w.heap.size+3:=by rw [←hW1]; simp
 have hC1:PvC w.heap.size t 0 0 (fun b=>b=w.heap.size∨b=w.heap.size+1∨b=w.heap.size+1+1) W1:=by
  refine ⟨⟨?_,?_,?_,?_, .inr (.inl rfl), .inr (.inr rfl),fun c hc=>by omega⟩,?_, .inl rfl⟩ <;> (rw [←hW1]; simp [go_sem])
 have z3:W1.frozen? ⟨w.heap.size,0,none⟩=false:=by rw [←hW1]; simp [go_sem]
 have cN:=hid (ycZ a cap l W1 hl hlc (hs.below hB1) hno hok (hT.later hB1))
 have cH:=hid (fun W=>yfE t W)
 have g1:=held_le t
 obtain ⟨T,hh0⟩:∃x,ybX t=x:=⟨_,rfl⟩
 have hP:Hid (ydm l t=if yah l≠0 then (0,yah l) else ygc (ybh l 0 (T - 1)).reverse):=by show _ = _; rw [ydm,hh0]
 rw [hh0] at cH g1
 obtain ⟨pr,hpr⟩:∃x,ydm l t=x:=⟨_,rfl⟩
 rw [hpr] at hP⊢
 have HB1:=hid hB1
 have HW1:=hid hW1
 have S1:=hid s1
 have C1:=hid hC1
 have Ht0:Hid (0 < w.heap.size):=hT.1
 clear hW1 hB1 hs hok hT s1 hno hlc hh0 hpr hC1
 refine (wf_calls (r:=none) (n:=1)).mp ?_
 refine callsIn_of_wp_marks Tryz.func53 rfl trivial ?_ rfl
 simp only [Tryz.ntmps53,List.size_toArray,List.length_cons,List.length_nil,Nat.reduceAdd,Nat.reduceSub,Array.replicate_succ,Array.replicate_zero,List.push_toArray,List.append_toArray,List.nil_append,List.cons_append]
 gi_wp2_with fail
 rw [HW1.out]
 refine (wf_calls.mpr cN.out).mono ?_
 rintro e w2 ⟨hN,hB2⟩
 have hB02:=hid (HB1.out.trans (hB2.mono HB1.out.size))
 have S2:Hid (w.heap.size+3≤w2.heap.size):=by have:=hB2.size; have:=S1.out; show _≤_; omega
 have C2:Hid (PvC w.heap.size t 0 0 (fun b=>b=w.heap.size∨b=w.heap.size+1∨b=w.heap.size+1+1) w2):=C1.out.keep hB2.size (fun c hc=>hB2.block c (C1.out.two.lt c hc))
 have z32:=(hB2.frozen (p:=⟨w.heap.size,0,none⟩) (by have:=S1.out; simp only []; omega)).trans z3
 rcases hN with ⟨hf,rfl⟩ | ⟨hf,br,bk,bps,rfl,hR,hM⟩
 ·have hpr:Hid (pr= (0,yah l)):=by show _ = _; rw [hP.out,if_pos hf]
  have hBf:Hid (Below w.heap.size w ((w2.setCell ⟨w.heap.size+1,0,none⟩ (.int .i64 0)).setCell ⟨w.heap.size+1+1,0,none⟩ (.int .i64 (yah l)))):=yab (yab hB02.out (by omega)) (by omega)
  obtain ⟨X,hX⟩:∃X,yah l=X:=⟨_,rfl⟩
  rw [hX] at hf hpr hBf⊢
  have HX:=hid (C2.out.two.set (x':=0) (y':=X))
  obtain ⟨⟨c4,c5,f4,f5,-,-,-⟩,-,-⟩:=C2.out
  have hX0:(X == 0)=false:=by simpa using hf
  have hX1:(X != 0)=true:=by simpa using hf
  clear hB2 hX hP z3 z32
  gi_wp2
  obtain ⟨d4,d5,-,-,-,-,-⟩:=HX.out
  refine ⟨_,?_,by rw [hpr.out],hBf.out⟩
  simp [results,Tryz.results53,go_sem,d4,d5]
 ·have Hf:=hid hf
  have HR:=hid hR
  have HM:=hid hM
  have c32:=C2.out.c3
  clear hB2 z3 hR hM hf
  gi_wp2_with fail
  refine (wf_calls.mpr (cH.out w2)).mono ?_
  rintro e wx ⟨rfl,hwx⟩
  rw [hwx]
  clear cH hwx
  obtain ⟨w3,hw3⟩:∃w3,w2.setCell ⟨w.heap.size,0,none⟩ (.int .i64 T)=w3:=⟨_,rfl⟩
  have sz3:w3.heap.size=w2.heap.size:=by rw [←hw3]; simp
  have C3:PvC w.heap.size T 0 0 (fun b=>b=w.heap.size∨b=w.heap.size+1∨b=w.heap.size+1+1) w3:=by
   obtain ⟨⟨c4,c5,f4,f5,h1,h2,h3⟩,c3,o3⟩:=C2.out
   refine ⟨⟨?_,?_,?_,?_,h1,h2,fun c hc=>by rw [sz3]; exact h3 c hc⟩,?_,o3⟩ <;> (rw [←hw3]; simp [go_sem,c4,c5,f4,f5,c3])
  have B3:Below w.heap.size w w3:=by rw [←hw3]; exact yab hB02.out (zG _)
  have hHP:=hid hP.out
  by_cases h1:T < 1
  ·have e1:decide (T < 1)=true:=zzZ h1
   have hpr:Hid (pr= (0,15)):=by
    show _ = _
    rw [hHP.out,if_neg (by rw [Hf.out]; simp),yg3 (by omega)]; rfl
   have hBf:Hid (Below w.heap.size w ((w3.setCell ⟨w.heap.size+1,0,none⟩ (.int .i64 0)).setCell ⟨w.heap.size+1+1,0,none⟩ (.int .i64 15))):=yab (yab B3 (by omega)) (by omega)
   have HX:=hid (C3.two.set (x':=0) (y':=15))
   have k3:=C3.c3
   obtain ⟨⟨c4,c5,f4,f5,-,-,-⟩,-,-⟩:=C2.out
   have Hw3:=hid hw3
   rw [←hw3] at k3
   clear hP hw3 sz3 B3 h1 C3
   gi_wp2
   rw [Hw3.out]
   obtain ⟨d4,d5,-,-,-,-,-⟩:=HX.out
   refine ⟨_,?_,by rw [hpr.out],hBf.out⟩
   simp [results,Tryz.results53,go_sem,d4,d5]
  ·have e1:decide (T < 1)=false:=zzd h1
   have t1:1≤T:=by omega
   have k3:=C3.c3
   have HC3:=hid C3
   have HB3:=hid B3
   have Hw3:=hid hw3
   have SZ3:=hid sz3
   clear hP hw3 sz3 B3 h1 C3 k3
   gi_wp2_with fail
   rw [Hw3.out]
   have hFb:∀b,FNew W1 w2 b→b≠w.heap.size∧b≠w.heap.size+1∧b≠w.heap.size+1+1:=fun b hb=>by
    have:=S1.out; have:=Ht0.out
    rcases hb with hb | hb <;> omega
   have HR3:Hid (RollS w3 l br bk bps (FNew W1 w2) (fun _=>false) 0):=HR.out.keep (by rw [SZ3.out]; exact zG _) (fun b hb=>by rw [←Hw3.out]; exact Below.heap_setCell _ _ _ _ (hFb b hb).1)
   have HFb:=hid hFb
   have cB:=hid (yki 0 ((T - 1) / 86400) HR3.out (InvS 0) (zG 0))
   have hbr:=ygq l (f:=0) (t:=(T - 1) / 86400) (by omega) (by omega)
   have hclip:=back_clip l T
   obtain ⟨X1,hX1⟩:∃X,bndF l 0=X:=⟨_,rfl⟩
   obtain ⟨X2,hX2⟩:∃X,bndU l ((T - 1) / 86400)=X:=⟨_,rfl⟩
   rw [hX1,hX2] at cB hbr hclip
   have tl:=ykh (cs:=l) (br:=br) (bk:=bk) (bps:=bps) InvS (w3.heap.size+2) (w3.heap.size+1) w3.heap.size X1 X2 hbr.1 hbr.2.1 hbr.2.2.1 hbr.2.2.2
    (fun j n ws m ws' m' hn hi hs=>ydq hi hs) (fun j ws m hi hj=>by rw [List.length_reverse,yat] at hj; rw [InvS] at hi; omega)
   rw [hclip] at tl
   obtain ⟨L,hL⟩:∃L,(yac X1 X2).reverse.length=L:=⟨_,rfl⟩
   rw [hL] at tl
   have TL:=hid tl
   have hP2:Hid (pr=ygc (ybh l 0 (T - 1)).reverse):=by show _ = _; rw [hHP.out,if_neg (by rw [Hf.out]; simp)]
   clear hFb hbr hclip tl hL hX1 hX2 z32 c32
   refine (wf_calls.mpr cB.out).mono ?_
   rintro e w4 ⟨rfl,hB4,hl4,hHA⟩
   have HB4:=hid (HB3.out.trans (hB4.mono HB3.out.size))
   have C4:=hid (HC3.out.keep hB4.size (fun c hc=>hB4.block c (HC3.out.two.lt c hc)))
   have HHA:=hid hHA
   have S3:Hid (w.heap.size+3≤w3.heap.size):=by show _≤_; rw [SZ3.out]; exact S2.out
   have HFO:Hid (∀b,F3 (FNew W1 w2) w3.heap.size b→¬(b=w.heap.size∨b=w.heap.size+1∨b=w.heap.size+1+1)):=fun b hb h=>by
    have:=S3.out
    rcases hb with hb | hb
    ·have:=HFb.out b hb; omega
    ·omega
   clear hB4 hHA cB e1
   gi_wp2_with fail
   refine ybv (F:=F3 (FNew W1 w2) w3.heap.size) (M:=RM br bk bps) (gf:=133) (lb:=#[.pointer (some ⟨w3.heap.size+2,0,none⟩), .pointer (some ⟨w3.heap.size+1,0,none⟩), .pointer (some ⟨w3.heap.size,0,none⟩)]) rfl yeB (fun b=>b=w.heap.size∨b=w.heap.size+1∨b=w.heap.size+1+1)
    (fun k vs F W h=>by obtain ⟨_,_,_,_,_,rfl,_⟩:=h; rfl) TL.out HA.host HA.host HA.hostE HHA.out HFO.out
    (PvI l w.heap.size T) (PvX l w.heap.size T) (yfX _ _ _ _) (pvX_stab _ _ _ _) (pvI_lt _ _ _) (pvX_lt _ _ _) ⟨C4.out,late_zero _ _⟩
    (fun k O F a' W=>PvI l w.heap.size T k O F W∧∃bx n d,(yd0 l T)[k]? =some n∧SkD l (RM br bk bps) n d bx O F W∧PvT (.slice a l.length cap) (.int .i64 t) undef (.pointer (some ⟨w.heap.size,0,none⟩)) (.pointer (some ⟨w.heap.size+1,0,none⟩)) (.pointer (some ⟨w.heap.size+1+1,0,none⟩)) (.pointer (some ⟨br,0,none⟩)) (.int .i64 0) (.pointer (some ⟨bx,0,none⟩)) (.pointer (some ⟨d,0,none⟩)) [] a')
    ?putl ?assign ?body ?done ?stop
   case putl=>
    rintro l' o k O F a' W hr hnO hnF ⟨h1,bx,n,d,h3,h4,h5⟩
    have ko:∀b,O b∨(F b∧¬RM br bk bps b)→(W.putObj l' o).heap[b]? =W.heap[b]?:=fun b hb=>World.putObj_heap_other (fun e=>hb.elim (fun h=>hnO (e ▸ h)) (fun h=>hnF (e ▸ h.1)))
    exact ⟨yfX _ _ _ (RM br bk bps) k O F F W _ h1 (by rw [World.putObj_size]; exact zG _) (fun _ h=>h) ko,bx,n,d,h3,h4.put hr hnF,h5⟩
   case assign=>
    rintro l' k O6 F6 W6 vs K hk hJ6 hFl ⟨n,d,hn,h0,h1,rfl,hd,ht,hlt⟩ hG6 hK
    rw [←yaA]
    obtain ⟨s,hs⟩:∃s,shF n=s:=⟨_,rfl⟩
    rw [hs,shq]
    have Hs:=hid hs
    have HP:=hid (And.intro hJ6 (And.intro hFl (And.intro hn (And.intro hd (And.intro ht (And.intro hlt hG6))))))
    clear hs hJ6 hFl hn hd ht hlt hG6 h0 h1
    gi_wp2
    obtain ⟨hJ6,hFl,hn,hd,ht,hlt,hG6⟩:=HP.out
    have hbel:=yaa (o:= .cells (yaY s).toArray 71) (Below.refl W6.heap.size W6) (zG _)
    have hlO:=pvI_lt _ _ _ _ _ _ _ hJ6
    refine hK _ O6 _ (Grow.of_below hbel) ⟨yfX _ _ _ (RM br bk bps) _ O6 F6 F6 W6 _ hJ6 hbel.size (fun _ h=>h) (fun b hb=>hbel.block b (hb.elim (hlO b) (fun h=>hlt b h.1))),W6.heap.size,n,d,hn,
     ⟨fun b hb=>(hFl b hb).1,⟨hd.1,hd.2.1,hd.2.2.block hbel.size (hbel.block d (hlt d hd.1))⟩,⟨ht.1.later hbel,ht.2.1⟩,fun b hb=>zH (hlt b hb) hbel.size,by simp,⟨fun h=>by have:=hlO _ h; omega,fun h=>by have:=hlt _ h; omega⟩,by rw [Hs.out]; exact ybR W6 71 _ _ _ _ _ _ _ _ _ _⟩,PvT.of⟩
   case done=>
    rintro O9 F9 w9 hG9 hHN hFs hFn hFO9 ⟨hI,hLt⟩ hD hnD hnF
    have hpr:Hid (pr= (0,15)):=by
     show _ = _
     rw [hP2.out,head_none (fun y hy=>late_none hLt rfl hy)]
    have hI2:=hI.two
    have HX:=hid (hI2.set (x':=0) (y':=15))
    have HB9:Hid (Below w.heap.size w w9):=HB4.out.trans (hG9.eff.below (fun b hb=>by
     rcases hb with (h | h | h) | h
     ·omega
     ·omega
     ·omega
     ·have:=HM.out b h; have:=S1.out; omega) HB4.out.size)
    have HDx:Hid (((w9.setCell ⟨w.heap.size+1,0,none⟩ (.int .i64 0)).setCell ⟨w.heap.size+1+1,0,none⟩ (.int .i64 15)).heap[w4.heap.size]? =some (.deferred (some []))):=by
     show _ = _
     rw [Below.heap_setCell _ _ _ _ (fun e=>hnD (by rw [e]; exact hI2.o5)),Below.heap_setCell _ _ _ _ (fun e=>hnD (by rw [e]; exact hI2.o4))]
     exact hD
    have HND:=hid hnD
    obtain ⟨c4,c5,f4,f5,-,-,-⟩:=hI2
    clear hG9 hHN hFs hFn hFO9 hnD hnF hD hLt hI
    gi_wp2
    refine ⟨by simp, .inl ⟨_,_,rfl,run_takeDeferred HDx.out,?_⟩⟩
    have hBf:=yaK (yab (yab HB9.out (by omega)) (by omega):Below w.heap.size w ((w9.setCell ⟨w.heap.size+1,0,none⟩ (.int .i64 0)).setCell ⟨w.heap.size+1+1,0,none⟩ (.int .i64 15))) HB4.out.size (.deferred none)
    have hX2:=HX.out.keep (W':=((w9.setCell ⟨w.heap.size+1,0,none⟩ (.int .i64 0)).setCell ⟨w.heap.size+1+1,0,none⟩ (.int .i64 15)).putObj w4.heap.size (.deferred none)) (by rw [World.putObj_size]; exact zG _) (fun b hb=>World.putObj_heap_other (fun e=>HND.out (e ▸ hb)))
    refine ⟨.tuple #[.int .i64 0, .int .i64 15],?_,by rw [hpr.out],hBf⟩
    obtain ⟨WF,hWF⟩:∃W,((w9.setCell ⟨w.heap.size+1,0,none⟩ (.int .i64 0)).setCell ⟨w.heap.size+1+1,0,none⟩ (.int .i64 15)).putObj w4.heap.size (.deferred none)=W:=⟨_,rfl⟩
    rw [hWF] at hX2
    obtain ⟨c4,c5,-,-,-,-,-⟩:=hX2
    rw [hWF]
    simp [results,Tryz.results53,go_sem,c4,c5]
   case stop=>
    rintro c k O9 F9 w9 hk1 hk2 hG9 hHN hFs hFn hFO9 ⟨rfl,x,hx,hX⟩ hD hnD hnF
    have hX':TwoC (w.heap.size+1) x 0 O9 (w9.putObj w4.heap.size (.deferred none)):=hX.keep (by rw [World.putObj_size]; exact zG _) (fun b hb=>World.putObj_heap_other (fun e=>hnD (e ▸ hb)))
    have hBf:Hid (Below w.heap.size w (w9.putObj w4.heap.size (.deferred none))):=yaK (HB4.out.trans (hG9.eff.below (fun b hb=>by
     rcases hb with (h | h | h) | h
     ·omega
     ·omega
     ·omega
     ·have:=HM.out b h; have:=S1.out; omega) HB4.out.size)) HB4.out.size _
    have HD:=hid hD
    have HX:=hid hX'
    have hpr:Hid (pr= (x,0)):=by
     show _ = _
     rw [hP2.out,head_last hx]
    clear hX hG9 hD hX' hHN hFs hFn hFO9 hnD hnF hx
    gi_wp2
    refine ⟨by simp, .inl ⟨_,_,rfl,run_takeDeferred HD.out,?_⟩⟩
    obtain ⟨c4,c5,-,-,-,-,-⟩:=HX.out
    refine ⟨.tuple #[.int .i64 x, .int .i64 0],?_,by rw [hpr.out],hBf.out⟩
    simp [results,Tryz.results53,go_sem,c4,c5]
   case body=>
    rintro l3 k O6 F6 a' W6 hk hG6 hl3 hrec6 hnl3 hnF3 ⟨⟨hI6,hN6⟩,bx,n,d,en,hD,V,rfl⟩
    have hmem:=yhe.1 (List.mem_of_getElem? en)
    obtain ⟨lo,hlo⟩:∃lo:Nat,(lo:Int)=min (T - 1 - 86400 * n) 86399:=⟨(min (T - 1 - 86400 * n) 86399).toNat,by omega⟩
    have cP:=hid (ykt d (dayQ l n) lo W6 (by omega) hD.di.2.2)
    have cP1:Hid (∀v:Int,v=lo→Calls Tryz.prog 27 #[.pointer (some ⟨d,0,none⟩), .int .i64 v] W6 fun r w'=>(∃n2 ok,r= .returned (.tuple #[.int .i64 n2, .bool ok])∧LastOf (fun k=>dayQ l n k && decide (k≤lo)) n2 ok)∧w' =W6):=by
     rintro v rfl; exact cP.out
    obtain ⟨s,hs⟩:∃s,shF n=s:=⟨_,rfl⟩
    have hs0:s 0=n:=by rw [←hs]; rfl
    have hsh:=hD.sh
    rw [hs] at hsh
    obtain ⟨s0,-⟩:=hsh
    rw [hs0] at s0
    have n0:=hmem.1
    have n1:n < 146097:=by omega
    have k3:=hI6.c3
    have HI6:=hid hI6
    have HN6:=hid hN6
    have En:=hid en
    have Hlo:=hid hlo
    obtain ⟨⟨c4,c5,f4,f5,-,-,-⟩,-,-⟩:=hI6
    clear hG6 hs hs0 hD hmem hk hN6 en hlo cP
    gi_wp2_with fail
    all_goals
     refine (wf_calls.mpr (cP1.out _ (by have:=Hlo.out; omega))).mono ?_
     rintro e w7 ⟨⟨a7,ok7,rfl,hF7⟩,hw7⟩
     rw [hw7]
     clear hw7 cP1
     cases ok7
     ·have HN7:=hid (late_more HN6.out En.out Hlo.out hF7)
      clear hF7 s0
      gi_wp2
      exact ⟨O6,⟨fun _ h=>h,fun _ h=> .inl h,Eff.refl _ _⟩,HI6.out,HN7.out⟩
     ·have HL7:=hid (late_last HN6.out En.out Hlo.out hF7)
      have a70:0≤a7∧a7 < 86400:=by
       rcases hF7 with ⟨-,j,rfl,hj,-⟩ | ⟨h,-⟩
       ·omega
       ·cases h
      obtain ⟨a0,a1⟩:=a70
      clear hF7 s0
      gi_wp2
      have hHL:=HL7.out
      first
       | exact ⟨O6,⟨fun _ h=>h,fun _ h=> .inl h,((Eff.refl O6 W6).set HI6.out.two.o4 _ _).set HI6.out.two.o5 _ _⟩,rfl,_,hHL,HI6.out.two.set⟩
       | (rw [Int.mul_comm] at hHL; exact ⟨O6,⟨fun _ h=>h,fun _ h=> .inl h,((Eff.refl O6 W6).set HI6.out.two.o4 _ _).set HI6.out.two.o5 _ _⟩,rfl,_,hHL,HI6.out.two.set⟩)
theorem yj8 (a:Option Addr) (cap:Nat) (l:List Cl) (w:World) (hl:l.length≤9223372036854775807) (hlc:l.length≤cap) (hs:Sl w a (cls l)) (hno:a=none→cap=0) (hok:∀c∈l,c.Ok) (hT:Tab w) :
  Calls Tryz.prog 21 #[.slice a l.length cap] w fun e w'=>e= .returned (.tuple #[.int .i64 (ydm l 12622780800).1, .int .i64 (ydm l 12622780800).2])∧Below w.heap.size w w':=by
 have cN:=hid (yj6 a cap l 12622780800 w hl hlc hs hno hok hT)
 obtain ⟨pr,hpr⟩:∃x,ydm l 12622780800=x:=⟨_,rfl⟩
 rw [hpr] at cN⊢
 clear hs hno hok hT hpr
 go_enter Tryz.func21,Tryz.ntmps21
 go_wp2_with fail
 refine cN.out.mono ?_
 rintro e w2 ⟨rfl,hB⟩
 have HB:=hid hB
 clear hB
 go_wp2
 go_ret2
 exact ⟨rfl,HB.out⟩
end
section
open Go.RowKit Go.Maps
theorem held_lt {t y:Int} (h0:0≤y) (h1:y < 12622780800):ybX t+1≤y↔t < y:=by rw [ybX]; omega
theorem held_gt {t y:Int} (h0:0≤y) (h1:y < 12622780800):y≤ybX t - 1↔y < t:=by rw [ybX]; omega
def NextI (cs:List Cl) (t x:Int):Prop:=yam cs x=true∧t < x∧∀y,t < y→y < x→yam cs y=false
theorem yfq {l:List Cl} {t:Int} (h:yah l=0):(∃x,ydn l t= (x,0)∧NextI l t x)∨(ydn l t= (0,15)∧∀y,t < y→yam l y=false):=by
 rw [ydn,if_neg (by simp [h])]
 have hp:=yf8 l (ybX t+1) 12622780799
 have hm:∀y,y∈ybh l (ybX t+1) 12622780799↔t < y∧yam l y=true:=fun y=>by
  rw [yca]
  constructor
  ·rintro ⟨h1,h2,h3⟩
   have:=ybJ h3
   exact ⟨(held_lt this.1 this.2).1 h1,h3⟩
  ·rintro ⟨h1,h3⟩
   have:=ybJ h3
   exact ⟨(held_lt this.1 this.2).2 h1,by omega,h3⟩
 generalize ybh l (ybX t+1) 12622780799=L at *
 cases L with
 | nil=>
   refine .inr ⟨rfl,fun y hy=>?_⟩
   cases e:yam l y
   ·rfl
   ·have:=(hm y).2 ⟨hy,e⟩; cases this
 | cons x L=>
   have hx:=(hm x).1 (by simp)
   refine .inl ⟨x,rfl,hx.2,hx.1,fun y h1 h2=>?_⟩
   cases e:yam l y
   ·rfl
   ·rcases List.mem_cons.1 ((hm y).2 ⟨h1,e⟩) with h3 | h3
    ·omega
    ·have:=(List.pairwise_cons.1 hp).1 y h3; omega
theorem yfn {l:List Cl} {t:Int} (h:yah l=0):(∃x,ydm l t= (x,0)∧LastI l t x)∨(ydm l t= (0,15)∧∀y,y < t→yam l y=false):=by
 rw [ydm,if_neg (by simp [h])]
 have hp:(ybh l 0 (ybX t - 1)).reverse.Pairwise (·> ·):=List.pairwise_reverse.2 (yf8 l 0 (ybX t - 1))
 have hm:∀y,y∈(ybh l 0 (ybX t - 1)).reverse↔y < t∧yam l y=true:=fun y=>by
  rw [List.mem_reverse,yca]
  constructor
  ·rintro ⟨h1,h2,h3⟩
   have:=ybJ h3
   exact ⟨(held_gt this.1 this.2).1 h2,h3⟩
  ·rintro ⟨h1,h3⟩
   have:=ybJ h3
   exact ⟨this.1,(held_gt this.1 this.2).2 h1,h3⟩
 generalize (ybh l 0 (ybX t - 1)).reverse=L at *
 cases L with
 | nil=>
   refine .inr ⟨rfl,fun y hy=>?_⟩
   cases e:yam l y
   ·rfl
   ·have:=(hm y).2 ⟨hy,e⟩; cases this
 | cons x L=>
   have hx:=(hm x).1 (by simp)
   refine .inl ⟨x,rfl,hx.2,hx.1,fun y h1 h2=>?_⟩
   cases e:yam l y
   ·rfl
   ·rcases List.mem_cons.1 ((hm y).2 ⟨h2,e⟩) with h3 | h3
    ·omega
    ·have:=(List.pairwise_cons.1 hp).1 y h3; omega
theorem nextP_is {l:List Cl} {t x:Int} (h:yah l=0) (hx:NextI l t x):ydn l t= (x,0):=by
 obtain ⟨h1,h2,h3⟩:=hx
 rcases yfq (t:=t) h with ⟨y,e,g1,g2,g3⟩ | ⟨e,g⟩
 ·rw [e]
  by_cases h4:x < y
  ·have:=g3 x h2 h4; rw [h1] at this; cases this
  ·by_cases h5:y < x
   ·have:=h3 y g2 h5; rw [g1] at this; cases this
   ·rw [show x=y by omega]
 ·have:=g x h2; rw [h1] at this; cases this
theorem prevP_is {l:List Cl} {t x:Int} (h:yah l=0) (hx:LastI l t x):ydm l t= (x,0):=by
 obtain ⟨h1,h2,h3⟩:=hx
 rcases yfn (t:=t) h with ⟨y,e,g1,g2,g3⟩ | ⟨e,g⟩
 ·rw [e]
  by_cases h4:y < x
  ·have:=g3 x h4 h2; rw [h1] at this; cases this
  ·by_cases h5:x < y
   ·have:=h3 y h5 g2; rw [g1] at this; cases this
   ·rw [show x=y by omega]
 ·have:=g x h2; rw [h1] at this; cases this
end
section
open Go.RowKit
theorem ykd (f u n:Int) (w:World) (h0:0≤n) (h1:n < 146097) (hne:¬max (max 0 f) (86400 * n)≤min (min 12622780799 u) (86400 * n+86399)) :
  Calls Tryz.prog 100 #[spv f u, .int .i64 n] w fun e w'=>e= .returned (.tuple #[.int .i64 0, .int .i64 0, .bool false])∧Below w.heap.size w w':=by
 have cD:=hid (fun W=>yjg n W h0 h1)
 have cM:=hid (fun b W hb k0 k1 k2 k3=>yhp b f u (86400 * n) (86400 * n+86399) W hb k0 k1 k2 k3)
 obtain ⟨d,hdd⟩:∃d,86400 * n=d:=⟨_,rfl⟩
 rw [hdd] at cD cM hne
 obtain ⟨X,hX⟩:∃X,max (max 0 f) d=X:=⟨_,rfl⟩
 obtain ⟨Y,hY⟩:∃Y,min (min 12622780799 u) (d+86399)=Y:=⟨_,rfl⟩
 rw [hX] at cM hne
 rw [hY] at cM hne
 have hhX:yak X Y=0:=by rcases yaP X Y with ⟨e1,e2,h⟩ | ⟨e1,e2,h⟩ <;> omega
 have hhY:yaj X Y= -1:=by rcases yaP X Y with ⟨e1,e2,h⟩ | ⟨e1,e2,h⟩ <;> omega
 rw [hhX,hhY] at cM
 have c1:=hid (fun W=>ybB 0 W (by omega) (by omega))
 have c2:=hid (fun W=>ygs (-1) W (by decide))
 clear hdd h0 h1 hne hX hY hhX hhY
 have HS0:Hid (CtS w (w.alloc (.cells #[.int .i64 f, .int .i64 u] 147)).drew):=⟨(yaa (Below.refl _ _) (zG _)).drew,by show _ < (World.alloc _ _).heap.size; simp⟩
 go_enter Tryz.func100,Tryz.ntmps100
 go_wp2_with fail
 refine wp_region_held_drew (S:=fun w'=>CtS w w') (by kernel_rfl) HS0.out (fun hHeld=>?_)
 refine zhD 1 ?_
 refine wpAnyH_ready (rs:= [0,2]) (by kernel_rfl) (by simp) ?_
 refine AllReadyH.cons rfl (fun K hK=>?_) (AllReadyH.cons rfl (fun K hK=>?_) AllReadyH.nil)
 ·go_simp
  (try go_wp2_with fail)
  refine hK.out _ _ (by assumption) (fun hHeld=>?_)
  clear hK K
  try simp only [zP]
  refine zzK 2 (fun K hK=>?_)
  go_simp
  refine (cD.out _).mono ?_
  rintro e w1 ⟨rfl,hB1⟩
  have k1:=(hB1.cell (p:=⟨w.heap.size,0,none⟩) (by simp [World.size_drew])).trans (show _ =some (.int .i64 f) by simp [go_sem])
  have k2:=(hB1.cell (p:=⟨w.heap.size,1,none⟩) (by simp [World.size_drew])).trans (show _ =some (.int .i64 u) by simp [go_sem])
  have f1:=(hB1.frozen (p:=⟨w.heap.size,0,none⟩) (by simp [World.size_drew])).trans (show _ =false by simp [go_sem])
  have f2:=(hB1.frozen (p:=⟨w.heap.size,1,none⟩) (by simp [World.size_drew])).trans (show _ =false by simp [go_sem])
  have hS1:=CtS.keep hHeld hB1
  (try go_wp2_with fail)
  refine hK.out _ _ hS1 (fun hHeld=>?_)
  clear hK K
  try simp only [zP]
  have hn:=yaa (o:= .cells #[.int .i64 f, .int .i64 u, .int .i64 d, .int .i64 (d+86399)] 147) (Below.refl w1.heap.size w1) (zG _)
  have hl1:w.heap.size < w1.heap.size:=hS1.2
  refine zzK 3 (fun K hK=>?_)
  go_simp
  (try go_wp2_with fail)
  refine hK.out _ _ (CtS.keep hS1 hn) (fun hHeld=>?_)
  clear hK K
  try simp only [zP]
  refine zzK 4 (fun K hK=>?_)
  go_simp
  refine (cM.out w1.heap.size _ (by simp) (by simp [go_sem]) (by simp [go_sem]) (by simp [go_sem]) (by simp [go_sem])).mono ?_
  rintro e w2 ⟨rfl,hB2⟩
  have hS2:=CtS.keep hHeld hB2
  have m1:=(hB2.cell (p:=⟨w.heap.size,0,none⟩) (by simp only [zzN]; omega)).trans ((hn.cell (p:=⟨w.heap.size,0,none⟩) hl1).trans k1)
  have m2:=(hB2.cell (p:=⟨w.heap.size,1,none⟩) (by simp only [zzN]; omega)).trans ((hn.cell (p:=⟨w.heap.size,1,none⟩) hl1).trans k2)
  have n1:=(hB2.frozen (p:=⟨w.heap.size,0,none⟩) (by simp only [zzN]; omega)).trans ((hn.frozen (p:=⟨w.heap.size,0,none⟩) hl1).trans f1)
  have n2:=(hB2.frozen (p:=⟨w.heap.size,1,none⟩) (by simp only [zzN]; omega)).trans ((hn.frozen (p:=⟨w.heap.size,1,none⟩) hl1).trans f2)
  clear hn k1 k2 f1 f2
  (try go_wp2_with fail)
  refine hK.out _ _ (by assumption) (fun hHeld=>?_)
  clear hK K
  try simp only [zP]
  refine zzK 5 (fun K hK=>?_)
  go_simp
  (try go_wp2_with fail)
  refine hK.out _ _ ⟨yab (yab hS2.1 (zG _)) (zG _),by rw [World.size_setCell,World.size_setCell]; exact hS2.2⟩ (fun hHeld=>?_)
  clear hK K
  try simp only [zP]
  refine wpAnyH_done (by kernel_rfl) ?_ _
  have HB2:=hid hS2.1
  go_wp2_with (first | (go_at_call 142; with_reducible refine (c1.out _).mono ?_; rintro e w' ⟨rfl,rfl⟩) | (go_at_call 142; with_reducible refine (c2.out _).mono ?_; rintro e w' ⟨rfl,rfl⟩))
  exact bodyPost_ret (v:= .tuple #[.int .i64 0, .int .i64 0, .bool false]) (by simp [results,Tryz.results100,go_sem]) rfl ⟨rfl,yab (yab HB2.out (zG _)) (zG _)⟩
 ·go_simp
  refine (cD.out _).mono ?_
  rintro e w1 ⟨rfl,hB1⟩
  have k1:=(hB1.cell (p:=⟨w.heap.size,0,none⟩) (by simp [World.size_drew])).trans (show _ =some (.int .i64 f) by simp [go_sem])
  have k2:=(hB1.cell (p:=⟨w.heap.size,1,none⟩) (by simp [World.size_drew])).trans (show _ =some (.int .i64 u) by simp [go_sem])
  have f1:=(hB1.frozen (p:=⟨w.heap.size,0,none⟩) (by simp [World.size_drew])).trans (show _ =false by simp [go_sem])
  have f2:=(hB1.frozen (p:=⟨w.heap.size,1,none⟩) (by simp [World.size_drew])).trans (show _ =false by simp [go_sem])
  have hS1:=CtS.keep hHeld hB1
  (try go_wp2_with fail)
  refine hK.out _ _ hS1 (fun hHeld=>?_)
  clear hK K
  try simp only [zP]
  refine zzK 0 (fun K hK=>?_)
  go_simp
  (try go_wp2_with fail)
  refine hK.out _ _ (by assumption) (fun hHeld=>?_)
  clear hK K
  try simp only [zP]
  have hn:=yaa (o:= .cells #[.int .i64 f, .int .i64 u, .int .i64 d, .int .i64 (d+86399)] 147) (Below.refl w1.heap.size w1) (zG _)
  have hl1:w.heap.size < w1.heap.size:=hS1.2
  refine zzK 3 (fun K hK=>?_)
  go_simp
  (try go_wp2_with fail)
  refine hK.out _ _ (CtS.keep hS1 hn) (fun hHeld=>?_)
  clear hK K
  try simp only [zP]
  refine zzK 4 (fun K hK=>?_)
  go_simp
  refine (cM.out w1.heap.size _ (by simp) (by simp [go_sem]) (by simp [go_sem]) (by simp [go_sem]) (by simp [go_sem])).mono ?_
  rintro e w2 ⟨rfl,hB2⟩
  have hS2:=CtS.keep hHeld hB2
  have m1:=(hB2.cell (p:=⟨w.heap.size,0,none⟩) (by simp only [zzN]; omega)).trans ((hn.cell (p:=⟨w.heap.size,0,none⟩) hl1).trans k1)
  have m2:=(hB2.cell (p:=⟨w.heap.size,1,none⟩) (by simp only [zzN]; omega)).trans ((hn.cell (p:=⟨w.heap.size,1,none⟩) hl1).trans k2)
  have n1:=(hB2.frozen (p:=⟨w.heap.size,0,none⟩) (by simp only [zzN]; omega)).trans ((hn.frozen (p:=⟨w.heap.size,0,none⟩) hl1).trans f1)
  have n2:=(hB2.frozen (p:=⟨w.heap.size,1,none⟩) (by simp only [zzN]; omega)).trans ((hn.frozen (p:=⟨w.heap.size,1,none⟩) hl1).trans f2)
  clear hn k1 k2 f1 f2
  (try go_wp2_with fail)
  refine hK.out _ _ (by assumption) (fun hHeld=>?_)
  clear hK K
  try simp only [zP]
  refine zzK 5 (fun K hK=>?_)
  go_simp
  (try go_wp2_with fail)
  refine hK.out _ _ ⟨yab (yab hS2.1 (zG _)) (zG _),by rw [World.size_setCell,World.size_setCell]; exact hS2.2⟩ (fun hHeld=>?_)
  clear hK K
  try simp only [zP]
  refine wpAnyH_done (by kernel_rfl) ?_ _
  have HB2:=hid hS2.1
  go_wp2_with (first | (go_at_call 142; with_reducible refine (c1.out _).mono ?_; rintro e w' ⟨rfl,rfl⟩) | (go_at_call 142; with_reducible refine (c2.out _).mono ?_; rintro e w' ⟨rfl,rfl⟩))
  exact bodyPost_ret (v:= .tuple #[.int .i64 0, .int .i64 0, .bool false]) (by simp [results,Tryz.results100,go_sem]) rfl ⟨rfl,yab (yab HB2.out (zG _)) (zG _)⟩
def inD (f u n:Int):Bool:=decide (max (max 0 f) (86400 * n)≤min (min 12622780799 u) (86400 * n+86399))
theorem ye6 (f u n:Int) (w:World) (h0:0≤n) (h1:n < 146097) :
  Calls Tryz.prog 126 #[spv f u, .int .i64 n] w fun e w'=>e= .returned (.bool (inD f u n))∧Below w.heap.size w w':=by
 by_cases h:max (max 0 f) (86400 * n)≤min (min 12622780799 u) (86400 * n+86399)
 ·have c:=hid (fun W=>yjh f u n W h0 h1 h)
  rw [inD,zzZ h]
  clear h
  go_enter Tryz.func126,Tryz.ntmps126
  go_wp2_with fail
  refine (c.out _).mono ?_
  rintro e w1 ⟨rfl,hB⟩
  have HB:=hid ((yaa (o:= .cells #[.int .i64 f, .int .i64 u] 147) (Below.refl w.heap.size w) (zG _)).trans (hB.mono (by simp)))
  clear hB
  go_wp2
  go_ret
  exact ⟨rfl,HB.out⟩
 ·have c:=hid (fun W=>ykd f u n W h0 h1 h)
  rw [inD,zzd h]
  clear h
  go_enter Tryz.func126,Tryz.ntmps126
  go_wp2_with fail
  refine (c.out _).mono ?_
  rintro e w1 ⟨rfl,hB⟩
  have HB:=hid ((yaa (o:= .cells #[.int .i64 f, .int .i64 u] 147) (Below.refl w.heap.size w) (zG _)).trans (hB.mono (by simp)))
  clear hB
  go_wp2
  go_ret
  exact ⟨rfl,HB.out⟩
end
end Go.Proofs.YtkpgfmonhfnhdaaGreatDoor
