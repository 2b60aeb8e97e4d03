/-
  What a day of the window is: week.Shape and feriaref06.Shape.
  Masks as natural numbers below 2^64 given by their bits, and what Go's bit operations on uint64 make of them.
  What mask.Has, mask.Of, feriaref02.Has and feriaref02.Of compute.
  What mask.Span and feriaref02.Span compute: the mask of the numbers of a span that are a step apart.
  What feriaref02.Span and feriaref02.List compute.
-/
import Derived.Test.YtjahgimnfliooaaGreatDoorQ2687fa
import Derived.Deep.MidRow
import Derived.Test.YtjahgimnfliooaaGreatDoorQc1e868
set_option maxRecDepth 100000
set_option maxHeartbeats 25600000
namespace Go.Proofs.YtjahgimnfliooaaGreatDoor
set_option linter.unusedVariables false
section
open Go.RowKit
abbrev sh10 (n y m d b wk i1 i2 i3 i4:Int):Value:= .agg #[.int .i64 n, .int .i64 y, .int .i64 m, .int .i64 d, .int .i64 b, .int .i64 wk, .int .i64 i1, .int .i64 i2, .int .i64 i3, .int .i64 i4]
abbrev shv (n y m d o:Int):Value:=sh10 n y m d (lenI y m - d+1) ((n % 7+3) % 7+1) ((d - 1) / 7+1) ((lenI y m - d) / 7+1) ((o - 1) / 7+1) ((365+yaO y - o) / 7+1)
def shN (n:Int):Value:=shv n (fY n) (fMo n) (fD n) (fOr n)
theorem yhr (n:Int) (w:World) (h0:0≤n):Calls Tryz.prog 69 #[.int .i64 n] w fun e w'=>e= .returned (.int .i64 ((n % 7+3) % 7+1))∧w=w':=by
 have c1:=hid (fun W=>ygF n 7 W h0 (by omega))
 have c2:=hid (fun W=>ygF (n % 7+3) 7 W (by omega) (by omega))
 have b1:0≤n % 7∧n % 7 < 7:=by omega
 have b2:0≤(n % 7+3) % 7∧(n % 7+3) % 7 < 7:=by omega
 obtain ⟨q,hq⟩:∃q,(n % 7+3) % 7=q:=⟨_,rfl⟩
 rw [hq] at c2 b2⊢
 obtain ⟨p,hp⟩:∃q,n % 7=q:=⟨_,rfl⟩
 rw [hp] at c1 c2 b1
 clear hp hq
 go_enter Tryz.func69,Tryz.ntmps69
 go_wp2_with fail
 refine (c1.out _).mono ?_
 rintro e w' ⟨rfl,rfl⟩
 go_wp2_with fail
 refine (c2.out _).mono ?_
 rintro e w' ⟨rfl,rfl⟩
 go_wp2
 go_ret
 exact ⟨rfl,rfl⟩
theorem yht (a l:Int) (w:World) (h1:1≤a) (h2:a≤l) (h3:l≤400):Calls Tryz.prog 134 #[.int .i64 a, .int .i64 l] w fun e w'=>e= .returned (.tuple #[.int .i64 ((a - 1) / 7+1), .int .i64 ((l - a) / 7+1)])∧w=w':=by
 have b1:0≤(a - 1) / 7∧(a - 1) / 7≤400:=by omega
 have b2:0≤(l - a) / 7∧(l - a) / 7≤400:=by omega
 have n1:¬a < 1:=by omega
 have n2:¬l < a:=by omega
 go_enter Tryz.func134,Tryz.ntmps134
 go_wp2
 go_ret2
 exact ⟨rfl,rfl⟩
theorem yfX (a l:Int) (w:World) (h1:1≤a) (h2:a≤l) (h3:l≤400):Calls Tryz.prog 91 #[.int .i64 a, .int .i64 l] w fun e w'=>e= .returned (.tuple #[.int .i64 ((a - 1) / 7+1), .int .i64 ((l - a) / 7+1)])∧w=w':=by
 have b1:0≤(a - 1) / 7∧(a - 1) / 7≤400:=by omega
 have b2:0≤(l - a) / 7∧(l - a) / 7≤400:=by omega
 have n1:¬a < 1:=by omega
 have n2:¬l < a:=by omega
 go_enter Tryz.func91,Tryz.ntmps91
 go_wp2
 go_ret2
 exact ⟨rfl,rfl⟩
theorem ygD (n:Int) (w:World) (h0:0≤n) (h1:n≤9223372036854775807):Calls Tryz.prog 33 #[.int .i64 n] w fun e w'=>e= .returned (.int .i64 ((n % 7+3) % 7+1))∧w=w':=by
 have c1:=hid (fun W=>yjp n 7 W h0 (by omega) h1)
 obtain ⟨p,hp⟩:∃p:Nat,n % 7=p:=⟨(n % 7).toNat,by omega⟩
 have hp7:p < 7:=by omega
 rw [hp] at c1⊢
 clear hp
 go_enter Tryz.func33,Tryz.ntmps33
 go_wp2_with fail
 refine (c1.out _).mono ?_
 rintro e w' ⟨rfl,rfl⟩
 go_wp2_with fail
 go_loopw [4,5] (fun v i wr=>∃k:Nat,i= .int .i64 k∧k≤p∧v= .int .i64 (((k+3) % 7+1:Nat):Int)∧wr=w) (fun _ i _=>p - (intOf i).toNat)
 case atStart=>exact ⟨0,rfl,by omega,rfl,rfl⟩
 case round=>
  obtain ⟨k,rfl,hk,rfl,rfl⟩:=hrel
  have hs:Hid ((((k+3) % 7+1) % 7+1:Nat)= (k+1+3) % 7+1):=by show _ = _; omega
  have hR:Hid (k=p→((((k+3) % 7+1:Nat)):Int)= ((p:Int)+3) % 7+1):=fun e=>by rw [e]; omega
  obtain ⟨q,hq⟩:∃q:Nat,(k+3) % 7+1=q:=⟨_,rfl⟩
  have hqb:q≤7:=by omega
  rw [hq] at hs hR⊢
  clear hq
  by_cases hlt:k < p
  ·have hkI:(k:Int) < (p:Int):=by omega
   go_wp2
   exact ⟨⟨k+1,by go_num,by omega,by rw [←hs.out]; congr 1,trivial⟩,by simp [intOf]; omega⟩
  ·have hkp:=hR.out (by omega)
   have Hkp:=hid hkp
   clear hkp
   go_wp2
   go_ret
   exact ⟨by rw [←Hkp.out]; rfl,by trivial⟩
/-! ### a struct that is handed back out of its block -/
theorem yad {P:Program} {fn:Func} {p:Tmp} {ty:TypeId} (h:fn.results= #[.cell p ty]) (tmps:Array Value) (w:World) (b o:Nat) (cs:List Value) (d:TypeDesc)
  (hp:tmps.getD p undef= .pointer (some ⟨b,o,none⟩)) (hc:w.rangeAt b o cs) (hu:P.underlying ty=some d) (hd:d.isRow=true) (hi:(P.info? ty).map (·.size)=some cs.length) :
  (results fn tmps).run P w= .ok (.agg cs.toArray) w:=by
 have hp':tmps[p]?.getD undef= .pointer (some ⟨b,o,none⟩):=by simpa using hp
 simp [results,h,hp',asAddr,run_loadVar_mid w b o ty cs d hc hu hd hi]
theorem yaD {P:Program} {fn:Func} {p t:Tmp} {ty:TypeId} (h:fn.results= #[.cell p ty, .tmp t]) (tmps:Array Value) (w:World) (b o:Nat) (cs:List Value) (d:TypeDesc)
  (hp:tmps.getD p undef= .pointer (some ⟨b,o,none⟩)) (hc:w.rangeAt b o cs) (hu:P.underlying ty=some d) (hd:d.isRow=true) (hi:(P.info? ty).map (·.size)=some cs.length) :
  (results fn tmps).run P w= .ok (.tuple #[.agg cs.toArray,tmps.getD t undef]) w:=by
 have hp':tmps[p]?.getD undef= .pointer (some ⟨b,o,none⟩):=by simpa using hp
 simp [results,h,hp',asAddr,run_loadVar_mid w b o ty cs d hc hu hd hi]
theorem yaQ {B:Nat} {a:World} {b:Nat} (hb:B≤b):∀(vs:List Value) (o:Nat) (w:World),Below B a w→Below B a (w.setCells b o vs)
 | [],_,_,h=>h
 | v :: vs,o,w,h=>by rw [World.setCells]; exact yaQ hb vs (o+1) _ (yab h hb)
theorem ygd {W:World} {b o:Nat} {cs:List Value} (h:W.rangeAt b o cs) (hb:b < W.heap.size) (x:Obj):(W.alloc x).rangeAt b o cs:=fun j v hv=>
 ((yaa (Below.refl _ W) (zG _)).cell (p:=⟨b,o+j,none⟩) hb).trans (h j v hv)
theorem yco {W W':World} {b o n B:Nat} (h:W.there b o n) (hb:Below B W W') (hB:b < B):W'.there b o n:=fun j hj=>by
 obtain ⟨h1,h2⟩:=h j hj
 exact ⟨by rw [hb.cell (p:=⟨b,o+j,none⟩) hB]; exact h1,(hb.frozen (p:=⟨b,o+j,none⟩) hB).trans h2⟩
def Z10 (W:World) (b:Nat):Prop:=∀i,i < 10→W.cell? ⟨b,i,none⟩=some (.int .i64 0)∧W.frozen? ⟨b,i,none⟩=false
theorem Z10.below {W W':World} {b B:Nat} (h:Z10 W b) (hb:Below B W W') (hB:b < B):Z10 W' b:=fun i hi=>⟨(hb.cell (p:=⟨b,i,none⟩) hB).trans (h i hi).1,(hb.frozen (p:=⟨b,i,none⟩) hB).trans (h i hi).2⟩
theorem z10_new (w:World) (t:TypeId):Z10 (w.alloc (.cells #[.int .i64 0, .int .i64 0, .int .i64 0, .int .i64 0, .int .i64 0, .int .i64 0, .int .i64 0, .int .i64 0, .int .i64 0, .int .i64 0] t)) w.heap.size:=by
 intro i hi
 have:i=0∨i=1∨i=2∨i=3∨i=4∨i=5∨i=6∨i=7∨i=8∨i=9:=by omega
 rcases this with rfl | rfl | rfl | rfl | rfl | rfl | rfl | rfl | rfl | rfl <;> exact ⟨by simp [go_sem],by simp [go_sem]⟩
theorem Z10.there {W:World} {b:Nat} (h:Z10 W b):W.there b 0 10:=fun j hj=>by
 rw [zzn]
 exact ⟨by rw [(h j hj).1]; rfl,(h j hj).2⟩
theorem Z10.all {W:World} {b:Nat} (h:Z10 W b):(W.cell? ⟨b,0,none⟩=some (.int .i64 0)∧W.cell? ⟨b,1,none⟩=some (.int .i64 0)∧W.cell? ⟨b,2,none⟩=some (.int .i64 0)∧W.cell? ⟨b,3,none⟩=some (.int .i64 0)∧W.cell? ⟨b,4,none⟩=some (.int .i64 0)∧
  W.cell? ⟨b,5,none⟩=some (.int .i64 0)∧W.cell? ⟨b,6,none⟩=some (.int .i64 0)∧W.cell? ⟨b,7,none⟩=some (.int .i64 0)∧W.cell? ⟨b,8,none⟩=some (.int .i64 0)∧W.cell? ⟨b,9,none⟩=some (.int .i64 0))∧
  (W.frozen? ⟨b,0,none⟩=false∧W.frozen? ⟨b,1,none⟩=false∧W.frozen? ⟨b,2,none⟩=false∧W.frozen? ⟨b,3,none⟩=false∧W.frozen? ⟨b,4,none⟩=false∧
  W.frozen? ⟨b,5,none⟩=false∧W.frozen? ⟨b,6,none⟩=false∧W.frozen? ⟨b,7,none⟩=false∧W.frozen? ⟨b,8,none⟩=false∧W.frozen? ⟨b,9,none⟩=false):=
 ⟨⟨(h 0 (by omega)).1,(h 1 (by omega)).1,(h 2 (by omega)).1,(h 3 (by omega)).1,(h 4 (by omega)).1,(h 5 (by omega)).1,(h 6 (by omega)).1,(h 7 (by omega)).1,(h 8 (by omega)).1,(h 9 (by omega)).1⟩,
  (h 0 (by omega)).2,(h 1 (by omega)).2,(h 2 (by omega)).2,(h 3 (by omega)).2,(h 4 (by omega)).2,(h 5 (by omega)).2,(h 6 (by omega)).2,(h 7 (by omega)).2,(h 8 (by omega)).2,(h 9 (by omega)).2⟩
theorem ten_range {W:World} {b:Nat} (h:Z10 W b) (vs:List Value) (hl:vs.length=10):(W.setCells b 0 vs).rangeAt b 0 vs:=World.rangeAt_setCells_same _ _ _ _ (by rw [hl]; exact h.there)
abbrev ten (W:World) (b:Nat) (v0 v1 v2 v3 v4 v5 v6 v7 v8 v9:Value):World:=
 (((((((((W.setCell ⟨b,0,none⟩ v0).setCell ⟨b,1,none⟩ v1).setCell ⟨b,2,none⟩ v2).setCell ⟨b,3,none⟩ v3).setCell ⟨b,4,none⟩ v4).setCell ⟨b,5,none⟩ v5).setCell ⟨b,6,none⟩ v6).setCell ⟨b,7,none⟩ v7).setCell ⟨b,8,none⟩ v8).setCell ⟨b,9,none⟩ v9
theorem ten_eq (W:World) (b:Nat) (v0 v1 v2 v3 v4 v5 v6 v7 v8 v9:Value):ten W b v0 v1 v2 v3 v4 v5 v6 v7 v8 v9=W.setCells b 0 [v0,v1,v2,v3,v4,v5,v6,v7,v8,v9]:=rfl
theorem yiJ (W:World) (b:Nat) (v0 v1 v2 v3 v4 v5 v6 v7 v8 v9:Value):(ten W b v0 v1 v2 v3 v4 v5 v6 v7 v8 v9).heap.size=W.heap.size:=by simp [ten]
theorem ygO {B:Nat} {a W:World} {b:Nat} (h:Below B a W) (hb:B≤b) (v0 v1 v2 v3 v4 v5 v6 v7 v8 v9:Value):Below B a (ten W b v0 v1 v2 v3 v4 v5 v6 v7 v8 v9):=by
 rw [ten_eq]; exact yaQ hb _ _ _ h
theorem ten_at {W:World} {b:Nat} (h:Z10 W b) (v0 v1 v2 v3 v4 v5 v6 v7 v8 v9:Value):(ten W b v0 v1 v2 v3 v4 v5 v6 v7 v8 v9).rangeAt b 0 [v0,v1,v2,v3,v4,v5,v6,v7,v8,v9]:=by
 rw [ten_eq]; exact ten_range h _ rfl
theorem ten_at' {W:World} {b:Nat} (h:Z10 W b) (hb:b < W.heap.size) (o:Obj) (v0 v1 v2 v3 v4 v5 v6 v7 v8 v9:Value):((ten W b v0 v1 v2 v3 v4 v5 v6 v7 v8 v9).alloc o).rangeAt b 0 [v0,v1,v2,v3,v4,v5,v6,v7,v8,v9]:=
 ygd (ten_at h _ _ _ _ _ _ _ _ _ _) (by rw [yiJ]; exact hb) o
theorem yjF {B:Nat} {a W:World} {b:Nat} (h:Below B a W) (hb:B≤b) (hs:B≤W.heap.size) (o:Obj) (v0 v1 v2 v3 v4 v5 v6 v7 v8 v9:Value):Below B a ((ten W b v0 v1 v2 v3 v4 v5 v6 v7 v8 v9).alloc o):=
 yaa (ygO h hb _ _ _ _ _ _ _ _ _ _) (by rw [yiJ]; exact hs)
theorem yau (w:World) (l:List Value) (t:TypeId):(w.alloc (.cells l.toArray t)).rangeAt w.heap.size 0 l:=fun j v hv=>by
 obtain ⟨hj,e⟩:=zzq.1 hv
 rw [zzn]
 simp [go_sem,hj,e]
theorem yat (w:World) (cs:Array Value) (t:TypeId):(w.alloc (.cells cs t)).there w.heap.size 0 cs.size:=fun j hj=>by
 rw [zzn]
 refine ⟨?_,by simp [go_sem]⟩
 simp [go_sem,hj]
theorem yfe:(Tryz.prog.info? 88).map (·.size)=some 10:=by kernel_rfl
theorem yfH (n y m d o:Int) (w:World) (hn0:0≤n) (hn1:n < 200000) (hy0:1970≤y) (hy1:y≤2400) (hm0:1≤m) (hm1:m≤12) (hd0:1≤d) (hd1:d≤lenI y m) (ho0:1≤o) (ho1:o≤365+yaO y) :
  Calls Tryz.prog 86 #[.int .i64 n, .int .i64 y, .int .i64 m, .int .i64 d, .int .i64 o] w fun e w'=>e= .returned (shv n y m d o)∧Below w.heap.size w w':=by
 have c1:=hid (fun W=>yda y m W (by omega) hm0 hm1)
 have c2:=hid (fun W=>yjr y W (by omega))
 have c3:=hid (fun W=>yhr n W hn0)
 have hlb:=ybm y m
 have c4:=hid (fun W=>yht d (lenI y m) W hd0 hd1 (by omega))
 have hl:=ygl y
 have c5:=hid (fun W=>yht o (365+yaO y) W ho0 ho1 (by rcases hl with h | h <;> omega))
 unfold shv
 obtain ⟨l,hll⟩:∃l,lenI y m=l:=⟨_,rfl⟩
 rw [hll] at c1 c4 hd1 hlb⊢
 obtain ⟨wd,hwd⟩:∃l,(n % 7+3) % 7+1=l:=⟨_,rfl⟩
 rw [hwd] at c3⊢
 obtain ⟨i1,hi1⟩:∃l,(d - 1) / 7+1=l:=⟨_,rfl⟩
 rw [hi1] at c4⊢
 obtain ⟨i2,hi2⟩:∃x,(l - d) / 7+1=x:=⟨_,rfl⟩
 rw [hi2] at c4⊢
 obtain ⟨i3,hi3⟩:∃x,(o - 1) / 7+1=x:=⟨_,rfl⟩
 rw [hi3] at c5⊢
 obtain ⟨i4,hi4⟩:∃x,(365+yaO y - o) / 7+1=x:=⟨_,rfl⟩
 rw [hi4] at c5⊢
 clear hll hwd hi1 hi2 hi3 hi4
 have HZ:=hid (z10_new w 88)
 rcases hl with ⟨e1,e2⟩ | ⟨e1,e2⟩
 all_goals
  rw [e1] at c2
  rw [e2] at c5
  first | rw [show (365:Int)+1=366 from rfl] at c5 | rw [show (365:Int)+0=365 from rfl] at c5
  clear e1 e2 ho1
  go_enter Tryz.func86,Tryz.ntmps86
  go_wp2_with fail
  refine (c1.out _).mono ?_
  rintro e w1 ⟨rfl,hB1⟩
  have hZ1:=HZ.out.below hB1 (by simp)
  have HB1:Hid (Below w.heap.size w w1):=(yaa (Below.refl _ _) (zG _)).trans (hB1.mono (by simp))
  have hs1:w.heap.size < w1.heap.size:=by have:=hB1.size; simp at this; omega
  have hne:w.heap.size≠w1.heap.size:=by omega
  have HZ1:=hid hZ1
  obtain ⟨⟨z0,z1,z2,z3,z4,z5,z6,z7,z8,z9⟩,f0,f1,f2,f3,f4,f5,f6,f7,f8,f9⟩:=hZ1.all
  clear hZ1
  clear hB1 HZ c1
  go_wp2_with fail
  refine (c2.out _).mono ?_
  rintro e w' ⟨rfl,rfl⟩
  go_wp2_with fail
  refine (c3.out _).mono ?_
  rintro e w' ⟨rfl,rfl⟩
  go_wp2_with fail
  refine (c4.out _).mono ?_
  rintro e w' ⟨rfl,rfl⟩
  go_wp2_with fail
  refine (c5.out _).mono ?_
  rintro e w' ⟨rfl,rfl⟩
  go_wp2
  refine bodyPost_ret (yad rfl _ _ w.heap.size 0 _ _ rfl (ten_at' HZ1.out hs1 _ _ _ _ _ _ _ _ _ _ _) Tryz.underlying88 rfl yfe) rfl ⟨rfl,yjF HB1.out (zG _) (by omega) _ _ _ _ _ _ _ _ _ _ _⟩
theorem yhx (n:Int) (w:World) (h0:0≤n) (h1:n < 146097):Calls Tryz.prog 44 #[.int .i64 n] w fun e w'=>e= .returned (.tuple #[shN n, .bool true])∧Below w.heap.size w w':=by
 obtain ⟨y0,y1,m0,m1,d0,d1⟩:=yaL h0 h1
 obtain ⟨g1,g2,g3⟩:=yhh h0 h1
 have hm:((fMo n).toNat:Int)=fMo n:=by omega
 have c1:=hid (fun W=>yfw n W h0 h1)
 have c2:Hid (∀W,Calls Tryz.prog 85 #[.int .i64 (fY n), .int .i64 (fMo n), .int .i64 (fD n)] W fun e w'=>e= .returned (.tuple #[.int .i64 (fOr n), .bool true])∧Below W.heap.size W w'):=fun W=>by
  have:=yju (fY n) (fMo n).toNat (fD n) W (by omega) (by omega) (by omega) (by omega) d0 (by rw [hm]; exact d1)
  rw [hm,g1] at this; exact this
 have c3:Hid (∀W,Calls Tryz.prog 86 #[.int .i64 n, .int .i64 (fY n), .int .i64 (fMo n), .int .i64 (fD n), .int .i64 (fOr n)] W fun e w'=>e= .returned (shN n)∧Below W.heap.size W w'):=fun W=>yfH n _ _ _ _ W h0 (by omega) y0 (by omega) m0 m1 d0 d1 g2 g3
 have hsh:Hid (∃a0 a1 a2 a3 a4 a5 a6 a7 a8 a9:Int,shN n=sh10 a0 a1 a2 a3 a4 a5 a6 a7 a8 a9):=⟨_,_,_,_,_,_,_,_,_,_,rfl⟩
 obtain ⟨a0,a1,a2,a3,a4,a5,a6,a7,a8,a9,hs⟩:=hsh.out
 rw [hs] at c3⊢
 obtain ⟨y,hy⟩:∃o,fY n=o:=⟨_,rfl⟩
 obtain ⟨mo,hmo⟩:∃o,fMo n=o:=⟨_,rfl⟩
 obtain ⟨d,hd⟩:∃o,fD n=o:=⟨_,rfl⟩
 obtain ⟨o,ho⟩:∃o,fOr n=o:=⟨_,rfl⟩
 rw [hy,hmo,hd] at c1 c2 c3
 rw [ho] at c2 c3
 have HZ:=hid (z10_new w 88)
 clear y0 y1 m0 m1 d0 d1 g1 g2 g3 hm hs hsh hy hmo hd ho
 go_enter Tryz.func44,Tryz.ntmps44
 go_wp2_with fail
 refine (c1.out _).mono ?_
 rintro e w1 ⟨rfl,hB1⟩
 have hZ1:=hid (HZ.out.below hB1 (by simp))
 have HB1:Hid (Below w.heap.size w w1):=(yaa (Below.refl _ _) (zG _)).trans (hB1.mono (by simp))
 have hs1:w.heap.size < w1.heap.size:=by have:=hB1.size; simp at this; omega
 clear hB1
 go_wp2_with fail
 refine (c2.out _).mono ?_
 rintro e w2 ⟨rfl,hB2⟩
 have hZ2:=hid (hZ1.out.below hB2 hs1)
 have HB2:Hid (Below w.heap.size w w2):=HB1.out.trans (hB2.mono (by omega))
 have hs2:w.heap.size < w2.heap.size:=by have:=hB2.size; omega
 clear hB2
 go_wp2_with fail
 refine (c3.out _).mono ?_
 rintro e w3 ⟨rfl,hB3⟩
 have hZ3:=hZ2.out.below hB3 hs2
 have HB3:Hid (Below w.heap.size w w3):=HB2.out.trans (hB3.mono (by omega))
 have HZ3:=hid hZ3
 obtain ⟨⟨z0,z1,z2,z3,z4,z5,z6,z7,z8,z9⟩,f0,f1,f2,f3,f4,f5,f6,f7,f8,f9⟩:=hZ3.all
 clear hB3 hZ3
 go_wp2
 refine bodyPost_ret (yaD rfl _ _ w.heap.size 0 _ _ rfl (ten_at HZ3.out _ _ _ _ _ _ _ _ _ _) Tryz.underlying88 rfl yfe) rfl ⟨rfl,ygO HB3.out (zG _) _ _ _ _ _ _ _ _ _ _⟩
theorem yks (n:Int) (w:World) (h0:0≤n) (h1:n < 146097):Calls Tryz.prog 48 #[.int .i64 n] w fun e w'=>e= .returned (shN n)∧Below w.heap.size w w':=by
 obtain ⟨y0,y1,m0,m1,d0,d1⟩:=yaL h0 h1
 obtain ⟨g1,g2,g3⟩:=yhh h0 h1
 have hm:((fMo n).toNat:Int)=fMo n:=by omega
 have hlb:=ybm (fY n) (fMo n)
 have hl:=ybn (fY n)
 have c1:=hid (fun W=>yfs n W h0 h1)
 have c2:Hid (∀W,Calls Tryz.prog 92 #[.int .i64 (fY n), .int .i64 (fMo n), .int .i64 (fD n)] W fun e w'=>e= .returned (.int .i64 (fOr n))∧W=w'):=fun W=>by
  have:=ROrd_any (fY n) (fMo n).toNat (fD n) W (by omega) (by omega) (by omega) (by omega) d0 (by omega)
  rw [hm,g1] at this; exact this
 have c3:=hid (fun W=>ydv (fY n) (fMo n) W (by omega) m0 m1)
 have c4:=hid (fun W=>yhA (fY n) W (by omega))
 have c5:=hid (fun W=>yfX (fD n) (lenI (fY n) (fMo n)) W d0 d1 (by omega))
 have c6:=hid (fun W=>yfX (fOr n) (365+yaO (fY n)) W g2 g3 (by omega))
 have c7:=hid (fun W=>ygD n W h0 (by omega))
 unfold shN shv
 have hback:Hid (lenI (fY n) (fMo n)+1 - fD n=lenI (fY n) (fMo n) - fD n+1):=by show _ = _; omega
 obtain ⟨y,hy⟩:∃o,fY n=o:=⟨_,rfl⟩
 obtain ⟨mo,hmo⟩:∃o,fMo n=o:=⟨_,rfl⟩
 obtain ⟨d,hd⟩:∃o,fD n=o:=⟨_,rfl⟩
 obtain ⟨o,ho⟩:∃o,fOr n=o:=⟨_,rfl⟩
 simp only [hy,hmo,hd,ho] at c1 c2 c3 c4 c5 c6 hback m0 m1 d0 d1 hlb g1 g2 g3⊢
 obtain ⟨l,hll⟩:∃o,lenI y mo=o:=⟨_,rfl⟩
 simp only [hll] at c3 c5 hback d1 hlb⊢
 obtain ⟨al,hal⟩:∃o,365+yaO y=o:=⟨_,rfl⟩
 simp only [hal] at c4 c6 g3⊢
 obtain ⟨wd,hwd⟩:∃l,(n % 7+3) % 7+1=l:=⟨_,rfl⟩
 rw [hwd] at c7⊢
 obtain ⟨i1,hi1⟩:∃l,(d - 1) / 7+1=l:=⟨_,rfl⟩
 rw [hi1] at c5⊢
 obtain ⟨i2,hi2⟩:∃x,(l - d) / 7+1=x:=⟨_,rfl⟩
 rw [hi2] at c5⊢
 obtain ⟨i3,hi3⟩:∃x,(o - 1) / 7+1=x:=⟨_,rfl⟩
 rw [hi3] at c6⊢
 obtain ⟨i4,hi4⟩:∃x,(al - o) / 7+1=x:=⟨_,rfl⟩
 rw [hi4] at c6⊢
 rw [←hback.out]
 clear hback hy hmo hd ho hll hal hwd hi1 hi2 hi3 hi4 hl hm g1
 go_enter Tryz.func48,Tryz.ntmps48
 go_wp2_with (first
  | (go_at_call 76; refine (c1.out _).mono ?_; rintro e w' ⟨rfl,rfl⟩)
  | (go_at_call 92; refine (c2.out _).mono ?_; rintro e w' ⟨rfl,rfl⟩)
  | (go_at_call 90; refine (c3.out _).mono ?_; rintro e w' ⟨rfl,rfl⟩)
  | (go_at_call 93; refine (c4.out _).mono ?_; rintro e w' ⟨rfl,rfl⟩)
  | (go_at_call 33; refine (c7.out _).mono ?_; rintro e w' ⟨rfl,rfl⟩)
  | (go_at_call 91; (first | with_reducible refine (c5.out _).mono ?_ | with_reducible refine (c6.out _).mono ?_); rintro e w' ⟨rfl,rfl⟩))
 refine bodyPost_ret (yad rfl _ _ w.heap.size 0 _ _ rfl (yau w _ _) Tryz.underlying88 rfl yfe) rfl ⟨rfl,yaa (Below.refl _ _) (zG _)⟩
end
section
open Go.RowKit
def ybB (p:Nat→Bool):Nat→Nat
 | 0=>0
 | n+1=>ybB p n+(if p n then 2 ^ n else 0)
theorem ye4 (p:Nat→Bool) (n:Nat):ybB p n < 2 ^ n:=by
 induction n with
 | zero=>simp [ybB]
 | succ n ih=>rw [ybB,Nat.pow_succ]; split <;> omega
theorem yh6 (p:Nat→Bool) (n i:Nat):(ybB p n).testBit i= (decide (i < n) && p i):=by
 induction n with
 | zero=>simp [ybB]
 | succ n ih=>
   have hlt:=ye4 p n
   rw [ybB]
   by_cases hp:p n=true
   ·rw [if_pos hp,Nat.add_comm]
    by_cases hi:i=n
    ·subst hi
     rw [Nat.testBit_two_pow_add_eq,Nat.testBit_lt_two_pow hlt]
     simp [hp]
    ·rcases Nat.lt_or_gt_of_ne hi with h | h
     ·rw [Nat.testBit_two_pow_add_gt h,ih]
      simp [h,show i < n+1 by omega]
     ·have:(2 ^ n+ybB p n) < 2 ^ i:=zH (by omega:2 ^ n+ybB p n < 2 ^ (n+1)) (Nat.pow_le_pow_right (by omega) (by omega))
      rw [Nat.testBit_lt_two_pow this]
      simp [show¬i < n+1 by omega]
   ·rw [if_neg hp,Nat.add_zero,ih]
    by_cases hi:i=n
    ·subst hi
     simp [Bool.eq_false_iff.2 hp]
    ·by_cases h:i < n
     ·simp [h,show i < n+1 by omega]
     ·simp [h,show¬i < n+1 by omega]
def mk (p:Nat→Bool):Nat:=ybB p 64
theorem yaP (p:Nat→Bool):mk p < 18446744073709551616:=ye4 p 64
theorem ybh (p:Nat→Bool) (i:Nat):(mk p).testBit i= (decide (i < 64) && p i):=yh6 p 64 i
theorem ydB {m i:Nat} (hm:m < 18446744073709551616) (hi:64≤i):m.testBit i=false:=
 Nat.testBit_lt_two_pow (zH hm (Nat.pow_le_pow_right (n:=2) (by omega) hi))
theorem yhj {m:Nat} {p:Nat→Bool} (hm:m < 18446744073709551616) (h:∀i,i < 64→m.testBit i=p i):m=mk p:=by
 apply Nat.eq_of_testBit_eq
 intro i
 rw [ybh]
 by_cases hi:i < 64
 ·rw [h i hi]; simp [hi]
 ·rw [ydB hm (by omega)]; simp [hi]
theorem ybf {p q:Nat→Bool} (h:∀i,i < 64→p i=q i):mk p=mk q:=
 yhj (yaP p) (fun i hi=>by rw [ybh]; simp [hi,h i hi])
theorem yb1:mk (fun _=>false)=0:=(yhj (by omega) (fun i _=>by simp)).symm
theorem ybd {a:Nat} (ha:a < 18446744073709551616):(BitVec.ofInt 64 (a:Int)).toNat=a:=by
 rw [BitVec.ofInt_natCast,BitVec.toNat_ofNat]; exact Nat.mod_eq_of_lt (by omega)
theorem ybx {a:Nat} (ha:a < 18446744073709551616):IntKind.u64.wrap (a:Int)=a:=by
 rw [IntKind.wrap_u64]; omega
theorem ybI {a b:Nat} (ha:a < 18446744073709551616) (hb:b < 18446744073709551616):bits .or .u64 (a:Int) (b:Int)= ((a ||| b:Nat):Int):=by
 show IntKind.u64.wrap ((BitVec.ofInt 64 (a:Int) ||| BitVec.ofInt 64 (b:Int)).toNat:Int)= _
 rw [BitVec.toNat_or,ybd ha,ybd hb]
 exact ybx (Nat.or_lt_two_pow (n:=64) ha hb)
theorem yaE {a b:Nat} (ha:a < 18446744073709551616) (hb:b < 18446744073709551616):bits .and .u64 (a:Int) (b:Int)= ((a &&& b:Nat):Int):=by
 show IntKind.u64.wrap ((BitVec.ofInt 64 (a:Int) &&& BitVec.ofInt 64 (b:Int)).toNat:Int)= _
 rw [BitVec.toNat_and,ybd ha,ybd hb]
 exact ybx (Nat.lt_of_le_of_lt Nat.and_le_left ha)
theorem yjO {a b:Nat} (ha:a < 18446744073709551616) (hb:b < 18446744073709551616):a ||| b < 18446744073709551616:=Nat.or_lt_two_pow (n:=64) ha hb
theorem ybk {a b:Nat} (ha:a < 18446744073709551616):a &&& b < 18446744073709551616:=Nat.lt_of_le_of_lt Nat.and_le_left ha
theorem ydg {n:Nat} (h:n < 64):2 ^ n < 18446744073709551616:=Nat.pow_lt_pow_right (a:=2) (m:=n) (n:=64) (by omega) h
theorem ycT {n:Nat} (h:n < 64):IntKind.u64.wrap ((2:Int) ^ n)= ((2 ^ n:Nat):Int):=by
 have e:((2:Int) ^ n)= ((2 ^ n:Nat):Int):=by simp
 rw [e]; exact ybx (ydg h)
theorem has_bit {m n:Nat} (hm:m < 18446744073709551616):(bits .and .u64 ((m:Int) / 2 ^ n) 1 == 1)=m.testBit n:=by
 have e:((m:Int) / 2 ^ n)= ((m / 2 ^ n:Nat):Int):=by simp
 have h:=yaE (a:=m / 2 ^ n) (b:=1) (Nat.lt_of_le_of_lt (Nat.div_le_self _ _) hm) (by omega)
 rw [e,show (1:Int)= ((1:Nat):Int) from rfl,h,Nat.and_one_is_mod,Nat.testBit_eq_decide_div_mod_eq]
 rw [zze]
 simp
 omega
end
section
open Go.RowKit
def hasB (m:Nat) (n:Int):Bool:=decide (0≤n) && m.testBit n.toNat
theorem yb9 (m:Nat) (n:Int) (w:World) (hm:m < 18446744073709551616):Calls Tryz.prog 82 #[.int .u64 m, .int .i64 n] w fun e w'=>e= .returned (.bool (hasB m n))∧w=w':=by
 have hb:=fun k=>has_bit (n:=k) hm
 have Hb:=hid hb
 have Hm:=hid (fun i (hi:64≤i)=>ydB hm hi)
 clear hb
 by_cases h0:n < 0
 ·have hr:Hid (hasB m n=false):=by show hasB m n=false; simp [hasB]; omega
  go_enter Tryz.func82,Tryz.ntmps82
  go_wp2
  go_ret
  rw [hr.out]; exact ⟨rfl,rfl⟩
 by_cases h1:64≤n
 ·have hr:Hid (hasB m n=false):=by show hasB m n=false; rw [hasB,Hm.out n.toNat (by omega)]; simp
  go_enter Tryz.func82,Tryz.ntmps82
  go_wp2
  go_ret
  rw [hr.out]; exact ⟨rfl,rfl⟩
 obtain ⟨k,rfl⟩:=Int.eq_ofNat_of_zero_le (by omega:0≤n)
 have hr:Hid (hasB m (k:Int)=m.testBit k):=by show hasB m (k:Int)=m.testBit k; simp [hasB]
 go_enter Tryz.func82,Tryz.ntmps82
 go_wp2
 go_ret
 rw [hr.out,Hb.out]; exact ⟨rfl,rfl⟩
def inB (l:List Int) (k:Nat):Bool:=decide ((k:Int)∈l)
def ofM (l:List Int):Nat:=mk (inB l)
theorem yi7 (l:List Int) (x:Int) (k:Nat):inB (l ++ [x]) k= (inB l k || decide ((k:Int)=x)):=by simp [inB]
theorem ofM_out (l:List Int) (x:Int) (h:x < 0∨64≤x):ofM (l ++ [x])=ofM l:=
 ybf fun i hi=>by rw [yi7]; simp; omega
theorem ofM_in (l:List Int) (k:Nat) (h:k < 64):ofM l ||| 2 ^ k=ofM (l ++ [(k:Int)]):=by
 refine yhj (yjO (yaP _) (ydg h)) (fun i hi=>?_)
 rw [Nat.testBit_or,ofM,ybh,yi7,Nat.testBit_two_pow]
 simp [hi]
 by_cases h2:i=k
 ·subst h2; simp
 ·have h3:¬k=i:=fun e=>h2 e.symm
  have h4:¬(i:Int)= (k:Int):=by omega
  simp [h3,h4]
theorem ofM_nil:ofM []=0:=by rw [ofM,←yb1]; exact ybf fun i _=>by simp [inB]
theorem yei (a:Option Addr) (cap:Nat) (l:List Int) (w:World) (hl:l.length≤9223372036854775807) (hs:Sl w a (ints l)) :
  Calls Tryz.prog 68 #[.slice a l.length cap] w fun e w'=>e= .returned (.int .u64 (ofM l))∧Below w.heap.size w w':=by
 go_enter Tryz.func68,Tryz.ntmps68
 go_wp2
 go_loopw [3,8] (fun v i wr=>∃k:Nat,i= .int .i64 k∧k≤l.length∧v= .int .u64 (ofM (l.take k))∧Below w.heap.size w wr) (fun _ i _=>l.length - (intOf i).toNat)
 case atStart=>exact ⟨0,rfl,by omega,by rw [List.take_zero,ofM_nil]; rfl,Below.refl _ _⟩
 case round=>
  obtain ⟨k,rfl,hk,rfl,hB⟩:=hrel
  obtain ⟨M,hM⟩:∃M,ofM (l.take k)=M:=⟨_,rfl⟩
  have HM:=hid hM
  by_cases hlt:k < l.length
  ·obtain ⟨b,off,rfl,hb,hc⟩:=hs.atInt hlt
   have e1:=(hB.cell (p:=⟨b,off+k,none⟩) hb).trans (hc k hlt)
   have ht:=hid (yam l k hlt)
   obtain ⟨x,hx⟩:∃x,l[k]=x:=⟨_,rfl⟩
   rw [hx] at e1 ht
   rw [hM]
   have hMl:M < 18446744073709551616:=by rw [←hM]; exact yaP _
   clear hs hc hx hM
   by_cases h0:x < 0
   ·go_wp2
    exact ⟨⟨k+1,by go_num,by omega,by rw [ht.out,ofM_out _ _ (.inl h0),HM.out],hB⟩,by simp [intOf]; omega⟩
   by_cases h1:64≤x
   ·go_wp2
    exact ⟨⟨k+1,by go_num,by omega,by rw [ht.out,ofM_out _ _ (.inr h1),HM.out],hB⟩,by simp [intOf]; omega⟩
   obtain ⟨n,rfl⟩:=Int.eq_ofNat_of_zero_le (by omega:0≤x)
   have hn:n < 64:=by omega
   have hor:=ybI hMl (ydg hn)
   rw [←HM.out,ofM_in _ _ hn,HM.out] at hor
   have Hor:=hid hor
   clear hor
   go_wp2
   exact ⟨⟨k+1,by go_num,by omega,by rw [ht.out,ycT hn,Hor.out],hB⟩,by simp [intOf]; omega⟩
  ·have hke:k=l.length:=by omega
   have Hke:=hid hke
   clear hke hM
   go_wp2
   go_ret
   rw [Hke.out,List.take_length]
   exact ⟨rfl,hB⟩
/-! ### the document's -/
theorem shift_in (p:Nat→Bool) (n:Nat):ybB (fun i=>p (n+i)) (64 - n) < 18446744073709551616:=
 zH (ye4 _ _) (Nat.pow_le_pow_right (n:=2) (i:=64 - n) (j:=64) (by omega) (by omega))
theorem ye5 (p:Nat→Bool):∀(n:Nat),ybB p (n+1)=2 * ybB (fun i=>p (i+1)) n+(if p 0 then 1 else 0)
 | 0=>by simp [ybB]
 | n+1=>by
   rw [ybB,ye5 p n,ybB,Nat.pow_succ]
   by_cases h:p (n+1)=true
   ·rw [if_pos h,if_pos h]; omega
   ·rw [if_neg h,if_neg h]; omega
def upM (p:Nat→Bool) (n:Nat):Nat:=ybB (fun i=>p (n+i)) (64 - n)
theorem yiI (p:Nat→Bool) (n:Nat) (h:n < 64):upM p n=2 * upM p (n+1)+(if p n then 1 else 0):=by
 unfold upM
 rw [show 64 - n= (64 - (n+1))+1 by omega,ye5]
 simp only [Nat.add_zero]
 congr 3
 funext i
 congr 1
 omega
theorem upM_64 (p:Nat→Bool):upM p 64=0:=rfl
theorem upM_0 (p:Nat→Bool):upM p 0=mk p:=by unfold upM mk; congr 1; funext i; rw [zzn]
theorem upM_lt (p:Nat→Bool) (n:Nat):upM p n < 18446744073709551616:=shift_in p n
theorem upM_half (p:Nat→Bool) (n:Nat):2 * upM p (n+1) < 18446744073709551616∨64≤n:=by
 by_cases h:64≤n
 ·exact .inr h
 ·left
  have:=yiI p n (by omega)
  have h2:=upM_lt p n
  split at this <;> omega
theorem ygC (a:Option Addr) (cap:Nat) (l:List Int) (w:World) (hl:l.length≤9223372036854775807) (hs:Sl w a (ints l)) :
  Calls Tryz.prog 32 #[.slice a l.length cap] w fun e w'=>e= .returned (.int .u64 (ofM l))∧Below w.heap.size w w':=by
 go_enter Tryz.func32,Tryz.ntmps32
 go_wp2
 go_loopw [3,4] (fun v i wr=>∃n:Nat,n≤64∧i= .int .i64 ((n:Int) - 1)∧v= .int .u64 (upM (inB l) n)∧Below w.heap.size w wr) (fun _ i _=>(intOf i+1).toNat)
 case atStart=>exact ⟨64,by omega,by simp,by rw [upM_64]; rfl,Below.refl _ _⟩
 case round=>
  obtain ⟨wo,rfl⟩:∃wo:World,wo=wr:=⟨_,rfl⟩
  obtain ⟨n,hn,rfl,rfl,hB⟩:=hrel
  cases n with
  | zero=>
    go_wp2
    go_ret
    rw [upM_0]
    exact ⟨rfl,hB⟩
  | succ n=>
    have hst:=hid (yiI (inB l) n (by omega))
    have hh:=upM_half (inB l) n
    obtain ⟨M,hM⟩:∃M,upM (inB l) (n+1)=M:=⟨_,rfl⟩
    have HM:=hid hM
    rw [hM] at hst hh⊢
    have hM2:2 * M < 18446744073709551616:=by omega
    have e1:((n+1:Nat):Int) - 1= (n:Int):=by omega
    rw [e1]
    clear hM e1
    go_wp2
    go_loopw [3,5] (fun v i wr=>∃j:Nat,i= .int .i64 j∧j≤l.length∧v= .int .u64 (2 * (M:Int))∧(∀t,(h:t < j)→(h2:t < l.length)→l[t]≠(n:Int))∧Below w.heap.size w wr) (fun _ i _=>l.length - (intOf i).toNat)
    case atStart=>exact ⟨0,rfl,by omega,rfl,fun t h=>by omega,hB⟩
    case round=>
     obtain ⟨j,rfl,hj,rfl,hno,hB2⟩:=hrel
     have Hno:=hid hno
     clear hno hB
     by_cases hlt:j < l.length
     ·obtain ⟨b,off,rfl,hb,hc⟩:=hs.atInt hlt
      have e1:=(hB2.cell (p:=⟨b,off+j,none⟩) hb).trans (hc j hlt)
      obtain ⟨x,hx⟩:∃x,l[j]=x:=⟨_,rfl⟩
      rw [hx] at e1
      have Hx:=hid hx
      clear hs hc hx
      by_cases hxn:x= (n:Int)
      ·have hb1:(x == (n:Int))=true:=by simp [hxn]
       have Hxn:=hid hxn
       have hin:inB l n=true:=by simp only [inB,zzY]; rw [←hxn,←Hx.out]; exact zzr _
       have hst2:=hst.out
       rw [hin,if_pos rfl] at hst2
       have Hst:=hid hst2
       have hml:=upM_lt (inB l) n
       rw [hst2] at hml
       clear hxn hin hst2
       go_wp2
       refine ⟨⟨n,by omega,by go_num,?_,hB2⟩,by simp [intOf]⟩
       rw [Hst.out]; go_num
      ·have hb1:(x == (n:Int))=false:=by simp [hxn]
       have Hxn:=hid hxn
       clear hxn
       go_wp2
       refine ⟨⟨j+1,by go_num,by omega,rfl,?_,hB2⟩,by simp [intOf]; omega⟩
       intro t ht ht2
       by_cases htj:t=j
       ·subst htj; rw [Hx.out]; exact Hxn.out
       ·exact Hno.out t (by omega) ht2
     ·have hin:inB l n=false:=by
       simp only [inB,decide_eq_false_iff_not]
       intro hm
       obtain ⟨t,ht,he⟩:=List.getElem_of_mem hm
       exact Hno.out t (by omega) ht he
      have hst2:=hst.out
      rw [hin] at hst2
      have Hst:=hid hst2
      clear hin hst2
      go_wp2
      refine ⟨⟨n,by omega,by go_num,?_,hB2⟩,by simp [intOf]⟩
      rw [Hst.out]; simp
end
section
open Go.RowKit
def ydc (f t s:Int) (k:Nat):Bool:=decide (1≤s∧f≤(k:Int)∧(k:Int)≤t∧((k:Int) - f) % s=0)
def ybc (f t s:Int):Nat:=mk (ydc f t s)
def ydD (f t s:Int) (n:Nat):Nat:=mk (fun k=>ydc f t s k && decide (k < n))
theorem ye3 {a b s:Int} (hs:1≤s) (ha:a % s=0) (hb:b % s=0) (h1:a < b) (h2:b < a+s):False:=by
 have h:=Int.emod_emod_of_dvd (b - a) (Int.dvd_refl s)
 have h3:(b - a) % s=0:=by rw [Int.sub_emod,ha,hb]; simp
 have h4:(b - a) % s=b - a:=Int.emod_eq_of_lt (by omega) (by omega)
 omega
theorem ycp (f t s:Int) (n:Nat) (hs:1≤s) (h64:n < 64) (hf:f≤(n:Int)) (ht:(n:Int)≤t) (hm:((n:Int) - f) % s=0) (q:Nat) (hq:(q:Int)=n+s∨64≤q∧(q:Int)≤n+s) :
  ydD f t s n ||| 2 ^ n=ydD f t s q:=by
 refine yhj (yjO (yaP _) (ydg h64)) (fun k hk=>?_)
 rw [Nat.testBit_or,ydD,ybh,Nat.testBit_two_pow]
 by_cases hkn:n=k
 ·subst hkn
  have:ydc f t s n=true:=by simp only [ydc,zzY]; exact ⟨hs,hf,ht,hm⟩
  simp [this]
  omega
 ·rcases Nat.lt_or_gt_of_ne hkn with h | h
  ·by_cases hb:ydc f t s k=true
   ·simp only [ydc,zzY] at hb
    have hbq:¬(k:Int) < n+s:=fun h2=>ye3 hs hm hb.2.2.2 (by omega) (by omega)
    have e1:¬k < n:=by omega
    have e2:¬k < q:=by omega
    simp [hkn,e1,e2]
   ·simp [hb,hkn]
  ·have e1:k < n:=h
   have e2:k < q:=by omega
   simp [hkn,e1,e2,hk]
theorem ycY (f t s:Int) (n:Nat) (h:64≤n∨t < (n:Int)):ydD f t s n=ybc f t s:=
 ybf fun k hk=>by
  rcases h with h | h
  ·simp [show k < n by omega]
  ·by_cases hb:ydc f t s k=true
   ·simp only [ydc,zzY] at hb
    simp [show k < n by omega]
   ·simp [hb]
theorem yem (f t s:Int) (n:Nat) (hs:1≤s) (hm:((n:Int) - f) % s=0) (h:(n:Int)=f∨(n:Int) < s):ydD f t s n=0:=by
 rw [←yb1]
 refine ybf fun k hk=>?_
 by_cases hb:ydc f t s k=true
 ·simp only [ydc,zzY] at hb
  have:¬k < n:=by
   intro hkn
   rcases h with h | h
   ·omega
   ·exact ye3 hs hb.2.2.2 hm (by omega) (by omega)
  simp [this]
 ·simp [hb]
theorem span_none (f t s:Int) (h:s < 1):ybc f t s=0:=by
 rw [ybc,←yb1]
 exact ybf fun k _=>by simp [ydc]; omega
theorem ybO (f t s:Int) (w:World) (hf:-9223372036854775808≤f∧f≤9223372036854775807) (hsm:s≤9223372036854775807) :
  Calls Tryz.prog 64 #[.int .i64 f, .int .i64 t, .int .i64 s] w fun e w'=>e= .returned (.int .u64 (ybc f t s))∧w=w':=by
 obtain ⟨hf1,hf2⟩:=hf
 by_cases hs:s < 1
 ·have hr:=hid (span_none f t s hs)
  go_enter Tryz.func64,Tryz.ntmps64
  go_wp2
  go_ret
  rw [hr.out]; exact ⟨rfl,rfl⟩
 by_cases h0:f < 0
 ·obtain ⟨r,hr⟩:∃r,(f+1).tmod s=r:=⟨_,rfl⟩
  have hr1:-s < r∧r≤0:=by
   subst hr
   rw [show f+1= -(-(f+1)) by omega,Int.neg_tmod,Int.tmod_eq_emod_of_nonneg (by omega)]
   have:=Int.emod_nonneg (-(f+1)) (show s≠0 by omega)
   have:=Int.emod_lt_of_pos (-(f+1)) (show 0 < s by omega)
   omega
  obtain ⟨n0,hn0⟩:=Int.eq_ofNat_of_zero_le (show 0≤r - 1+s by omega)
  have hmod:((n0:Int) - f) % s=0:=by
   rw [←hn0,←hr]
   have:=Int.tmod_add_mul_tdiv (f+1) s
   rw [show (f+1).tmod s - 1+s - f=s * (1 - (f+1).tdiv s) by rw [Int.mul_sub]; omega]
   exact Int.mul_emod_right _ _
  have Hst:=hid (yem f t s n0 (by omega) hmod (.inr (by omega)))
  have Hmod:=hid hmod
  have Hn0:=hid hn0
  have hn1:f≤(n0:Int):=by omega
  have hn2:(n0:Int) < s:=by omega
  obtain ⟨hr2,hr3⟩:=hr1
  clear hmod hn0
  go_enter Tryz.func64,Tryz.ntmps64
  go_wp2
  rw [Hn0.out]
  go_loop [7,8] (fun v i=>∃n:Nat,i= .int .i64 n∧v= .int .u64 (ydD f t s n)∧f≤(n:Int)∧((n:Int) - f) % s=0) (fun _ i=>(64 - intOf i).toNat)
  case atStart=>exact ⟨n0,rfl,by rw [Hst.out]; rfl,hn1,Hmod.out⟩
  case round=>
   obtain ⟨n,rfl,rfl,hfn,hm⟩:=hrel
   have Hm:=hid hm
   have Hall:=hid (ycY f t s n)
   obtain ⟨M,hM⟩:∃M,ydD f t s n=M:=⟨_,rfl⟩
   have HM:=hid hM
   rw [hM] at Hall⊢
   have hMl:M < 18446744073709551616:=by rw [←hM]; exact yaP _
   clear hM hm
   by_cases h64:64≤n
   ·have hr:=hid (Hall.out (.inl h64))
    go_wp2
    go_ret
    rw [hr.out]; exact ⟨rfl,rfl⟩
   by_cases hnt:t < (n:Int)
   ·have hr:=hid (Hall.out (.inr hnt))
    go_wp2
    go_ret
    rw [hr.out]; exact ⟨rfl,rfl⟩
   have hn64:n < 64:=by omega
   have hor:=hid (ybI hMl (ydg hn64))
   by_cases h65:64≤s
   ·have hst:=ycp f t s n (by omega) hn64 hfn (by omega) Hm.out 64 (.inr ⟨by omega,by omega⟩)
    have hr:Hid (M ||| 2 ^ n=ybc f t s):=by show M ||| 2 ^ n=ybc f t s; rw [←HM.out,hst]; exact ycY f t s 64 (.inl (by omega))
    clear hst
    go_wp2
    go_ret
    rw [ycT hn64,hor.out,hr.out]; exact ⟨rfl,rfl⟩
   ·obtain ⟨q,hq⟩:=Int.eq_ofNat_of_zero_le (show 0≤(n:Int)+s by omega)
    have hst:=hid (ycp f t s n (by omega) hn64 hfn (by omega) Hm.out q (.inl hq.symm))
    have hq2:((q:Int) - f) % s=0:=by rw [←hq,show (n:Int)+s - f= ((n:Int) - f)+s by omega,Int.add_emod,Hm.out]; simp
    have Hq:=hid hq
    have Hq2:=hid hq2
    have hq3:f≤(q:Int):=by omega
    have hq4:(64 - ((n:Int)+s)).toNat < (64 - (n:Int)).toNat:=by omega
    clear hq hq2
    go_wp2
    refine ⟨⟨q,by rw [Hq.out],?_,hq3,Hq2.out⟩,by simp only [intOf]; exact hq4⟩
    rw [ycT hn64,hor.out,←HM.out,hst.out]
 ·obtain ⟨n0,rfl⟩:=Int.eq_ofNat_of_zero_le (by omega:0≤f)
  have hmod:((n0:Int) - (n0:Int)) % s=0:=by simp
  have Hst:=hid (yem (n0:Int) t s n0 (by omega) hmod (.inl rfl))
  have Hmod:=hid hmod
  have hn1:(n0:Int)≤(n0:Int):=by omega
  clear hmod
  go_enter Tryz.func64,Tryz.ntmps64
  go_wp2
  go_loop [7,8] (fun v i=>∃n:Nat,i= .int .i64 n∧v= .int .u64 (ydD (n0:Int) t s n)∧(n0:Int)≤(n:Int)∧((n:Int) - (n0:Int)) % s=0) (fun _ i=>(64 - intOf i).toNat)
  case atStart=>exact ⟨n0,rfl,by rw [Hst.out]; rfl,hn1,Hmod.out⟩
  case round=>
   obtain ⟨n,rfl,rfl,hfn,hm⟩:=hrel
   have Hm:=hid hm
   have Hall:=hid (ycY (n0:Int) t s n)
   obtain ⟨M,hM⟩:∃M,ydD (n0:Int) t s n=M:=⟨_,rfl⟩
   have HM:=hid hM
   rw [hM] at Hall⊢
   have hMl:M < 18446744073709551616:=by rw [←hM]; exact yaP _
   clear hM hm
   by_cases h64:64≤n
   ·have hr:=hid (Hall.out (.inl h64))
    go_wp2
    go_ret
    rw [hr.out]; exact ⟨rfl,rfl⟩
   by_cases hnt:t < (n:Int)
   ·have hr:=hid (Hall.out (.inr hnt))
    go_wp2
    go_ret
    rw [hr.out]; exact ⟨rfl,rfl⟩
   have hn64:n < 64:=by omega
   have hor:=hid (ybI hMl (ydg hn64))
   by_cases h65:64≤s
   ·have hst:=ycp (n0:Int) t s n (by omega) hn64 hfn (by omega) Hm.out 64 (.inr ⟨by omega,by omega⟩)
    have hr:Hid (M ||| 2 ^ n=ybc (n0:Int) t s):=by show M ||| 2 ^ n=ybc (n0:Int) t s; rw [←HM.out,hst]; exact ycY (n0:Int) t s 64 (.inl (by omega))
    clear hst
    go_wp2
    go_ret
    rw [ycT hn64,hor.out,hr.out]; exact ⟨rfl,rfl⟩
   ·obtain ⟨q,hq⟩:=Int.eq_ofNat_of_zero_le (show 0≤(n:Int)+s by omega)
    have hst:=hid (ycp (n0:Int) t s n (by omega) hn64 hfn (by omega) Hm.out q (.inl hq.symm))
    have hq2:((q:Int) - (n0:Int)) % s=0:=by rw [←hq,show (n:Int)+s - (n0:Int)= ((n:Int) - (n0:Int))+s by omega,Int.add_emod,Hm.out]; simp
    have Hq:=hid hq
    have Hq2:=hid hq2
    have hq3:(n0:Int)≤(q:Int):=by omega
    have hq4:(64 - ((n:Int)+s)).toNat < (64 - (n:Int)).toNat:=by omega
    clear hq hq2
    go_wp2
    refine ⟨⟨q,by rw [Hq.out],?_,hq3,Hq2.out⟩,by simp only [intOf]; exact hq4⟩
    rw [ycT hn64,hor.out,←HM.out,hst.out]
end
section
open Go.RowKit
theorem eInt:El Tryz.prog 22 3 (.int .i64 0) 1 8:=⟨Tryz.underlying22,by kernel_rfl,by kernel_rfl,by decide⟩
def sel (p:Nat→Bool) (n:Nat):List Int:=((List.range n).filter p).map (fun (k:Nat)=>(k:Int))
theorem yiO (p:Nat→Bool):sel p 0= []:=rfl
theorem ydj {p:Nat→Bool} {n:Nat} (h:p n=true):sel p (n+1)=sel p n ++ [(n:Int)]:=by simp [sel,List.range_succ,h]
theorem yfJ {p:Nat→Bool} {n:Nat} (h:p n=false):sel p (n+1)=sel p n:=by simp [sel,List.range_succ,h]
theorem yeU (p:Nat→Bool) (n:Nat):(sel p n).length≤n:=by
 simp only [sel,List.length_map]
 exact zI (List.length_filter_le _ _) (by simp)
theorem sel_mem {p:Nat→Bool} {n:Nat} {x:Int}:x∈sel p n↔∃k:Nat,k < n∧p k=true∧x= (k:Int):=by
 simp only [sel,List.mem_map,List.mem_filter,List.mem_range]
 constructor
 ·rintro ⟨k,⟨h1,h2⟩,rfl⟩; exact ⟨k,h1,h2,rfl⟩
 ·rintro ⟨k,h1,h2,rfl⟩; exact ⟨k,⟨h1,h2⟩,rfl⟩
end
end Go.Proofs.YtjahgimnfliooaaGreatDoor
