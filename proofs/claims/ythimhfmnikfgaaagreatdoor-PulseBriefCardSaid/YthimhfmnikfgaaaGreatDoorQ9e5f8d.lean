/-
  What a day of the window is: week.Shape and feriaref06.Shape.
-/
import Derived.Test.YthimhfmnikfgaaaGreatDoorQ1ec8e9
import Derived.Deep.MidRow
namespace Go.Proofs.YthimhfmnikfgaaaGreatDoor
open Go.RowKit
set_option linter.unusedVariables false
abbrev sh10 (n y m d b wk i1 i2 i3 i4:Int):Value:= .agg #[.int .i64 n, .int .i64 y, .int .i64 m, .int .i64 d, .int .i64 b, .int .i64 wk, .int .i64 i1, .int .i64 i2, .int .i64 i3, .int .i64 i4]
abbrev shv (n y m d o:Int):Value:=sh10 n y m d (lenI y m - d+1) ((n % 7+3) % 7+1) ((d - 1) / 7+1) ((lenI y m - d) / 7+1) ((o - 1) / 7+1) ((365+leapI y - o) / 7+1)
def shN (n:Int):Value:=shv n (fY n) (fMo n) (fD n) (fOr n)
theorem WkDay_any (n:Int) (w:World) (h0:0≤n):Calls Tryz.prog 187 #[.int .i64 n] w fun e w'=>e= .returned (.int .i64 ((n % 7+3) % 7+1))∧w=w':=by
 have c1:=hid (fun W=>Mod_pos n 7 W h0 (by omega))
 have c2:=hid (fun W=>Mod_pos (n % 7+3) 7 W (by omega) (by omega))
 have b1:0≤n % 7∧n % 7 < 7:=by omega
 have b2:0≤(n % 7+3) % 7∧(n % 7+3) % 7 < 7:=by omega
 obtain ⟨q,hq⟩:∃q,(n % 7+3) % 7=q:=⟨_,rfl⟩
 rw [hq] at c2 b2⊢
 obtain ⟨p,hp⟩:∃q,n % 7=q:=⟨_,rfl⟩
 rw [hp] at c1 c2 b1
 clear hp hq
 go_enter Tryz.func187,Tryz.ntmps187
 go_wp2_with fail
 refine (c1.out _).mono ?_
 rintro e w' ⟨rfl,rfl⟩
 go_wp2_with fail
 refine (c2.out _).mono ?_
 rintro e w' ⟨rfl,rfl⟩
 go_wp2
 go_ret
 exact ⟨rfl,rfl⟩
theorem Which_any (a l:Int) (w:World) (h1:1≤a) (h2:a≤l) (h3:l≤400):Calls Tryz.prog 188 #[.int .i64 a, .int .i64 l] w fun e w'=>e= .returned (.tuple #[.int .i64 ((a - 1) / 7+1), .int .i64 ((l - a) / 7+1)])∧w=w':=by
 have b1:0≤(a - 1) / 7∧(a - 1) / 7≤400:=by omega
 have b2:0≤(l - a) / 7∧(l - a) / 7≤400:=by omega
 have n1:¬a < 1:=by omega
 have n2:¬l < a:=by omega
 go_enter Tryz.func188,Tryz.ntmps188
 go_wp2
 go_ret2
 exact ⟨rfl,rfl⟩
theorem RWhich_any (a l:Int) (w:World) (h1:1≤a) (h2:a≤l) (h3:l≤400):Calls Tryz.prog 131 #[.int .i64 a, .int .i64 l] w fun e w'=>e= .returned (.tuple #[.int .i64 ((a - 1) / 7+1), .int .i64 ((l - a) / 7+1)])∧w=w':=by
 have b1:0≤(a - 1) / 7∧(a - 1) / 7≤400:=by omega
 have b2:0≤(l - a) / 7∧(l - a) / 7≤400:=by omega
 have n1:¬a < 1:=by omega
 have n2:¬l < a:=by omega
 go_enter Tryz.func131,Tryz.ntmps131
 go_wp2
 go_ret2
 exact ⟨rfl,rfl⟩
theorem RDay_any (n:Int) (w:World) (h0:0≤n) (h1:n≤9223372036854775807):Calls Tryz.prog 133 #[.int .i64 n] w fun e w'=>e= .returned (.int .i64 ((n % 7+3) % 7+1))∧w=w':=by
 have c1:=hid (fun W=>RMod_pos n 7 W h0 (by omega) h1)
 obtain ⟨p,hp⟩:∃p:Nat,n % 7=p:=⟨(n % 7).toNat,by omega⟩
 have hp7:p < 7:=by omega
 rw [hp] at c1⊢
 clear hp
 go_enter Tryz.func133,Tryz.ntmps133
 go_wp2_with fail
 refine (c1.out _).mono ?_
 rintro e w' ⟨rfl,rfl⟩
 go_wp2_with fail
 go_loopw [4,5] (fun v i wr=>∃k:Nat,i= .int .i64 k∧k≤p∧v= .int .i64 (((k+3) % 7+1:Nat):Int)∧wr=w) (fun _ i _=>p - (intOf i).toNat)
 case atStart=>exact ⟨0,rfl,by omega,rfl,rfl⟩
 case round=>
  obtain ⟨k,rfl,hk,rfl,rfl⟩:=hrel
  have hs:Hid ((((k+3) % 7+1) % 7+1:Nat)= (k+1+3) % 7+1):=by show _ = _; omega
  have hR:Hid (k=p→((((k+3) % 7+1:Nat)):Int)= ((p:Int)+3) % 7+1):=fun e=>by rw [e]; omega
  obtain ⟨q,hq⟩:∃q:Nat,(k+3) % 7+1=q:=⟨_,rfl⟩
  have hqb:q≤7:=by omega
  rw [hq] at hs hR⊢
  clear hq
  by_cases hlt:k < p
  ·have hkI:(k:Int) < (p:Int):=by omega
   go_wp2
   exact ⟨⟨k+1,by go_num,by omega,by rw [←hs.out]; congr 1,trivial⟩,by simp [intOf]; omega⟩
  ·have hkp:=hR.out (by omega)
   have Hkp:=hid hkp
   clear hkp
   go_wp2
   go_ret
   exact ⟨by rw [←Hkp.out]; rfl,by trivial⟩
/-! ### a struct that is handed back out of its block -/
theorem results_cell_mid {P:Program} {fn:Func} {p:Tmp} {ty:TypeId} (h:fn.results= #[.cell p ty]) (tmps:Array Value) (w:World) (b o:Nat) (cs:List Value) (d:TypeDesc)
  (hp:tmps.getD p undef= .pointer (some ⟨b,o,none⟩)) (hc:w.rangeAt b o cs) (hu:P.underlying ty=some d) (hd:d.isRow=true) (hi:(P.info? ty).map (·.size)=some cs.length) :
  (results fn tmps).run P w= .ok (.agg cs.toArray) w:=by
 have hp':tmps[p]?.getD undef= .pointer (some ⟨b,o,none⟩):=by simpa using hp
 simp [results,h,hp',asAddr,run_loadVar_mid w b o ty cs d hc hu hd hi]
theorem results_cell_mid2 {P:Program} {fn:Func} {p t:Tmp} {ty:TypeId} (h:fn.results= #[.cell p ty, .tmp t]) (tmps:Array Value) (w:World) (b o:Nat) (cs:List Value) (d:TypeDesc)
  (hp:tmps.getD p undef= .pointer (some ⟨b,o,none⟩)) (hc:w.rangeAt b o cs) (hu:P.underlying ty=some d) (hd:d.isRow=true) (hi:(P.info? ty).map (·.size)=some cs.length) :
  (results fn tmps).run P w= .ok (.tuple #[.agg cs.toArray,tmps.getD t undef]) w:=by
 have hp':tmps[p]?.getD undef= .pointer (some ⟨b,o,none⟩):=by simpa using hp
 simp [results,h,hp',asAddr,run_loadVar_mid w b o ty cs d hc hu hd hi]
theorem below_setCells {B:Nat} {a:World} {b:Nat} (hb:B≤b):∀(vs:List Value) (o:Nat) (w:World),Below B a w→Below B a (w.setCells b o vs)
 | [],_,_,h=>h
 | v :: vs,o,w,h=>by rw [World.setCells]; exact below_setCells hb vs (o+1) _ (below_set h hb)
theorem rangeAt_alloc {W:World} {b o:Nat} {cs:List Value} (h:W.rangeAt b o cs) (hb:b < W.heap.size) (x:Obj):(W.alloc x).rangeAt b o cs:=fun j v hv=>
 ((below_new (Below.refl _ W) (zG _)).cell (p:=⟨b,o+j,none⟩) hb).trans (h j v hv)
theorem there_below {W W':World} {b o n B:Nat} (h:W.there b o n) (hb:Below B W W') (hB:b < B):W'.there b o n:=fun j hj=>by
 obtain ⟨h1,h2⟩:=h j hj
 exact ⟨by rw [hb.cell (p:=⟨b,o+j,none⟩) hB]; exact h1,(hb.frozen (p:=⟨b,o+j,none⟩) hB).trans h2⟩
def Z10 (W:World) (b:Nat):Prop:=∀i,i < 10→W.cell? ⟨b,i,none⟩=some (.int .i64 0)∧W.frozen? ⟨b,i,none⟩=false
theorem Z10.below {W W':World} {b B:Nat} (h:Z10 W b) (hb:Below B W W') (hB:b < B):Z10 W' b:=fun i hi=>⟨(hb.cell (p:=⟨b,i,none⟩) hB).trans (h i hi).1,(hb.frozen (p:=⟨b,i,none⟩) hB).trans (h i hi).2⟩
theorem z10_new (w:World) (t:TypeId):Z10 (w.alloc (.cells #[.int .i64 0, .int .i64 0, .int .i64 0, .int .i64 0, .int .i64 0, .int .i64 0, .int .i64 0, .int .i64 0, .int .i64 0, .int .i64 0] t)) w.heap.size:=by
 intro i hi
 have:i=0∨i=1∨i=2∨i=3∨i=4∨i=5∨i=6∨i=7∨i=8∨i=9:=by omega
 rcases this with rfl | rfl | rfl | rfl | rfl | rfl | rfl | rfl | rfl | rfl <;> exact ⟨by simp [go_sem],by simp [go_sem]⟩
theorem Z10.there {W:World} {b:Nat} (h:Z10 W b):W.there b 0 10:=fun j hj=>by
 rw [Nat.zero_add]
 exact ⟨by rw [(h j hj).1]; rfl,(h j hj).2⟩
theorem Z10.all {W:World} {b:Nat} (h:Z10 W b):(W.cell? ⟨b,0,none⟩=some (.int .i64 0)∧W.cell? ⟨b,1,none⟩=some (.int .i64 0)∧W.cell? ⟨b,2,none⟩=some (.int .i64 0)∧W.cell? ⟨b,3,none⟩=some (.int .i64 0)∧W.cell? ⟨b,4,none⟩=some (.int .i64 0)∧
  W.cell? ⟨b,5,none⟩=some (.int .i64 0)∧W.cell? ⟨b,6,none⟩=some (.int .i64 0)∧W.cell? ⟨b,7,none⟩=some (.int .i64 0)∧W.cell? ⟨b,8,none⟩=some (.int .i64 0)∧W.cell? ⟨b,9,none⟩=some (.int .i64 0))∧
  (W.frozen? ⟨b,0,none⟩=false∧W.frozen? ⟨b,1,none⟩=false∧W.frozen? ⟨b,2,none⟩=false∧W.frozen? ⟨b,3,none⟩=false∧W.frozen? ⟨b,4,none⟩=false∧
  W.frozen? ⟨b,5,none⟩=false∧W.frozen? ⟨b,6,none⟩=false∧W.frozen? ⟨b,7,none⟩=false∧W.frozen? ⟨b,8,none⟩=false∧W.frozen? ⟨b,9,none⟩=false):=
 ⟨⟨(h 0 (by omega)).1,(h 1 (by omega)).1,(h 2 (by omega)).1,(h 3 (by omega)).1,(h 4 (by omega)).1,(h 5 (by omega)).1,(h 6 (by omega)).1,(h 7 (by omega)).1,(h 8 (by omega)).1,(h 9 (by omega)).1⟩,
  (h 0 (by omega)).2,(h 1 (by omega)).2,(h 2 (by omega)).2,(h 3 (by omega)).2,(h 4 (by omega)).2,(h 5 (by omega)).2,(h 6 (by omega)).2,(h 7 (by omega)).2,(h 8 (by omega)).2,(h 9 (by omega)).2⟩
theorem ten_range {W:World} {b:Nat} (h:Z10 W b) (vs:List Value) (hl:vs.length=10):(W.setCells b 0 vs).rangeAt b 0 vs:=World.rangeAt_setCells_same _ _ _ _ (by rw [hl]; exact h.there)
abbrev ten (W:World) (b:Nat) (v0 v1 v2 v3 v4 v5 v6 v7 v8 v9:Value):World:=
 (((((((((W.setCell ⟨b,0,none⟩ v0).setCell ⟨b,1,none⟩ v1).setCell ⟨b,2,none⟩ v2).setCell ⟨b,3,none⟩ v3).setCell ⟨b,4,none⟩ v4).setCell ⟨b,5,none⟩ v5).setCell ⟨b,6,none⟩ v6).setCell ⟨b,7,none⟩ v7).setCell ⟨b,8,none⟩ v8).setCell ⟨b,9,none⟩ v9
theorem ten_eq (W:World) (b:Nat) (v0 v1 v2 v3 v4 v5 v6 v7 v8 v9:Value):ten W b v0 v1 v2 v3 v4 v5 v6 v7 v8 v9=W.setCells b 0 [v0,v1,v2,v3,v4,v5,v6,v7,v8,v9]:=rfl
theorem ten_size (W:World) (b:Nat) (v0 v1 v2 v3 v4 v5 v6 v7 v8 v9:Value):(ten W b v0 v1 v2 v3 v4 v5 v6 v7 v8 v9).heap.size=W.heap.size:=by simp [ten]
theorem ten_below {B:Nat} {a W:World} {b:Nat} (h:Below B a W) (hb:B≤b) (v0 v1 v2 v3 v4 v5 v6 v7 v8 v9:Value):Below B a (ten W b v0 v1 v2 v3 v4 v5 v6 v7 v8 v9):=by
 rw [ten_eq]; exact below_setCells hb _ _ _ h
theorem ten_at {W:World} {b:Nat} (h:Z10 W b) (v0 v1 v2 v3 v4 v5 v6 v7 v8 v9:Value):(ten W b v0 v1 v2 v3 v4 v5 v6 v7 v8 v9).rangeAt b 0 [v0,v1,v2,v3,v4,v5,v6,v7,v8,v9]:=by
 rw [ten_eq]; exact ten_range h _ rfl
theorem ten_at' {W:World} {b:Nat} (h:Z10 W b) (hb:b < W.heap.size) (o:Obj) (v0 v1 v2 v3 v4 v5 v6 v7 v8 v9:Value):((ten W b v0 v1 v2 v3 v4 v5 v6 v7 v8 v9).alloc o).rangeAt b 0 [v0,v1,v2,v3,v4,v5,v6,v7,v8,v9]:=
 rangeAt_alloc (ten_at h _ _ _ _ _ _ _ _ _ _) (by rw [ten_size]; exact hb) o
theorem ten_below' {B:Nat} {a W:World} {b:Nat} (h:Below B a W) (hb:B≤b) (hs:B≤W.heap.size) (o:Obj) (v0 v1 v2 v3 v4 v5 v6 v7 v8 v9:Value):Below B a ((ten W b v0 v1 v2 v3 v4 v5 v6 v7 v8 v9).alloc o):=
 below_new (ten_below h hb _ _ _ _ _ _ _ _ _ _) (by rw [ten_size]; exact hs)
theorem range_new (w:World) (l:List Value) (t:TypeId):(w.alloc (.cells l.toArray t)).rangeAt w.heap.size 0 l:=fun j v hv=>by
 obtain ⟨hj,e⟩:=List.getElem?_eq_some_iff.1 hv
 rw [Nat.zero_add]
 simp [go_sem,hj,e]
theorem there_new (w:World) (cs:Array Value) (t:TypeId):(w.alloc (.cells cs t)).there w.heap.size 0 cs.size:=fun j hj=>by
 rw [Nat.zero_add]
 refine ⟨?_,by simp [go_sem]⟩
 simp [go_sem,hj]
theorem infoShape:(Tryz.prog.info? 124).map (·.size)=some 10:=by kernel_rfl
set_option maxHeartbeats 3200000 in
theorem shaped_any (n y m d o:Int) (w:World) (hn0:0≤n) (hn1:n < 200000) (hy0:1970≤y) (hy1:y≤2400) (hm0:1≤m) (hm1:m≤12) (hd0:1≤d) (hd1:d≤lenI y m) (ho0:1≤o) (ho1:o≤365+leapI y) :
  Calls Tryz.prog 161 #[.int .i64 n, .int .i64 y, .int .i64 m, .int .i64 d, .int .i64 o] w fun e w'=>e= .returned (shv n y m d o)∧Below w.heap.size w w':=by
 have c1:=hid (fun W=>Length_any y m W (by omega) hm0 hm1)
 have c2:=hid (fun W=>Leap_any y W (by omega))
 have c3:=hid (fun W=>WkDay_any n W hn0)
 have hlb:=lenI_bd y m
 have c4:=hid (fun W=>Which_any d (lenI y m) W hd0 hd1 (by omega))
 have hl:=leapB_I y
 have c5:=hid (fun W=>Which_any o (365+leapI y) W ho0 ho1 (by rcases hl with h | h <;> omega))
 unfold shv
 obtain ⟨l,hll⟩:∃l,lenI y m=l:=⟨_,rfl⟩
 rw [hll] at c1 c4 hd1 hlb⊢
 obtain ⟨wd,hwd⟩:∃l,(n % 7+3) % 7+1=l:=⟨_,rfl⟩
 rw [hwd] at c3⊢
 obtain ⟨i1,hi1⟩:∃l,(d - 1) / 7+1=l:=⟨_,rfl⟩
 rw [hi1] at c4⊢
 obtain ⟨i2,hi2⟩:∃x,(l - d) / 7+1=x:=⟨_,rfl⟩
 rw [hi2] at c4⊢
 obtain ⟨i3,hi3⟩:∃x,(o - 1) / 7+1=x:=⟨_,rfl⟩
 rw [hi3] at c5⊢
 obtain ⟨i4,hi4⟩:∃x,(365+leapI y - o) / 7+1=x:=⟨_,rfl⟩
 rw [hi4] at c5⊢
 clear hll hwd hi1 hi2 hi3 hi4
 have HZ:=hid (z10_new w 124)
 rcases hl with ⟨e1,e2⟩ | ⟨e1,e2⟩
 all_goals
  rw [e1] at c2
  rw [e2] at c5
  first | rw [show (365:Int)+1=366 from rfl] at c5 | rw [show (365:Int)+0=365 from rfl] at c5
  clear e1 e2 ho1
  go_enter Tryz.func161,Tryz.ntmps161
  go_wp2_with fail
  refine (c1.out _).mono ?_
  rintro e w1 ⟨rfl,hB1⟩
  have hZ1:=HZ.out.below hB1 (by simp)
  have HB1:Hid (Below w.heap.size w w1):=(below_new (Below.refl _ _) (zG _)).trans (hB1.mono (by simp))
  have hs1:w.heap.size < w1.heap.size:=by have:=hB1.size; simp at this; omega
  have hne:w.heap.size≠w1.heap.size:=by omega
  have HZ1:=hid hZ1
  obtain ⟨⟨z0,z1,z2,z3,z4,z5,z6,z7,z8,z9⟩,f0,f1,f2,f3,f4,f5,f6,f7,f8,f9⟩:=hZ1.all
  clear hZ1
  clear hB1 HZ c1
  go_wp2_with fail
  refine (c2.out _).mono ?_
  rintro e w' ⟨rfl,rfl⟩
  go_wp2_with fail
  refine (c3.out _).mono ?_
  rintro e w' ⟨rfl,rfl⟩
  go_wp2_with fail
  refine (c4.out _).mono ?_
  rintro e w' ⟨rfl,rfl⟩
  go_wp2_with fail
  refine (c5.out _).mono ?_
  rintro e w' ⟨rfl,rfl⟩
  go_wp2
  refine bodyPost_ret (results_cell_mid rfl _ _ w.heap.size 0 _ _ rfl (ten_at' HZ1.out hs1 _ _ _ _ _ _ _ _ _ _ _) Tryz.underlying124 rfl infoShape) rfl ⟨rfl,ten_below' HB1.out (zG _) (by omega) _ _ _ _ _ _ _ _ _ _ _⟩
set_option maxHeartbeats 3200000 in
theorem Shape_any (n:Int) (w:World) (h0:0≤n) (h1:n < 146097):Calls Tryz.prog 175 #[.int .i64 n] w fun e w'=>e= .returned (.tuple #[shN n, .bool true])∧Below w.heap.size w w':=by
 obtain ⟨y0,y1,m0,m1,d0,d1⟩:=fDate_year h0 h1
 obtain ⟨g1,g2,g3⟩:=fOr_ms h0 h1
 have hm:((fMo n).toNat:Int)=fMo n:=by omega
 have c1:=hid (fun W=>CDate_any n W h0 h1)
 have c2:Hid (∀W,Calls Tryz.prog 160 #[.int .i64 (fY n), .int .i64 (fMo n), .int .i64 (fD n)] W fun e w'=>e= .returned (.tuple #[.int .i64 (fOr n), .bool true])∧Below W.heap.size W w'):=fun W=>by
  have:=COrd_any (fY n) (fMo n).toNat (fD n) W (by omega) (by omega) (by omega) (by omega) d0 (by rw [hm]; exact d1)
  rw [hm,g1] at this; exact this
 have c3:Hid (∀W,Calls Tryz.prog 161 #[.int .i64 n, .int .i64 (fY n), .int .i64 (fMo n), .int .i64 (fD n), .int .i64 (fOr n)] W fun e w'=>e= .returned (shN n)∧Below W.heap.size W w'):=fun W=>shaped_any n _ _ _ _ W h0 (by omega) y0 (by omega) m0 m1 d0 d1 g2 g3
 have hsh:Hid (∃a0 a1 a2 a3 a4 a5 a6 a7 a8 a9:Int,shN n=sh10 a0 a1 a2 a3 a4 a5 a6 a7 a8 a9):=⟨_,_,_,_,_,_,_,_,_,_,rfl⟩
 obtain ⟨a0,a1,a2,a3,a4,a5,a6,a7,a8,a9,hs⟩:=hsh.out
 rw [hs] at c3⊢
 obtain ⟨y,hy⟩:∃o,fY n=o:=⟨_,rfl⟩
 obtain ⟨mo,hmo⟩:∃o,fMo n=o:=⟨_,rfl⟩
 obtain ⟨d,hd⟩:∃o,fD n=o:=⟨_,rfl⟩
 obtain ⟨o,ho⟩:∃o,fOr n=o:=⟨_,rfl⟩
 rw [hy,hmo,hd] at c1 c2 c3
 rw [ho] at c2 c3
 have HZ:=hid (z10_new w 124)
 clear y0 y1 m0 m1 d0 d1 g1 g2 g3 hm hs hsh hy hmo hd ho
 go_enter Tryz.func175,Tryz.ntmps175
 go_wp2_with fail
 refine (c1.out _).mono ?_
 rintro e w1 ⟨rfl,hB1⟩
 have hZ1:=hid (HZ.out.below hB1 (by simp))
 have HB1:Hid (Below w.heap.size w w1):=(below_new (Below.refl _ _) (zG _)).trans (hB1.mono (by simp))
 have hs1:w.heap.size < w1.heap.size:=by have:=hB1.size; simp at this; omega
 clear hB1
 go_wp2_with fail
 refine (c2.out _).mono ?_
 rintro e w2 ⟨rfl,hB2⟩
 have hZ2:=hid (hZ1.out.below hB2 hs1)
 have HB2:Hid (Below w.heap.size w w2):=HB1.out.trans (hB2.mono (by omega))
 have hs2:w.heap.size < w2.heap.size:=by have:=hB2.size; omega
 clear hB2
 go_wp2_with fail
 refine (c3.out _).mono ?_
 rintro e w3 ⟨rfl,hB3⟩
 have hZ3:=hZ2.out.below hB3 hs2
 have HB3:Hid (Below w.heap.size w w3):=HB2.out.trans (hB3.mono (by omega))
 have HZ3:=hid hZ3
 obtain ⟨⟨z0,z1,z2,z3,z4,z5,z6,z7,z8,z9⟩,f0,f1,f2,f3,f4,f5,f6,f7,f8,f9⟩:=hZ3.all
 clear hB3 hZ3
 go_wp2
 refine bodyPost_ret (results_cell_mid2 rfl _ _ w.heap.size 0 _ _ rfl (ten_at HZ3.out _ _ _ _ _ _ _ _ _ _) Tryz.underlying124 rfl infoShape) rfl ⟨rfl,ten_below HB3.out (zG _) _ _ _ _ _ _ _ _ _ _⟩
set_option maxHeartbeats 3200000 in
theorem RShape_any (n:Int) (w:World) (h0:0≤n) (h1:n < 146097):Calls Tryz.prog 67 #[.int .i64 n] w fun e w'=>e= .returned (shN n)∧Below w.heap.size w w':=by
 obtain ⟨y0,y1,m0,m1,d0,d1⟩:=fDate_year h0 h1
 obtain ⟨g1,g2,g3⟩:=fOr_ms h0 h1
 have hm:((fMo n).toNat:Int)=fMo n:=by omega
 have hlb:=lenI_bd (fY n) (fMo n)
 have hl:=leapI_bd (fY n)
 have c1:=hid (fun W=>RDate_any n W h0 h1)
 have c2:Hid (∀W,Calls Tryz.prog 132 #[.int .i64 (fY n), .int .i64 (fMo n), .int .i64 (fD n)] W fun e w'=>e= .returned (.int .i64 (fOr n))∧W=w'):=fun W=>by
  have:=ROrd_any (fY n) (fMo n).toNat (fD n) W (by omega) (by omega) (by omega) (by omega) d0 (by omega)
  rw [hm,g1] at this; exact this
 have c3:=hid (fun W=>RLength_any (fY n) (fMo n) W (by omega) m0 m1)
 have c4:=hid (fun W=>RYear_any (fY n) W (by omega))
 have c5:=hid (fun W=>RWhich_any (fD n) (lenI (fY n) (fMo n)) W d0 d1 (by omega))
 have c6:=hid (fun W=>RWhich_any (fOr n) (365+leapI (fY n)) W g2 g3 (by omega))
 have c7:=hid (fun W=>RDay_any n W h0 (by omega))
 unfold shN shv
 have hback:Hid (lenI (fY n) (fMo n)+1 - fD n=lenI (fY n) (fMo n) - fD n+1):=by show _ = _; omega
 obtain ⟨y,hy⟩:∃o,fY n=o:=⟨_,rfl⟩
 obtain ⟨mo,hmo⟩:∃o,fMo n=o:=⟨_,rfl⟩
 obtain ⟨d,hd⟩:∃o,fD n=o:=⟨_,rfl⟩
 obtain ⟨o,ho⟩:∃o,fOr n=o:=⟨_,rfl⟩
 simp only [hy,hmo,hd,ho] at c1 c2 c3 c4 c5 c6 hback m0 m1 d0 d1 hlb g1 g2 g3⊢
 obtain ⟨l,hll⟩:∃o,lenI y mo=o:=⟨_,rfl⟩
 simp only [hll] at c3 c5 hback d1 hlb⊢
 obtain ⟨al,hal⟩:∃o,365+leapI y=o:=⟨_,rfl⟩
 simp only [hal] at c4 c6 g3⊢
 obtain ⟨wd,hwd⟩:∃l,(n % 7+3) % 7+1=l:=⟨_,rfl⟩
 rw [hwd] at c7⊢
 obtain ⟨i1,hi1⟩:∃l,(d - 1) / 7+1=l:=⟨_,rfl⟩
 rw [hi1] at c5⊢
 obtain ⟨i2,hi2⟩:∃x,(l - d) / 7+1=x:=⟨_,rfl⟩
 rw [hi2] at c5⊢
 obtain ⟨i3,hi3⟩:∃x,(o - 1) / 7+1=x:=⟨_,rfl⟩
 rw [hi3] at c6⊢
 obtain ⟨i4,hi4⟩:∃x,(al - o) / 7+1=x:=⟨_,rfl⟩
 rw [hi4] at c6⊢
 rw [←hback.out]
 clear hback hy hmo hd ho hll hal hwd hi1 hi2 hi3 hi4 hl hm g1
 go_enter Tryz.func67,Tryz.ntmps67
 go_wp2_with (first
  | (go_at_call 43; refine (c1.out _).mono ?_; rintro e w' ⟨rfl,rfl⟩)
  | (go_at_call 132; refine (c2.out _).mono ?_; rintro e w' ⟨rfl,rfl⟩)
  | (go_at_call 102; refine (c3.out _).mono ?_; rintro e w' ⟨rfl,rfl⟩)
  | (go_at_call 101; refine (c4.out _).mono ?_; rintro e w' ⟨rfl,rfl⟩)
  | (go_at_call 133; refine (c7.out _).mono ?_; rintro e w' ⟨rfl,rfl⟩)
  | (go_at_call 131; (first | with_reducible refine (c5.out _).mono ?_ | with_reducible refine (c6.out _).mono ?_); rintro e w' ⟨rfl,rfl⟩))
 refine bodyPost_ret (results_cell_mid rfl _ _ w.heap.size 0 _ _ rfl (range_new w _ _) Tryz.underlying124 rfl infoShape) rfl ⟨rfl,below_new (Below.refl _ _) (zG _)⟩
end Go.Proofs.YthimhfmnikfgaaaGreatDoor
