/-
  What the functions of moment, unit, feriaref08 and feriaref10 compute, of the window.
  Whether an instant is on a step: unit.On and feriaref10.On.
  unit.Days: the functions that tell whether a day may have instants on a step.
  ferialaw02.MaskSpans answers true for every list, span, mask.
-/
import Derived.Test.YtjahgimnfliooaaGreatDoorQbd5244
import Derived.Test.YtjahgimnfliooaaGreatDoorQe6aba9
import Derived.OwnWalk
import Derived.Deep.RegionHeld3
set_option maxRecDepth 100000
set_option maxHeartbeats 25600000
namespace Go.Proofs.YtjahgimnfliooaaGreatDoor
set_option linter.unusedVariables false
section
open Go.RowKit
def winB (t:Int):Bool:=decide (0≤t∧t < 12622780800)
theorem ya4 (t:Int):(winB t=true∧0≤t∧t < 12622780800)∨(winB t=false∧(t < 0∨12622780800≤t)):=by
 by_cases h:0≤t∧t < 12622780800
 ·exact .inl ⟨zzZ h,h⟩
 ·exact .inr ⟨zzd h,by omega⟩
theorem yft (t:Int) (w:World):Calls Tryz.prog 38 #[.int .i64 t] w fun e w'=>e= .returned (.bool (winB t))∧w=w':=by
 rcases ya4 t with ⟨e,h0,h1⟩ | ⟨e,h⟩
 ·rw [e]; clear e
  go_enter Tryz.func38,Tryz.ntmps38
  go_wp2
  go_ret
  exact ⟨rfl,rfl⟩
 ·rw [e]; clear e
  rcases h with h | h
  ·go_enter Tryz.func38,Tryz.ntmps38
   go_wp2
   go_ret
   exact ⟨rfl,rfl⟩
  ·have h0:0≤t:=by omega
   go_enter Tryz.func38,Tryz.ntmps38
   go_wp2
   go_ret
   exact ⟨by first | rfl | exact yaT (by simp; omega),rfl⟩
theorem ydS (t:Int) (w:World):Calls Tryz.prog 46 #[.int .i64 t] w fun e w'=>e= .returned (.bool (winB t))∧w=w':=by
 rcases ya4 t with ⟨e,h0,h1⟩ | ⟨e,h⟩
 ·rw [e]; clear e
  have h2:t≤12622780799:=by omega
  go_enter Tryz.func46,Tryz.ntmps46
  go_wp2
  go_ret
  exact ⟨by first | rfl | exact yaT (by simp; omega),rfl⟩
 ·rw [e]; clear e
  rcases h with h | h
  ·go_enter Tryz.func46,Tryz.ntmps46
   go_wp2
   go_ret
   exact ⟨rfl,rfl⟩
  ·have h0:0≤t:=by omega
   have h2:¬t≤12622780799:=by omega
   go_enter Tryz.func46,Tryz.ntmps46
   go_wp2
   go_ret
   exact ⟨by first | rfl | exact yaT (by simp; omega),rfl⟩
theorem ybq (t:Int) (w:World) (h0:0≤t) (h1:t < 12622780800):Calls Tryz.prog 39 #[.int .i64 t] w fun e w'=>e= .returned (.tuple #[.int .i64 (t / 86400), .int .i64 (t % 86400), .bool true])∧w=w':=by
 have c1:=hid (yft t w)
 rw [show winB t=true from zzZ ⟨h0,h1⟩] at c1
 go_enter Tryz.func39,Tryz.ntmps39
 go_wp2_with fail
 refine c1.out.mono ?_
 rintro e w' ⟨rfl,rfl⟩
 go_wp2
 refine bodyPost_ret (results_tmp3 rfl _ _ _) rfl ?_
 exact ⟨rfl,rfl⟩
theorem yeH (t:Int) (w:World) (h:winB t=false):Calls Tryz.prog 39 #[.int .i64 t] w fun e w'=>e= .returned (.tuple #[.int .i64 0, .int .i64 0, .bool false])∧w=w':=by
 have c1:=hid (yft t w)
 rw [h] at c1
 clear h
 go_enter Tryz.func39,Tryz.ntmps39
 go_wp2_with fail
 refine c1.out.mono ?_
 rintro e w' ⟨rfl,rfl⟩
 go_wp2
 refine bodyPost_ret (results_tmp3 rfl _ _ _) rfl ?_
 exact ⟨rfl,rfl⟩
/-! ### weeks -/
def wkN (n:Int):Int:=n / 7+(if 4≤n % 7 then 1 else 0)
theorem yik (n:Int) (w:World) (h0:0≤n) (h1:n < 200000):Calls Tryz.prog 171 #[.int .i64 n] w fun e w'=>e= .returned (.int .i64 (wkN n))∧w=w':=by
 have c1:=hid (yfu n 7 w h0 (by omega) (by omega))
 have c2:=hid (ygF n 7 w h0 (by omega))
 have b1:0≤n / 7∧n / 7 < 200000:=by omega
 have hr:Hid (wkN n=n / 7+(if 4≤n % 7 then 1 else 0)):=rfl
 obtain ⟨q,hq⟩:∃q,n / 7=q:=⟨_,rfl⟩
 obtain ⟨m,hm⟩:∃q,n % 7=q:=⟨_,rfl⟩
 rw [hq] at c1 b1 hr
 rw [hm] at c2 hr
 clear hq hm
 by_cases h4:4≤m
 ·rw [if_pos h4] at hr
  go_enter Tryz.func171,Tryz.ntmps171
  go_wp2_with fail
  refine c1.out.mono ?_
  rintro e w' ⟨rfl,rfl⟩
  go_wp2_with fail
  refine c2.out.mono ?_
  rintro e w' ⟨rfl,rfl⟩
  go_wp2
  go_ret
  exact ⟨by rw [hr.out]; rfl,rfl⟩
 ·rw [if_neg h4,Int.add_zero] at hr
  go_enter Tryz.func171,Tryz.ntmps171
  go_wp2_with fail
  refine c1.out.mono ?_
  rintro e w' ⟨rfl,rfl⟩
  go_wp2_with fail
  refine c2.out.mono ?_
  rintro e w' ⟨rfl,rfl⟩
  go_wp2
  go_ret
  exact ⟨by rw [hr.out]; rfl,rfl⟩
theorem yit (n:Int) (w:World) (h0:0≤n) (h1:n < 200000):Calls Tryz.prog 99 #[.int .i64 n] w fun e w'=>e= .returned (.int .i64 (wkN n))∧w=w':=by
 have c1:=hid (yeh n 7 w h0 (by omega) (by omega))
 have c2:=hid (yjp n 7 w h0 (by omega) (by omega))
 have b1:0≤n / 7∧n / 7 < 200000:=by omega
 have hr:Hid (wkN n=n / 7+(if 4≤n % 7 then 1 else 0)):=rfl
 obtain ⟨q,hq⟩:∃q,n / 7=q:=⟨_,rfl⟩
 obtain ⟨m,hm⟩:∃q,n % 7=q:=⟨_,rfl⟩
 rw [hq] at c1 b1 hr
 rw [hm] at c2 hr
 clear hq hm
 by_cases h4:4≤m
 ·rw [if_pos h4] at hr
  go_enter Tryz.func99,Tryz.ntmps99
  go_wp2_with fail
  refine c1.out.mono ?_
  rintro e w' ⟨rfl,rfl⟩
  go_wp2_with fail
  refine c2.out.mono ?_
  rintro e w' ⟨rfl,rfl⟩
  go_wp2
  go_ret
  exact ⟨by rw [hr.out]; rfl,rfl⟩
 ·rw [if_neg h4,Int.add_zero] at hr
  go_enter Tryz.func99,Tryz.ntmps99
  go_wp2_with fail
  refine c1.out.mono ?_
  rintro e w' ⟨rfl,rfl⟩
  go_wp2_with fail
  refine c2.out.mono ?_
  rintro e w' ⟨rfl,rfl⟩
  go_wp2
  go_ret
  exact ⟨by rw [hr.out]; rfl,rfl⟩
/-! ### units -/
def yav (u:Int):Int:=if u=0 then 1 else if u=1 then 60 else if u=2 then 3600 else 0
theorem yd0 (u:Int):u=0∨u=1∨u=2∨(u≠0∧u≠1∧u≠2∧yav u=0):=by
 by_cases h0:u=0
 ·exact .inl h0
 ·by_cases h1:u=1
  ·exact .inr (.inl h1)
  ·by_cases h2:u=2
   ·exact .inr (.inr (.inl h2))
   ·exact .inr (.inr (.inr ⟨h0,h1,h2,by simp [yav,h0,h1,h2]⟩))
theorem ydR (u:Int) (w:World):Calls Tryz.prog 128 #[.int .i64 u] w fun e w'=>e= .returned (.int .i64 (yav u))∧Below w.heap.size w w':=by
 rcases yd0 u with rfl | rfl | rfl | ⟨h0,h1,h2,h3⟩
 case inr.inr.inr=>
  rw [h3]
  clear h3
  by_cases hn:u < 0
  ·go_enter Tryz.func128,Tryz.ntmps128
   go_wp2
   go_ret
   exact ⟨rfl,yaa (Below.refl _ _) (zG _)⟩
  ·have h3:3≤u:=by omega
   clear h0 h1 h2
   go_enter Tryz.func128,Tryz.ntmps128
   go_wp2
   go_ret
   exact ⟨rfl,yaa (Below.refl _ _) (zG _)⟩
 all_goals
  go_enter Tryz.func128,Tryz.ntmps128
  go_wp2
  go_ret
  exact ⟨rfl,yaa (Below.refl _ _) (zG _)⟩
def whD (u n:Int):Int:=if u=3 then n else if u=4 then wkN n else if u=5 then 12 * fY n+fMo n - 1 else fY n
def whU (u t:Int):Int:=if u=0 then t else if u=1 then t / 60 else if u=2 then t / 3600 else whD u (t / 86400)
theorem wkN_bd {n:Int} (h0:0≤n) (h1:n < 146097):0≤wkN n∧wkN n < 30000:=by unfold wkN; split <;> omega
theorem whD_bd {u n:Int} (h0:0≤n) (h1:n < 146097):0≤whD u n∧whD u n < 200000:=by
 obtain ⟨y0,y1,m0,m1,_⟩:=yaL h0 h1
 have:=wkN_bd h0 h1
 unfold whD
 split
 ·omega
 ·split
  ·omega
  ·split <;> omega
theorem whU_bd {u t:Int} (h0:0≤t) (h1:t < 12622780800):0≤whU u t∧whU u t < 12622780800:=by
 have:=whD_bd (u:=u) (n:=t / 86400) (by omega) (by omega)
 unfold whU
 split
 ·omega
 ·split
  ·omega
  ·split <;> omega
theorem yhE (u n:Int) (w:World) (hu0:3≤u) (hu1:u≤6) (h0:0≤n) (h1:n < 146097):Calls Tryz.prog 129 #[.int .i64 u,shN n] w fun e w'=>e= .returned (.int .i64 (whD u n))∧Below w.heap.size w w':=by
 obtain ⟨y0,y1,m0,m1,_⟩:=yaL h0 h1
 have c1:=hid (fun W=>yik n W h0 (by omega))
 have hcase:u=3∨u=4∨u=5∨u=6:=by omega
 have hr:Hid (whD 3 n=n∧whD 4 n=wkN n∧whD 5 n=12 * fY n+fMo n - 1∧whD 6 n=fY n):=⟨rfl,rfl,rfl,rfl⟩
 unfold shN shv sh10
 obtain ⟨a4,h4⟩:∃x,lenI (fY n) (fMo n) - fD n+1=x:=⟨_,rfl⟩
 obtain ⟨a5,h5⟩:∃x,(n % 7+3) % 7+1=x:=⟨_,rfl⟩
 obtain ⟨a6,h6⟩:∃x,(fD n - 1) / 7+1=x:=⟨_,rfl⟩
 obtain ⟨a7,h7⟩:∃x,(lenI (fY n) (fMo n) - fD n) / 7+1=x:=⟨_,rfl⟩
 obtain ⟨a8,h8⟩:∃x,(fOr n - 1) / 7+1=x:=⟨_,rfl⟩
 obtain ⟨a9,h9⟩:∃x,(365+yaO (fY n) - fOr n) / 7+1=x:=⟨_,rfl⟩
 rw [h4,h5,h6,h7,h8,h9]
 clear h4 h5 h6 h7 h8 h9
 obtain ⟨y,hy⟩:∃x,fY n=x:=⟨_,rfl⟩
 obtain ⟨m,hm⟩:∃x,fMo n=x:=⟨_,rfl⟩
 obtain ⟨d,hd⟩:∃x,fD n=x:=⟨_,rfl⟩
 rw [hy,hm] at hr
 rw [hy] at y0 y1
 rw [hm] at m0 m1
 rw [hy,hm,hd]
 clear hy hm hd hu0 hu1
 rcases hcase with rfl | rfl | rfl | rfl
 case inr.inl=>
  rw [hr.out.2.1]
  go_enter Tryz.func129,Tryz.ntmps129
  go_wp2_with fail
  refine (c1.out _).mono ?_
  rintro e w' ⟨rfl,rfl⟩
  go_wp2
  go_ret
  exact ⟨rfl,yaa (Below.refl _ _) (zG _)⟩
 ·rw [hr.out.1]
  go_enter Tryz.func129,Tryz.ntmps129
  go_wp2
  go_ret
  exact ⟨rfl,yaa (Below.refl _ _) (zG _)⟩
 ·rw [hr.out.2.2.1]
  go_enter Tryz.func129,Tryz.ntmps129
  go_wp2
  go_ret
  exact ⟨rfl,yaa (Below.refl _ _) (zG _)⟩
 ·rw [hr.out.2.2.2]
  go_enter Tryz.func129,Tryz.ntmps129
  go_wp2
  go_ret
  exact ⟨rfl,yaa (Below.refl _ _) (zG _)⟩
theorem whU_day {u t:Int} (h:3≤u):whU u t=whD u (t / 86400):=by
 unfold whU; rw [if_neg (by omega),if_neg (by omega),if_neg (by omega)]
theorem yko (u t:Int) (w:World) (hu0:0≤u) (hu1:u≤6) (h0:0≤t) (h1:t < 12622780800) :
  Calls Tryz.prog 83 #[.int .i64 u, .int .i64 t] w fun e w'=>e= .returned (.tuple #[.int .i64 (whU u t), .bool true])∧Below w.heap.size w w':=by
 have c1:=hid (ybq t w h0 h1)
 have c2:=hid (fun W=>ydR u W)
 have c3:=hid (fun W=>yhx (t / 86400) W (by omega) (by omega))
 have hsh:∃a0 a1 a2 a3 a4 a5 a6 a7 a8 a9:Int,shN (t / 86400)=sh10 a0 a1 a2 a3 a4 a5 a6 a7 a8 a9:=⟨_,_,_,_,_,_,_,_,_,_,rfl⟩
 by_cases h3:3≤u
 ·rw [whU_day h3]
  have hz:yav u=0:=by unfold yav; rw [if_neg (by omega),if_neg (by omega),if_neg (by omega)]
  have c4:=hid (fun W=>yhE u (t / 86400) W h3 hu1 (by omega) (by omega))
  rw [hz] at c2
  have hq0:0≤t / 86400:=by omega
  have hq1:t / 86400 < 146097:=by omega
  obtain ⟨q,hq⟩:∃q,t / 86400=q:=⟨_,rfl⟩
  simp only [hq] at c1 c3 c4 hsh hq0 hq1⊢
  obtain ⟨a0,a1,a2,a3,a4,a5,a6,a7,a8,a9,hs⟩:=hsh
  have q4:0≤t % 86400∧t % 86400≤12622780800:=by omega
  simp only [hs] at c3 c4
  have hn0:¬u < 0:=by omega
  have hn7:¬7≤u:=by omega
  clear hq hz hs
  go_enter Tryz.func83,Tryz.ntmps83
  go_wp2_with fail
  refine c1.out.mono ?_
  rintro e w' ⟨rfl,rfl⟩
  go_wp2_with fail
  refine (c2.out _).mono ?_
  rintro e w1 ⟨rfl,hB1⟩
  have HB1:=hid hB1
  clear hB1
  go_wp2_with fail
  refine (c3.out _).mono ?_
  rintro e w2 ⟨rfl,hB2⟩
  have HB2:Hid (Below w.heap.size w w2):=HB1.out.trans (hB2.mono HB1.out.size)
  clear hB2
  go_wp2_with fail
  refine (c4.out _).mono ?_
  rintro e w3 ⟨rfl,hB3⟩
  have HB3:Hid (Below w.heap.size w w3):=(yaa HB2.out HB2.out.size).trans (hB3.mono (by have:=HB2.out.size; simp; omega))
  clear hB3
  go_wp2
  go_ret2
  exact ⟨rfl,HB3.out⟩
 ·have hcase:u=0∨u=1∨u=2:=by omega
  clear c3 hsh hu0 hu1 h3
  have q1:0≤t / 60∧t / 60≤12622780800:=by omega
  have q2:0≤t / 3600∧t / 3600≤12622780800:=by omega
  have q3:0≤t / 86400∧t / 86400≤12622780800:=by omega
  have q4:0≤t % 86400∧t % 86400≤12622780800:=by omega
  rcases hcase with rfl | rfl | rfl
  ·have c2':Hid (∀W,Calls Tryz.prog 128 #[.int .i64 0] W fun e w'=>e= .returned (.int .i64 1)∧Below W.heap.size W w'):=c2.out
   rw [show whU 0 t=t from rfl]
   clear c2
   go_enter Tryz.func83,Tryz.ntmps83
   go_wp2_with fail
   refine c1.out.mono ?_
   rintro e w' ⟨rfl,rfl⟩
   go_wp2_with fail
   refine (c2'.out _).mono ?_
   rintro e w1 ⟨rfl,hB1⟩
   have HB1:=hid hB1
   clear hB1
   go_wp2
   go_ret2
   exact ⟨by simp,HB1.out⟩
  ·have c2':Hid (∀W,Calls Tryz.prog 128 #[.int .i64 1] W fun e w'=>e= .returned (.int .i64 60)∧Below W.heap.size W w'):=c2.out
   rw [show whU 1 t=t / 60 from rfl]
   clear c2
   go_enter Tryz.func83,Tryz.ntmps83
   go_wp2_with fail
   refine c1.out.mono ?_
   rintro e w' ⟨rfl,rfl⟩
   go_wp2_with fail
   refine (c2'.out _).mono ?_
   rintro e w1 ⟨rfl,hB1⟩
   have HB1:=hid hB1
   clear hB1
   go_wp2
   go_ret2
   exact ⟨rfl,HB1.out⟩
  ·have c2':Hid (∀W,Calls Tryz.prog 128 #[.int .i64 2] W fun e w'=>e= .returned (.int .i64 3600)∧Below W.heap.size W w'):=c2.out
   rw [show whU 2 t=t / 3600 from rfl]
   clear c2
   go_enter Tryz.func83,Tryz.ntmps83
   go_wp2_with fail
   refine c1.out.mono ?_
   rintro e w' ⟨rfl,rfl⟩
   go_wp2_with fail
   refine (c2'.out _).mono ?_
   rintro e w1 ⟨rfl,hB1⟩
   have HB1:=hid hB1
   clear hB1
   go_wp2
   go_ret2
   exact ⟨rfl,HB1.out⟩
theorem yfU (u t:Int) (w:World) (h:winB t=false):Calls Tryz.prog 83 #[.int .i64 u, .int .i64 t] w fun e w'=>e= .returned (.tuple #[.int .i64 0, .bool false])∧Below w.heap.size w w':=by
 have c1:=hid (yeH t w h)
 clear h
 go_enter Tryz.func83,Tryz.ntmps83
 go_wp2_with fail
 refine c1.out.mono ?_
 rintro e w' ⟨rfl,rfl⟩
 go_wp2
 go_ret2
 exact ⟨rfl,Below.refl _ _⟩
theorem ykp (u t:Int) (w:World) (h:u < 0∨6 < u):Calls Tryz.prog 83 #[.int .i64 u, .int .i64 t] w fun e w'=>e= .returned (.tuple #[.int .i64 0, .bool false])∧Below w.heap.size w w':=by
 rcases ya4 t with ⟨e,h0,h1⟩ | ⟨e,_⟩
 ·have c1:=hid (ybq t w h0 h1)
  have q3:0≤t / 86400∧t / 86400≤12622780800:=by omega
  have q4:0≤t % 86400∧t % 86400≤12622780800:=by omega
  clear e
  rcases h with h | h
  ·go_enter Tryz.func83,Tryz.ntmps83
   go_wp2_with fail
   refine c1.out.mono ?_
   rintro e w' ⟨rfl,rfl⟩
   go_wp2
   go_ret2
   exact ⟨rfl,Below.refl _ _⟩
  ·have hn0:¬u < 0:=by omega
   have hn7:7≤u:=by omega
   go_enter Tryz.func83,Tryz.ntmps83
   go_wp2_with fail
   refine c1.out.mono ?_
   rintro e w' ⟨rfl,rfl⟩
   go_wp2
   go_ret2
   exact ⟨rfl,Below.refl _ _⟩
 ·exact yfU u t w e
end
section
open Go.RowKit
def unB (u:Int):Bool:=decide (0≤u∧u≤6)
def yaZ (u t:Int):Bool:=unB u && winB t
def yaM (u t:Int):Int:=if yaZ u t then whU u t else 0
theorem ydA (u:Int):(unB u=true∧0≤u∧u≤6)∨(unB u=false∧(u < 0∨6 < u)):=by
 by_cases h:0≤u∧u≤6
 ·exact .inl ⟨zzZ h,h⟩
 ·exact .inr ⟨zzd h,by omega⟩
theorem ydz (u t:Int):0≤yaM u t∧yaM u t < 12622780800:=by
 unfold yaM yaZ
 rcases ya4 t with ⟨e,h0,h1⟩ | ⟨e,_⟩
 ·rw [e,Bool.and_true]
  split
  ·exact whU_bd h0 h1
  ·omega
 ·rw [e,Bool.and_false,if_neg (by simp)]; omega
theorem yc9 (u t:Int) (w:World):Calls Tryz.prog 83 #[.int .i64 u, .int .i64 t] w fun e w'=>e= .returned (.tuple #[.int .i64 (yaM u t), .bool (yaZ u t)])∧Below w.heap.size w w':=by
 unfold yaM yaZ
 rcases ydA u with ⟨e1,u0,u1⟩ | ⟨e1,hu⟩
 ·rcases ya4 t with ⟨e2,h0,h1⟩ | ⟨e2,h⟩
  ·rw [e1,e2]; exact yko u t w u0 u1 h0 h1
  ·rw [e1,e2]; exact yfU u t w e2
 ·rw [e1,Bool.false_and]; exact ykp u t w hu
def ybR (s d:Int):Bool:=decide (1≤s) && decide (d % s=0)
def onB (u s a t:Int):Bool:=yaZ u a && (yaZ u t && ybR s (yaM u t - yaM u a))
theorem yeO (d s:Int):(d.tmod s == 0)=decide (d % s=0):=by
 rw [zze,beq_iff_eq,zzY,←Int.dvd_iff_tmod_eq_zero,←Int.dvd_iff_emod_eq_zero]
theorem yg6 (d s:Int):((-d) % s=0)= (d % s=0):=by
 rw [←Int.dvd_iff_emod_eq_zero,←Int.dvd_iff_emod_eq_zero,Int.dvd_neg]
theorem UOn_any (u s a t:Int) (w:World) (hs:-9223372036854775808≤s∧s≤9223372036854775807):Calls Tryz.prog 43 #[.int .i64 u, .int .i64 s, .int .i64 a, .int .i64 t] w fun e w'=>e= .returned (.bool (onB u s a t))∧Below w.heap.size w w':=by
 have c1:=hid (fun W=>yc9 u a W)
 have c2:=hid (fun W=>yc9 u t W)
 have b1:=ydz u a
 have b2:=ydz u t
 unfold onB
 obtain ⟨x,hx⟩:∃x,yaM u a=x:=⟨_,rfl⟩
 obtain ⟨y,hy⟩:∃x,yaM u t=x:=⟨_,rfl⟩
 obtain ⟨bx,hbx⟩:∃x,yaZ u a=x:=⟨_,rfl⟩
 obtain ⟨bt,hbt⟩:∃x,yaZ u t=x:=⟨_,rfl⟩
 rw [hx] at c1 b1⊢
 rw [hy] at c2 b2⊢
 rw [hbx] at c1⊢
 rw [hbt] at c2⊢
 clear hx hy hbx hbt
 have hr:Hid (1≤s→ybR s (y - x)= ((y - x).tmod s == 0)):=fun h=>by rw [ybR,zzZ h,zzo,yeO]
 have hr0:Hid (s < 1→ybR s (y - x)=false):=fun h=>by rw [ybR,zzd (by omega),Bool.false_and]
 obtain ⟨s0,s1⟩:=hs
 by_cases h1:1≤s
 ·have hr':=hr.out h1
  cases hq:((y - x).tmod s == 0)
  all_goals
   rw [hq] at hr'
   rw [hr']
   clear hr hr0 hr'
   cases bx <;> cases bt
   all_goals
    go_enter Tryz.func43,Tryz.ntmps43
    go_wp2_with fail
    refine (c1.out _).mono ?_
    rintro e w1 ⟨rfl,hB1⟩
    have HB1:=hid hB1
    clear hB1
    go_wp2_with fail
    refine (c2.out _).mono ?_
    rintro e w2 ⟨rfl,hB2⟩
    have HB2:Hid (Below w.heap.size w w2):=HB1.out.trans (hB2.mono HB1.out.size)
    clear hB2
    go_wp2
    go_ret
    exact ⟨rfl,HB2.out⟩
 ·rw [hr0.out (by omega)]
  clear hr hr0
  cases bx <;> cases bt
  all_goals
   go_enter Tryz.func43,Tryz.ntmps43
   go_wp2_with fail
   refine (c1.out _).mono ?_
   rintro e w1 ⟨rfl,hB1⟩
   have HB1:=hid hB1
   clear hB1
   go_wp2_with fail
   refine (c2.out _).mono ?_
   rintro e w2 ⟨rfl,hB2⟩
   have HB2:Hid (Below w.heap.size w w2):=HB1.out.trans (hB2.mono HB1.out.size)
   clear hB2
   go_wp2
   go_ret
   exact ⟨rfl,HB2.out⟩
theorem RUMay_any (u:Int) (w:World):Calls Tryz.prog 52 #[.int .i64 u] w fun e w'=>e= .returned (.bool (unB u))∧w=w':=by
 rcases ydA u with ⟨e,h0,h1⟩ | ⟨e,h⟩
 ·rw [e]; clear e
  go_enter Tryz.func52,Tryz.ntmps52
  go_wp2
  go_ret
  exact ⟨by first | rfl | exact yaT (by simp; omega),rfl⟩
 ·rw [e]; clear e
  rcases h with h | h
  ·go_enter Tryz.func52,Tryz.ntmps52
   go_wp2
   go_ret
   exact ⟨by first | rfl | exact yaT (by simp; omega),rfl⟩
  ·have h0:0≤u:=by omega
   have h2:¬u≤6:=by omega
   go_enter Tryz.func52,Tryz.ntmps52
   go_wp2
   go_ret
   exact ⟨by first | rfl | exact yaT (by simp; omega),rfl⟩
theorem yfr (u t:Int) (w:World) (hu0:0≤u) (hu1:u≤6) (h0:0≤t) (h1:t < 12622780800) :
  Calls Tryz.prog 53 #[.int .i64 u, .int .i64 t] w fun e w'=>e= .returned (.int .i64 (whU u t))∧w=w':=by
 have c1:=hid (fun W=>yfs (t / 86400) W (by omega) (by omega))
 have c2:=hid (fun W=>yit (t / 86400) W (by omega) (by omega))
 have hq0:0≤t / 86400:=by omega
 have hq1:t / 86400 < 146097:=by omega
 obtain ⟨y0,y1,m0,m1,_⟩:=yaL hq0 hq1
 have hr:Hid (whU 0 t=t∧whU 1 t=t / 60∧whU 2 t=t / 3600∧whU 3 t=t / 86400∧whU 4 t=wkN (t / 86400)∧whU 5 t=12 * fY (t / 86400)+fMo (t / 86400) - 1∧whU 6 t=fY (t / 86400)):=⟨rfl,rfl,rfl,rfl,rfl,rfl,rfl⟩
 have hcase:u=0∨u=1∨u=2∨u=3∨u=4∨u=5∨u=6:=by omega
 obtain ⟨y,hy⟩:∃x,fY (t / 86400)=x:=⟨_,rfl⟩
 obtain ⟨m,hm⟩:∃x,fMo (t / 86400)=x:=⟨_,rfl⟩
 rw [hy,hm] at hr c1
 rw [hy] at y0 y1
 rw [hm] at m0 m1
 clear hy hm hu0 hu1
 obtain ⟨r0,r1,r2,r3,r4,r5,r6⟩:=hr.out
 rcases hcase with rfl | rfl | rfl | rfl | rfl | rfl | rfl
 ·rw [r0]; clear r0 r1 r2 r3 r4 r5 r6
  go_enter Tryz.func53,Tryz.ntmps53
  go_wp2
  go_ret
  exact ⟨rfl,rfl⟩
 ·rw [r1]; clear r0 r1 r2 r3 r4 r5 r6
  go_enter Tryz.func53,Tryz.ntmps53
  go_wp2
  go_ret
  exact ⟨rfl,rfl⟩
 ·rw [r2]; clear r0 r1 r2 r3 r4 r5 r6
  go_enter Tryz.func53,Tryz.ntmps53
  go_wp2
  go_ret
  exact ⟨rfl,rfl⟩
 ·rw [r3]; clear r0 r1 r2 r3 r4 r5 r6
  go_enter Tryz.func53,Tryz.ntmps53
  go_wp2
  go_ret
  exact ⟨rfl,rfl⟩
 ·rw [r4]; clear r0 r1 r2 r3 r4 r5 r6
  go_enter Tryz.func53,Tryz.ntmps53
  go_wp2_with fail
  refine (c2.out _).mono ?_
  rintro e w' ⟨rfl,rfl⟩
  go_wp2
  go_ret
  exact ⟨rfl,rfl⟩
 ·rw [r5]; clear r0 r1 r2 r3 r4 r5 r6
  go_enter Tryz.func53,Tryz.ntmps53
  go_wp2_with fail
  refine (c1.out _).mono ?_
  rintro e w' ⟨rfl,rfl⟩
  go_wp2
  go_ret
  exact ⟨rfl,rfl⟩
 ·rw [r6]; clear r0 r1 r2 r3 r4 r5 r6
  go_enter Tryz.func53,Tryz.ntmps53
  go_wp2_with fail
  refine (c1.out _).mono ?_
  rintro e w' ⟨rfl,rfl⟩
  go_wp2
  go_ret
  exact ⟨rfl,rfl⟩
theorem yjo (u s a t:Int) (w:World) (hs:-9223372036854775808≤s∧s≤9223372036854775807):Calls Tryz.prog 17 #[.int .i64 u, .int .i64 s, .int .i64 a, .int .i64 t] w fun e w'=>e= .returned (.bool (onB u s a t))∧w=w':=by
 have c1:=hid (RUMay_any u w)
 have c2:=hid (ydS a w)
 have c3:=hid (ydS t w)
 unfold onB yaZ
 obtain ⟨s0,s1⟩:=hs
 rcases ydA u with ⟨e1,u0,u1⟩ | ⟨e1,-⟩
 case inr=>
  rw [e1] at c1⊢
  rw [Bool.false_and,Bool.false_and]
  clear e1
  go_enter Tryz.func17,Tryz.ntmps17
  go_wp2_with fail
  refine c1.out.mono ?_
  rintro e w' ⟨rfl,rfl⟩
  go_wp2
  go_ret
  exact ⟨rfl,rfl⟩
 rcases ya4 a with ⟨e2,a0,a1⟩ | ⟨e2,-⟩
 case inr=>
  rw [e1] at c1⊢
  rw [e2] at c2⊢
  rw [Bool.and_false,Bool.false_and]
  clear e1 e2
  go_enter Tryz.func17,Tryz.ntmps17
  go_wp2_with fail
  refine c1.out.mono ?_
  rintro e w' ⟨rfl,rfl⟩
  go_wp2_with fail
  refine c2.out.mono ?_
  rintro e w' ⟨rfl,rfl⟩
  go_wp2
  go_ret
  exact ⟨rfl,rfl⟩
 rcases ya4 t with ⟨e3,t0,t1⟩ | ⟨e3,-⟩
 case inr=>
  rw [e1] at c1⊢
  rw [e2] at c2⊢
  rw [e3] at c3⊢
  rw [Bool.and_false,Bool.false_and,Bool.and_false]
  clear e1 e2 e3
  go_enter Tryz.func17,Tryz.ntmps17
  go_wp2_with fail
  refine c1.out.mono ?_
  rintro e w' ⟨rfl,rfl⟩
  go_wp2_with fail
  refine c2.out.mono ?_
  rintro e w' ⟨rfl,rfl⟩
  go_wp2_with fail
  refine c3.out.mono ?_
  rintro e w' ⟨rfl,rfl⟩
  go_wp2
  go_ret
  exact ⟨rfl,rfl⟩
 have c4:=hid (yfr u t w u0 u1 t0 t1)
 have c5:=hid (yfr u a w u0 u1 a0 a1)
 have bt:=whU_bd (u:=u) t0 t1
 have ba:=whU_bd (u:=u) a0 a1
 have hI:yaM u t=whU u t∧yaM u a=whU u a:=by
  unfold yaM yaZ; rw [e1,e2,e3]; exact ⟨rfl,rfl⟩
 rw [hI.1,hI.2]
 rw [e1] at c1⊢
 rw [e2] at c2⊢
 rw [e3] at c3⊢
 rw [zzo,zzo]
 obtain ⟨x,hx⟩:∃x,whU u a=x:=⟨_,rfl⟩
 obtain ⟨y,hy⟩:∃x,whU u t=x:=⟨_,rfl⟩
 rw [hx] at c5 ba⊢
 rw [hy] at c4 bt⊢
 clear hx hy hI e1 e2 e3 a0 a1 t0 t1
 by_cases h1:1≤s
 ·have hr:Hid (ybR s (y - x)=decide ((y - x) % s=0)):=by show _ = _; rw [ybR,zzZ h1,zzo]
  have hns:¬s < 1:=by omega
  by_cases hneg:y - x < 0
  ·have hr2:Hid (((-(y - x)) % s == 0)=ybR s (y - x)):=by
    show _ = _
    rw [hr.out,zze,beq_iff_eq,zzY,yg6]
   have hr3:Hid ((-(y - x).tmod s == 0)=ybR s (y - x)):=by
    show _ = _
    rw [hr.out,←yeO,zze,beq_iff_eq,beq_iff_eq,Int.neg_eq_zero]
   go_enter Tryz.func17,Tryz.ntmps17
   go_wp2_with fail
   refine c1.out.mono ?_
   rintro e w' ⟨rfl,rfl⟩
   go_wp2_with fail
   refine c2.out.mono ?_
   rintro e w' ⟨rfl,rfl⟩
   go_wp2_with fail
   refine c3.out.mono ?_
   rintro e w' ⟨rfl,rfl⟩
   go_wp2_with fail
   refine c4.out.mono ?_
   rintro e w' ⟨rfl,rfl⟩
   go_wp2_with fail
   refine c5.out.mono ?_
   rintro e w' ⟨rfl,rfl⟩
   go_wp2
   go_ret
   exact ⟨yaT (by first | exact hr3.out | exact hr2.out | (rw [←hr3.out]; rfl)),rfl⟩
  ·have hr2:Hid (((y - x) % s == 0)=ybR s (y - x)):=by
    show _ = _
    rw [hr.out,zze,beq_iff_eq,zzY]
   go_enter Tryz.func17,Tryz.ntmps17
   go_wp2_with fail
   refine c1.out.mono ?_
   rintro e w' ⟨rfl,rfl⟩
   go_wp2_with fail
   refine c2.out.mono ?_
   rintro e w' ⟨rfl,rfl⟩
   go_wp2_with fail
   refine c3.out.mono ?_
   rintro e w' ⟨rfl,rfl⟩
   go_wp2_with fail
   refine c4.out.mono ?_
   rintro e w' ⟨rfl,rfl⟩
   go_wp2_with fail
   refine c5.out.mono ?_
   rintro e w' ⟨rfl,rfl⟩
   go_wp2
   go_ret
   exact ⟨yaT (by rw [←hr2.out]; rfl),rfl⟩
 ·have hr:Hid (ybR s (y - x)=false):=by show _ = _; rw [ybR,zzd h1,Bool.false_and]
  have hns:s < 1:=by omega
  rw [hr.out]
  go_enter Tryz.func17,Tryz.ntmps17
  go_wp2_with fail
  refine c1.out.mono ?_
  rintro e w' ⟨rfl,rfl⟩
  go_wp2_with fail
  refine c2.out.mono ?_
  rintro e w' ⟨rfl,rfl⟩
  go_wp2_with fail
  refine c3.out.mono ?_
  rintro e w' ⟨rfl,rfl⟩
  go_wp2
  go_ret
  exact ⟨rfl,rfl⟩
end
section
open Go.RowKit
theorem yeS (n:Int):∃a0 a1 a2 a3 a4 a5 a6 a7 a8 a9:Int,shN n=sh10 a0 a1 a2 a3 a4 a5 a6 a7 a8 a9:=⟨_,_,_,_,_,_,_,_,_,_,rfl⟩
theorem UD1_any (n:Int) (w:World):Calls Tryz.prog 172 #[shN n] w fun e w'=>e= .returned (.bool false)∧Below w.heap.size w w':=by
 obtain ⟨a0,a1,a2,a3,a4,a5,a6,a7,a8,a9,hs⟩:=yeS n
 rw [hs]; clear hs
 go_enter Tryz.func172,Tryz.ntmps172
 go_wp2
 go_ret
 exact ⟨rfl,yaa (Below.refl _ _) (zG _)⟩
theorem UD2_any (n:Int) (w:World):Calls Tryz.prog 173 #[shN n] w fun e w'=>e= .returned (.bool true)∧Below w.heap.size w w':=by
 obtain ⟨a0,a1,a2,a3,a4,a5,a6,a7,a8,a9,hs⟩:=yeS n
 rw [hs]; clear hs
 go_enter Tryz.func173,Tryz.ntmps173
 go_wp2
 go_ret
 exact ⟨rfl,yaa (Below.refl _ _) (zG _)⟩
structure Box3 (W:World) (b3 b7 b4:Nat) (u a s:Int):Prop where
 c3:W.cell? ⟨b3,0,none⟩=some (.int .i64 u)
 c7:W.cell? ⟨b7,0,none⟩=some (.int .i64 a)
 c4:W.cell? ⟨b4,0,none⟩=some (.int .i64 s)
 l3:b3 < W.heap.size
 l7:b7 < W.heap.size
 l4:b4 < W.heap.size
theorem Box3.keep {W W':World} {b3 b7 b4:Nat} {u a s:Int} (h:Box3 W b3 b7 b4 u a s) (hs:W.heap.size≤W'.heap.size) (hb:∀b,b=b3∨b=b7∨b=b4→W'.heap[b]? =W.heap[b]?):Box3 W' b3 b7 b4 u a s:=
 ⟨(zzJ (w:=W) (a:=⟨b3,0,none⟩) (hb b3 (.inl rfl))).trans h.c3,(zzJ (w:=W) (a:=⟨b7,0,none⟩) (hb b7 (.inr (.inl rfl)))).trans h.c7,(zzJ (w:=W) (a:=⟨b4,0,none⟩) (hb b4 (.inr (.inr rfl)))).trans h.c4,
   zH h.l3 hs,zH h.l7 hs,zH h.l4 hs⟩
theorem Box3.below {W W':World} {b3 b7 b4:Nat} {u a s:Int} (h:Box3 W b3 b7 b4 u a s) (hb:Below W.heap.size W W'):Box3 W' b3 b7 b4 u a s:=
 h.keep hb.size (fun b hb'=>by
  rcases hb' with rfl | rfl | rfl
  ·exact hb.block _ h.l3
  ·exact hb.block _ h.l7
  ·exact hb.block _ h.l4)
abbrev ShC (W:World) (b:Nat) (a0 a1 a2 a3 a4 a5 a6 a7 a8 a9:Int):Prop:=
 W.cell? ⟨b,0,none⟩=some (.int .i64 a0)∧W.cell? ⟨b,1,none⟩=some (.int .i64 a1)∧W.cell? ⟨b,2,none⟩=some (.int .i64 a2)∧W.cell? ⟨b,3,none⟩=some (.int .i64 a3)∧W.cell? ⟨b,4,none⟩=some (.int .i64 a4)∧
 W.cell? ⟨b,5,none⟩=some (.int .i64 a5)∧W.cell? ⟨b,6,none⟩=some (.int .i64 a6)∧W.cell? ⟨b,7,none⟩=some (.int .i64 a7)∧W.cell? ⟨b,8,none⟩=some (.int .i64 a8)∧W.cell? ⟨b,9,none⟩=some (.int .i64 a9)
theorem ShC.below {W W':World} {b B:Nat} {a0 a1 a2 a3 a4 a5 a6 a7 a8 a9:Int} (h:ShC W b a0 a1 a2 a3 a4 a5 a6 a7 a8 a9) (hb:Below B W W') (hB:b < B):ShC W' b a0 a1 a2 a3 a4 a5 a6 a7 a8 a9:=by
 obtain ⟨h0,h1,h2,h3,h4,h5,h6,h7,h8,h9⟩:=h
 exact ⟨(hb.cell (p:=⟨b,0,none⟩) hB).trans h0,(hb.cell (p:=⟨b,1,none⟩) hB).trans h1,(hb.cell (p:=⟨b,2,none⟩) hB).trans h2,(hb.cell (p:=⟨b,3,none⟩) hB).trans h3,(hb.cell (p:=⟨b,4,none⟩) hB).trans h4,
  (hb.cell (p:=⟨b,5,none⟩) hB).trans h5,(hb.cell (p:=⟨b,6,none⟩) hB).trans h6,(hb.cell (p:=⟨b,7,none⟩) hB).trans h7,(hb.cell (p:=⟨b,8,none⟩) hB).trans h8,(hb.cell (p:=⟨b,9,none⟩) hB).trans h9⟩
theorem ycF (w:World) (t:TypeId) (a0 a1 a2 a3 a4 a5 a6 a7 a8 a9:Int):ShC (w.alloc (.cells #[.int .i64 a0, .int .i64 a1, .int .i64 a2, .int .i64 a3, .int .i64 a4, .int .i64 a5, .int .i64 a6, .int .i64 a7, .int .i64 a8, .int .i64 a9] t)) w.heap.size a0 a1 a2 a3 a4 a5 a6 a7 a8 a9:=by
 refine ⟨?_,?_,?_,?_,?_,?_,?_,?_,?_,?_⟩ <;> simp [go_sem]
abbrev S3 (w:World) (b3 b7 b4:Nat) (u a s a0 a1 a2 a3 a4 a5 a6 a7 a8 a9:Int) (W:World):Prop:=
 W.cell? ⟨b3,0,none⟩=some (.int .i64 u)∧W.cell? ⟨b7,0,none⟩=some (.int .i64 a)∧W.cell? ⟨b4,0,none⟩=some (.int .i64 s)∧ShC W w.heap.size a0 a1 a2 a3 a4 a5 a6 a7 a8 a9∧
 (b3 < W.heap.size∧b7 < W.heap.size∧b4 < W.heap.size)∧Below w.heap.size w W∧w.heap.size < W.heap.size
theorem S3.keep {w W W':World} {b3 b7 b4:Nat} {u a s a0 a1 a2 a3 a4 a5 a6 a7 a8 a9:Int} (h:S3 w b3 b7 b4 u a s a0 a1 a2 a3 a4 a5 a6 a7 a8 a9 W) (hb:Below W.heap.size W W'):S3 w b3 b7 b4 u a s a0 a1 a2 a3 a4 a5 a6 a7 a8 a9 W':=by
 obtain ⟨h1,h2,h3,h4,⟨l1,l2,l3⟩,h5,h6⟩:=h
 exact ⟨(hb.cell (p:=⟨b3,0,none⟩) l1).trans h1,(hb.cell (p:=⟨b7,0,none⟩) l2).trans h2,(hb.cell (p:=⟨b4,0,none⟩) l3).trans h3,h4.below hb h6,⟨zH l1 hb.size,zH l2 hb.size,zH l3 hb.size⟩,h5.trans (hb.mono (by omega)),zH h6 hb.size⟩
theorem yax {P:Program} {f:FuncId} {args:Array Value} {W:World} {v:Value} {S:World→Prop} (h:Calls P f args W fun e w'=>e= .returned v∧Below W.heap.size W w') (hk:∀w',Below W.heap.size W w'→S w') :
  Calls P f args W fun e w'=>e= .returned v∧S w':=h.mono fun e w' ⟨h1,h2⟩=>⟨h1,hk w' h2⟩
theorem UD3_any (n u a s:Int) (b3 b7 b4:Nat) (w:World) (h0:0≤n) (h1:n < 146097) (hu0:3≤u) (hu1:u≤6) (hs:1≤s) (hs2:s≤9223372036854775807) (ha0:0≤a) (ha1:a < 12622780800) (hB:Box3 w b3 b7 b4 u a s) :
  Calls Tryz.prog 174 #[shN n, .pointer (some ⟨b3,0,none⟩), .pointer (some ⟨b7,0,none⟩), .pointer (some ⟨b4,0,none⟩)] w fun e w'=>e= .returned (.bool (ybR s (whD u n - a)))∧Below w.heap.size w w':=by
 have c1:Hid (∀W,Calls Tryz.prog 129 #[.int .i64 u,shN n] W fun e w'=>e= .returned (.int .i64 (whD u n))∧Below W.heap.size W w'):=fun W=>yhE u n W hu0 hu1 h0 h1
 have bd:=whD_bd (u:=u) h0 h1
 have hr:Hid (ybR s (whD u n - a)= ((whD u n - a).tmod s == 0)):=by show _ = _; rw [ybR,zzZ hs,zzo,yeO]
 obtain ⟨a0,a1,a2,a3,a4,a5,a6,a7,a8,a9,hsh⟩:=yeS n
 rw [hsh] at c1⊢
 obtain ⟨x,hx⟩:∃x,whD u n=x:=⟨_,rfl⟩
 rw [hx] at c1 bd hr⊢
 clear hsh hx
 have HS0:Hid (S3 w b3 b7 b4 u a s a0 a1 a2 a3 a4 a5 a6 a7 a8 a9 (w.alloc (.cells #[.int .i64 a0, .int .i64 a1, .int .i64 a2, .int .i64 a3, .int .i64 a4, .int .i64 a5, .int .i64 a6, .int .i64 a7, .int .i64 a8, .int .i64 a9] 88)).drew):=by
  have hb:=yaa (o:= .cells #[.int .i64 a0, .int .i64 a1, .int .i64 a2, .int .i64 a3, .int .i64 a4, .int .i64 a5, .int .i64 a6, .int .i64 a7, .int .i64 a8, .int .i64 a9] 88) (Below.refl w.heap.size w) (zG _)
  have h2:=hB.below hb
  exact ⟨h2.c3,h2.c7,h2.c4,ycF w _ _ _ _ _ _ _ _ _ _ _,⟨h2.l3,h2.l7,h2.l4⟩,hb.drew,by show _ < (World.alloc _ _).heap.size; simp⟩
 have c2:=hid (fun W (h:S3 w b3 b7 b4 u a s a0 a1 a2 a3 a4 a5 a6 a7 a8 a9 W)=>yax (c1.out W) (fun _=>h.keep))
 clear hB c1
 have hsn:¬s=0:=by omega
 go_enter Tryz.func174,Tryz.ntmps174
 go_wp2_with fail
 go_region_held3 (fun w'=>S3 w b3 b7 b4 u a s a0 a1 a2 a3 a4 a5 a6 a7 a8 a9 w') (first | exact HS0.out | assumption)
  (first
    | (go_at_call 129; refine (c2.out _ (by assumption)).mono ?_; rintro e w' ⟨rfl,hS⟩))
 go_wp2
 go_ret
 refine ⟨?_,(‹S3 w b3 b7 b4 u a s a0 a1 a2 a3 a4 a5 a6 a7 a8 a9 _›).2.2.2.2.2.1⟩
 rw [hr.out]
 refine yaT ?_
 rw [IntKind.wrap_i64]
 congr 2
 omega
def UDV (W:World) (lo:Nat) (u s a:Int) (fv:Value):Prop:=
 ((yaZ u a=false∨s < 1)∧fv= .func (.func 172) #[] #[])∨
 (yaZ u a=true∧1≤s∧(0 < yav u∨s=1)∧fv= .func (.func 173) #[] #[])∨
 (yaZ u a=true∧1≤s∧yav u=0∧∃b3 b7 b4,fv= .func (.func 174) #[] #[.pointer (some ⟨b3,0,none⟩), .pointer (some ⟨b7,0,none⟩), .pointer (some ⟨b4,0,none⟩)]∧Box3 W b3 b7 b4 u (yaM u a) s∧lo≤b3∧lo≤b7∧lo≤b4)
def ycC (u s a n:Int):Bool:=yaZ u a && (decide (1≤s) && (decide (0 < yav u∨s=1) || ybR s (whD u n - yaM u a)))
theorem ycq (u:Int):0 < yav u∨yav u=0:=by unfold yav; split; omega; split; omega; split <;> omega
theorem yeR {u:Int} (h:yav u=0) (h0:0≤u):3≤u:=by
 unfold yav at h
 split at h
 ·omega
 ·split at h
  ·omega
  ·split at h <;> omega
theorem UDays_any (u s a:Int) (w:World) (hs:-9223372036854775808≤s∧s≤9223372036854775807) :
  Calls Tryz.prog 136 #[.int .i64 u, .int .i64 s, .int .i64 a] w fun e w'=>∃fv,e= .returned fv∧UDV w' w.heap.size u s a fv∧Below w.heap.size w w':=by
 have c1:=hid (fun W=>yc9 u a W)
 have c2:=hid (fun W=>ydR u W)
 obtain ⟨W0,hW0⟩:∃W0,(w.alloc (.cells #[.int .i64 u] 3)).alloc (.cells #[.int .i64 s] 2)=W0:=⟨_,rfl⟩
 have q1:W0.heap.size=w.heap.size+2:=by rw [←hW0]; simp
 have q2:Below w.heap.size w W0:=by rw [←hW0]; exact yaa (yaa (Below.refl _ _) (zG _)) (by simp)
 have q3:W0.cell? ⟨w.heap.size,0,none⟩=some (.int .i64 u):=by rw [←hW0]; simp [go_sem]
 have q4:W0.cell? ⟨w.heap.size+1,0,none⟩=some (.int .i64 s):=by rw [←hW0]; simp [go_sem]
 have HW0:=hid hW0
 have Q:=hid (And.intro q1 (And.intro q2 (And.intro q3 q4)))
 clear hW0 q1 q2 q3 q4
 cases hb:yaZ u a
 ·rw [hb] at c1
  have hv:Hid (yaZ u a=false∨s < 1):= .inl hb
  clear hb
  go_enter Tryz.func136,Tryz.ntmps136
  go_wp2_with fail
  rw [HW0.out]
  refine (c1.out _).mono ?_
  rintro e w1 ⟨rfl,hB1⟩
  have HB1:Hid (Below w.heap.size w w1):=Q.out.2.1.trans (hB1.mono (by have:=Q.out.1; omega))
  clear hB1
  go_wp2
  go_ret
  exact ⟨_,rfl, .inl ⟨hv.out,rfl⟩,yaa HB1.out HB1.out.size⟩
 ·rw [hb] at c1
  have Hb:=hid hb
  clear hb
  by_cases h1:s < 1
  ·have hv:Hid (yaZ u a=false∨s < 1):= .inr h1
   obtain ⟨x,hx⟩:∃x,yaM u a=x:=⟨_,rfl⟩
   rw [hx] at c1
   clear hx
   go_enter Tryz.func136,Tryz.ntmps136
   go_wp2_with fail
   rw [HW0.out]
   refine (c1.out _).mono ?_
   rintro e w1 ⟨rfl,hB1⟩
   have HB1:Hid (Below w.heap.size w w1):=Q.out.2.1.trans (hB1.mono (by have:=Q.out.1; omega))
   have e4:=(hB1.cell (p:=⟨w.heap.size+1,0,none⟩) (by have:=Q.out.1; simp only []; omega)).trans Q.out.2.2.2
   have e3:=(hB1.cell (p:=⟨w.heap.size,0,none⟩) (by have:=Q.out.1; simp only []; omega)).trans Q.out.2.2.1
   have al4:(w1.alloc (.cells #[.int .i64 x] 2)).cell? ⟨w.heap.size+1,0,none⟩=some (.int .i64 s):=((yaa (Below.refl _ w1) (zG _)).cell (p:=⟨w.heap.size+1,0,none⟩) (by have:=hB1.size; have:=Q.out.1; simp only []; omega)).trans e4
   have al3:(w1.alloc (.cells #[.int .i64 x] 2)).cell? ⟨w.heap.size,0,none⟩=some (.int .i64 u):=((yaa (Below.refl _ w1) (zG _)).cell (p:=⟨w.heap.size,0,none⟩) (by have:=hB1.size; have:=Q.out.1; simp only []; omega)).trans e3
   clear hB1
   go_wp2
   go_ret
   exact ⟨_,rfl, .inl ⟨hv.out,rfl⟩,yaa HB1.out HB1.out.size⟩
  ·have h1s:Hid (1≤s):=by show 1≤s; omega
   have hz:=ycq u
   obtain ⟨z,hzz⟩:∃z,yav u=z:=⟨_,rfl⟩
   have Hz:=hid hzz
   rw [hzz] at c2 hz
   clear hzz
   obtain ⟨x,hx⟩:∃x,yaM u a=x:=⟨_,rfl⟩
   have Hx:=hid hx
   rw [hx] at c1
   clear hx
   go_enter Tryz.func136,Tryz.ntmps136
   go_wp2_with fail
   rw [HW0.out]
   refine (c1.out _).mono ?_
   rintro e w1 ⟨rfl,hB1⟩
   have HB1:Hid (Below w.heap.size w w1):=Q.out.2.1.trans (hB1.mono (by have:=Q.out.1; omega))
   have e3:=(hB1.cell (p:=⟨w.heap.size,0,none⟩) (by have:=Q.out.1; simp only []; omega)).trans Q.out.2.2.1
   have e4:=(hB1.cell (p:=⟨w.heap.size+1,0,none⟩) (by have:=Q.out.1; simp only []; omega)).trans Q.out.2.2.2
   have hs1:w.heap.size+2≤w1.heap.size:=by have:=hB1.size; have:=Q.out.1; omega
   have al4:(w1.alloc (.cells #[.int .i64 x] 2)).cell? ⟨w.heap.size+1,0,none⟩=some (.int .i64 s):=((yaa (Below.refl _ w1) (zG _)).cell (p:=⟨w.heap.size+1,0,none⟩) (by have:=hB1.size; have:=Q.out.1; simp only []; omega)).trans e4
   have al3:(w1.alloc (.cells #[.int .i64 x] 2)).cell? ⟨w.heap.size,0,none⟩=some (.int .i64 u):=((yaa (Below.refl _ w1) (zG _)).cell (p:=⟨w.heap.size,0,none⟩) (by have:=hB1.size; have:=Q.out.1; simp only []; omega)).trans e3
   clear hB1
   go_wp2_with fail
   refine (c2.out _).mono ?_
   rintro e w2 ⟨rfl,hB2⟩
   have f3:=(hB2.cell (p:=⟨w.heap.size,0,none⟩) (by simp; omega)).trans al3
   have f4:=(hB2.cell (p:=⟨w.heap.size+1,0,none⟩) (by simp; omega)).trans al4
   have f7:=(hB2.cell (p:=⟨w1.heap.size,0,none⟩) (by simp)).trans (show (w1.alloc (.cells #[.int .i64 x] 2)).cell? ⟨w1.heap.size,0,none⟩=some (.int .i64 x) by simp [go_sem])
   have HB2:Hid (Below w.heap.size w w2):=(yaa HB1.out HB1.out.size).trans (hB2.mono (by simp; omega))
   have hs2:w1.heap.size+1≤w2.heap.size:=by have:=hB2.size; simpa using this
   have F:=hid (And.intro f3 (And.intro f4 f7))
   clear hB2 e3 e4 f3 f7 al3 al4
   rcases hz with hz | hz
   ·go_wp2
    go_ret
    exact ⟨_,rfl, .inr (.inl ⟨Hb.out,h1s.out, .inl (by rw [Hz.out]; exact hz),rfl⟩),HB2.out⟩
   ·by_cases hs1':s=1
    ·have h11:=hid hs1'
     subst hs1'
     have hzz:¬0 < z:=by omega
     go_wp2
     go_ret
     exact ⟨_,rfl, .inr (.inl ⟨Hb.out,h1s.out, .inr rfl,rfl⟩),HB2.out⟩
    ·have hb1:(s == 1)=false:=by simpa using hs1'
     have hzz:¬0 < z:=by omega
     have hz0:=hid hz
     clear hs1' hz
     go_wp2
     go_ret
     exact ⟨_,rfl, .inr (.inr ⟨Hb.out,h1s.out,by rw [Hz.out,hz0.out],_,_,_,rfl,⟨F.out.1,by rw [Hx.out]; exact F.out.2.2,F.out.2.1,by omega,by omega,by omega⟩,zG _,by omega,by omega⟩),HB2.out⟩
end
section
open Go.RowKit
abbrev SpS (w:World) (x0 x1 x2:Int) (W:World):Prop:=
 W.cell? ⟨w.heap.size,0,none⟩=some (.int .i64 x0)∧W.cell? ⟨w.heap.size,1,none⟩=some (.int .i64 x1)∧W.cell? ⟨w.heap.size,2,none⟩=some (.int .i64 x2)∧Below w.heap.size w W∧w.heap.size < W.heap.size
theorem SpS.keep {w W W':World} {x0 x1 x2:Int} (h:SpS w x0 x1 x2 W) (hb:Below W.heap.size W W'):SpS w x0 x1 x2 W':=by
 obtain ⟨h1,h2,h3,h4,h5⟩:=h
 exact ⟨(hb.cell (p:=⟨w.heap.size,0,none⟩) h5).trans h1,(hb.cell (p:=⟨w.heap.size,1,none⟩) h5).trans h2,(hb.cell (p:=⟨w.heap.size,2,none⟩) h5).trans h3,h4.trans (hb.mono (Nat.le_of_lt h5)),zH h5 hb.size⟩
theorem keep_of {P:Program} {f:FuncId} {args:Array Value} {W:World} {v:Value} {S:World→Prop} (h:Calls P f args W fun e w'=>e= .returned v∧Below W.heap.size W w') (hk:∀w',Below W.heap.size W w'→S w') :
  Calls P f args W fun e w'=>e= .returned v∧S w':=h.mono fun e w' ⟨h1,h2⟩=>⟨h1,hk w' h2⟩
theorem yd2 {P:Program} {f:FuncId} {args:Array Value} {W:World} {v:Value} (h:Calls P f args W fun e w'=>e= .returned v∧W=w') :
  Calls P f args W fun e w'=>e= .returned v∧Below W.heap.size W w':=h.mono fun e w' ⟨h1,h2⟩=>⟨h1,by rw [h2]; exact Below.refl _ _⟩
end
end Go.Proofs.YtjahgimnfliooaaGreatDoor
