/-
  span.Days, span.Meet of two spans, span.Cut, of any span.
  lap.Laps' function on a day of its clause's span, of any clause that may be.
  lap.Laps' function on a day out of its clause's span.
  lap.Laps' function on a day of the span of a clause that may not be.
-/
import Derived.Test.YtjahgimnfliooaaGreatDoorQ7eaca1
set_option maxRecDepth 100000
set_option maxHeartbeats 25600000
namespace Go.Proofs.YtjahgimnfliooaaGreatDoor
set_option linter.unusedVariables false
section
open Go.RowKit
theorem yfW (f u:Int) (w:World):Calls Tryz.prog 146 #[spv f u] w fun e w'=>e= .returned (if yaz f u then .tuple #[.int .i64 (max f 0 / 86400), .int .i64 (min u 12622780799 / 86400), .bool true] else .tuple #[.int .i64 0, .int .i64 0, .bool false])∧Below w.heap.size w w':=by
 have c0:=hid (fun W=>ycj f u W)
 have hH:yaz f u=decide (max f 0≤min u 12622780799):=rfl
 rw [hH]
 rcases ya2 f u with ⟨e1,e2,h⟩ | ⟨e1,e2,h⟩
 all_goals
  first | rw [if_pos (zzZ h)] | rw [if_neg (by rw [zzd h]; exact Bool.false_ne_true)]
  rw [e1,e2] at c0
 ·have hx0:0≤max f 0:=by omega
  have hx1:max f 0 < 12622780800:=by omega
  have hy0:0≤min u 12622780799:=by omega
  have hy1:min u 12622780799 < 12622780800:=by omega
  obtain ⟨X,hX⟩:∃X,max f 0=X:=⟨_,rfl⟩
  obtain ⟨Y,hY⟩:∃Y,min u 12622780799=Y:=⟨_,rfl⟩
  rw [hX] at c0 hx0 hx1⊢
  rw [hY] at c0 hy0 hy1⊢
  have c1:=hid (fun W=>ybq X W hx0 hx1)
  have c2:=hid (fun W=>ybq Y W hy0 hy1)
  clear hX hY e1 e2 h hH hx0 hx1 hy0 hy1
  go_enter Tryz.func146,Tryz.ntmps146
  go_wp2_with fail
  refine (c0.out _).mono ?_
  rintro e w1 ⟨rfl,hB1⟩
  have k1:=(hB1.cell (p:=⟨w.heap.size,0,none⟩) (by simp)).trans (show _ =some (.int .i64 f) by simp [go_sem])
  have k2:=(hB1.cell (p:=⟨w.heap.size,1,none⟩) (by simp)).trans (show _ =some (.int .i64 u) by simp [go_sem])
  have f1:=(hB1.frozen (p:=⟨w.heap.size,0,none⟩) (by simp)).trans (show _ =false by simp [go_sem])
  have f2:=(hB1.frozen (p:=⟨w.heap.size,1,none⟩) (by simp)).trans (show _ =false by simp [go_sem])
  have HB1:Hid (Below w.heap.size w w1):=(yaa (Below.refl _ _) (zG _)).trans (hB1.mono (by simp))
  clear hB1
  go_wp2_with (first
   | (go_at_call 39; with_reducible refine (c1.out _).mono ?_; rintro e w' ⟨rfl,rfl⟩)
   | (go_at_call 39; with_reducible refine (c2.out _).mono ?_; rintro e w' ⟨rfl,rfl⟩))
  exact bodyPost_ret (v:= .tuple #[.int .i64 (X / 86400), .int .i64 (Y / 86400), .bool true]) (by simp [results,Tryz.results146,go_sem]) rfl ⟨rfl,yab (yab HB1.out (zG _)) (zG _)⟩
 ·have c1:=hid (fun W=>ybq 0 W (by omega) (by omega))
  have c2:=hid (fun W=>yeH (-1) W (by decide))
  rw [show (0:Int) / 86400=0 from rfl,show (0:Int) % 86400=0 from rfl] at c1
  clear e1 e2 h hH
  go_enter Tryz.func146,Tryz.ntmps146
  go_wp2_with fail
  refine (c0.out _).mono ?_
  rintro e w1 ⟨rfl,hB1⟩
  have k1:=(hB1.cell (p:=⟨w.heap.size,0,none⟩) (by simp)).trans (show _ =some (.int .i64 f) by simp [go_sem])
  have k2:=(hB1.cell (p:=⟨w.heap.size,1,none⟩) (by simp)).trans (show _ =some (.int .i64 u) by simp [go_sem])
  have f1:=(hB1.frozen (p:=⟨w.heap.size,0,none⟩) (by simp)).trans (show _ =false by simp [go_sem])
  have f2:=(hB1.frozen (p:=⟨w.heap.size,1,none⟩) (by simp)).trans (show _ =false by simp [go_sem])
  have HB1:Hid (Below w.heap.size w w1):=(yaa (Below.refl _ _) (zG _)).trans (hB1.mono (by simp))
  clear hB1
  go_wp2_with (first
   | (go_at_call 39; with_reducible refine (c1.out _).mono ?_; rintro e w' ⟨rfl,rfl⟩)
   | (go_at_call 39; with_reducible refine (c2.out _).mono ?_; rintro e w' ⟨rfl,rfl⟩))
  exact bodyPost_ret (v:= .tuple #[.int .i64 0, .int .i64 0, .bool false]) (by simp [results,Tryz.results146,go_sem]) rfl ⟨rfl,yab (yab HB1.out (zG _)) (zG _)⟩
abbrev MeT (w:World) (b b3:Nat) (f1 u1 f2 u2 f u:Int) (W:World):Prop:=
 (W.cell? ⟨b3,0,none⟩=some (.int .i64 f)∧W.cell? ⟨b3,1,none⟩=some (.int .i64 u)∧W.frozen? ⟨b3,0,none⟩=false∧W.frozen? ⟨b3,1,none⟩=false)∧
 (W.cell? ⟨b,0,none⟩=some (.int .i64 f1)∧W.cell? ⟨b,1,none⟩=some (.int .i64 u1)∧W.cell? ⟨b,2,none⟩=some (.int .i64 f2)∧W.cell? ⟨b,3,none⟩=some (.int .i64 u2))∧
 (W.cell? ⟨w.heap.size,0,none⟩=some (.int .i64 0)∧W.cell? ⟨w.heap.size,1,none⟩=some (.int .i64 0)∧W.frozen? ⟨w.heap.size,0,none⟩=false∧W.frozen? ⟨w.heap.size,1,none⟩=false)∧
 Below w.heap.size w W∧(b < w.heap.size∧w.heap.size < b3∧b3 < W.heap.size)
theorem MeT.step {w W:World} {b b3:Nat} {f1 u1 f2 u2 f u F U:Int} (h:MeT w b b3 f1 u1 f2 u2 f u W) (o:Obj) (f' u':Int) (eF:f' =F) (eU:u' =U):MeT w b b3 f1 u1 f2 u2 F U (((W.alloc o).setCell ⟨b3,0,none⟩ (.int .i64 f')).setCell ⟨b3,1,none⟩ (.int .i64 u')):=by
 subst eF eU
 obtain ⟨⟨a1,a2,a3,a4⟩,⟨b0,b1,b2,b4⟩,⟨c1,c2,c3,c4⟩,hB,l1,l2,l3⟩:=h
 have hn:=yaa (o:=o) (Below.refl W.heap.size W) (zG _)
 have e1:=(hn.cell (p:=⟨b3,0,none⟩) l3).trans a1
 have e2:=(hn.cell (p:=⟨b3,1,none⟩) l3).trans a2
 have g1:=(hn.frozen (p:=⟨b3,0,none⟩) l3).trans a3
 have g2:=(hn.frozen (p:=⟨b3,1,none⟩) l3).trans a4
 have hb:Below b3 W (((W.alloc o).setCell ⟨b3,0,none⟩ (.int .i64 f')).setCell ⟨b3,1,none⟩ (.int .i64 u')):=yab (yab (yaa (Below.refl _ _) (Nat.le_of_lt l3)) (zG _)) (zG _)
 have r:=ycG (x:= .int .i64 f') (y:= .int .i64 u') e1 e2
 refine ⟨⟨r 0 _ rfl,r 1 _ rfl,by rw [yae,yae]; exact g1,by rw [yae,yae]; exact g2⟩,
  ⟨(hb.cell (p:=⟨b,0,none⟩) (by show b < b3; omega)).trans b0,(hb.cell (p:=⟨b,1,none⟩) (by show b < b3; omega)).trans b1,(hb.cell (p:=⟨b,2,none⟩) (by show b < b3; omega)).trans b2,(hb.cell (p:=⟨b,3,none⟩) (by show b < b3; omega)).trans b4⟩,
  ⟨(hb.cell (p:=⟨w.heap.size,0,none⟩) l2).trans c1,(hb.cell (p:=⟨w.heap.size,1,none⟩) l2).trans c2,(hb.frozen (p:=⟨w.heap.size,0,none⟩) l2).trans c3,(hb.frozen (p:=⟨w.heap.size,1,none⟩) l2).trans c4⟩,
  hB.trans (hb.mono (Nat.le_of_lt l2)),l1,l2,?_⟩
 rw [World.size_setCell,World.size_setCell,zzN]; omega
theorem SMeet_two (b:Nat) (f1 u1 f2 u2:Int) (w:World) (hb:b < w.heap.size)
  (k0:w.cell? ⟨b,0,none⟩=some (.int .i64 f1)) (k1:w.cell? ⟨b,1,none⟩=some (.int .i64 u1)) (k2:w.cell? ⟨b,2,none⟩=some (.int .i64 f2)) (k3:w.cell? ⟨b,3,none⟩=some (.int .i64 u2)) :
  Calls Tryz.prog 176 #[.slice (some ⟨b,0,none⟩) 2 2] w fun e w'=>e= .returned (spv (yaq (max (max 0 f1) f2) (min (min 12622780799 u1) u2)) (yap (max (max 0 f1) f2) (min (min 12622780799 u1) u2)))∧Below w.heap.size w w':=by
 have c0:=hid (fun W=>yhs W)
 have c1:=hid (fun W=>ycj (max (max 0 f1) f2) (min (min 12622780799 u1) u2) W)
 obtain ⟨M,hM0⟩:∃M,max 0 f1=M:=⟨_,rfl⟩
 obtain ⟨N,hN0⟩:∃N,min 12622780799 u1=N:=⟨_,rfl⟩
 rw [hM0,hN0] at c1⊢
 obtain ⟨A,hA0⟩:∃A,max M f2=A:=⟨_,rfl⟩
 obtain ⟨B,hB0⟩:∃B,min N u2=B:=⟨_,rfl⟩
 rw [hA0,hB0] at c1⊢
 obtain ⟨X,hX⟩:∃X,yaq A B=X:=⟨_,rfl⟩
 obtain ⟨Y,hY⟩:∃Y,yap A B=Y:=⟨_,rfl⟩
 rw [hX,hY] at c1⊢
 have HM0:=hid hM0
 have HN0:=hid hN0
 have HA0:=hid hA0
 have HB0:=hid hB0
 clear hM0 hN0 hA0 hB0 hX hY
 have H0:=hid k0
 have H1:=hid k1
 have H2:=hid k2
 have H3:=hid k3
 clear k0 k1 k2 k3
 go_enter Tryz.func176,Tryz.ntmps176
 go_wp2_with fail
 refine (c0.out _).mono ?_
 rintro e w1 ⟨rfl,hB1⟩
 have z1:=(hB1.cell (p:=⟨w.heap.size,0,none⟩) (by simp)).trans (show _ =some (.int .i64 0) by simp [go_sem])
 have z2:=(hB1.cell (p:=⟨w.heap.size,1,none⟩) (by simp)).trans (show _ =some (.int .i64 0) by simp [go_sem])
 have g1:=(hB1.frozen (p:=⟨w.heap.size,0,none⟩) (by simp)).trans (show _ =false by simp [go_sem])
 have g2:=(hB1.frozen (p:=⟨w.heap.size,1,none⟩) (by simp)).trans (show _ =false by simp [go_sem])
 have hs1:w.heap.size < w1.heap.size:=by have:=hB1.size; rw [zzN] at this; exact this
 have hB1':Below w.heap.size w w1:=(yaa (Below.refl _ _) (zG _)).trans (hB1.mono (by simp))
 have q0:=(hB1'.cell (p:=⟨b,0,none⟩) hb).trans H0.out
 have q1:=(hB1'.cell (p:=⟨b,1,none⟩) hb).trans H1.out
 have q2:=(hB1'.cell (p:=⟨b,2,none⟩) hb).trans H2.out
 have q3:=(hB1'.cell (p:=⟨b,3,none⟩) hb).trans H3.out
 have hne1:b≠w1.heap.size:=by omega
 have hne2:w.heap.size≠w1.heap.size:=by omega
 have HB1:=hid hB1'
 clear hB1 hB1'
 have hM:Hid (MeT w b w1.heap.size f1 u1 f2 u2 0 12622780799 (w1.alloc (.cells #[.int .i64 0, .int .i64 12622780799] 84))):=by
  have hn:=yaa (o:= .cells #[.int .i64 0, .int .i64 12622780799] 84) (Below.refl w1.heap.size w1) (zG _)
  have hb1:b < w1.heap.size:=by omega
  exact ⟨⟨by simp [go_sem],by simp [go_sem],by simp [go_sem],by simp [go_sem]⟩,⟨(hn.cell (p:=⟨b,0,none⟩) hb1).trans q0,(hn.cell (p:=⟨b,1,none⟩) hb1).trans q1,(hn.cell (p:=⟨b,2,none⟩) hb1).trans q2,(hn.cell (p:=⟨b,3,none⟩) hb1).trans q3⟩,
   ⟨(hn.cell (p:=⟨w.heap.size,0,none⟩) hs1).trans z1,(hn.cell (p:=⟨w.heap.size,1,none⟩) hs1).trans z2,(hn.frozen (p:=⟨w.heap.size,0,none⟩) hs1).trans g1,(hn.frozen (p:=⟨w.heap.size,1,none⟩) hs1).trans g2⟩,
   HB1.out.trans (hn.mono (Nat.le_of_lt hs1)),hb,hs1,by simp⟩
 clear z1 z2 g1 g2 q0 q1 q2 q3 hne1 hne2 HB1 H0 H1 H2 H3
 go_wp2
 go_loopw [9] (fun i wr=>∃k:Nat,i= .int .i64 k∧k≤2∧Hid (MeT w b w1.heap.size f1 u1 f2 u2 (if k=0 then 0 else if k=1 then M else A) (if k=0 then 12622780799 else if k=1 then N else B) wr)) (fun i _=>2 - (intOf i).toNat)
 case atStart=>exact ⟨0,rfl,by omega,hM.out⟩
 case round=>
  obtain ⟨k,rfl,hk,HM⟩:=hrel
  have hk3:k=0∨k=1∨k=2:=by omega
  rcases hk3 with rfl | rfl | rfl
  ·have HK:Hid (MeT w b w1.heap.size f1 u1 f2 u2 0 12622780799 wr):=HM
   obtain ⟨⟨a1,a2,a3,a4⟩,⟨b0,b1,b2,b4⟩,-,-,-⟩:=HK.out
   clear b2 b4 HM
   have hn:=yaa (o:= .cells #[.int .i64 f1, .int .i64 u1] 84) (Below.refl wr.heap.size wr) (zG _)
   have l3:w1.heap.size < wr.heap.size:=HK.out.2.2.2.2.2.2
   have e1:=(hn.cell (p:=⟨w1.heap.size,0,none⟩) l3).trans a1
   have e2:=(hn.cell (p:=⟨w1.heap.size,1,none⟩) l3).trans a2
   have g1:=(hn.frozen (p:=⟨w1.heap.size,0,none⟩) l3).trans a3
   have g2:=(hn.frozen (p:=⟨w1.heap.size,1,none⟩) l3).trans a4
   clear hn l3 a1 a2 a3 a4
   go_wp2
   exact ⟨⟨1,by go_num,by omega,HK.out.step _ _ _ (by have:=HM0.out; show _ =M; split <;> omega) (by have:=HN0.out; show _ =N; split <;> omega)⟩,by simp [intOf]⟩
  ·have HK:Hid (MeT w b w1.heap.size f1 u1 f2 u2 M N wr):=HM
   obtain ⟨⟨a1,a2,a3,a4⟩,⟨b0,b1,b2,b4⟩,-,-,-⟩:=HK.out
   clear b0 b1 HM
   have hn:=yaa (o:= .cells #[.int .i64 f2, .int .i64 u2] 84) (Below.refl wr.heap.size wr) (zG _)
   have l3:w1.heap.size < wr.heap.size:=HK.out.2.2.2.2.2.2
   have e1:=(hn.cell (p:=⟨w1.heap.size,0,none⟩) l3).trans a1
   have e2:=(hn.cell (p:=⟨w1.heap.size,1,none⟩) l3).trans a2
   have g1:=(hn.frozen (p:=⟨w1.heap.size,0,none⟩) l3).trans a3
   have g2:=(hn.frozen (p:=⟨w1.heap.size,1,none⟩) l3).trans a4
   clear hn l3 a1 a2 a3 a4
   go_wp2
   exact ⟨⟨2,by go_num,by omega,HK.out.step _ _ _ (by have:=HA0.out; show _ =A; split <;> omega) (by have:=HB0.out; show _ =B; split <;> omega)⟩,by simp [intOf]⟩
  ·have HQ:Hid (MeT w b w1.heap.size f1 u1 f2 u2 A B wr):=HM
   obtain ⟨⟨a1,a2,-,-⟩,-,⟨z1,z2,j1,j2⟩,hB,-,-,-⟩:=HQ.out
   have HB:=hid hB
   clear hB
   go_wp2_with fail
   refine (c1.out _).mono ?_
   rintro e w3 ⟨rfl,hB3⟩
   have l1:w.heap.size < wr.heap.size:=by have:=HQ.out.2.2.2.2; omega
   have z1':=(hB3.cell (p:=⟨w.heap.size,0,none⟩) l1).trans z1
   have z2':=(hB3.cell (p:=⟨w.heap.size,1,none⟩) l1).trans z2
   have j1':=(hB3.frozen (p:=⟨w.heap.size,0,none⟩) l1).trans j1
   have j2':=(hB3.frozen (p:=⟨w.heap.size,1,none⟩) l1).trans j2
   have HB3:Hid (Below w.heap.size w w3):=HB.out.trans (hB3.mono (Nat.le_of_lt l1))
   clear hB3 a1 a2 z1 z2 j1 j2
   go_wp2
   exact bodyPost_ret (yad rfl _ _ w.heap.size 0 _ _ rfl (ycG z1' z2') Tryz.underlying84 rfl yfd) rfl ⟨rfl,yab (yab HB3.out (zG _)) (zG _)⟩
theorem SCut_any (f u n:Int) (w:World) (h0:0≤n) (h1:n < 146097) (hne:max (max 0 f) (86400 * n)≤min (min 12622780799 u) (86400 * n+86399)) :
  Calls Tryz.prog 148 #[spv f u, .int .i64 n] w fun e w'=>e= .returned (.tuple #[.int .i64 (max (max 0 f) (86400 * n) % 86400), .int .i64 (min (min 12622780799 u) (86400 * n+86399) % 86400), .bool true])∧Below w.heap.size w w':=by
 have cD:=hid (fun W=>SDay_any n W h0 h1)
 have cM:=hid (fun b W hb k0 k1 k2 k3=>SMeet_two b f u (86400 * n) (86400 * n+86399) W hb k0 k1 k2 k3)
 obtain ⟨d,hdd⟩:∃d,86400 * n=d:=⟨_,rfl⟩
 rw [hdd] at cD cM hne⊢
 have hx0:0≤max (max 0 f) d:=by omega
 have hx1:max (max 0 f) d < 12622780800:=by omega
 have hy0:0≤min (min 12622780799 u) (d+86399):=by omega
 have hy1:min (min 12622780799 u) (d+86399) < 12622780800:=by omega
 obtain ⟨X,hX⟩:∃X,max (max 0 f) d=X:=⟨_,rfl⟩
 obtain ⟨Y,hY⟩:∃Y,min (min 12622780799 u) (d+86399)=Y:=⟨_,rfl⟩
 rw [hX] at cM hx0 hx1 hne⊢
 rw [hY] at cM hy0 hy1 hne⊢
 have hhX:yaq X Y=X:=by rcases ya2 X Y with ⟨e1,e2,h⟩ | ⟨e1,e2,h⟩ <;> omega
 have hhY:yap X Y=Y:=by rcases ya2 X Y with ⟨e1,e2,h⟩ | ⟨e1,e2,h⟩ <;> omega
 rw [hhX,hhY] at cM
 have c1:=hid (fun W=>ybq X W hx0 hx1)
 have c2:=hid (fun W=>ybq Y W hy0 hy1)
 clear hdd h0 h1 hne hX hY hhX hhY hx0 hx1 hy0 hy1
 have HS0:Hid (CtS w (w.alloc (.cells #[.int .i64 f, .int .i64 u] 84)).drew):=⟨(yaa (Below.refl _ _) (zG _)).drew,by show _ < (World.alloc _ _).heap.size; simp⟩
 go_enter Tryz.func148,Tryz.ntmps148
 go_wp2_with fail
 refine wp_region_held_drew (S:=fun w'=>CtS w w') (by kernel_rfl) HS0.out (fun hHeld=>?_)
 refine zhD 1 ?_
 refine wpAnyH_ready (rs:= [0,2]) (by kernel_rfl) (by simp) ?_
 refine AllReadyH.cons rfl (fun K hK=>?_) (AllReadyH.cons rfl (fun K hK=>?_) AllReadyH.nil)
 ·go_simp
  (try go_wp2_with fail)
  refine hK.out _ _ (by assumption) (fun hHeld=>?_)
  clear hK K
  try simp only [zP]
  refine zzK 2 (fun K hK=>?_)
  go_simp
  refine (cD.out _).mono ?_
  rintro e w1 ⟨rfl,hB1⟩
  have k1:=(hB1.cell (p:=⟨w.heap.size,0,none⟩) (by simp [World.size_drew])).trans (show _ =some (.int .i64 f) by simp [go_sem])
  have k2:=(hB1.cell (p:=⟨w.heap.size,1,none⟩) (by simp [World.size_drew])).trans (show _ =some (.int .i64 u) by simp [go_sem])
  have f1:=(hB1.frozen (p:=⟨w.heap.size,0,none⟩) (by simp [World.size_drew])).trans (show _ =false by simp [go_sem])
  have f2:=(hB1.frozen (p:=⟨w.heap.size,1,none⟩) (by simp [World.size_drew])).trans (show _ =false by simp [go_sem])
  have hS1:=CtS.keep hHeld hB1
  (try go_wp2_with fail)
  refine hK.out _ _ hS1 (fun hHeld=>?_)
  clear hK K
  try simp only [zP]
  have hn:=yaa (o:= .cells #[.int .i64 f, .int .i64 u, .int .i64 d, .int .i64 (d+86399)] 84) (Below.refl w1.heap.size w1) (zG _)
  have hl1:w.heap.size < w1.heap.size:=hS1.2
  refine zzK 3 (fun K hK=>?_)
  go_simp
  (try go_wp2_with fail)
  refine hK.out _ _ (CtS.keep hS1 hn) (fun hHeld=>?_)
  clear hK K
  try simp only [zP]
  refine zzK 4 (fun K hK=>?_)
  go_simp
  refine (cM.out w1.heap.size _ (by simp) (by simp [go_sem]) (by simp [go_sem]) (by simp [go_sem]) (by simp [go_sem])).mono ?_
  rintro e w2 ⟨rfl,hB2⟩
  have hS2:=CtS.keep hHeld hB2
  have m1:=(hB2.cell (p:=⟨w.heap.size,0,none⟩) (by simp only [zzN]; omega)).trans ((hn.cell (p:=⟨w.heap.size,0,none⟩) hl1).trans k1)
  have m2:=(hB2.cell (p:=⟨w.heap.size,1,none⟩) (by simp only [zzN]; omega)).trans ((hn.cell (p:=⟨w.heap.size,1,none⟩) hl1).trans k2)
  have n1:=(hB2.frozen (p:=⟨w.heap.size,0,none⟩) (by simp only [zzN]; omega)).trans ((hn.frozen (p:=⟨w.heap.size,0,none⟩) hl1).trans f1)
  have n2:=(hB2.frozen (p:=⟨w.heap.size,1,none⟩) (by simp only [zzN]; omega)).trans ((hn.frozen (p:=⟨w.heap.size,1,none⟩) hl1).trans f2)
  clear hn k1 k2 f1 f2
  (try go_wp2_with fail)
  refine hK.out _ _ (by assumption) (fun hHeld=>?_)
  clear hK K
  try simp only [zP]
  refine zzK 5 (fun K hK=>?_)
  go_simp
  (try go_wp2_with fail)
  refine hK.out _ _ ⟨yab (yab hS2.1 (zG _)) (zG _),by rw [World.size_setCell,World.size_setCell]; exact hS2.2⟩ (fun hHeld=>?_)
  clear hK K
  try simp only [zP]
  refine wpAnyH_done (by kernel_rfl) ?_ _
  have HB2:=hid hS2.1
  go_wp2_with (first | (go_at_call 39; with_reducible refine (c1.out _).mono ?_; rintro e w' ⟨rfl,rfl⟩) | (go_at_call 39; with_reducible refine (c2.out _).mono ?_; rintro e w' ⟨rfl,rfl⟩))
  exact bodyPost_ret (v:= .tuple #[.int .i64 (X % 86400), .int .i64 (Y % 86400), .bool true]) (by simp [results,Tryz.results148,go_sem]) rfl ⟨rfl,yab (yab HB2.out (zG _)) (zG _)⟩
 ·go_simp
  refine (cD.out _).mono ?_
  rintro e w1 ⟨rfl,hB1⟩
  have k1:=(hB1.cell (p:=⟨w.heap.size,0,none⟩) (by simp [World.size_drew])).trans (show _ =some (.int .i64 f) by simp [go_sem])
  have k2:=(hB1.cell (p:=⟨w.heap.size,1,none⟩) (by simp [World.size_drew])).trans (show _ =some (.int .i64 u) by simp [go_sem])
  have f1:=(hB1.frozen (p:=⟨w.heap.size,0,none⟩) (by simp [World.size_drew])).trans (show _ =false by simp [go_sem])
  have f2:=(hB1.frozen (p:=⟨w.heap.size,1,none⟩) (by simp [World.size_drew])).trans (show _ =false by simp [go_sem])
  have hS1:=CtS.keep hHeld hB1
  (try go_wp2_with fail)
  refine hK.out _ _ hS1 (fun hHeld=>?_)
  clear hK K
  try simp only [zP]
  refine zzK 0 (fun K hK=>?_)
  go_simp
  (try go_wp2_with fail)
  refine hK.out _ _ (by assumption) (fun hHeld=>?_)
  clear hK K
  try simp only [zP]
  have hn:=yaa (o:= .cells #[.int .i64 f, .int .i64 u, .int .i64 d, .int .i64 (d+86399)] 84) (Below.refl w1.heap.size w1) (zG _)
  have hl1:w.heap.size < w1.heap.size:=hS1.2
  refine zzK 3 (fun K hK=>?_)
  go_simp
  (try go_wp2_with fail)
  refine hK.out _ _ (CtS.keep hS1 hn) (fun hHeld=>?_)
  clear hK K
  try simp only [zP]
  refine zzK 4 (fun K hK=>?_)
  go_simp
  refine (cM.out w1.heap.size _ (by simp) (by simp [go_sem]) (by simp [go_sem]) (by simp [go_sem]) (by simp [go_sem])).mono ?_
  rintro e w2 ⟨rfl,hB2⟩
  have hS2:=CtS.keep hHeld hB2
  have m1:=(hB2.cell (p:=⟨w.heap.size,0,none⟩) (by simp only [zzN]; omega)).trans ((hn.cell (p:=⟨w.heap.size,0,none⟩) hl1).trans k1)
  have m2:=(hB2.cell (p:=⟨w.heap.size,1,none⟩) (by simp only [zzN]; omega)).trans ((hn.cell (p:=⟨w.heap.size,1,none⟩) hl1).trans k2)
  have n1:=(hB2.frozen (p:=⟨w.heap.size,0,none⟩) (by simp only [zzN]; omega)).trans ((hn.frozen (p:=⟨w.heap.size,0,none⟩) hl1).trans f1)
  have n2:=(hB2.frozen (p:=⟨w.heap.size,1,none⟩) (by simp only [zzN]; omega)).trans ((hn.frozen (p:=⟨w.heap.size,1,none⟩) hl1).trans f2)
  clear hn k1 k2 f1 f2
  (try go_wp2_with fail)
  refine hK.out _ _ (by assumption) (fun hHeld=>?_)
  clear hK K
  try simp only [zP]
  refine zzK 5 (fun K hK=>?_)
  go_simp
  (try go_wp2_with fail)
  refine hK.out _ _ ⟨yab (yab hS2.1 (zG _)) (zG _),by rw [World.size_setCell,World.size_setCell]; exact hS2.2⟩ (fun hHeld=>?_)
  clear hK K
  try simp only [zP]
  refine wpAnyH_done (by kernel_rfl) ?_ _
  have HB2:=hid hS2.1
  go_wp2_with (first | (go_at_call 39; with_reducible refine (c1.out _).mono ?_; rintro e w' ⟨rfl,rfl⟩) | (go_at_call 39; with_reducible refine (c2.out _).mono ?_; rintro e w' ⟨rfl,rfl⟩))
  exact bodyPost_ret (v:= .tuple #[.int .i64 (X % 86400), .int .i64 (Y % 86400), .bool true]) (by simp [results,Tryz.results148,go_sem]) rfl ⟨rfl,yab (yab HB2.out (zG _)) (zG _)⟩
end
section
open Go.RowKit
attribute [local go_sem ↓] yaC
structure LpG (W:World) (b7 b5 b6 b3 b4 b1:Nat) (fv:Value) (c:Cl) (B:Nat) (F U X Y:Int):Prop where
 c7:W.cell? ⟨b7,0,none⟩=some (.bool true)
 c5:W.cell? ⟨b5,0,none⟩=some (.int .i64 F)
 c6:W.cell? ⟨b6,0,none⟩=some (.int .i64 U)
 c3:W.cell? ⟨b3,0,none⟩=some fv
 c4:W.cell? ⟨b4,0,none⟩=some (.int .i64 X)∧W.cell? ⟨b4,1,none⟩=some (.int .i64 Y)
 c1:ClB W b1 c
 l:b7 < B∧b5 < B∧b6 < B∧b3 < B∧b4 < B∧b1 < B
theorem LpG.below {W W':World} {b7 b5 b6 b3 b4 b1 B:Nat} {fv:Value} {c:Cl} {F U X Y:Int} (h:LpG W b7 b5 b6 b3 b4 b1 fv c B F U X Y) (hb:Below B W W'):LpG W' b7 b5 b6 b3 b4 b1 fv c B F U X Y:=by
 obtain ⟨l7,l5,l6,l3,l4,l1⟩:=h.l
 exact ⟨(hb.cell (p:=⟨b7,0,none⟩) l7).trans h.c7,(hb.cell (p:=⟨b5,0,none⟩) l5).trans h.c5,(hb.cell (p:=⟨b6,0,none⟩) l6).trans h.c6,(hb.cell (p:=⟨b3,0,none⟩) l3).trans h.c3,
  ⟨(hb.cell (p:=⟨b4,0,none⟩) l4).trans h.c4.1,(hb.cell (p:=⟨b4,1,none⟩) l4).trans h.c4.2⟩,h.c1.below hb l1,h.l⟩
theorem ykx (c:Cl) (n F U X Y f u:Int) (b7 b5 b6 b3 b4 b1 x1 x2:Nat) (w:World) (hc:c.Ok) (hm:mayC c=true) (h0:0≤n) (h1:n < 146097) (hlo:F≤n) (hhi:n≤U) (hmid:¬(n=F∨n=U)→f=0∧u=86399)
  (hL:LpG w b7 b5 b6 b3 b4 b1 (.func (.func 137) #[] #[.pointer (some ⟨x1,0,none⟩), .pointer (some ⟨x2,0,none⟩)]) c w.heap.size F U X Y)
  (hcut:∀W,(n=F∨n=U)→Calls Tryz.prog 148 #[spv X Y, .int .i64 n] W fun e w'=>e= .returned (.tuple #[.int .i64 f, .int .i64 u, .bool true])∧Below W.heap.size W w')
  (hcall:∀W',Below w.heap.size w W'→Calls Tryz.prog 137 #[shN n, .pointer (some ⟨x1,0,none⟩), .pointer (some ⟨x2,0,none⟩)] W' fun e w'=>e= .returned (.bool (dayC c n))∧Below W'.heap.size W' w') :
  Calls Tryz.prog 147 #[shN n, .pointer (some ⟨b7,0,none⟩), .pointer (some ⟨b5,0,none⟩), .pointer (some ⟨b6,0,none⟩), .pointer (some ⟨b3,0,none⟩), .pointer (some ⟨b4,0,none⟩), .pointer (some ⟨b1,0,none⟩)] w fun e w'=>e= .returned (if dayC c n then stv true f u (ycH c n) else stv false 0 0 0)∧Below w.heap.size w w':=by
 obtain ⟨-,hst,hu,ha⟩:=ycI hm
 have cC:=hid hcut
 have Hmid:=hid hmid
 have cZ:=hid (fun W=>ydR c.unit W)
 have cP:=hid (fun W hz=>Phase_any c.unit c.step c.anchor n W hu ha hst hc.step h0 h1 hz)
 have hz:=ycq c.unit
 have HL:=hid hL
 have HC:=hid hcall
 have hn0:shF n 0=n:=rfl
 rw [ycH]
 obtain ⟨p,hp⟩:∃p,(yaM c.unit c.anchor - 86400 * n / yav c.unit) % c.step=p:=⟨_,rfl⟩
 rw [hp] at cP⊢
 obtain ⟨z,hzz⟩:∃z,yav c.unit=z:=⟨_,rfl⟩
 rw [hzz] at cZ cP hz⊢
 obtain ⟨x,hx⟩:∃x,dayC c n=x:=⟨_,rfl⟩
 rw [hx] at HC⊢
 clear hp hzz hx hcall hL hm hu ha hcut hmid
 rw [←ybg] at HC⊢
 obtain ⟨s,hs⟩:∃s,shF n=s:=⟨_,rfl⟩
 rw [hs] at HC hn0⊢
 clear hs
 rw [shq] at HC⊢
 obtain rfl:s 0=n:=hn0
 have hB0:Below w.heap.size w ((w.alloc (.cells (yaV s).toArray 88)).alloc (.cells #[.bool false, .int .i64 0, .int .i64 0, .int .i64 0] 203)):=yaa (yaa (Below.refl _ _) (zG _)) (by simp)
 have hF0:Four ((w.alloc (.cells (yaV s).toArray 88)).alloc (.cells #[.bool false, .int .i64 0, .int .i64 0, .int .i64 0] 203)) (w.heap.size+1) (.bool false) (.int .i64 0) (.int .i64 0) (.int .i64 0):=by
  have h:=ybN (w.alloc (.cells (yaV s).toArray 88)) (.bool false) (.int .i64 0) (.int .i64 0) (.int .i64 0) 203
  rw [zzN] at h
  exact h
 have HB0:=hid hB0
 have HF0:=hid hF0
 obtain ⟨k7,k5,k6,k3,-,-,-⟩:=HL.out.below hB0
 have hlt0:¬s 0 < F:=by omega
 have hlt1:¬U < s 0:=by omega
 clear hB0 hF0
 go_enter Tryz.func147,Tryz.ntmps147
 go_wp2_with fail
 refine (HC.out _ HB0.out).mono ?_
 rintro e w1 ⟨rfl,hB1⟩
 have HB1:Hid (Below w.heap.size w w1):=HB0.out.trans (hB1.mono (by simp only [zzN]; omega))
 have HF1:=hid (HF0.out.below hB1 (by simp only [zzN]; omega))
 have Hs1:Hid (w.heap.size+1 < w1.heap.size):=by have:=hB1.size; simp only [zzN] at this; show _ < _; omega
 clear hB1 k7 k5 k6 k3 HC HF0 HB0
 cases x
 ·obtain ⟨⟨a0,a1,a2,a3⟩,f0,f1,f2,f3⟩:=HF1.out
  go_wp2
  exact bodyPost_ret (yad rfl _ _ (w.heap.size+1) 0 _ _ rfl (HF1.out.put _ _ _ _) Tryz.underlying203 rfl ycO) rfl ⟨rfl,yab (yab (yab (yab HB1.out (by omega)) (by omega)) (by omega)) (by omega)⟩
 have hnV:=yaa (o:= .cells #[.bool true, .int .i64 0, .int .i64 86399, .int .i64 0] 203) (Below.refl w1.heap.size w1) (zG _)
 have HLV:=hid ((HL.out.below HB1.out).below (hnV.mono (by have:=Hs1.out; omega)))
 have HFV:=hid (HF1.out.below hnV Hs1.out)
 have HTV:=hid (ybN w1 (.bool true) (.int .i64 0) (.int .i64 86399) (.int .i64 0) 203)
 have HBV:=hid (HB1.out.trans (hnV.mono (by have:=Hs1.out; omega)))
 clear hnV
 have HSV:Hid (w1.heap.size < (w1.alloc (.cells #[.bool true, .int .i64 0, .int .i64 86399, .int .i64 0] 203)).heap.size):=by show _ < _; simp
 by_cases he:s 0=F∨s 0=U
 ·have hE:Hid (s 0=F∨s 0=U):=he
  obtain ⟨k7,k5,k6,k3,⟨k4,k4'⟩,-,-⟩:=HLV.out
  have hq:((s 0 == F)=true)∨((s 0 == F)=false∧(s 0 == U)=true):=by
   by_cases hf:s 0=F
   ·exact .inl (by simp [hf])
   ·exact .inr ⟨by simp [hf],by have h3:s 0=U:=he.resolve_left hf; simp [h3]⟩
  clear he
  rcases hq with hq | ⟨hq,hq2⟩
  all_goals
   go_wp2_with fail
   refine (cC.out _ hE.out).mono ?_
   rintro e w2 ⟨rfl,hB2⟩
   clear k7 k5 k6 k3 k4 k4'
   have HL2:=hid (HLV.out.below (hB2.mono (by have:=Hs1.out; simp only [zzN]; omega)))
   have HF2:=hid (HFV.out.below hB2 (by have:=Hs1.out; simp only [zzN]; omega))
   have HT2:=hid (HTV.out.below hB2 (by simp))
   have HB2:=hid (HBV.out.trans (hB2.mono (by have:=Hs1.out; simp only [zzN]; omega)))
   have Hs2:Hid (w1.heap.size < w2.heap.size):=by have:=hB2.size; rw [zzN] at this; exact this
   clear hB2
   have hbX:Below w1.heap.size w2 ((w2.setCell ⟨w1.heap.size,1,none⟩ (.int .i64 f)).setCell ⟨w1.heap.size,2,none⟩ (.int .i64 u)):=yab (yab (Below.refl _ _) (zG _)) (zG _)
   have HLX:=hid (HL2.out.below (hbX.mono (by have:=Hs1.out; omega)))
   have HFX:=hid (HF2.out.below hbX Hs1.out)
   have HTX:=hid (HT2.out.set1 (.int .i64 f) (.int .i64 u))
   have HBX:=hid (HB2.out.trans (hbX.mono (by have:=Hs1.out; omega)))
   have HSX:Hid (w1.heap.size < ((w2.setCell ⟨w1.heap.size,1,none⟩ (.int .i64 f)).setCell ⟨w1.heap.size,2,none⟩ (.int .i64 u)).heap.size):=by show _ < _; rw [World.size_setCell,World.size_setCell]; exact Hs2.out
   clear hbX
   by_cases h1s:1 < c.step
   ·have hd1:decide (1 < c.step)=true:=zzZ h1s
    rcases hz with hz | hz
    ·have hval:Hid (Ending.returned (.agg [.bool true, .int .i64 f, .int .i64 u, .int .i64 p].toArray)= .returned (if true=true then stv true f u (if 1 < c.step∧0 < z then p else 0) else stv false 0 0 0)):=by show _ = _; rw [if_pos rfl,if_pos ⟨h1s,hz⟩]
     have hd2:decide (0 < z)=true:=zzZ hz
     obtain ⟨t0,t1,t2,-,-⟩:=HLX.out.c1.tail
     obtain ⟨⟨m0,m1,m2,m3⟩,n0,n1,n2,n3⟩:=HT2.out
     go_wp2_with fail
     refine (cZ.out _).mono ?_
     rintro e w3 ⟨rfl,hB3⟩
     have HL3:=hid (HLX.out.below (hB3.mono (by have:=HSX.out; have:=Hs1.out; omega)))
     have HF3:=hid (HFX.out.below hB3 (by have:=HSX.out; have:=Hs1.out; omega))
     have HT3:=hid (HTX.out.below hB3 HSX.out)
     have HB3:=hid (HBX.out.trans (hB3.mono (by have:=HSX.out; have:=Hs1.out; omega)))
     have Hs3:Hid (w1.heap.size < w3.heap.size):=zH HSX.out hB3.size
     clear hB3 t0 t1 t2
     obtain ⟨t0,t1,t2,-,-⟩:=HL3.out.c1.tail
     go_wp2_with fail
     refine (cP.out _ hz).mono ?_
     rintro e w4 ⟨rfl,hB4⟩
     have HF4:=hid (HF3.out.below hB4 (by have:=Hs3.out; have:=Hs1.out; omega))
     have HT4:=hid (HT3.out.below hB4 Hs3.out)
     have HB4:=hid (HB3.out.trans (hB4.mono (by have:=Hs3.out; have:=Hs1.out; omega)))
     clear hB4 t0 t1 t2
     obtain ⟨⟨a0,a1,a2,a3⟩,f0,f1,f2,f3⟩:=HF4.out
     obtain ⟨⟨d0,d1,d2,d3⟩,-,-,-,g3⟩:=HT4.out
     have hF5:Four (w4.setCell ⟨w1.heap.size,3,none⟩ (.int .i64 p)) (w.heap.size+1) (.bool false) (.int .i64 0) (.int .i64 0) (.int .i64 0):=HF4.out.below (yab (Below.refl w1.heap.size w4) (zG _)) Hs1.out
     have hB5:Below w.heap.size w (w4.setCell ⟨w1.heap.size,3,none⟩ (.int .i64 p)):=yab HB4.out (by have:=Hs1.out; omega)
     have HF5:=hid hF5
     have HB5:=hid hB5
     obtain ⟨⟨j0,j1,j2,j3⟩,i0,i1,i2,i3⟩:=hF5
     clear hB5
     go_wp2
     exact bodyPost_ret (yad rfl _ _ (w.heap.size+1) 0 _ _ rfl (HF5.out.put _ _ _ _) Tryz.underlying203 rfl ycO) rfl ⟨by first | rfl | exact hval.out,yab (yab (yab (yab HB5.out (by omega)) (by omega)) (by omega)) (by omega)⟩
    ·have hval:Hid (Ending.returned (.agg [.bool true, .int .i64 f, .int .i64 u, .int .i64 0].toArray)= .returned (if true=true then stv true f u (if 1 < c.step∧0 < z then p else 0) else stv false 0 0 0)):=by show _ = _; rw [if_pos rfl,if_neg (by omega)]
     subst hz
     obtain ⟨t0,t1,t2,-,-⟩:=HLX.out.c1.tail
     obtain ⟨⟨m0,m1,m2,m3⟩,n0,n1,n2,n3⟩:=HT2.out
     go_wp2_with fail
     refine (cZ.out _).mono ?_
     rintro e w3 ⟨rfl,hB3⟩
     have HF3:=hid (HFX.out.below hB3 (by have:=HSX.out; have:=Hs1.out; omega))
     have HT3:=hid (HTX.out.below hB3 HSX.out)
     have HB3:=hid (HBX.out.trans (hB3.mono (by have:=HSX.out; have:=Hs1.out; omega)))
     clear hB3 t0 t1 t2
     obtain ⟨⟨a0,a1,a2,a3⟩,f0,f1,f2,f3⟩:=HF3.out
     obtain ⟨⟨d0,d1,d2,d3⟩,-,-,-,-⟩:=HT3.out
     go_wp2
     exact bodyPost_ret (yad rfl _ _ (w.heap.size+1) 0 _ _ rfl (HF3.out.put _ _ _ _) Tryz.underlying203 rfl ycO) rfl ⟨by first | rfl | exact hval.out,yab (yab (yab (yab HB3.out (by omega)) (by omega)) (by omega)) (by omega)⟩
   ·have hd1:decide (1 < c.step)=false:=zzd h1s
    have hval:Hid (Ending.returned (.agg [.bool true, .int .i64 f, .int .i64 u, .int .i64 0].toArray)= .returned (if true=true then stv true f u (if 1 < c.step∧0 < z then p else 0) else stv false 0 0 0)):=by show _ = _; rw [if_pos rfl,if_neg (by omega)]
    obtain ⟨t0,t1,t2,-,-⟩:=HLX.out.c1.tail
    obtain ⟨⟨a0,a1,a2,a3⟩,f0,f1,f2,f3⟩:=HFX.out
    obtain ⟨⟨d0,d1,d2,d3⟩,-,-,-,-⟩:=HTX.out
    obtain ⟨⟨m0,m1,m2,m3⟩,n0,n1,n2,n3⟩:=HT2.out
    go_wp2
    exact bodyPost_ret (yad rfl _ _ (w.heap.size+1) 0 _ _ rfl (HFX.out.put _ _ _ _) Tryz.underlying203 rfl ycO) rfl ⟨by first | rfl | exact hval.out,yab (yab (yab (yab HBX.out (by omega)) (by omega)) (by omega)) (by omega)⟩
 ·obtain ⟨rfl,rfl⟩:=Hmid.out he
  obtain ⟨-,k5,k6,-,-,-,-⟩:=HLV.out
  have hq:(s 0 == F)=false:=by simp; omega
  have hq2:(s 0 == U)=false:=by simp; omega
  clear he
  by_cases h1s:1 < c.step
  ·have hd1:decide (1 < c.step)=true:=zzZ h1s
   rcases hz with hz | hz
   ·have hval:Hid (Ending.returned (.agg [.bool true, .int .i64 0, .int .i64 86399, .int .i64 p].toArray)= .returned (if true=true then stv true 0 86399 (if 1 < c.step∧0 < z then p else 0) else stv false 0 0 0)):=by show _ = _; rw [if_pos rfl,if_pos ⟨h1s,hz⟩]
    have hd2:decide (0 < z)=true:=zzZ hz
    obtain ⟨t0,t1,t2,-,-⟩:=HLV.out.c1.tail
    skip
    go_wp2_with fail
    refine (cZ.out _).mono ?_
    rintro e w3 ⟨rfl,hB3⟩
    have HL3:=hid (HLV.out.below (hB3.mono (by have:=HSV.out; have:=Hs1.out; omega)))
    have HF3:=hid (HFV.out.below hB3 (by have:=HSV.out; have:=Hs1.out; omega))
    have HT3:=hid (HTV.out.below hB3 HSV.out)
    have HB3:=hid (HBV.out.trans (hB3.mono (by have:=HSV.out; have:=Hs1.out; omega)))
    have Hs3:Hid (w1.heap.size < w3.heap.size):=zH HSV.out hB3.size
    clear hB3 t0 t1 t2
    obtain ⟨t0,t1,t2,-,-⟩:=HL3.out.c1.tail
    go_wp2_with fail
    refine (cP.out _ hz).mono ?_
    rintro e w4 ⟨rfl,hB4⟩
    have HF4:=hid (HF3.out.below hB4 (by have:=Hs3.out; have:=Hs1.out; omega))
    have HT4:=hid (HT3.out.below hB4 Hs3.out)
    have HB4:=hid (HB3.out.trans (hB4.mono (by have:=Hs3.out; have:=Hs1.out; omega)))
    clear hB4 t0 t1 t2
    obtain ⟨⟨a0,a1,a2,a3⟩,f0,f1,f2,f3⟩:=HF4.out
    obtain ⟨⟨d0,d1,d2,d3⟩,-,-,-,g3⟩:=HT4.out
    have hF5:Four (w4.setCell ⟨w1.heap.size,3,none⟩ (.int .i64 p)) (w.heap.size+1) (.bool false) (.int .i64 0) (.int .i64 0) (.int .i64 0):=HF4.out.below (yab (Below.refl w1.heap.size w4) (zG _)) Hs1.out
    have hB5:Below w.heap.size w (w4.setCell ⟨w1.heap.size,3,none⟩ (.int .i64 p)):=yab HB4.out (by have:=Hs1.out; omega)
    have HF5:=hid hF5
    have HB5:=hid hB5
    obtain ⟨⟨j0,j1,j2,j3⟩,i0,i1,i2,i3⟩:=hF5
    clear hB5
    go_wp2
    exact bodyPost_ret (yad rfl _ _ (w.heap.size+1) 0 _ _ rfl (HF5.out.put _ _ _ _) Tryz.underlying203 rfl ycO) rfl ⟨by first | rfl | exact hval.out,yab (yab (yab (yab HB5.out (by omega)) (by omega)) (by omega)) (by omega)⟩
   ·have hval:Hid (Ending.returned (.agg [.bool true, .int .i64 0, .int .i64 86399, .int .i64 0].toArray)= .returned (if true=true then stv true 0 86399 (if 1 < c.step∧0 < z then p else 0) else stv false 0 0 0)):=by show _ = _; rw [if_pos rfl,if_neg (by omega)]
    subst hz
    obtain ⟨t0,t1,t2,-,-⟩:=HLV.out.c1.tail
    skip
    go_wp2_with fail
    refine (cZ.out _).mono ?_
    rintro e w3 ⟨rfl,hB3⟩
    have HF3:=hid (HFV.out.below hB3 (by have:=HSV.out; have:=Hs1.out; omega))
    have HT3:=hid (HTV.out.below hB3 HSV.out)
    have HB3:=hid (HBV.out.trans (hB3.mono (by have:=HSV.out; have:=Hs1.out; omega)))
    clear hB3 t0 t1 t2
    obtain ⟨⟨a0,a1,a2,a3⟩,f0,f1,f2,f3⟩:=HF3.out
    obtain ⟨⟨d0,d1,d2,d3⟩,-,-,-,-⟩:=HT3.out
    go_wp2
    exact bodyPost_ret (yad rfl _ _ (w.heap.size+1) 0 _ _ rfl (HF3.out.put _ _ _ _) Tryz.underlying203 rfl ycO) rfl ⟨by first | rfl | exact hval.out,yab (yab (yab (yab HB3.out (by omega)) (by omega)) (by omega)) (by omega)⟩
  ·have hd1:decide (1 < c.step)=false:=zzd h1s
   have hval:Hid (Ending.returned (.agg [.bool true, .int .i64 0, .int .i64 86399, .int .i64 0].toArray)= .returned (if true=true then stv true 0 86399 (if 1 < c.step∧0 < z then p else 0) else stv false 0 0 0)):=by show _ = _; rw [if_pos rfl,if_neg (by omega)]
   obtain ⟨t0,t1,t2,-,-⟩:=HLV.out.c1.tail
   obtain ⟨⟨a0,a1,a2,a3⟩,f0,f1,f2,f3⟩:=HFV.out
   obtain ⟨⟨d0,d1,d2,d3⟩,-,-,-,-⟩:=HTV.out
   skip
   go_wp2
   exact bodyPost_ret (yad rfl _ _ (w.heap.size+1) 0 _ _ rfl (HFV.out.put _ _ _ _) Tryz.underlying203 rfl ycO) rfl ⟨by first | rfl | exact hval.out,yab (yab (yab (yab HBV.out (by omega)) (by omega)) (by omega)) (by omega)⟩
end
section
open Go.RowKit
theorem yej (n F U:Int) (sm:Bool) (b7 b5 b6 b3 b4 b1:Nat) (w:World) (hout:sm=false∨(sm=true∧n < F)∨(sm=true∧F≤n∧U < n))
  (l7:b7 < w.heap.size) (l5:b5 < w.heap.size) (l6:b6 < w.heap.size)
  (k7:w.cell? ⟨b7,0,none⟩=some (.bool sm)) (k5:w.cell? ⟨b5,0,none⟩=some (.int .i64 F)) (k6:w.cell? ⟨b6,0,none⟩=some (.int .i64 U)) :
  Calls Tryz.prog 147 #[shN n, .pointer (some ⟨b7,0,none⟩), .pointer (some ⟨b5,0,none⟩), .pointer (some ⟨b6,0,none⟩), .pointer (some ⟨b3,0,none⟩), .pointer (some ⟨b4,0,none⟩), .pointer (some ⟨b1,0,none⟩)] w fun e w'=>e= .returned (stv false 0 0 0)∧Below w.heap.size w w':=by
 have hn0:shF n 0=n:=rfl
 rw [←ybg]
 obtain ⟨s,hs⟩:∃s,shF n=s:=⟨_,rfl⟩
 rw [hs] at hn0⊢
 clear hs
 rw [shq]
 obtain rfl:s 0=n:=hn0
 have hB0:Below w.heap.size w ((w.alloc (.cells (yaV s).toArray 88)).alloc (.cells #[.bool false, .int .i64 0, .int .i64 0, .int .i64 0] 203)):=yaa (yaa (Below.refl _ _) (zG _)) (by simp)
 have hF0:Four ((w.alloc (.cells (yaV s).toArray 88)).alloc (.cells #[.bool false, .int .i64 0, .int .i64 0, .int .i64 0] 203)) (w.heap.size+1) (.bool false) (.int .i64 0) (.int .i64 0) (.int .i64 0):=by
  have h:=ybN (w.alloc (.cells (yaV s).toArray 88)) (.bool false) (.int .i64 0) (.int .i64 0) (.int .i64 0) 203
  rw [zzN] at h
  exact h
 have m7:=(hB0.cell (p:=⟨b7,0,none⟩) l7).trans k7
 have m5:=(hB0.cell (p:=⟨b5,0,none⟩) l5).trans k5
 have m6:=(hB0.cell (p:=⟨b6,0,none⟩) l6).trans k6
 have HB0:=hid hB0
 have HF0:=hid hF0
 clear hB0 hF0 k7 k5 k6 l7 l5 l6
 rcases hout with rfl | ⟨rfl,h1⟩ | ⟨rfl,h1,h2⟩
 ·go_enter Tryz.func147,Tryz.ntmps147
  go_wp2
  exact bodyPost_ret (yad rfl _ _ (w.heap.size+1) 0 _ _ rfl (yc2 w _ _ _) Tryz.underlying203 rfl ycO) rfl ⟨rfl,yaa (yaa (Below.refl _ _) (zG _)) (by simp)⟩
 ·go_enter Tryz.func147,Tryz.ntmps147
  go_wp2
  exact bodyPost_ret (yad rfl _ _ (w.heap.size+1) 0 _ _ rfl (yc2 w _ _ _) Tryz.underlying203 rfl ycO) rfl ⟨rfl,yaa (yaa (Below.refl _ _) (zG _)) (by simp)⟩
 ·have h3:¬s 0 < F:=by omega
  go_enter Tryz.func147,Tryz.ntmps147
  go_wp2
  exact bodyPost_ret (yad rfl _ _ (w.heap.size+1) 0 _ _ rfl (yc2 w _ _ _) Tryz.underlying203 rfl ycO) rfl ⟨rfl,yaa (yaa (Below.refl _ _) (zG _)) (by simp)⟩
end
section
open Go.RowKit
theorem ykw (n F U:Int) (b7 b5 b6 b3 b4 b1:Nat) (w:World) (hlo:F≤n) (hhi:n≤U)
  (l7:b7 < w.heap.size) (l5:b5 < w.heap.size) (l6:b6 < w.heap.size) (l3:b3 < w.heap.size) (k3:w.cell? ⟨b3,0,none⟩=some (.func (.func 135) #[] #[]))
  (k7:w.cell? ⟨b7,0,none⟩=some (.bool true)) (k5:w.cell? ⟨b5,0,none⟩=some (.int .i64 F)) (k6:w.cell? ⟨b6,0,none⟩=some (.int .i64 U)) :
  Calls Tryz.prog 147 #[shN n, .pointer (some ⟨b7,0,none⟩), .pointer (some ⟨b5,0,none⟩), .pointer (some ⟨b6,0,none⟩), .pointer (some ⟨b3,0,none⟩), .pointer (some ⟨b4,0,none⟩), .pointer (some ⟨b1,0,none⟩)] w fun e w'=>e= .returned (stv false 0 0 0)∧Below w.heap.size w w':=by
 have hn0:shF n 0=n:=rfl
 have HC:=hid (fun W=>CD1_any n W)
 rw [←ybg] at HC⊢
 obtain ⟨s,hs⟩:∃s,shF n=s:=⟨_,rfl⟩
 rw [hs] at hn0 HC⊢
 clear hs
 rw [shq] at HC⊢
 obtain rfl:s 0=n:=hn0
 have hB0:Below w.heap.size w ((w.alloc (.cells (yaV s).toArray 88)).alloc (.cells #[.bool false, .int .i64 0, .int .i64 0, .int .i64 0] 203)):=yaa (yaa (Below.refl _ _) (zG _)) (by simp)
 have hF0:Four ((w.alloc (.cells (yaV s).toArray 88)).alloc (.cells #[.bool false, .int .i64 0, .int .i64 0, .int .i64 0] 203)) (w.heap.size+1) (.bool false) (.int .i64 0) (.int .i64 0) (.int .i64 0):=by
  have h:=ybN (w.alloc (.cells (yaV s).toArray 88)) (.bool false) (.int .i64 0) (.int .i64 0) (.int .i64 0) 203
  rw [zzN] at h
  exact h
 have m7:=(hB0.cell (p:=⟨b7,0,none⟩) l7).trans k7
 have m5:=(hB0.cell (p:=⟨b5,0,none⟩) l5).trans k5
 have m6:=(hB0.cell (p:=⟨b6,0,none⟩) l6).trans k6
 have m3:=(hB0.cell (p:=⟨b3,0,none⟩) l3).trans k3
 have HB0:=hid hB0
 have HF0:=hid hF0
 clear hB0 hF0 k7 k5 k6 l7 l5 l6 k3 l3
 have h1:¬s 0 < F:=by omega
 have h2:¬U < s 0:=by omega
 go_enter Tryz.func147,Tryz.ntmps147
 go_wp2_with fail
 refine (HC.out _).mono ?_
 rintro e w1 ⟨rfl,hB1⟩
 have HB1:Hid (Below w.heap.size w w1):=HB0.out.trans (hB1.mono (by simp only [zzN]; omega))
 have HF1:=hid (HF0.out.below hB1 (by simp only [zzN]; omega))
 clear hB1 m7 m5 m6 m3 HC HF0 HB0
 obtain ⟨⟨a0,a1,a2,a3⟩,f0,f1,f2,f3⟩:=HF1.out
 go_wp2
 exact bodyPost_ret (yad rfl _ _ (w.heap.size+1) 0 _ _ rfl (HF1.out.put _ _ _ _) Tryz.underlying203 rfl ycO) rfl ⟨rfl,yab (yab (yab (yab HB1.out (by omega)) (by omega)) (by omega)) (by omega)⟩
end
end Go.Proofs.YtjahgimnfliooaaGreatDoor
