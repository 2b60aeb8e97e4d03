/-
  feriaref13.Has.
-/
import Derived.Test.YtmjljpdeohbfbaaGreatDoorQ6ce7b1
namespace Go.Proofs.YtmjljpdeohbfbaaGreatDoor
open Go.RowKit
set_option linter.unusedVariables false
attribute [local go_sem ↓] loadAt_cl
abbrev HaS (w:World) (c:Cl) (W:World):Prop:=
 (loadClS (.pointer (some ⟨w.heap.size,0,none⟩))).run Tryz.prog W= .ok (clv c) W∧
 (W.cell? ⟨w.heap.size,25,none⟩=some (.int .i64 c.unit)∧W.cell? ⟨w.heap.size,26,none⟩=some (.int .i64 c.step)∧W.cell? ⟨w.heap.size,27,none⟩=some (.int .i64 c.anchor)∧W.cell? ⟨w.heap.size,28,none⟩=some (.int .i64 c.fr)∧W.cell? ⟨w.heap.size,29,none⟩=some (.int .i64 c.un))∧
 ClB W w.heap.size c∧Below w.heap.size w W∧w.heap.size < W.heap.size
theorem HaS.of {w W:World} {c:Cl} (h:ClB W w.heap.size c) (hb:Below w.heap.size w W) (hs:w.heap.size < W.heap.size):HaS w c W:=⟨h.ld,h.tail,h,hb,hs⟩
theorem HaS.keep {w W W':World} {c:Cl} (h:HaS w c W) (hb:Below W.heap.size W W'):HaS w c W':=
 HaS.of (h.2.2.1.below hb h.2.2.2.2) (h.2.2.2.1.trans (hb.mono (Nat.le_of_lt h.2.2.2.2))) (zH h.2.2.2.2 hb.size)
set_option maxRecDepth 100000 in
set_option maxHeartbeats 6400000 in
theorem RHas13_any (c:Cl) (t:Int) (w:World) (hc:c.Ok):Calls Tryz.prog 76 #[clv c, .int .i64 t] w fun e w'=>e= .returned (.bool (hasC c t))∧Below w.heap.size w w':=by
 rw [has_eq,hasR]
 have HS0:Hid (HaS w c (w.alloc (.cells (clList c).toArray 43)).drew):=
  (HaS.of (clB_new w c _) (below_new (Below.refl _ _) (zG _)) (by simp)).keep (Below.refl _ _).drew
 have cI:=hid (fun W (h:HaS w c W)=>keep_of' (same_below (RMIn_any t W)) (fun _=>h.keep))
 have cM:=hid (fun W (h:HaS w c W)=>keep_of' (RMayCl_any c W hc) (fun _=>h.keep))
 rcases win_cases t with ⟨hw,h0,h1⟩ | ⟨hw,h⟩
 ·rw [hw] at cI⊢
  clear hw
  cases hm:mayC c
  ·rw [hm] at cM
   clear hm hc
   go_enter Tryz.func76,Tryz.ntmps76
   go_wp2_with fail
   refine wp_region_held_drew (S:=fun w'=>HaS w c w') (by kernel_rfl) ?_ (fun hHeld=>?_)
   ·exact HS0.out
   refine zT 0 (v:=?_) ?_ ?_
   rotate_left
   ·intro w hSw; (try dsimp only [RMS] at hSw); go_simp; (try with_reducible rfl)
   try simp only [zP]
   refine wpAnyH_ready (rs:= [1]) (by kernel_rfl) (by simp) ?_
   refine AllReadyH.cons rfl (fun K hK=>?_) AllReadyH.nil
   go_simp
   refine (cI.out _ (by assumption)).mono ?_; rintro e w2 ⟨rfl,hS⟩
   (try go_wp2_with fail)
   refine hK.out _ _ (by assumption) (fun hHeld=>?_)
   clear hK K
   try simp only [zP]
   refine zT 2 (v:=?_) ?_ ?_
   rotate_left
   ·intro w hSw; (try dsimp only [RMS] at hSw); go_simp; (try with_reducible rfl)
   try simp only [zP]
   refine zT 3 (v:=?_) ?_ ?_
   rotate_left
   ·intro w hSw; (try dsimp only [RMS] at hSw); go_simp; (try with_reducible rfl)
   try simp only [zP]
   refine zT 4 (v:=?_) ?_ ?_
   rotate_left
   ·intro w hSw; (try dsimp only [RMS] at hSw); go_simp; (try with_reducible rfl)
   try simp only [zP]
   refine wpAnyH_ready (rs:= [5]) (by kernel_rfl) (by simp) ?_
   refine AllReadyH.cons rfl (fun K hK=>?_) AllReadyH.nil
   go_simp
   refine (cM.out _ (by assumption)).mono ?_; rintro e w2 ⟨rfl,hS⟩
   (try go_wp2_with fail)
   refine hK.out _ _ (by assumption) (fun hHeld=>?_)
   clear hK K
   try simp only [zP]
   refine zT 6 (v:=?_) ?_ ?_
   rotate_left
   ·intro w hSw; (try dsimp only [RMS] at hSw); go_simp; (try with_reducible rfl)
   try simp only [zP]
   refine zT 7 (v:=?_) ?_ ?_
   rotate_left
   ·intro w hSw; (try dsimp only [RMS] at hSw); go_simp; (try with_reducible rfl)
   try simp only [zP]
   refine zT 8 (v:=?_) ?_ ?_
   rotate_left
   ·intro w hSw; (try dsimp only [RMS] at hSw); go_simp; (try with_reducible rfl)
   try simp only [zP]
   refine zS 9 ?_
   try simp only [zP]
   refine zS 10 ?_
   try simp only [zP]
   refine zS 11 ?_
   try simp only [zP]
   refine zS 12 ?_
   try simp only [zP]
   refine zT 13 (v:=?_) ?_ ?_
   rotate_left
   ·intro w hSw; (try dsimp only [RMS] at hSw); go_simp; (try with_reducible rfl)
   try simp only [zP]
   refine zT 14 (v:=?_) ?_ ?_
   rotate_left
   ·intro w hSw; (try dsimp only [RMS] at hSw); go_simp; (try with_reducible rfl)
   try simp only [zP]
   refine zS 15 ?_
   try simp only [zP]
   refine zS 16 ?_
   try simp only [zP]
   refine zS 17 ?_
   try simp only [zP]
   refine zS 18 ?_
   try simp only [zP]
   refine zT 19 (v:=?_) ?_ ?_
   rotate_left
   ·intro w hSw; (try dsimp only [RMS] at hSw); go_simp; (try with_reducible rfl)
   try simp only [zP]
   refine zT 20 (v:=?_) ?_ ?_
   rotate_left
   ·intro w hSw; (try dsimp only [RMS] at hSw); go_simp; (try with_reducible rfl)
   try simp only [zP]
   refine zS 21 ?_
   try simp only [zP]
   refine zS 22 ?_
   try simp only [zP]
   refine zS 23 ?_
   try simp only [zP]
   refine zS 24 ?_
   try simp only [zP]
   refine zS 25 ?_
   try simp only [zP]
   refine zS 26 ?_
   try simp only [zP]
   refine zT 27 (v:=?_) ?_ ?_
   rotate_left
   ·intro w hSw; (try dsimp only [RMS] at hSw); go_simp; (try with_reducible rfl)
   try simp only [zP]
   refine zT 28 (v:=?_) ?_ ?_
   rotate_left
   ·intro w hSw; (try dsimp only [RMS] at hSw); go_simp; (try with_reducible rfl)
   try simp only [zP]
   refine zS 29 ?_
   try simp only [zP]
   refine zS 30 ?_
   try simp only [zP]
   refine zS 31 ?_
   try simp only [zP]
   refine zS 32 ?_
   try simp only [zP]
   refine zS 33 ?_
   try simp only [zP]
   refine zS 34 ?_
   try simp only [zP]
   refine zS 35 ?_
   try simp only [zP]
   refine zS 36 ?_
   try simp only [zP]
   refine zS 37 ?_
   try simp only [zP]
   refine zT 38 (v:=?_) ?_ ?_
   rotate_left
   ·intro w hSw; (try dsimp only [RMS] at hSw); go_simp; (try with_reducible rfl)
   try simp only [zP]
   refine wpAnyH_done (by kernel_rfl) ?_ _
   go_wp2
   go_ret
   exact ⟨rfl,(‹HaS w c _›).2.2.2.1⟩
  obtain ⟨ho,-,-,-⟩:=may_ord hm
  rw [hm] at cM
  have cS:=hid (fun W (h:HaS w c W)=>keep_of' (RShape_any (t / 86400) W (by omega) (by omega)) (fun _=>h.keep))
  have cD:=hid (fun W (h:HaS w c W)=>keep_of' (RDate13_any c (shF (t / 86400)) W hc ho (shF_wk _) (shF_yr (by omega) (by omega))) (fun _=>h.keep))
  have cO:=hid (fun W (h:HaS w c W)=>keep_of' (same_below (RUOn_any c.unit c.step c.anchor t W hc.step)) (fun _=>h.keep))
  rw [show t % 86400 % 3600 / 60=t % 3600 / 60 by omega,show t % 86400 % 60=t % 60 by omega]
  have m0:=hid (fun W=>RHas_any (c.m 0) (t % 60) W (hc.m 0 (by omega)))
  have m1:=hid (fun W=>RHas_any (c.m 1) (t % 3600 / 60) W (hc.m 1 (by omega)))
  have m2:=hid (fun W=>RHas_any (c.m 2) (t % 86400 / 3600) W (hc.m 2 (by omega)))
  rw [shq_shF] at cD
  have hq:Hid (IntKind.i64.wrap (t.tdiv 86400)=t / 86400):=by
   show _ = _
   rw [Int.tdiv_eq_ediv_of_nonneg h0]
   exact IntWalk.i64_in (t / 86400) (by omega)
  clear hm ho hc
  obtain ⟨x0,hx0⟩:∃b,hasB (c.m 0) (t % 60)=b:=⟨_,rfl⟩
  obtain ⟨x1,hx1⟩:∃b,hasB (c.m 1) (t % 3600 / 60)=b:=⟨_,rfl⟩
  obtain ⟨x2,hx2⟩:∃b,hasB (c.m 2) (t % 86400 / 3600)=b:=⟨_,rfl⟩
  obtain ⟨b5,hb5⟩:∃b,dateB c (shF (t / 86400))=b:=⟨_,rfl⟩
  obtain ⟨b6,hb6⟩:∃b,onB c.unit c.step c.anchor t=b:=⟨_,rfl⟩
  rw [hx0] at m0⊢
  rw [hx1] at m1⊢
  rw [hx2] at m2⊢
  rw [hb5] at cD⊢
  rw [hb6] at cO⊢
  clear hx0 hx1 hx2 hb5 hb6
  by_cases h3:t < c.fr
  ·have hd3:decide (t < c.fr)=true:=decide_eq_true h3
   rw [hd3]
   go_enter Tryz.func76,Tryz.ntmps76
   go_wp2_with fail
   refine wp_region_held_drew (S:=fun w'=>HaS w c w') (by kernel_rfl) ?_ (fun hHeld=>?_)
   ·exact HS0.out
   refine zT 0 (v:=?_) ?_ ?_
   rotate_left
   ·intro w hSw; (try dsimp only [RMS] at hSw); go_simp; (try with_reducible rfl)
   try simp only [zP]
   refine wpAnyH_ready (rs:= [1]) (by kernel_rfl) (by simp) ?_
   refine AllReadyH.cons rfl (fun K hK=>?_) AllReadyH.nil
   go_simp
   refine (cI.out _ (by assumption)).mono ?_; rintro e w2 ⟨rfl,hS⟩
   (try go_wp2_with fail)
   refine hK.out _ _ (by assumption) (fun hHeld=>?_)
   clear hK K
   try simp only [zP]
   refine zT 2 (v:=?_) ?_ ?_
   rotate_left
   ·intro w hSw; (try dsimp only [RMS] at hSw); go_simp; (try with_reducible rfl)
   try simp only [zP]
   refine zT 3 (v:=?_) ?_ ?_
   rotate_left
   ·intro w hSw; (try dsimp only [RMS] at hSw); go_simp; (try with_reducible rfl)
   try simp only [zP]
   refine zT 4 (v:=?_) ?_ ?_
   rotate_left
   ·intro w hSw; (try dsimp only [RMS] at hSw); go_simp; (try with_reducible rfl)
   try simp only [zP]
   refine wpAnyH_ready (rs:= [5]) (by kernel_rfl) (by simp) ?_
   refine AllReadyH.cons rfl (fun K hK=>?_) AllReadyH.nil
   go_simp
   refine (cM.out _ (by assumption)).mono ?_; rintro e w2 ⟨rfl,hS⟩
   (try go_wp2_with fail)
   refine hK.out _ _ (by assumption) (fun hHeld=>?_)
   clear hK K
   try simp only [zP]
   refine zT 6 (v:=?_) ?_ ?_
   rotate_left
   ·intro w hSw; (try dsimp only [RMS] at hSw); go_simp; (try with_reducible rfl)
   try simp only [zP]
   refine zT 7 (v:=?_) ?_ ?_
   rotate_left
   ·intro w hSw; (try dsimp only [RMS] at hSw); go_simp; (try with_reducible rfl)
   try simp only [zP]
   refine zT 8 (v:=?_) ?_ ?_
   rotate_left
   ·intro w hSw; (try dsimp only [RMS] at hSw); go_simp; (try with_reducible rfl)
   try simp only [zP]
   refine zT 9 (v:=?_) ?_ ?_
   rotate_left
   ·intro w hSw; (try dsimp only [RMS] at hSw); go_simp; (try with_reducible rfl)
   try simp only [zP]
   refine zT 10 (v:=?_) ?_ ?_
   rotate_left
   ·intro w hSw; (try dsimp only [RMS] at hSw); go_simp; (try with_reducible rfl)
   try simp only [zP]
   refine zT 11 (v:=?_) ?_ ?_
   rotate_left
   ·intro w hSw; (try dsimp only [RMS] at hSw); go_simp; (try with_reducible rfl)
   try simp only [zP]
   refine zT 12 (v:=?_) ?_ ?_
   rotate_left
   ·intro w hSw; (try dsimp only [RMS] at hSw); go_simp; (try with_reducible rfl)
   try simp only [zP]
   refine zT 13 (v:=?_) ?_ ?_
   rotate_left
   ·intro w hSw; (try dsimp only [RMS] at hSw); go_simp; (try with_reducible rfl)
   try simp only [zP]
   refine zT 14 (v:=?_) ?_ ?_
   rotate_left
   ·intro w hSw; (try dsimp only [RMS] at hSw); go_simp; (try with_reducible rfl)
   try simp only [zP]
   refine zS 15 ?_
   try simp only [zP]
   refine zS 16 ?_
   try simp only [zP]
   refine zS 17 ?_
   try simp only [zP]
   refine zS 18 ?_
   try simp only [zP]
   refine zT 19 (v:=?_) ?_ ?_
   rotate_left
   ·intro w hSw; (try dsimp only [RMS] at hSw); go_simp; (try with_reducible rfl)
   try simp only [zP]
   refine zT 20 (v:=?_) ?_ ?_
   rotate_left
   ·intro w hSw; (try dsimp only [RMS] at hSw); go_simp; (try with_reducible rfl)
   try simp only [zP]
   refine zS 21 ?_
   try simp only [zP]
   refine zS 22 ?_
   try simp only [zP]
   refine zS 23 ?_
   try simp only [zP]
   refine zS 24 ?_
   try simp only [zP]
   refine zS 25 ?_
   try simp only [zP]
   refine zS 26 ?_
   try simp only [zP]
   refine zT 27 (v:=?_) ?_ ?_
   rotate_left
   ·intro w hSw; (try dsimp only [RMS] at hSw); go_simp; (try with_reducible rfl)
   try simp only [zP]
   refine zT 28 (v:=?_) ?_ ?_
   rotate_left
   ·intro w hSw; (try dsimp only [RMS] at hSw); go_simp; (try with_reducible rfl)
   try simp only [zP]
   refine zS 29 ?_
   try simp only [zP]
   refine zS 30 ?_
   try simp only [zP]
   refine zS 31 ?_
   try simp only [zP]
   refine zS 32 ?_
   try simp only [zP]
   refine zS 33 ?_
   try simp only [zP]
   refine zS 34 ?_
   try simp only [zP]
   refine zS 35 ?_
   try simp only [zP]
   refine zS 36 ?_
   try simp only [zP]
   refine zS 37 ?_
   try simp only [zP]
   refine zT 38 (v:=?_) ?_ ?_
   rotate_left
   ·intro w hSw; (try dsimp only [RMS] at hSw); go_simp; (try with_reducible rfl)
   try simp only [zP]
   refine wpAnyH_done (by kernel_rfl) ?_ _
   go_wp2
   go_ret
   exact ⟨rfl,(‹HaS w c _›).2.2.2.1⟩
  have hd3:decide (t < c.fr)=false:=decide_eq_false h3
  rw [hd3]
  by_cases h4:c.un < t
  ·have hd4:decide (c.un < t)=true:=decide_eq_true h4
   rw [hd4]
   go_enter Tryz.func76,Tryz.ntmps76
   go_wp2_with fail
   refine wp_region_held_drew (S:=fun w'=>HaS w c w') (by kernel_rfl) ?_ (fun hHeld=>?_)
   ·exact HS0.out
   refine zT 0 (v:=?_) ?_ ?_
   rotate_left
   ·intro w hSw; (try dsimp only [RMS] at hSw); go_simp; (try with_reducible rfl)
   try simp only [zP]
   refine wpAnyH_ready (rs:= [1]) (by kernel_rfl) (by simp) ?_
   refine AllReadyH.cons rfl (fun K hK=>?_) AllReadyH.nil
   go_simp
   refine (cI.out _ (by assumption)).mono ?_; rintro e w2 ⟨rfl,hS⟩
   (try go_wp2_with fail)
   refine hK.out _ _ (by assumption) (fun hHeld=>?_)
   clear hK K
   try simp only [zP]
   refine zT 2 (v:=?_) ?_ ?_
   rotate_left
   ·intro w hSw; (try dsimp only [RMS] at hSw); go_simp; (try with_reducible rfl)
   try simp only [zP]
   refine zT 3 (v:=?_) ?_ ?_
   rotate_left
   ·intro w hSw; (try dsimp only [RMS] at hSw); go_simp; (try with_reducible rfl)
   try simp only [zP]
   refine zT 4 (v:=?_) ?_ ?_
   rotate_left
   ·intro w hSw; (try dsimp only [RMS] at hSw); go_simp; (try with_reducible rfl)
   try simp only [zP]
   refine wpAnyH_ready (rs:= [5]) (by kernel_rfl) (by simp) ?_
   refine AllReadyH.cons rfl (fun K hK=>?_) AllReadyH.nil
   go_simp
   refine (cM.out _ (by assumption)).mono ?_; rintro e w2 ⟨rfl,hS⟩
   (try go_wp2_with fail)
   refine hK.out _ _ (by assumption) (fun hHeld=>?_)
   clear hK K
   try simp only [zP]
   refine zT 6 (v:=?_) ?_ ?_
   rotate_left
   ·intro w hSw; (try dsimp only [RMS] at hSw); go_simp; (try with_reducible rfl)
   try simp only [zP]
   refine zT 7 (v:=?_) ?_ ?_
   rotate_left
   ·intro w hSw; (try dsimp only [RMS] at hSw); go_simp; (try with_reducible rfl)
   try simp only [zP]
   refine zT 8 (v:=?_) ?_ ?_
   rotate_left
   ·intro w hSw; (try dsimp only [RMS] at hSw); go_simp; (try with_reducible rfl)
   try simp only [zP]
   refine zT 9 (v:=?_) ?_ ?_
   rotate_left
   ·intro w hSw; (try dsimp only [RMS] at hSw); go_simp; (try with_reducible rfl)
   try simp only [zP]
   refine zT 10 (v:=?_) ?_ ?_
   rotate_left
   ·intro w hSw; (try dsimp only [RMS] at hSw); go_simp; (try with_reducible rfl)
   try simp only [zP]
   refine zT 11 (v:=?_) ?_ ?_
   rotate_left
   ·intro w hSw; (try dsimp only [RMS] at hSw); go_simp; (try with_reducible rfl)
   try simp only [zP]
   refine zT 12 (v:=?_) ?_ ?_
   rotate_left
   ·intro w hSw; (try dsimp only [RMS] at hSw); go_simp; (try with_reducible rfl)
   try simp only [zP]
   refine zT 13 (v:=?_) ?_ ?_
   rotate_left
   ·intro w hSw; (try dsimp only [RMS] at hSw); go_simp; (try with_reducible rfl)
   try simp only [zP]
   refine zT 14 (v:=?_) ?_ ?_
   rotate_left
   ·intro w hSw; (try dsimp only [RMS] at hSw); go_simp; (try with_reducible rfl)
   try simp only [zP]
   refine zT 15 (v:=?_) ?_ ?_
   rotate_left
   ·intro w hSw; (try dsimp only [RMS] at hSw); go_simp; (try with_reducible rfl)
   try simp only [zP]
   refine zT 16 (v:=?_) ?_ ?_
   rotate_left
   ·intro w hSw; (try dsimp only [RMS] at hSw); go_simp; (try with_reducible rfl)
   try simp only [zP]
   refine zT 17 (v:=?_) ?_ ?_
   rotate_left
   ·intro w hSw; (try dsimp only [RMS] at hSw); go_simp; (try with_reducible rfl)
   try simp only [zP]
   refine zT 18 (v:=?_) ?_ ?_
   rotate_left
   ·intro w hSw; (try dsimp only [RMS] at hSw); go_simp; (try with_reducible rfl)
   try simp only [zP]
   refine zT 19 (v:=?_) ?_ ?_
   rotate_left
   ·intro w hSw; (try dsimp only [RMS] at hSw); go_simp; (try with_reducible rfl)
   try simp only [zP]
   refine zT 20 (v:=?_) ?_ ?_
   rotate_left
   ·intro w hSw; (try dsimp only [RMS] at hSw); go_simp; (try with_reducible rfl)
   try simp only [zP]
   refine zS 21 ?_
   try simp only [zP]
   refine zS 22 ?_
   try simp only [zP]
   refine zS 23 ?_
   try simp only [zP]
   refine zS 24 ?_
   try simp only [zP]
   refine zS 25 ?_
   try simp only [zP]
   refine zS 26 ?_
   try simp only [zP]
   refine zT 27 (v:=?_) ?_ ?_
   rotate_left
   ·intro w hSw; (try dsimp only [RMS] at hSw); go_simp; (try with_reducible rfl)
   try simp only [zP]
   refine zT 28 (v:=?_) ?_ ?_
   rotate_left
   ·intro w hSw; (try dsimp only [RMS] at hSw); go_simp; (try with_reducible rfl)
   try simp only [zP]
   refine zS 29 ?_
   try simp only [zP]
   refine zS 30 ?_
   try simp only [zP]
   refine zS 31 ?_
   try simp only [zP]
   refine zS 32 ?_
   try simp only [zP]
   refine zS 33 ?_
   try simp only [zP]
   refine zS 34 ?_
   try simp only [zP]
   refine zS 35 ?_
   try simp only [zP]
   refine zS 36 ?_
   try simp only [zP]
   refine zS 37 ?_
   try simp only [zP]
   refine zT 38 (v:=?_) ?_ ?_
   rotate_left
   ·intro w hSw; (try dsimp only [RMS] at hSw); go_simp; (try with_reducible rfl)
   try simp only [zP]
   refine wpAnyH_done (by kernel_rfl) ?_ _
   go_wp2
   go_ret
   exact ⟨rfl,(‹HaS w c _›).2.2.2.1⟩
  have hd4:decide (c.un < t)=false:=decide_eq_false h4
  rw [hd4]
  clear h3 h4
  cases b5
  ·go_enter Tryz.func76,Tryz.ntmps76
   go_wp2_with fail
   refine wp_region_held_drew (S:=fun w'=>HaS w c w') (by kernel_rfl) ?_ (fun hHeld=>?_)
   ·exact HS0.out
   refine zT 0 (v:=?_) ?_ ?_
   rotate_left
   ·intro w hSw; (try dsimp only [RMS] at hSw); go_simp; (try with_reducible rfl)
   try simp only [zP]
   refine wpAnyH_ready (rs:= [1]) (by kernel_rfl) (by simp) ?_
   refine AllReadyH.cons rfl (fun K hK=>?_) AllReadyH.nil
   go_simp
   refine (cI.out _ (by assumption)).mono ?_; rintro e w2 ⟨rfl,hS⟩
   (try go_wp2_with fail)
   refine hK.out _ _ (by assumption) (fun hHeld=>?_)
   clear hK K
   try simp only [zP]
   refine zT 2 (v:=?_) ?_ ?_
   rotate_left
   ·intro w hSw; (try dsimp only [RMS] at hSw); go_simp; (try with_reducible rfl)
   try simp only [zP]
   refine zT 3 (v:=?_) ?_ ?_
   rotate_left
   ·intro w hSw; (try dsimp only [RMS] at hSw); go_simp; (try with_reducible rfl)
   try simp only [zP]
   refine zT 4 (v:=?_) ?_ ?_
   rotate_left
   ·intro w hSw; (try dsimp only [RMS] at hSw); go_simp; (try with_reducible rfl)
   try simp only [zP]
   refine wpAnyH_ready (rs:= [5]) (by kernel_rfl) (by simp) ?_
   refine AllReadyH.cons rfl (fun K hK=>?_) AllReadyH.nil
   go_simp
   refine (cM.out _ (by assumption)).mono ?_; rintro e w2 ⟨rfl,hS⟩
   (try go_wp2_with fail)
   refine hK.out _ _ (by assumption) (fun hHeld=>?_)
   clear hK K
   try simp only [zP]
   refine zT 6 (v:=?_) ?_ ?_
   rotate_left
   ·intro w hSw; (try dsimp only [RMS] at hSw); go_simp; (try with_reducible rfl)
   try simp only [zP]
   refine zT 7 (v:=?_) ?_ ?_
   rotate_left
   ·intro w hSw; (try dsimp only [RMS] at hSw); go_simp; (try with_reducible rfl)
   try simp only [zP]
   refine zT 8 (v:=?_) ?_ ?_
   rotate_left
   ·intro w hSw; (try dsimp only [RMS] at hSw); go_simp; (try with_reducible rfl)
   try simp only [zP]
   refine zT 9 (v:=?_) ?_ ?_
   rotate_left
   ·intro w hSw; (try dsimp only [RMS] at hSw); go_simp; (try with_reducible rfl)
   try simp only [zP]
   refine zT 10 (v:=?_) ?_ ?_
   rotate_left
   ·intro w hSw; (try dsimp only [RMS] at hSw); go_simp; (try with_reducible rfl)
   try simp only [zP]
   refine zT 11 (v:=?_) ?_ ?_
   rotate_left
   ·intro w hSw; (try dsimp only [RMS] at hSw); go_simp; (try with_reducible rfl)
   try simp only [zP]
   refine zT 12 (v:=?_) ?_ ?_
   rotate_left
   ·intro w hSw; (try dsimp only [RMS] at hSw); go_simp; (try with_reducible rfl)
   try simp only [zP]
   refine zT 13 (v:=?_) ?_ ?_
   rotate_left
   ·intro w hSw; (try dsimp only [RMS] at hSw); go_simp; (try with_reducible rfl)
   try simp only [zP]
   refine zT 14 (v:=?_) ?_ ?_
   rotate_left
   ·intro w hSw; (try dsimp only [RMS] at hSw); go_simp; (try with_reducible rfl)
   try simp only [zP]
   refine zT 15 (v:=?_) ?_ ?_
   rotate_left
   ·intro w hSw; (try dsimp only [RMS] at hSw); go_simp; (try with_reducible rfl)
   try simp only [zP]
   refine zT 16 (v:=?_) ?_ ?_
   rotate_left
   ·intro w hSw; (try dsimp only [RMS] at hSw); go_simp; (try with_reducible rfl)
   try simp only [zP]
   refine zT 17 (v:=?_) ?_ ?_
   rotate_left
   ·intro w hSw; (try dsimp only [RMS] at hSw); go_simp; (try with_reducible rfl)
   try simp only [zP]
   refine zT 18 (v:=?_) ?_ ?_
   rotate_left
   ·intro w hSw; (try dsimp only [RMS] at hSw); go_simp; (try with_reducible rfl)
   try simp only [zP]
   refine zT 19 (v:=?_) ?_ ?_
   rotate_left
   ·intro w hSw; (try dsimp only [RMS] at hSw); go_simp; (try with_reducible rfl)
   try simp only [zP]
   refine zT 20 (v:=?_) ?_ ?_
   rotate_left
   ·intro w hSw; (try dsimp only [RMS] at hSw); go_simp; (try with_reducible rfl)
   try simp only [zP]
   refine zT 21 (v:=?_) ?_ ?_
   rotate_left
   ·intro w hSw; (try dsimp only [RMS] at hSw); go_simp; (try with_reducible rfl)
   try simp only [zP]
   refine zT 22 (v:=?_) ?_ ?_
   rotate_left
   ·intro w hSw; (try dsimp only [RMS] at hSw); go_simp; (try with_reducible rfl)
   try simp only [zP]
   refine zT 23 (v:=?_) ?_ ?_
   rotate_left
   ·intro w hSw; go_simp; rw [hq.out]
   try simp only [zP]
   refine wpAnyH_ready (rs:= [24]) (by kernel_rfl) (by simp) ?_
   refine AllReadyH.cons rfl (fun K hK=>?_) AllReadyH.nil
   go_simp
   refine (cS.out _ (by assumption)).mono ?_; rintro e w2 ⟨rfl,hS⟩
   (try go_wp2_with fail)
   refine hK.out _ _ (by assumption) (fun hHeld=>?_)
   clear hK K
   try simp only [zP]
   refine wpAnyH_ready (rs:= [25]) (by kernel_rfl) (by simp) ?_
   refine AllReadyH.cons rfl (fun K hK=>?_) AllReadyH.nil
   go_simp
   refine (cD.out _ (by assumption)).mono ?_; rintro e w2 ⟨rfl,hS⟩
   (try go_wp2_with fail)
   refine hK.out _ _ (by assumption) (fun hHeld=>?_)
   clear hK K
   try simp only [zP]
   refine zT 26 (v:=?_) ?_ ?_
   rotate_left
   ·intro w hSw; (try dsimp only [RMS] at hSw); go_simp; (try with_reducible rfl)
   try simp only [zP]
   refine zT 27 (v:=?_) ?_ ?_
   rotate_left
   ·intro w hSw; (try dsimp only [RMS] at hSw); go_simp; (try with_reducible rfl)
   try simp only [zP]
   refine zT 28 (v:=?_) ?_ ?_
   rotate_left
   ·intro w hSw; (try dsimp only [RMS] at hSw); go_simp; (try with_reducible rfl)
   try simp only [zP]
   refine zS 29 ?_
   try simp only [zP]
   refine zS 30 ?_
   try simp only [zP]
   refine zS 31 ?_
   try simp only [zP]
   refine zS 32 ?_
   try simp only [zP]
   refine zS 33 ?_
   try simp only [zP]
   refine zS 34 ?_
   try simp only [zP]
   refine zS 35 ?_
   try simp only [zP]
   refine zS 36 ?_
   try simp only [zP]
   refine zS 37 ?_
   try simp only [zP]
   refine zT 38 (v:=?_) ?_ ?_
   rotate_left
   ·intro w hSw; (try dsimp only [RMS] at hSw); go_simp; (try with_reducible rfl)
   try simp only [zP]
   refine wpAnyH_done (by kernel_rfl) ?_ _
   go_wp2
   go_ret
   exact ⟨rfl,(‹HaS w c _›).2.2.2.1⟩
  cases b6
  ·go_enter Tryz.func76,Tryz.ntmps76
   go_wp2_with fail
   refine wp_region_held_drew (S:=fun w'=>HaS w c w') (by kernel_rfl) ?_ (fun hHeld=>?_)
   ·exact HS0.out
   refine zT 0 (v:=?_) ?_ ?_
   rotate_left
   ·intro w hSw; (try dsimp only [RMS] at hSw); go_simp; (try with_reducible rfl)
   try simp only [zP]
   refine wpAnyH_ready (rs:= [1]) (by kernel_rfl) (by simp) ?_
   refine AllReadyH.cons rfl (fun K hK=>?_) AllReadyH.nil
   go_simp
   refine (cI.out _ (by assumption)).mono ?_; rintro e w2 ⟨rfl,hS⟩
   (try go_wp2_with fail)
   refine hK.out _ _ (by assumption) (fun hHeld=>?_)
   clear hK K
   try simp only [zP]
   refine zT 2 (v:=?_) ?_ ?_
   rotate_left
   ·intro w hSw; (try dsimp only [RMS] at hSw); go_simp; (try with_reducible rfl)
   try simp only [zP]
   refine zT 3 (v:=?_) ?_ ?_
   rotate_left
   ·intro w hSw; (try dsimp only [RMS] at hSw); go_simp; (try with_reducible rfl)
   try simp only [zP]
   refine zT 4 (v:=?_) ?_ ?_
   rotate_left
   ·intro w hSw; (try dsimp only [RMS] at hSw); go_simp; (try with_reducible rfl)
   try simp only [zP]
   refine wpAnyH_ready (rs:= [5]) (by kernel_rfl) (by simp) ?_
   refine AllReadyH.cons rfl (fun K hK=>?_) AllReadyH.nil
   go_simp
   refine (cM.out _ (by assumption)).mono ?_; rintro e w2 ⟨rfl,hS⟩
   (try go_wp2_with fail)
   refine hK.out _ _ (by assumption) (fun hHeld=>?_)
   clear hK K
   try simp only [zP]
   refine zT 6 (v:=?_) ?_ ?_
   rotate_left
   ·intro w hSw; (try dsimp only [RMS] at hSw); go_simp; (try with_reducible rfl)
   try simp only [zP]
   refine zT 7 (v:=?_) ?_ ?_
   rotate_left
   ·intro w hSw; (try dsimp only [RMS] at hSw); go_simp; (try with_reducible rfl)
   try simp only [zP]
   refine zT 8 (v:=?_) ?_ ?_
   rotate_left
   ·intro w hSw; (try dsimp only [RMS] at hSw); go_simp; (try with_reducible rfl)
   try simp only [zP]
   refine zT 9 (v:=?_) ?_ ?_
   rotate_left
   ·intro w hSw; (try dsimp only [RMS] at hSw); go_simp; (try with_reducible rfl)
   try simp only [zP]
   refine zT 10 (v:=?_) ?_ ?_
   rotate_left
   ·intro w hSw; (try dsimp only [RMS] at hSw); go_simp; (try with_reducible rfl)
   try simp only [zP]
   refine zT 11 (v:=?_) ?_ ?_
   rotate_left
   ·intro w hSw; (try dsimp only [RMS] at hSw); go_simp; (try with_reducible rfl)
   try simp only [zP]
   refine zT 12 (v:=?_) ?_ ?_
   rotate_left
   ·intro w hSw; (try dsimp only [RMS] at hSw); go_simp; (try with_reducible rfl)
   try simp only [zP]
   refine zT 13 (v:=?_) ?_ ?_
   rotate_left
   ·intro w hSw; (try dsimp only [RMS] at hSw); go_simp; (try with_reducible rfl)
   try simp only [zP]
   refine zT 14 (v:=?_) ?_ ?_
   rotate_left
   ·intro w hSw; (try dsimp only [RMS] at hSw); go_simp; (try with_reducible rfl)
   try simp only [zP]
   refine zT 15 (v:=?_) ?_ ?_
   rotate_left
   ·intro w hSw; (try dsimp only [RMS] at hSw); go_simp; (try with_reducible rfl)
   try simp only [zP]
   refine zT 16 (v:=?_) ?_ ?_
   rotate_left
   ·intro w hSw; (try dsimp only [RMS] at hSw); go_simp; (try with_reducible rfl)
   try simp only [zP]
   refine zT 17 (v:=?_) ?_ ?_
   rotate_left
   ·intro w hSw; (try dsimp only [RMS] at hSw); go_simp; (try with_reducible rfl)
   try simp only [zP]
   refine zT 18 (v:=?_) ?_ ?_
   rotate_left
   ·intro w hSw; (try dsimp only [RMS] at hSw); go_simp; (try with_reducible rfl)
   try simp only [zP]
   refine zT 19 (v:=?_) ?_ ?_
   rotate_left
   ·intro w hSw; (try dsimp only [RMS] at hSw); go_simp; (try with_reducible rfl)
   try simp only [zP]
   refine zT 20 (v:=?_) ?_ ?_
   rotate_left
   ·intro w hSw; (try dsimp only [RMS] at hSw); go_simp; (try with_reducible rfl)
   try simp only [zP]
   refine zT 21 (v:=?_) ?_ ?_
   rotate_left
   ·intro w hSw; (try dsimp only [RMS] at hSw); go_simp; (try with_reducible rfl)
   try simp only [zP]
   refine zT 22 (v:=?_) ?_ ?_
   rotate_left
   ·intro w hSw; (try dsimp only [RMS] at hSw); go_simp; (try with_reducible rfl)
   try simp only [zP]
   refine zT 23 (v:=?_) ?_ ?_
   rotate_left
   ·intro w hSw; go_simp; rw [hq.out]
   try simp only [zP]
   refine wpAnyH_ready (rs:= [24]) (by kernel_rfl) (by simp) ?_
   refine AllReadyH.cons rfl (fun K hK=>?_) AllReadyH.nil
   go_simp
   refine (cS.out _ (by assumption)).mono ?_; rintro e w2 ⟨rfl,hS⟩
   (try go_wp2_with fail)
   refine hK.out _ _ (by assumption) (fun hHeld=>?_)
   clear hK K
   try simp only [zP]
   refine wpAnyH_ready (rs:= [25]) (by kernel_rfl) (by simp) ?_
   refine AllReadyH.cons rfl (fun K hK=>?_) AllReadyH.nil
   go_simp
   refine (cD.out _ (by assumption)).mono ?_; rintro e w2 ⟨rfl,hS⟩
   (try go_wp2_with fail)
   refine hK.out _ _ (by assumption) (fun hHeld=>?_)
   clear hK K
   try simp only [zP]
   refine zT 26 (v:=?_) ?_ ?_
   rotate_left
   ·intro w hSw; (try dsimp only [RMS] at hSw); go_simp; (try with_reducible rfl)
   try simp only [zP]
   refine zT 27 (v:=?_) ?_ ?_
   rotate_left
   ·intro w hSw; (try dsimp only [RMS] at hSw); go_simp; (try with_reducible rfl)
   try simp only [zP]
   refine zT 28 (v:=?_) ?_ ?_
   rotate_left
   ·intro w hSw; (try dsimp only [RMS] at hSw); go_simp; (try with_reducible rfl)
   try simp only [zP]
   refine zT 29 (v:=?_) ?_ ?_
   rotate_left
   ·intro w hSw; (try dsimp only [RMS] at hSw); go_simp; (try with_reducible rfl)
   try simp only [zP]
   refine zT 30 (v:=?_) ?_ ?_
   rotate_left
   ·intro w hSw; (try dsimp only [RMS] at hSw); go_simp; (try with_reducible rfl)
   try simp only [zP]
   refine zT 31 (v:=?_) ?_ ?_
   rotate_left
   ·intro w hSw; (try dsimp only [RMS] at hSw); go_simp; (try with_reducible rfl)
   try simp only [zP]
   refine zT 32 (v:=?_) ?_ ?_
   rotate_left
   ·intro w hSw; (try dsimp only [RMS] at hSw); go_simp; (try with_reducible rfl)
   try simp only [zP]
   refine zT 33 (v:=?_) ?_ ?_
   rotate_left
   ·intro w hSw; (try dsimp only [RMS] at hSw); go_simp; (try with_reducible rfl)
   try simp only [zP]
   refine zT 34 (v:=?_) ?_ ?_
   rotate_left
   ·intro w hSw; (try dsimp only [RMS] at hSw); go_simp; (try with_reducible rfl)
   try simp only [zP]
   refine zT 35 (v:=?_) ?_ ?_
   rotate_left
   ·intro w hSw; (try dsimp only [RMS] at hSw); go_simp; (try with_reducible rfl)
   try simp only [zP]
   refine wpAnyH_ready (rs:= [36]) (by kernel_rfl) (by simp) ?_
   refine AllReadyH.cons rfl (fun K hK=>?_) AllReadyH.nil
   go_simp
   refine (cO.out _ (by assumption)).mono ?_; rintro e w2 ⟨rfl,hS⟩
   (try go_wp2_with fail)
   refine hK.out _ _ (by assumption) (fun hHeld=>?_)
   clear hK K
   try simp only [zP]
   refine zT 37 (v:=?_) ?_ ?_
   rotate_left
   ·intro w hSw; (try dsimp only [RMS] at hSw); go_simp; (try with_reducible rfl)
   try simp only [zP]
   refine zT 38 (v:=?_) ?_ ?_
   rotate_left
   ·intro w hSw; (try dsimp only [RMS] at hSw); go_simp; (try with_reducible rfl)
   try simp only [zP]
   refine wpAnyH_done (by kernel_rfl) ?_ _
   go_wp2
   go_ret
   exact ⟨rfl,(‹HaS w c _›).2.2.2.1⟩
  go_enter Tryz.func76,Tryz.ntmps76
  go_wp2_with fail
  refine wp_region_held_drew (S:=fun w'=>HaS w c w') (by kernel_rfl) ?_ (fun hHeld=>?_)
  ·exact HS0.out
  refine zT 0 (v:=?_) ?_ ?_
  rotate_left
  ·intro w hSw; (try dsimp only [RMS] at hSw); go_simp; (try with_reducible rfl)
  try simp only [zP]
  refine wpAnyH_ready (rs:= [1]) (by kernel_rfl) (by simp) ?_
  refine AllReadyH.cons rfl (fun K hK=>?_) AllReadyH.nil
  go_simp
  refine (cI.out _ (by assumption)).mono ?_; rintro e w2 ⟨rfl,hS⟩
  (try go_wp2_with fail)
  refine hK.out _ _ (by assumption) (fun hHeld=>?_)
  clear hK K
  try simp only [zP]
  refine zT 2 (v:=?_) ?_ ?_
  rotate_left
  ·intro w hSw; (try dsimp only [RMS] at hSw); go_simp; (try with_reducible rfl)
  try simp only [zP]
  refine zT 3 (v:=?_) ?_ ?_
  rotate_left
  ·intro w hSw; (try dsimp only [RMS] at hSw); go_simp; (try with_reducible rfl)
  try simp only [zP]
  refine zT 4 (v:=?_) ?_ ?_
  rotate_left
  ·intro w hSw; (try dsimp only [RMS] at hSw); go_simp; (try with_reducible rfl)
  try simp only [zP]
  refine wpAnyH_ready (rs:= [5]) (by kernel_rfl) (by simp) ?_
  refine AllReadyH.cons rfl (fun K hK=>?_) AllReadyH.nil
  go_simp
  refine (cM.out _ (by assumption)).mono ?_; rintro e w2 ⟨rfl,hS⟩
  (try go_wp2_with fail)
  refine hK.out _ _ (by assumption) (fun hHeld=>?_)
  clear hK K
  try simp only [zP]
  refine zT 6 (v:=?_) ?_ ?_
  rotate_left
  ·intro w hSw; (try dsimp only [RMS] at hSw); go_simp; (try with_reducible rfl)
  try simp only [zP]
  refine zT 7 (v:=?_) ?_ ?_
  rotate_left
  ·intro w hSw; (try dsimp only [RMS] at hSw); go_simp; (try with_reducible rfl)
  try simp only [zP]
  refine zT 8 (v:=?_) ?_ ?_
  rotate_left
  ·intro w hSw; (try dsimp only [RMS] at hSw); go_simp; (try with_reducible rfl)
  try simp only [zP]
  refine zT 9 (v:=?_) ?_ ?_
  rotate_left
  ·intro w hSw; (try dsimp only [RMS] at hSw); go_simp; (try with_reducible rfl)
  try simp only [zP]
  refine zT 10 (v:=?_) ?_ ?_
  rotate_left
  ·intro w hSw; (try dsimp only [RMS] at hSw); go_simp; (try with_reducible rfl)
  try simp only [zP]
  refine zT 11 (v:=?_) ?_ ?_
  rotate_left
  ·intro w hSw; (try dsimp only [RMS] at hSw); go_simp; (try with_reducible rfl)
  try simp only [zP]
  refine zT 12 (v:=?_) ?_ ?_
  rotate_left
  ·intro w hSw; (try dsimp only [RMS] at hSw); go_simp; (try with_reducible rfl)
  try simp only [zP]
  refine zT 13 (v:=?_) ?_ ?_
  rotate_left
  ·intro w hSw; (try dsimp only [RMS] at hSw); go_simp; (try with_reducible rfl)
  try simp only [zP]
  refine zT 14 (v:=?_) ?_ ?_
  rotate_left
  ·intro w hSw; (try dsimp only [RMS] at hSw); go_simp; (try with_reducible rfl)
  try simp only [zP]
  refine zT 15 (v:=?_) ?_ ?_
  rotate_left
  ·intro w hSw; (try dsimp only [RMS] at hSw); go_simp; (try with_reducible rfl)
  try simp only [zP]
  refine zT 16 (v:=?_) ?_ ?_
  rotate_left
  ·intro w hSw; (try dsimp only [RMS] at hSw); go_simp; (try with_reducible rfl)
  try simp only [zP]
  refine zT 17 (v:=?_) ?_ ?_
  rotate_left
  ·intro w hSw; (try dsimp only [RMS] at hSw); go_simp; (try with_reducible rfl)
  try simp only [zP]
  refine zT 18 (v:=?_) ?_ ?_
  rotate_left
  ·intro w hSw; (try dsimp only [RMS] at hSw); go_simp; (try with_reducible rfl)
  try simp only [zP]
  refine zT 19 (v:=?_) ?_ ?_
  rotate_left
  ·intro w hSw; (try dsimp only [RMS] at hSw); go_simp; (try with_reducible rfl)
  try simp only [zP]
  refine zT 20 (v:=?_) ?_ ?_
  rotate_left
  ·intro w hSw; (try dsimp only [RMS] at hSw); go_simp; (try with_reducible rfl)
  try simp only [zP]
  refine zT 21 (v:=?_) ?_ ?_
  rotate_left
  ·intro w hSw; (try dsimp only [RMS] at hSw); go_simp; (try with_reducible rfl)
  try simp only [zP]
  refine zT 22 (v:=?_) ?_ ?_
  rotate_left
  ·intro w hSw; (try dsimp only [RMS] at hSw); go_simp; (try with_reducible rfl)
  try simp only [zP]
  refine zT 23 (v:=?_) ?_ ?_
  rotate_left
  ·intro w hSw; go_simp; rw [hq.out]
  try simp only [zP]
  refine wpAnyH_ready (rs:= [24]) (by kernel_rfl) (by simp) ?_
  refine AllReadyH.cons rfl (fun K hK=>?_) AllReadyH.nil
  go_simp
  refine (cS.out _ (by assumption)).mono ?_; rintro e w2 ⟨rfl,hS⟩
  (try go_wp2_with fail)
  refine hK.out _ _ (by assumption) (fun hHeld=>?_)
  clear hK K
  try simp only [zP]
  refine wpAnyH_ready (rs:= [25]) (by kernel_rfl) (by simp) ?_
  refine AllReadyH.cons rfl (fun K hK=>?_) AllReadyH.nil
  go_simp
  refine (cD.out _ (by assumption)).mono ?_; rintro e w2 ⟨rfl,hS⟩
  (try go_wp2_with fail)
  refine hK.out _ _ (by assumption) (fun hHeld=>?_)
  clear hK K
  try simp only [zP]
  refine zT 26 (v:=?_) ?_ ?_
  rotate_left
  ·intro w hSw; (try dsimp only [RMS] at hSw); go_simp; (try with_reducible rfl)
  try simp only [zP]
  refine zT 27 (v:=?_) ?_ ?_
  rotate_left
  ·intro w hSw; (try dsimp only [RMS] at hSw); go_simp; (try with_reducible rfl)
  try simp only [zP]
  refine zT 28 (v:=?_) ?_ ?_
  rotate_left
  ·intro w hSw; (try dsimp only [RMS] at hSw); go_simp; (try with_reducible rfl)
  try simp only [zP]
  refine zT 29 (v:=?_) ?_ ?_
  rotate_left
  ·intro w hSw; (try dsimp only [RMS] at hSw); go_simp; (try with_reducible rfl)
  try simp only [zP]
  refine zT 30 (v:=?_) ?_ ?_
  rotate_left
  ·intro w hSw; (try dsimp only [RMS] at hSw); go_simp; (try with_reducible rfl)
  try simp only [zP]
  refine zT 31 (v:=?_) ?_ ?_
  rotate_left
  ·intro w hSw; (try dsimp only [RMS] at hSw); go_simp; (try with_reducible rfl)
  try simp only [zP]
  refine zT 32 (v:=?_) ?_ ?_
  rotate_left
  ·intro w hSw; (try dsimp only [RMS] at hSw); go_simp; (try with_reducible rfl)
  try simp only [zP]
  refine zT 33 (v:=?_) ?_ ?_
  rotate_left
  ·intro w hSw; (try dsimp only [RMS] at hSw); go_simp; (try with_reducible rfl)
  try simp only [zP]
  refine zT 34 (v:=?_) ?_ ?_
  rotate_left
  ·intro w hSw; (try dsimp only [RMS] at hSw); go_simp; (try with_reducible rfl)
  try simp only [zP]
  refine zT 35 (v:=?_) ?_ ?_
  rotate_left
  ·intro w hSw; (try dsimp only [RMS] at hSw); go_simp; (try with_reducible rfl)
  try simp only [zP]
  refine wpAnyH_ready (rs:= [36]) (by kernel_rfl) (by simp) ?_
  refine AllReadyH.cons rfl (fun K hK=>?_) AllReadyH.nil
  go_simp
  refine (cO.out _ (by assumption)).mono ?_; rintro e w2 ⟨rfl,hS⟩
  (try go_wp2_with fail)
  refine hK.out _ _ (by assumption) (fun hHeld=>?_)
  clear hK K
  try simp only [zP]
  refine zT 37 (v:=?_) ?_ ?_
  rotate_left
  ·intro w hSw; (try dsimp only [RMS] at hSw); go_simp; (try with_reducible rfl)
  try simp only [zP]
  refine zT 38 (v:=?_) ?_ ?_
  rotate_left
  ·intro w hSw; (try dsimp only [RMS] at hSw); go_simp; (try with_reducible rfl)
  try simp only [zP]
  refine wpAnyH_done (by kernel_rfl) ?_ _
  obtain ⟨r0,r1,r2,-,-,-,-⟩:=(‹HaS w c _›).2.2.1.masks
  go_wp2_with fail
  with_reducible refine (m2.out _).mono ?_
  rintro e w' ⟨rfl,rfl⟩
  cases x2
  ·go_wp2
   go_ret
   exact ⟨rfl,(‹HaS w c _›).2.2.2.1⟩
  go_wp2_with fail
  with_reducible refine (m1.out _).mono ?_
  rintro e w' ⟨rfl,rfl⟩
  cases x1
  ·go_wp2
   go_ret
   exact ⟨rfl,(‹HaS w c _›).2.2.2.1⟩
  go_wp2_with fail
  with_reducible refine (m0.out _).mono ?_
  rintro e w' ⟨rfl,rfl⟩
  go_wp2
  go_ret
  exact ⟨rfl,(‹HaS w c _›).2.2.2.1⟩
 ·rw [hw] at cI⊢
  clear hw h hc
  go_enter Tryz.func76,Tryz.ntmps76
  go_wp2_with fail
  refine wp_region_held_drew (S:=fun w'=>HaS w c w') (by kernel_rfl) ?_ (fun hHeld=>?_)
  ·exact HS0.out
  refine zT 0 (v:=?_) ?_ ?_
  rotate_left
  ·intro w hSw; (try dsimp only [RMS] at hSw); go_simp; (try with_reducible rfl)
  try simp only [zP]
  refine wpAnyH_ready (rs:= [1]) (by kernel_rfl) (by simp) ?_
  refine AllReadyH.cons rfl (fun K hK=>?_) AllReadyH.nil
  go_simp
  refine (cI.out _ (by assumption)).mono ?_; rintro e w2 ⟨rfl,hS⟩
  (try go_wp2_with fail)
  refine hK.out _ _ (by assumption) (fun hHeld=>?_)
  clear hK K
  try simp only [zP]
  refine zT 2 (v:=?_) ?_ ?_
  rotate_left
  ·intro w hSw; (try dsimp only [RMS] at hSw); go_simp; (try with_reducible rfl)
  try simp only [zP]
  refine zT 3 (v:=?_) ?_ ?_
  rotate_left
  ·intro w hSw; (try dsimp only [RMS] at hSw); go_simp; (try with_reducible rfl)
  try simp only [zP]
  refine zS 4 ?_
  try simp only [zP]
  refine zS 5 ?_
  try simp only [zP]
  refine zS 6 ?_
  try simp only [zP]
  refine zT 7 (v:=?_) ?_ ?_
  rotate_left
  ·intro w hSw; (try dsimp only [RMS] at hSw); go_simp; (try with_reducible rfl)
  try simp only [zP]
  refine zT 8 (v:=?_) ?_ ?_
  rotate_left
  ·intro w hSw; (try dsimp only [RMS] at hSw); go_simp; (try with_reducible rfl)
  try simp only [zP]
  refine zS 9 ?_
  try simp only [zP]
  refine zS 10 ?_
  try simp only [zP]
  refine zS 11 ?_
  try simp only [zP]
  refine zS 12 ?_
  try simp only [zP]
  refine zT 13 (v:=?_) ?_ ?_
  rotate_left
  ·intro w hSw; (try dsimp only [RMS] at hSw); go_simp; (try with_reducible rfl)
  try simp only [zP]
  refine zT 14 (v:=?_) ?_ ?_
  rotate_left
  ·intro w hSw; (try dsimp only [RMS] at hSw); go_simp; (try with_reducible rfl)
  try simp only [zP]
  refine zS 15 ?_
  try simp only [zP]
  refine zS 16 ?_
  try simp only [zP]
  refine zS 17 ?_
  try simp only [zP]
  refine zS 18 ?_
  try simp only [zP]
  refine zT 19 (v:=?_) ?_ ?_
  rotate_left
  ·intro w hSw; (try dsimp only [RMS] at hSw); go_simp; (try with_reducible rfl)
  try simp only [zP]
  refine zT 20 (v:=?_) ?_ ?_
  rotate_left
  ·intro w hSw; (try dsimp only [RMS] at hSw); go_simp; (try with_reducible rfl)
  try simp only [zP]
  refine zS 21 ?_
  try simp only [zP]
  refine zS 22 ?_
  try simp only [zP]
  refine zS 23 ?_
  try simp only [zP]
  refine zS 24 ?_
  try simp only [zP]
  refine zS 25 ?_
  try simp only [zP]
  refine zS 26 ?_
  try simp only [zP]
  refine zT 27 (v:=?_) ?_ ?_
  rotate_left
  ·intro w hSw; (try dsimp only [RMS] at hSw); go_simp; (try with_reducible rfl)
  try simp only [zP]
  refine zT 28 (v:=?_) ?_ ?_
  rotate_left
  ·intro w hSw; (try dsimp only [RMS] at hSw); go_simp; (try with_reducible rfl)
  try simp only [zP]
  refine zS 29 ?_
  try simp only [zP]
  refine zS 30 ?_
  try simp only [zP]
  refine zS 31 ?_
  try simp only [zP]
  refine zS 32 ?_
  try simp only [zP]
  refine zS 33 ?_
  try simp only [zP]
  refine zS 34 ?_
  try simp only [zP]
  refine zS 35 ?_
  try simp only [zP]
  refine zS 36 ?_
  try simp only [zP]
  refine zS 37 ?_
  try simp only [zP]
  refine zT 38 (v:=?_) ?_ ?_
  rotate_left
  ·intro w hSw; (try dsimp only [RMS] at hSw); go_simp; (try with_reducible rfl)
  try simp only [zP]
  refine wpAnyH_done (by kernel_rfl) ?_ _
  go_wp2
  go_ret
  exact ⟨rfl,(‹HaS w c _›).2.2.2.1⟩
end Go.Proofs.YtmjljpdeohbfbaaGreatDoor
