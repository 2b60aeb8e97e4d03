/-
  lap.Seconds: the disc of any state.
-/
import Derived.Test.YtjahgimnfliooaaGreatDoorQ63ece9
set_option maxRecDepth 100000
set_option maxHeartbeats 25600000
namespace Go.Proofs.YtjahgimnfliooaaGreatDoor
open Go.RowKit
set_option linter.unusedVariables false
attribute [local go_sem ↓] yaC
abbrev SeS (w:World) (c:Cl) (a:Bool) (f u p:Int) (W:World):Prop:=
 LaS w c W∧Four W (w.heap.size+1) (.bool a) (.int .i64 f) (.int .i64 u) (.int .i64 p)∧w.heap.size+1 < W.heap.size
theorem SeS.keep {w W W':World} {c:Cl} {a:Bool} {f u p:Int} (h:SeS w c a f u p W) (hb:Below W.heap.size W W'):SeS w c a f u p W':=
 ⟨h.1.keep hb,h.2.1.below hb h.2.2,zH h.2.2 hb.size⟩
theorem seS_new (w:World) (c:Cl) (a:Bool) (f u p:Int) (t t':TypeId):SeS w c a f u p ((w.alloc (.cells (yac c).toArray t)).alloc (.cells #[.bool a, .int .i64 f, .int .i64 u, .int .i64 p] t')):=by
 refine ⟨(LaS.of (yb7 w c _) (yaa (Below.refl _ _) (zG _)) (by simp)).keep (yaa (Below.refl _ _) (zG _)),?_,by simp⟩
 have h:=ybN (w.alloc (.cells (yac c).toArray t)) (.bool a) (.int .i64 f) (.int .i64 u) (.int .i64 p) t'
 rw [zzN] at h
 exact h
abbrev SecR (w:World) (c:Cl) (a:Bool) (f u p:Int) (e:Ending) (w':World):Prop:=∃b,e= .returned (.pointer (some ⟨b,0,none⟩))∧w.heap.size≤b∧DiscAt w' b (secQ c a f u p)∧Below w.heap.size w w'
theorem yeV {c:Cl} {a:Bool} {f u p:Int} (h:a=false∨p < 0∨mayC c=false) (k:Nat):memD [] k=secQ c a f u p k:=by
 rw [secQ,memD]
 rcases h with h | h | h
 ·rw [h]; simp
 ·rw [zzd (show¬0≤p by omega)]; simp
 ·rw [h]; simp
theorem yfK {c:Cl} {f u p:Int} (hm:mayC c=true) (hp:0≤p) (h:¬(0 < yav c.unit∧(1 < c.step∨0 < p))) (k:Nat):ybA c f u k=secQ c true f u p k:=by
 rw [secQ,ybA,hm,zzZ hp,okS,if_neg h]
 cases ybl k (c.m 2) (c.m 1) (c.m 0) <;> cases betB f u k <;> rfl
theorem ygT {c:Cl} {f u p:Int} (hm:mayC c=true) (hp:0≤p) (h:0 < yav c.unit∧(1 < c.step∨0 < p)) (k:Nat):yaW c (yav c.unit) f u p k=secQ c true f u p k:=by
 rw [secQ,yaW,ybA,hm,zzZ hp,okS,if_pos h]
 cases ybl k (c.m 2) (c.m 1) (c.m 0) <;> cases betB f u k <;> rfl
theorem LStep_any (c:Cl) (a:Bool) (f u p:Int) (w:World) (hc:c.Ok) (hp:0≤p) (hs:1≤c.step) (hz:0 < yav c.unit) (hT:Tab w) :
  Calls Tryz.prog 192 #[clv c,stv a f u p, .int .i64 (yav c.unit)] w fun e w'=>∃b,e= .returned (.pointer (some ⟨b,0,none⟩))∧w.heap.size≤b∧DiscAt w' b (yaW c (yav c.unit) f u p)∧Below w.heap.size w w':=by
 rcases yf7 hz with h | h | h <;> rw [h]
 ·exact yky c a f u p w hc hp hs hT
 ·exact yix c a f u p w hc hp hs hT
 ·exact ygJ c a f u p w hc hp hs hT
theorem yev (c:Cl) (a:Bool) (f u p:Int) (w:World) (hc:c.Ok) (hT:Tab w):Calls Tryz.prog 189 #[clv c,stv a f u p] w (SecR w c a f u p):=by
 have HS0:=hid (seS_new w c a f u p 34 203)
 have cM:=hid (fun W=>ycm c W hc)
 have cZ:=hid (fun W=>ydR c.unit W)
 have c0:=hid (fun W=>yek none 0 [] W (by simp) (Sl.nil _ _))
 have cN:Hid (∀W,Tab W→Calls Tryz.prog 193 #[clv c,stv a f u p] W fun e w'=>∃b,e= .returned (.pointer (some ⟨b,0,none⟩))∧W.heap.size≤b∧DiscAt w' b (ybA c f u)∧Below W.heap.size W w'):=fun W h=>ykz c a f u p W hc h
 have cT:Hid (0≤p→1≤c.step→0 < yav c.unit→∀W,Tab W→Calls Tryz.prog 192 #[clv c,stv a f u p, .int .i64 (yav c.unit)] W fun e w'=>∃b,e= .returned (.pointer (some ⟨b,0,none⟩))∧W.heap.size≤b∧DiscAt w' b (yaW c (yav c.unit) f u p)∧Below W.heap.size W w'):=fun h1 h2 h3 W h=>LStep_any c a f u p W hc h1 h2 h3 h
 have HT:=hid hT
 have hw:Hid (∀W,(w.alloc (.cells (yac c).toArray 34)).alloc (.cells #[.bool a, .int .i64 f, .int .i64 u, .int .i64 p] 203)=W→Below w.heap.size w W):=fun W h=>by rw [←h]; exact yaa (yaa (Below.refl _ _) (zG _)) (by simp)
 clear hT hc
 cases a
 ·skip
  obtain ⟨W1,hW1⟩:∃W,(w.alloc (.cells (yac c).toArray 34)).alloc (.cells #[.bool false, .int .i64 f, .int .i64 u, .int .i64 p] 203)=W:=⟨_,rfl⟩
  have HB1:=hid (hw.out W1 hW1)
  rw [hW1] at HS0
  have HW1:=hid hW1
  obtain ⟨⟨gl,gc,gb,gs⟩,⟨⟨x0,x1,x2,x3⟩,-⟩,gt⟩:=HS0.out
  rw [←hW1] at gl x0 x1 x2 x3
  have t0:=gc.tail.1
  have t1:=gc.tail.2.1
  rw [←hW1] at t0 t1
  clear hW1 gc gb gs gt
  go_enter Tryz.func189,Tryz.ntmps189
  go_wp2_with fail
  (try rw [HW1.out])
  refine (c0.out _).mono ?_
  rintro e w2 ⟨rfl,hD,hB2⟩
  have HB2:=hid (HB1.out.trans (hB2.mono HB1.out.size))
  have HD:=hid hD
  have s1:=HB1.out.size
  clear hD hB2
  go_wp2
  go_ret
  exact ⟨_,rfl,s1,HD.out.congr fun k _=>yeV (.inl rfl) k,HB2.out⟩
 ·by_cases hp:p < 0
  ·have HNO:Hid (true=false∨p < 0∨mayC c=false):= .inr (.inl hp)
   have hpd:decide (p < 0)=true:=zzZ hp
   obtain ⟨W1,hW1⟩:∃W,(w.alloc (.cells (yac c).toArray 34)).alloc (.cells #[.bool true, .int .i64 f, .int .i64 u, .int .i64 p] 203)=W:=⟨_,rfl⟩
   have HB1:=hid (hw.out W1 hW1)
   rw [hW1] at HS0
   have HW1:=hid hW1
   obtain ⟨⟨gl,gc,gb,gs⟩,⟨⟨x0,x1,x2,x3⟩,-⟩,gt⟩:=HS0.out
   rw [←hW1] at gl x0 x1 x2 x3
   have t0:=gc.tail.1
   have t1:=gc.tail.2.1
   rw [←hW1] at t0 t1
   clear hW1 gc gb gs gt
   go_enter Tryz.func189,Tryz.ntmps189
   go_wp2_with fail
   (try rw [HW1.out])
   refine (c0.out _).mono ?_
   rintro e w2 ⟨rfl,hD,hB2⟩
   have HB2:=hid (HB1.out.trans (hB2.mono HB1.out.size))
   have HD:=hid hD
   have s1:=HB1.out.size
   clear hD hB2
   go_wp2
   go_ret
   exact ⟨_,rfl,s1,HD.out.congr fun k _=>yeV (HNO.out) k,HB2.out⟩
  ·have hp0:0≤p:=by omega
   have hpd:decide (p < 0)=false:=zzd hp
   cases hm:mayC c
   ·rw [hm] at cM
    have HNO:Hid (true=false∨p < 0∨mayC c=false):= .inr (.inr hm)
    clear hm
    obtain ⟨W1,hW1⟩:∃W,(w.alloc (.cells (yac c).toArray 34)).alloc (.cells #[.bool true, .int .i64 f, .int .i64 u, .int .i64 p] 203)=W:=⟨_,rfl⟩
    have HB1:=hid (hw.out W1 hW1)
    rw [hW1] at HS0
    have HW1:=hid hW1
    obtain ⟨⟨gl,gc,gb,gs⟩,⟨⟨x0,x1,x2,x3⟩,-⟩,gt⟩:=HS0.out
    rw [←hW1] at gl x0 x1 x2 x3
    have t0:=gc.tail.1
    have t1:=gc.tail.2.1
    rw [←hW1] at t0 t1
    clear hW1 gc gb gs gt
    go_enter Tryz.func189,Tryz.ntmps189
    go_wp2_with fail
    (try rw [HW1.out])
    clear gl x0 x1 x2 x3 t0 t1
    refine (cM.out _).mono ?_
    rintro e w1 ⟨rfl,hB⟩
    have HSX:=hid (SeS.keep HS0.out hB)
    have HBX:=hid (HB1.out.trans (hB.mono HB1.out.size))
    clear hB HB1 HS0
    have HB1:=HBX
    have HS0:=HSX
    clear HBX HSX
    obtain ⟨⟨gl,gc,gb,gs⟩,⟨⟨x0,x1,x2,x3⟩,-⟩,gt⟩:=HS0.out
    have t0:=gc.tail.1
    have t1:=gc.tail.2.1
    clear gc gb gs gt
    go_wp2_with fail
    (try rw [HW1.out])
    refine (c0.out _).mono ?_
    rintro e w2 ⟨rfl,hD,hB2⟩
    have HB2:=hid (HB1.out.trans (hB2.mono HB1.out.size))
    have HD:=hid hD
    have s1:=HB1.out.size
    clear hD hB2
    go_wp2
    go_ret
    exact ⟨_,rfl,s1,HD.out.congr fun k _=>yeV (HNO.out) k,HB2.out⟩
   ·rw [hm] at cM
    obtain ⟨-,hst,-,-⟩:=ycI hm
    have Hm:=hid hm
    clear hm
    by_cases hz:0 < yav c.unit
    ·have hzd:decide (0 < yav c.unit)=true:=zzZ hz
     by_cases h1:1 < c.step
     ·have h1d:decide (1 < c.step)=true:=zzZ h1
      have HST:Hid (0 < yav c.unit∧(1 < c.step∨0 < p)):=⟨hz, .inl h1⟩
      obtain ⟨W1,hW1⟩:∃W,(w.alloc (.cells (yac c).toArray 34)).alloc (.cells #[.bool true, .int .i64 f, .int .i64 u, .int .i64 p] 203)=W:=⟨_,rfl⟩
      have HB1:=hid (hw.out W1 hW1)
      rw [hW1] at HS0
      have HW1:=hid hW1
      obtain ⟨⟨gl,gc,gb,gs⟩,⟨⟨x0,x1,x2,x3⟩,-⟩,gt⟩:=HS0.out
      rw [←hW1] at gl x0 x1 x2 x3
      have t0:=gc.tail.1
      have t1:=gc.tail.2.1
      rw [←hW1] at t0 t1
      clear hW1 gc gb gs gt
      go_enter Tryz.func189,Tryz.ntmps189
      go_wp2_with fail
      (try rw [HW1.out])
      clear gl x0 x1 x2 x3 t0 t1
      refine (cM.out _).mono ?_
      rintro e w1 ⟨rfl,hB⟩
      have HSX:=hid (SeS.keep HS0.out hB)
      have HBX:=hid (HB1.out.trans (hB.mono HB1.out.size))
      clear hB HB1 HS0
      have HB1:=HBX
      have HS0:=HSX
      clear HBX HSX
      obtain ⟨⟨gl,gc,gb,gs⟩,⟨⟨x0,x1,x2,x3⟩,-⟩,gt⟩:=HS0.out
      have t0:=gc.tail.1
      have t1:=gc.tail.2.1
      clear gc gb gs gt
      go_wp2_with fail
      (try rw [HW1.out])
      clear gl x0 x1 x2 x3 t0 t1
      refine (cZ.out _).mono ?_
      rintro e w2 ⟨rfl,hB⟩
      have HSX:=hid (SeS.keep HS0.out hB)
      have HBX:=hid (HB1.out.trans (hB.mono HB1.out.size))
      clear hB HB1 HS0
      have HB1:=HBX
      have HS0:=HSX
      clear HBX HSX
      obtain ⟨⟨gl,gc,gb,gs⟩,⟨⟨x0,x1,x2,x3⟩,-⟩,gt⟩:=HS0.out
      have t0:=gc.tail.1
      have t1:=gc.tail.2.1
      clear gc gb gs gt
      go_upto_region 4 with fail
      clear gl x0 x1 x2 x3 t0 t1
      refine wp_region_held_drew (S:=fun w'=>SeS w c true f u p w') (by kernel_rfl) (HS0.out.keep (Below.refl _ _).drew) (fun hHeld=>?_)
      refine zT 0 (v:=?_) ?_ ?_
      rotate_left
      ·intro w hSw; obtain ⟨⟨gl,gc,gb,gs⟩,⟨⟨x0,x1,x2,x3⟩,-⟩,gt⟩:=hSw; have t0:=gc.tail.1; clear gc; go_simp; (try with_reducible rfl)
      try simp only [zP]
      refine zT 1 (v:=?_) ?_ ?_
      rotate_left
      ·intro w hSw; obtain ⟨⟨gl,gc,gb,gs⟩,⟨⟨x0,x1,x2,x3⟩,-⟩,gt⟩:=hSw; have t0:=gc.tail.1; clear gc; go_simp; (try with_reducible rfl)
      try simp only [zP]
      refine zT 2 (v:=?_) ?_ ?_
      rotate_left
      ·intro w hSw; obtain ⟨⟨gl,gc,gb,gs⟩,⟨⟨x0,x1,x2,x3⟩,-⟩,gt⟩:=hSw; have t0:=gc.tail.1; clear gc; go_simp; (try with_reducible rfl)
      try simp only [zP]
      refine zT 3 (v:=?_) ?_ ?_
      rotate_left
      ·intro w hSw; obtain ⟨⟨gl,gc,gb,gs⟩,⟨⟨x0,x1,x2,x3⟩,-⟩,gt⟩:=hSw; have t0:=gc.tail.1; clear gc; go_simp; (try with_reducible rfl)
      try simp only [zP]
      refine zzK 4 (fun K hK=>?_)
      go_simp
      refine (cZ.out _).mono ?_
      rintro e w3 ⟨rfl,hB3⟩
      have hH3:=SeS.keep hHeld hB3
      clear hB3
      (try go_wp2_with fail)
      refine hK.out _ _ hH3 (fun hHeld=>?_)
      clear hK K hH3
      try simp only [zP]
      refine zzK 5 (fun K hK=>?_)
      go_simp
      refine (cT.out hp0 hst hz w3 (HT.out.later hHeld.1.2.2.1)).mono ?_
      rintro e w4 ⟨bd,rfl,hle,hD,hB4⟩
      have hH4:=SeS.keep hHeld hB4
      have HD:=hid hD
      have HL:Hid (w.heap.size≤bd):=zI hHeld.1.2.2.1.size hle
      clear hB4 hD hle
      (try go_wp2_with fail)
      refine hK.out _ _ hH4 (fun hHeld=>?_)
      clear hK K hH4
      try simp only [zP]
      refine zT 6 (v:=?_) ?_ ?_
      rotate_left
      ·intro w hSw; obtain ⟨⟨gl,gc,gb,gs⟩,⟨⟨x0,x1,x2,x3⟩,-⟩,gt⟩:=hSw; have t0:=gc.tail.1; clear gc; go_simp; (try with_reducible rfl)
      try simp only [zP]
      refine wpAnyH_done (by kernel_rfl) ?_ _
      have HBF:=hid hHeld.1.2.2.1
      clear hHeld
      go_wp2
      go_ret
      exact ⟨_,rfl,HL.out,HD.out.congr fun k _=>ygT Hm.out hp0 HST.out k,HBF.out⟩
     ·have h1d:decide (1 < c.step)=false:=zzd h1
      by_cases h2:0 < p
      ·have h2d:decide (0 < p)=true:=zzZ h2
       have HST:Hid (0 < yav c.unit∧(1 < c.step∨0 < p)):=⟨hz, .inr h2⟩
       obtain ⟨W1,hW1⟩:∃W,(w.alloc (.cells (yac c).toArray 34)).alloc (.cells #[.bool true, .int .i64 f, .int .i64 u, .int .i64 p] 203)=W:=⟨_,rfl⟩
       have HB1:=hid (hw.out W1 hW1)
       rw [hW1] at HS0
       have HW1:=hid hW1
       obtain ⟨⟨gl,gc,gb,gs⟩,⟨⟨x0,x1,x2,x3⟩,-⟩,gt⟩:=HS0.out
       rw [←hW1] at gl x0 x1 x2 x3
       have t0:=gc.tail.1
       have t1:=gc.tail.2.1
       rw [←hW1] at t0 t1
       clear hW1 gc gb gs gt
       go_enter Tryz.func189,Tryz.ntmps189
       go_wp2_with fail
       (try rw [HW1.out])
       clear gl x0 x1 x2 x3 t0 t1
       refine (cM.out _).mono ?_
       rintro e w1 ⟨rfl,hB⟩
       have HSX:=hid (SeS.keep HS0.out hB)
       have HBX:=hid (HB1.out.trans (hB.mono HB1.out.size))
       clear hB HB1 HS0
       have HB1:=HBX
       have HS0:=HSX
       clear HBX HSX
       obtain ⟨⟨gl,gc,gb,gs⟩,⟨⟨x0,x1,x2,x3⟩,-⟩,gt⟩:=HS0.out
       have t0:=gc.tail.1
       have t1:=gc.tail.2.1
       clear gc gb gs gt
       go_wp2_with fail
       (try rw [HW1.out])
       clear gl x0 x1 x2 x3 t0 t1
       refine (cZ.out _).mono ?_
       rintro e w2 ⟨rfl,hB⟩
       have HSX:=hid (SeS.keep HS0.out hB)
       have HBX:=hid (HB1.out.trans (hB.mono HB1.out.size))
       clear hB HB1 HS0
       have HB1:=HBX
       have HS0:=HSX
       clear HBX HSX
       obtain ⟨⟨gl,gc,gb,gs⟩,⟨⟨x0,x1,x2,x3⟩,-⟩,gt⟩:=HS0.out
       have t0:=gc.tail.1
       have t1:=gc.tail.2.1
       clear gc gb gs gt
       go_upto_region 4 with fail
       clear gl x0 x1 x2 x3 t0 t1
       refine wp_region_held_drew (S:=fun w'=>SeS w c true f u p w') (by kernel_rfl) (HS0.out.keep (Below.refl _ _).drew) (fun hHeld=>?_)
       refine zT 0 (v:=?_) ?_ ?_
       rotate_left
       ·intro w hSw; obtain ⟨⟨gl,gc,gb,gs⟩,⟨⟨x0,x1,x2,x3⟩,-⟩,gt⟩:=hSw; have t0:=gc.tail.1; clear gc; go_simp; (try with_reducible rfl)
       try simp only [zP]
       refine zT 1 (v:=?_) ?_ ?_
       rotate_left
       ·intro w hSw; obtain ⟨⟨gl,gc,gb,gs⟩,⟨⟨x0,x1,x2,x3⟩,-⟩,gt⟩:=hSw; have t0:=gc.tail.1; clear gc; go_simp; (try with_reducible rfl)
       try simp only [zP]
       refine zT 2 (v:=?_) ?_ ?_
       rotate_left
       ·intro w hSw; obtain ⟨⟨gl,gc,gb,gs⟩,⟨⟨x0,x1,x2,x3⟩,-⟩,gt⟩:=hSw; have t0:=gc.tail.1; clear gc; go_simp; (try with_reducible rfl)
       try simp only [zP]
       refine zT 3 (v:=?_) ?_ ?_
       rotate_left
       ·intro w hSw; obtain ⟨⟨gl,gc,gb,gs⟩,⟨⟨x0,x1,x2,x3⟩,-⟩,gt⟩:=hSw; have t0:=gc.tail.1; clear gc; go_simp; (try with_reducible rfl)
       try simp only [zP]
       refine zzK 4 (fun K hK=>?_)
       go_simp
       refine (cZ.out _).mono ?_
       rintro e w3 ⟨rfl,hB3⟩
       have hH3:=SeS.keep hHeld hB3
       clear hB3
       (try go_wp2_with fail)
       refine hK.out _ _ hH3 (fun hHeld=>?_)
       clear hK K hH3
       try simp only [zP]
       refine zzK 5 (fun K hK=>?_)
       go_simp
       refine (cT.out hp0 hst hz w3 (HT.out.later hHeld.1.2.2.1)).mono ?_
       rintro e w4 ⟨bd,rfl,hle,hD,hB4⟩
       have hH4:=SeS.keep hHeld hB4
       have HD:=hid hD
       have HL:Hid (w.heap.size≤bd):=zI hHeld.1.2.2.1.size hle
       clear hB4 hD hle
       (try go_wp2_with fail)
       refine hK.out _ _ hH4 (fun hHeld=>?_)
       clear hK K hH4
       try simp only [zP]
       refine zT 6 (v:=?_) ?_ ?_
       rotate_left
       ·intro w hSw; obtain ⟨⟨gl,gc,gb,gs⟩,⟨⟨x0,x1,x2,x3⟩,-⟩,gt⟩:=hSw; have t0:=gc.tail.1; clear gc; go_simp; (try with_reducible rfl)
       try simp only [zP]
       refine wpAnyH_done (by kernel_rfl) ?_ _
       have HBF:=hid hHeld.1.2.2.1
       clear hHeld
       go_wp2
       go_ret
       exact ⟨_,rfl,HL.out,HD.out.congr fun k _=>ygT Hm.out hp0 HST.out k,HBF.out⟩
      ·have h2d:decide (0 < p)=false:=zzd h2
       have HST:Hid (¬(0 < yav c.unit∧(1 < c.step∨0 < p))):=fun h=>by omega
       obtain ⟨W1,hW1⟩:∃W,(w.alloc (.cells (yac c).toArray 34)).alloc (.cells #[.bool true, .int .i64 f, .int .i64 u, .int .i64 p] 203)=W:=⟨_,rfl⟩
       have HB1:=hid (hw.out W1 hW1)
       rw [hW1] at HS0
       have HW1:=hid hW1
       obtain ⟨⟨gl,gc,gb,gs⟩,⟨⟨x0,x1,x2,x3⟩,-⟩,gt⟩:=HS0.out
       rw [←hW1] at gl x0 x1 x2 x3
       have t0:=gc.tail.1
       have t1:=gc.tail.2.1
       rw [←hW1] at t0 t1
       clear hW1 gc gb gs gt
       go_enter Tryz.func189,Tryz.ntmps189
       go_wp2_with fail
       (try rw [HW1.out])
       clear gl x0 x1 x2 x3 t0 t1
       refine (cM.out _).mono ?_
       rintro e w1 ⟨rfl,hB⟩
       have HSX:=hid (SeS.keep HS0.out hB)
       have HBX:=hid (HB1.out.trans (hB.mono HB1.out.size))
       clear hB HB1 HS0
       have HB1:=HBX
       have HS0:=HSX
       clear HBX HSX
       obtain ⟨⟨gl,gc,gb,gs⟩,⟨⟨x0,x1,x2,x3⟩,-⟩,gt⟩:=HS0.out
       have t0:=gc.tail.1
       have t1:=gc.tail.2.1
       clear gc gb gs gt
       go_wp2_with fail
       (try rw [HW1.out])
       clear gl x0 x1 x2 x3 t0 t1
       refine (cZ.out _).mono ?_
       rintro e w2 ⟨rfl,hB⟩
       have HSX:=hid (SeS.keep HS0.out hB)
       have HBX:=hid (HB1.out.trans (hB.mono HB1.out.size))
       clear hB HB1 HS0
       have HB1:=HBX
       have HS0:=HSX
       clear HBX HSX
       obtain ⟨⟨gl,gc,gb,gs⟩,⟨⟨x0,x1,x2,x3⟩,-⟩,gt⟩:=HS0.out
       have t0:=gc.tail.1
       have t1:=gc.tail.2.1
       clear gc gb gs gt
       go_wp2_with fail
       clear gl x0 x1 x2 x3 t0 t1
       refine (cN.out _ (HT.out.later HB1.out)).mono ?_
       rintro e w4 ⟨bd,rfl,hle,hD,hB4⟩
       have HD:=hid hD
       have HBF:=hid (HB1.out.trans (hB4.mono HB1.out.size))
       have HL:Hid (w.heap.size≤bd):=zI HB1.out.size hle
       clear hB4 hD hle
       go_wp2
       go_ret
       exact ⟨_,rfl,HL.out,HD.out.congr fun k _=>yfK Hm.out hp0 HST.out k,HBF.out⟩
    ·have hzd:decide (0 < yav c.unit)=false:=zzd hz
     have HST:Hid (¬(0 < yav c.unit∧(1 < c.step∨0 < p))):=fun h=>hz h.1
     obtain ⟨W1,hW1⟩:∃W,(w.alloc (.cells (yac c).toArray 34)).alloc (.cells #[.bool true, .int .i64 f, .int .i64 u, .int .i64 p] 203)=W:=⟨_,rfl⟩
     have HB1:=hid (hw.out W1 hW1)
     rw [hW1] at HS0
     have HW1:=hid hW1
     obtain ⟨⟨gl,gc,gb,gs⟩,⟨⟨x0,x1,x2,x3⟩,-⟩,gt⟩:=HS0.out
     rw [←hW1] at gl x0 x1 x2 x3
     have t0:=gc.tail.1
     have t1:=gc.tail.2.1
     rw [←hW1] at t0 t1
     clear hW1 gc gb gs gt
     go_enter Tryz.func189,Tryz.ntmps189
     go_wp2_with fail
     (try rw [HW1.out])
     clear gl x0 x1 x2 x3 t0 t1
     refine (cM.out _).mono ?_
     rintro e w1 ⟨rfl,hB⟩
     have HSX:=hid (SeS.keep HS0.out hB)
     have HBX:=hid (HB1.out.trans (hB.mono HB1.out.size))
     clear hB HB1 HS0
     have HB1:=HBX
     have HS0:=HSX
     clear HBX HSX
     obtain ⟨⟨gl,gc,gb,gs⟩,⟨⟨x0,x1,x2,x3⟩,-⟩,gt⟩:=HS0.out
     have t0:=gc.tail.1
     have t1:=gc.tail.2.1
     clear gc gb gs gt
     go_wp2_with fail
     (try rw [HW1.out])
     clear gl x0 x1 x2 x3 t0 t1
     refine (cZ.out _).mono ?_
     rintro e w2 ⟨rfl,hB⟩
     have HSX:=hid (SeS.keep HS0.out hB)
     have HBX:=hid (HB1.out.trans (hB.mono HB1.out.size))
     clear hB HB1 HS0
     have HB1:=HBX
     have HS0:=HSX
     clear HBX HSX
     obtain ⟨⟨gl,gc,gb,gs⟩,⟨⟨x0,x1,x2,x3⟩,-⟩,gt⟩:=HS0.out
     have t0:=gc.tail.1
     have t1:=gc.tail.2.1
     clear gc gb gs gt
     go_wp2_with fail
     clear gl x0 x1 x2 x3 t0 t1
     refine (cN.out _ (HT.out.later HB1.out)).mono ?_
     rintro e w4 ⟨bd,rfl,hle,hD,hB4⟩
     have HD:=hid hD
     have HBF:=hid (HB1.out.trans (hB4.mono HB1.out.size))
     have HL:Hid (w.heap.size≤bd):=zI HB1.out.size hle
     clear hB4 hD hle
     go_wp2
     go_ret
     exact ⟨_,rfl,HL.out,HD.out.congr fun k _=>yfK Hm.out hp0 HST.out k,HBF.out⟩
end Go.Proofs.YtjahgimnfliooaaGreatDoor
