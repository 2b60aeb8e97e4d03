/-
  feriaref13.May: the document's word whether a clause may be.
-/
import Derived.Test.YtkpgfmonhfnhdaaGreatDoorQ446fa1
import Derived.Test.YtkpgfmonhfnhdaaGreatDoorQbf9d08
set_option maxRecDepth 100000
set_option maxHeartbeats 25600000
namespace Go.Proofs.YtkpgfmonhfnhdaaGreatDoor
open Go.RowKit
set_option linter.unusedVariables false
theorem wof_wsel2 (s:Nat→Nat) (i:Nat) (hi:i < 7) (hs:s i < 18446744073709551616):wof (wsel s) i=inW s i:=by
 refine (ydV (inW_lt i hs) (fun k hk=>?_)).symm
 rw [inW,Nat.testBit_and,yjR,inWB,zze]
 simp only [zzX,zzY,wsel,sel_mem]
 constructor
 ·rintro ⟨h1,_,h2⟩
  exact ⟨⟨64 * i+k,h2,by rw [bitW,show (64 * i+k) / 64=i by omega,show (64 * i+k) % 64=k by omega]; exact h1,rfl⟩,h2⟩
 ·rintro ⟨⟨j,h1,h2,h3⟩,h4⟩
  have:j=64 * i+k:=by omega
  subst this
  rw [bitW,show (64 * i+k) / 64=i by omega,show (64 * i+k) % 64=k by omega] at h2
  exact ⟨h2,hk,h4⟩
theorem eqW_wof (s:Nat→Nat) (hs:∀i,i < 7→s i < 18446744073709551616):eqW (wof (wsel s)) s=eqW (inW s) s:=by
 rw [zze,yhX,yhX]
 refine forall_congr' fun i=>forall_congr' fun hi=>?_
 rw [wof_wsel2 s i hi (hs i hi)]
abbrev RMS (w:World) (c:Cl) (W:World):Prop:=
 (W.cell? ⟨w.heap.size,8,none⟩=some (.int .i64 c.oin)∧W.cell? ⟨w.heap.size,9,none⟩=some (.bool c.oback)∧W.cell? ⟨w.heap.size,10,none⟩=some (.int .u64 (c.od 0:Nat))∧W.cell? ⟨w.heap.size,11,none⟩=some (.int .u64 (c.od 1:Nat))∧
   W.cell? ⟨w.heap.size,12,none⟩=some (.int .u64 (c.od 2:Nat))∧W.cell? ⟨w.heap.size,13,none⟩=some (.int .u64 (c.od 3:Nat))∧W.cell? ⟨w.heap.size,14,none⟩=some (.int .u64 (c.od 4:Nat))∧W.cell? ⟨w.heap.size,15,none⟩=some (.int .u64 (c.od 5:Nat))∧
   W.cell? ⟨w.heap.size,16,none⟩=some (.int .u64 (c.od 6:Nat))∧W.cell? ⟨w.heap.size,17,none⟩=some (.int .u64 (c.od 7:Nat)))∧
 (W.cell? ⟨w.heap.size,18,none⟩=some (.int .u64 (c.ys 0:Nat))∧W.cell? ⟨w.heap.size,19,none⟩=some (.int .u64 (c.ys 1:Nat))∧W.cell? ⟨w.heap.size,20,none⟩=some (.int .u64 (c.ys 2:Nat))∧W.cell? ⟨w.heap.size,21,none⟩=some (.int .u64 (c.ys 3:Nat))∧
   W.cell? ⟨w.heap.size,22,none⟩=some (.int .u64 (c.ys 4:Nat))∧W.cell? ⟨w.heap.size,23,none⟩=some (.int .u64 (c.ys 5:Nat))∧W.cell? ⟨w.heap.size,24,none⟩=some (.int .u64 (c.ys 6:Nat)))∧
 (W.cell? ⟨w.heap.size,25,none⟩=some (.int .i64 c.unit)∧W.cell? ⟨w.heap.size,26,none⟩=some (.int .i64 c.step)∧W.cell? ⟨w.heap.size,27,none⟩=some (.int .i64 c.anchor))∧
 ClB W w.heap.size c∧Below w.heap.size w W∧w.heap.size < W.heap.size
theorem RMS.of {w W:World} {c:Cl} (h:ClB W w.heap.size c) (hb:Below w.heap.size w W) (hs:w.heap.size < W.heap.size):RMS w c W:=
 ⟨h.ord,h.years,⟨h.tail.1,h.tail.2.1,h.tail.2.2.1⟩,h,hb,hs⟩
theorem RMS.keep {w W W':World} {c:Cl} (h:RMS w c W) (hb:Below W.heap.size W W'):RMS w c W':=
 RMS.of (h.2.2.2.1.below hb h.2.2.2.2.2) (h.2.2.2.2.1.trans (hb.mono (by have:=h.2.2.2.2.2; omega))) (zH h.2.2.2.2.2 hb.size)
theorem ykf (c:Cl) (w:World) (hc:c.Ok):Calls Tryz.prog 14 #[clv c] w fun e w'=>e= .returned (.bool (mayC c))∧Below w.heap.size w w':=by
 have hC:=hid (ycG w c 36)
 have hB0:Hid (Below w.heap.size w (w.alloc (.cells (yad c).toArray 36))):=yaa (Below.refl _ _) (zG _)
 have m0:=hid (fun W=>ybC (c.m 0) 0 59 W (hc.m 0 (by omega)))
 have m1:=hid (fun W=>ybC (c.m 1) 0 59 W (hc.m 1 (by omega)))
 have m2:=hid (fun W=>ybC (c.m 2) 0 23 W (hc.m 2 (by omega)))
 have m3:=hid (fun W=>ybC (c.m 3) 1 12 W (hc.m 3 (by omega)))
 have m4:=hid (fun W=>ybC (c.m 4) 1 31 W (hc.m 4 (by omega)))
 have m5:=hid (fun W=>ybC (c.m 5) 1 31 W (hc.m 5 (by omega)))
 have m6:=hid (fun W=>ybC (c.m 6) 1 7 W (hc.m 6 (by omega)))
 have cO:=hid (fun W (h:RMS w c W)=>ybI (yke c.oin c.oback c.od W hc.oin hc.od) (fun _=>h.keep))
 have cU:=hid (fun W (h:RMS w c W)=>ybI (yb8 (RUMay_any c.unit W)) (fun _=>h.keep))
 have cM:=hid (fun W (h:RMS w c W)=>ybI (yb8 (RMIn_any c.anchor W)) (fun _=>h.keep))
 have cF:Hid (∀W (a:Option Addr) (cap:Nat),RMS w c W→Sl W a (ints (wsel c.ys))→Calls Tryz.prog 18 #[.slice a (wsel c.ys).length cap] W fun e w'=>e= .returned (wv (wof (wsel c.ys)))∧RMS w c w'):=
  fun W a cap h hs=>ybI (ygt a cap (wsel c.ys) W (by have:=yc8 (bitW c.ys) 400; rw [wsel]; omega) hs) (fun _=>h.keep)
 have cL:Hid (∀W,RMS w c W→Calls Tryz.prog 48 #[wv c.ys] W fun e w'=>(∃a cap,e= .returned (.slice a (wsel c.ys).length cap)∧Sl w' a (ints (wsel c.ys)))∧RMS w c w'):=fun W h=>
  (own_ret (WList_any c.ys W hc.ys)).mono fun e w' ⟨a,n,cap,e1,e2,e3,_,e5⟩=>⟨⟨a,cap,by rw [e1,e2.out],e3⟩,h.keep e5⟩
 have heq:=hid (fun W=>yfm (wof (wsel c.ys)) c.ys W)
 rw [eqW_wof c.ys hc.ys] at heq
 have hres:Hid (mayC c= (yb9 c.m && (ordB c.oin c.oback c.od && (eqW (inW c.ys) c.ys && (unB c.unit && (decide (1≤c.step) && winB c.anchor)))))):=rfl
 rw [hres.out,yb9]
 clear hres hc
 obtain ⟨x0,hx0⟩:∃b,ybc (c.m 0) 0 59=b:=⟨_,rfl⟩
 obtain ⟨x1,hx1⟩:∃b,ybc (c.m 1) 0 59=b:=⟨_,rfl⟩
 obtain ⟨x2,hx2⟩:∃b,ybc (c.m 2) 0 23=b:=⟨_,rfl⟩
 obtain ⟨x3,hx3⟩:∃b,ybc (c.m 3) 1 12=b:=⟨_,rfl⟩
 obtain ⟨x4,hx4⟩:∃b,ybc (c.m 4) 1 31=b:=⟨_,rfl⟩
 obtain ⟨x5,hx5⟩:∃b,ybc (c.m 5) 1 31=b:=⟨_,rfl⟩
 obtain ⟨x6,hx6⟩:∃b,ybc (c.m 6) 1 7=b:=⟨_,rfl⟩
 obtain ⟨b2,hb2⟩:∃b,ordB c.oin c.oback c.od=b:=⟨_,rfl⟩
 obtain ⟨b3,hb3⟩:∃b,eqW (inW c.ys) c.ys=b:=⟨_,rfl⟩
 obtain ⟨b4,hb4⟩:∃b,unB c.unit=b:=⟨_,rfl⟩
 obtain ⟨b5,hb5⟩:∃b,decide (1≤c.step)=b:=⟨_,rfl⟩
 obtain ⟨b6,hb6⟩:∃b,winB c.anchor=b:=⟨_,rfl⟩
 rw [hx0] at m0⊢
 rw [hx1] at m1⊢
 rw [hx2] at m2⊢
 rw [hx3] at m3⊢
 rw [hx4] at m4⊢
 rw [hx5] at m5⊢
 rw [hx6] at m6⊢
 rw [hb2] at cO⊢
 rw [hb3] at heq⊢
 rw [hb4] at cU⊢
 rw [hb5]
 rw [hb6] at cM⊢
 have Hb5:=hid hb5
 clear hx0 hx1 hx2 hx3 hx4 hx5 hx6 hb2 hb3 hb4 hb5 hb6
 go_enter Tryz.func14,Tryz.ntmps14
 go_wp2_with fail
 refine (m0.out _).mono ?_
 rintro e w' ⟨rfl,rfl⟩
 cases x0
 ·go_wp2
  go_ret
  exact ⟨rfl,hB0.out⟩
 go_wp2_with fail
 refine (m1.out _).mono ?_
 rintro e w' ⟨rfl,rfl⟩
 cases x1
 ·go_wp2
  go_ret
  exact ⟨rfl,hB0.out⟩
 go_wp2_with fail
 refine (m2.out _).mono ?_
 rintro e w' ⟨rfl,rfl⟩
 cases x2
 ·go_wp2
  go_ret
  exact ⟨rfl,hB0.out⟩
 go_wp2_with fail
 refine (m3.out _).mono ?_
 rintro e w' ⟨rfl,rfl⟩
 cases x3
 ·go_wp2
  go_ret
  exact ⟨rfl,hB0.out⟩
 go_wp2_with fail
 refine (m4.out _).mono ?_
 rintro e w' ⟨rfl,rfl⟩
 cases x4
 ·go_wp2
  go_ret
  exact ⟨rfl,hB0.out⟩
 go_wp2_with fail
 refine (m5.out _).mono ?_
 rintro e w' ⟨rfl,rfl⟩
 cases x5
 ·go_wp2
  go_ret
  exact ⟨rfl,hB0.out⟩
 go_wp2_with fail
 refine (m6.out _).mono ?_
 rintro e w' ⟨rfl,rfl⟩
 cases x6
 ·go_wp2
  go_ret
  exact ⟨rfl,hB0.out⟩
 have HS0:Hid (RMS w c (w.alloc (.cells (yad c).toArray 36)).drew):=RMS.of (hC.out.below (B:=w.heap.size+1) (Below.refl _ _).drew (by omega)) hB0.out.drew (by show _ < (World.alloc _ _).heap.size; simp)
 have fin:Hid (∀W,RMS w c W→Below w.heap.size w W):=fun W h=>h.2.2.2.2.1
 have heq':=heq.out
 clear hC hB0
 cases b2
 ·go_wp2_with fail
  refine wp_region_held_drew (S:=fun w'=>RMS w c w') (by kernel_rfl) ?_ (fun hHeld=>?_)
  ·exact HS0.out
  refine zhB 0 ?_
  refine zhB 1 ?_
  refine zzK 2 (fun K hK=>?_)
  go_simp
  refine (cO.out _ (by assumption)).mono ?_; rintro e w' ⟨rfl,hS⟩
  (try go_wp2_with fail)
  refine hK.out _ _ (by assumption) (fun hHeld=>?_)
  clear hK K
  try simp only [zP]
  refine zhB 3 ?_
  refine zhS 4 ?_
  refine zhS 5 ?_
  refine zhS 6 ?_
  refine zhS 7 ?_
  refine zhS 8 ?_
  refine zhS 9 ?_
  refine zhS 10 ?_
  refine zhB 11 ?_
  refine zhB 12 ?_
  refine zhS 13 ?_
  refine zhS 14 ?_
  refine zhS 15 ?_
  refine zhB 16 ?_
  refine zhB 17 ?_
  refine zhS 18 ?_
  refine zhS 19 ?_
  refine zhS 20 ?_
  refine zhB 21 ?_
  refine zhB 22 ?_
  refine zhS 23 ?_
  refine zhS 24 ?_
  refine zhS 25 ?_
  refine zhB 26 ?_
  refine zhB 27 ?_
  refine wpAnyH_done (by kernel_rfl) ?_ _
  go_wp2
  go_ret
  exact ⟨rfl,fin.out _ (by assumption)⟩
 cases b3
 ·go_wp2_with fail
  refine wp_region_held_drew (S:=fun w'=>RMS w c w') (by kernel_rfl) ?_ (fun hHeld=>?_)
  ·exact HS0.out
  refine zhB 0 ?_
  refine zhB 1 ?_
  refine zzK 2 (fun K hK=>?_)
  go_simp
  refine (cO.out _ (by assumption)).mono ?_; rintro e w' ⟨rfl,hS⟩
  (try go_wp2_with fail)
  refine hK.out _ _ (by assumption) (fun hHeld=>?_)
  clear hK K
  try simp only [zP]
  refine zhB 3 ?_
  refine zhB 4 ?_
  refine zhB 5 ?_
  refine zhB 8 ?_
  refine zhB 9 ?_
  refine zzK 6 (fun K hK=>?_)
  go_simp
  refine (cL.out _ (by assumption)).mono ?_; rintro e w' ⟨⟨ga,gc,rfl,hsl⟩,hS⟩
  (try go_wp2_with fail)
  refine hK.out _ _ (by assumption) (fun hHeld=>?_)
  clear hK K
  try simp only [zP]
  refine zzK 7 (fun K hK=>?_)
  go_simp
  refine (cF.out _ _ _ (by assumption) (by assumption)).mono ?_; rintro e w' ⟨rfl,hS⟩
  (try go_wp2_with fail)
  refine hK.out _ _ (by assumption) (fun hHeld=>?_)
  clear hK K
  try simp only [zP]
  refine zhB 10 ?_
  refine zhB 11 ?_
  refine zhB 12 ?_
  refine zhS 13 ?_
  refine zhS 14 ?_
  refine zhS 15 ?_
  refine zhB 16 ?_
  refine zhB 17 ?_
  refine zhS 18 ?_
  refine zhS 19 ?_
  refine zhS 20 ?_
  refine zhB 21 ?_
  refine zhB 22 ?_
  refine zhS 23 ?_
  refine zhS 24 ?_
  refine zhS 25 ?_
  refine zhB 26 ?_
  refine zhB 27 ?_
  refine wpAnyH_done (by kernel_rfl) ?_ _
  go_wp2
  go_ret
  exact ⟨rfl,fin.out _ (by assumption)⟩
 cases b4
 ·go_wp2_with fail
  refine wp_region_held_drew (S:=fun w'=>RMS w c w') (by kernel_rfl) ?_ (fun hHeld=>?_)
  ·exact HS0.out
  refine zhB 0 ?_
  refine zhB 1 ?_
  refine zzK 2 (fun K hK=>?_)
  go_simp
  refine (cO.out _ (by assumption)).mono ?_; rintro e w' ⟨rfl,hS⟩
  (try go_wp2_with fail)
  refine hK.out _ _ (by assumption) (fun hHeld=>?_)
  clear hK K
  try simp only [zP]
  refine zhB 3 ?_
  refine zhB 4 ?_
  refine zhB 5 ?_
  refine zhB 8 ?_
  refine zhB 9 ?_
  refine zzK 6 (fun K hK=>?_)
  go_simp
  refine (cL.out _ (by assumption)).mono ?_; rintro e w' ⟨⟨ga,gc,rfl,hsl⟩,hS⟩
  (try go_wp2_with fail)
  refine hK.out _ _ (by assumption) (fun hHeld=>?_)
  clear hK K
  try simp only [zP]
  refine zzK 7 (fun K hK=>?_)
  go_simp
  refine (cF.out _ _ _ (by assumption) (by assumption)).mono ?_; rintro e w' ⟨rfl,hS⟩
  (try go_wp2_with fail)
  refine hK.out _ _ (by assumption) (fun hHeld=>?_)
  clear hK K
  try simp only [zP]
  refine zhB 10 ?_
  refine zhB 11 ?_
  refine zhB 12 ?_
  refine zhB 13 ?_
  refine zhB 14 ?_
  refine zzK 15 (fun K hK=>?_)
  go_simp
  refine (cU.out _ (by assumption)).mono ?_; rintro e w' ⟨rfl,hS⟩
  (try go_wp2_with fail)
  refine hK.out _ _ (by assumption) (fun hHeld=>?_)
  clear hK K
  try simp only [zP]
  refine zhB 16 ?_
  refine zhB 17 ?_
  refine zhS 18 ?_
  refine zhS 19 ?_
  refine zhS 20 ?_
  refine zhB 21 ?_
  refine zhB 22 ?_
  refine zhS 23 ?_
  refine zhS 24 ?_
  refine zhS 25 ?_
  refine zhB 26 ?_
  refine zhB 27 ?_
  refine wpAnyH_done (by kernel_rfl) ?_ _
  go_wp2
  go_ret
  exact ⟨rfl,fin.out _ (by assumption)⟩
 by_cases h1:1≤c.step
 ·obtain rfl:true=b5:=by rw [←Hb5.out,zzZ h1]
  clear Hb5
  go_wp2_with fail
  refine wp_region_held_drew (S:=fun w'=>RMS w c w') (by kernel_rfl) ?_ (fun hHeld=>?_)
  ·exact HS0.out
  refine zhB 0 ?_
  refine zhB 1 ?_
  refine zzK 2 (fun K hK=>?_)
  go_simp
  refine (cO.out _ (by assumption)).mono ?_; rintro e w' ⟨rfl,hS⟩
  (try go_wp2_with fail)
  refine hK.out _ _ (by assumption) (fun hHeld=>?_)
  clear hK K
  try simp only [zP]
  refine zhB 3 ?_
  refine zhB 4 ?_
  refine zhB 5 ?_
  refine zhB 8 ?_
  refine zhB 9 ?_
  refine zzK 6 (fun K hK=>?_)
  go_simp
  refine (cL.out _ (by assumption)).mono ?_; rintro e w' ⟨⟨ga,gc,rfl,hsl⟩,hS⟩
  (try go_wp2_with fail)
  refine hK.out _ _ (by assumption) (fun hHeld=>?_)
  clear hK K
  try simp only [zP]
  refine zzK 7 (fun K hK=>?_)
  go_simp
  refine (cF.out _ _ _ (by assumption) (by assumption)).mono ?_; rintro e w' ⟨rfl,hS⟩
  (try go_wp2_with fail)
  refine hK.out _ _ (by assumption) (fun hHeld=>?_)
  clear hK K
  try simp only [zP]
  refine zhB 10 ?_
  refine zhB 11 ?_
  refine zhB 12 ?_
  refine zhB 13 ?_
  refine zhB 14 ?_
  refine zzK 15 (fun K hK=>?_)
  go_simp
  refine (cU.out _ (by assumption)).mono ?_; rintro e w' ⟨rfl,hS⟩
  (try go_wp2_with fail)
  refine hK.out _ _ (by assumption) (fun hHeld=>?_)
  clear hK K
  try simp only [zP]
  refine zhB 16 ?_
  refine zhB 17 ?_
  refine zhB 18 ?_
  refine zhB 19 ?_
  refine zhB 20 ?_
  refine zhB 21 ?_
  refine zhB 22 ?_
  refine zhB 23 ?_
  refine zhB 24 ?_
  refine zzK 25 (fun K hK=>?_)
  go_simp
  refine (cM.out _ (by assumption)).mono ?_; rintro e w' ⟨rfl,hS⟩
  (try go_wp2_with fail)
  refine hK.out _ _ (by assumption) (fun hHeld=>?_)
  clear hK K
  try simp only [zP]
  refine zhB 26 ?_
  refine zhB 27 ?_
  refine wpAnyH_done (by kernel_rfl) ?_ _
  go_wp2
  go_ret
  exact ⟨rfl,fin.out _ (by assumption)⟩
 ·obtain rfl:false=b5:=by rw [←Hb5.out,zzd h1]
  have hd:decide (1≤c.step)=false:=zzd h1
  clear Hb5 h1
  go_wp2_with fail
  refine wp_region_held_drew (S:=fun w'=>RMS w c w') (by kernel_rfl) ?_ (fun hHeld=>?_)
  ·exact HS0.out
  refine zhB 0 ?_
  refine zhB 1 ?_
  refine zzK 2 (fun K hK=>?_)
  go_simp
  refine (cO.out _ (by assumption)).mono ?_; rintro e w' ⟨rfl,hS⟩
  (try go_wp2_with fail)
  refine hK.out _ _ (by assumption) (fun hHeld=>?_)
  clear hK K
  try simp only [zP]
  refine zhB 3 ?_
  refine zhB 4 ?_
  refine zhB 5 ?_
  refine zhB 8 ?_
  refine zhB 9 ?_
  refine zzK 6 (fun K hK=>?_)
  go_simp
  refine (cL.out _ (by assumption)).mono ?_; rintro e w' ⟨⟨ga,gc,rfl,hsl⟩,hS⟩
  (try go_wp2_with fail)
  refine hK.out _ _ (by assumption) (fun hHeld=>?_)
  clear hK K
  try simp only [zP]
  refine zzK 7 (fun K hK=>?_)
  go_simp
  refine (cF.out _ _ _ (by assumption) (by assumption)).mono ?_; rintro e w' ⟨rfl,hS⟩
  (try go_wp2_with fail)
  refine hK.out _ _ (by assumption) (fun hHeld=>?_)
  clear hK K
  try simp only [zP]
  refine zhB 10 ?_
  refine zhB 11 ?_
  refine zhB 12 ?_
  refine zhB 13 ?_
  refine zhB 14 ?_
  refine zzK 15 (fun K hK=>?_)
  go_simp
  refine (cU.out _ (by assumption)).mono ?_; rintro e w' ⟨rfl,hS⟩
  (try go_wp2_with fail)
  refine hK.out _ _ (by assumption) (fun hHeld=>?_)
  clear hK K
  try simp only [zP]
  refine zhB 16 ?_
  refine zhB 17 ?_
  refine zhB 18 ?_
  refine zhB 19 ?_
  refine zhB 20 ?_
  refine zhB 21 ?_
  refine zhB 22 ?_
  refine zhS 23 ?_
  refine zhS 24 ?_
  refine zhS 25 ?_
  refine zhB 26 ?_
  refine zhB 27 ?_
  refine wpAnyH_done (by kernel_rfl) ?_ _
  go_wp2
  go_ret
  exact ⟨rfl,fin.out _ (by assumption)⟩
end Go.Proofs.YtkpgfmonhfnhdaaGreatDoor
