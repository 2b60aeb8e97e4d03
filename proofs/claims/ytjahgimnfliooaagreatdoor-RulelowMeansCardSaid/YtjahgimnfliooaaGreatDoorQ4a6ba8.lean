/-
  rule.Week, of a rule with weekdays.
-/
import Derived.Test.YtjahgimnfliooaaGreatDoorQ23f8ba
import Derived.Deep.Cut
set_option maxRecDepth 100000
set_option maxHeartbeats 25600000
namespace Go.Proofs.YtjahgimnfliooaaGreatDoor
open Go.RowKit
set_option linter.unusedVariables false
theorem ydU (x:Int) (W:World) (t:TypeId):Calls Tryz.prog 68 #[.slice (some ⟨W.heap.size,0,none⟩) 1 1] (W.alloc (.cells #[.int .i64 x] t)).drew fun e w'=>e= .returned (.int .u64 (ofM [x]))∧Below W.heap.size W w':=by
 have hb:Below W.heap.size W (W.alloc (.cells #[.int .i64 x] t)):=yaa (Below.refl _ _) (zG _)
 have hd:Below (W.alloc (.cells #[.int .i64 x] t)).heap.size (W.alloc (.cells #[.int .i64 x] t)) (W.alloc (.cells #[.int .i64 x] t)).drew:=(Below.refl _ _).drew
 exact (yei (some ⟨W.heap.size,0,none⟩) 1 [x] (W.alloc (.cells #[.int .i64 x] t)).drew (by simp) ((ybZ (yau W [.int .i64 x] t) (by simp)).below hd)).mono fun e w' ⟨he,h⟩=>⟨he,(hb.trans (hd.mono hb.size)).trans (h.mono (zI hb.size hd.size))⟩
theorem WeF.set {w W:World} {r:Ru} {b o:Nat} {v:Value} (k:WeF w r W) (hb:w.heap.size+1 < b):WeF w r (W.setCell ⟨b,o,none⟩ v):=by
 have hB:Below b W (W.setCell ⟨b,o,none⟩ v):=yab (Below.refl _ _) (zG _)
 exact ⟨k.rb.below hB (by omega),k.z.below hB hb,yab k.be (by omega),by rw [World.size_setCell]; exact k.l⟩
abbrev RgS (w:World) (r:Ru) (b off:Nat) (x0:Int) (W:World):Prop:=
 (W.cell? ⟨w.heap.size,7,none⟩=some (.slice (some ⟨b,off,none⟩) r.l7.length r.c7)∧W.cell? ⟨b,off,none⟩=some (.int .i64 x0))∧WeF w r W∧b < w.heap.size
theorem RgS.keep {w W W':World} {r:Ru} {b off:Nat} {x0:Int} (k:RgS w r b off x0 W) (hb:Below W.heap.size W W'):RgS w r b off x0 W':=by
 obtain ⟨⟨h1,h2⟩,h3,h4⟩:=k
 have:=h3.l
 exact ⟨⟨(hb.cell (p:=⟨w.heap.size,7,none⟩) (by show w.heap.size < W.heap.size; omega)).trans h1,(hb.cell (p:=⟨b,off,none⟩) (by show b < W.heap.size; omega)).trans h2⟩,h3.keep hb,h4⟩
theorem RgS.set {w W:World} {r:Ru} {b off:Nat} {x0:Int} (k:RgS w r b off x0 W) {b':Nat} (hb':w.heap.size+1 < b') (o:Nat) (v:Value):RgS w r b off x0 (W.setCell ⟨b',o,none⟩ v):=by
 obtain ⟨⟨h1,h2⟩,h3,h4⟩:=k
 have hB:Below b' W (W.setCell ⟨b',o,none⟩ v):=yab (Below.refl _ _) (zG _)
 exact ⟨⟨(hB.cell (p:=⟨w.heap.size,7,none⟩) (by show w.heap.size < b'; omega)).trans h1,(hB.cell (p:=⟨b,off,none⟩) (by show b < b'; omega)).trans h2⟩,h3.set hb',h4⟩
abbrev OrdT (W:World) (b:Nat) (i:Int) (k:Bool) (D:Nat→Nat):Prop:=
 TenX W b (.int .i64 i) (.bool k) (.int .u64 (D 0:Nat)) (.int .u64 (D 1:Nat)) (.int .u64 (D 2:Nat)) (.int .u64 (D 3:Nat)) (.int .u64 (D 4:Nat)) (.int .u64 (D 5:Nat)) (.int .u64 (D 6:Nat)) (.int .u64 (D 7:Nat))
theorem OrdT.get {W:World} {b:Nat} {i:Int} {k:Bool} {D:Nat→Nat} (h:OrdT W b i k D) {j:Nat} (hj:j < 8):W.cell? ⟨b,2+j,none⟩=some (.int .u64 (D j:Nat))∧W.frozen? ⟨b,2+j,none⟩=false:=by
 obtain ⟨⟨a0,a1,a2,a3,a4,a5,a6,a7,a8,a9⟩,f0,f1,f2,f3,f4,f5,f6,f7,f8,f9⟩:=h
 rcases yhk hj with rfl | rfl | rfl | rfl | rfl | rfl | rfl | rfl
 ·exact ⟨a2,f2⟩
 ·exact ⟨a3,f3⟩
 ·exact ⟨a4,f4⟩
 ·exact ⟨a5,f5⟩
 ·exact ⟨a6,f6⟩
 ·exact ⟨a7,f7⟩
 ·exact ⟨a8,f8⟩
 ·exact ⟨a9,f9⟩
theorem yhZ {W:World} {b:Nat} {i:Int} {k:Bool} {D:Nat→Nat} (h0:W.cell? ⟨b,0,none⟩=some (.int .i64 i)) (h1:W.cell? ⟨b,1,none⟩=some (.bool k)) (h:∀j,j < 8→W.cell? ⟨b,2+j,none⟩=some (.int .u64 (D j:Nat))) (hf:∀j,j < 10→W.frozen? ⟨b,j,none⟩=false):OrdT W b i k D:=
 ⟨⟨h0,h1,h 0 (by omega),h 1 (by omega),h 2 (by omega),h 3 (by omega),h 4 (by omega),h 5 (by omega),h 6 (by omega),h 7 (by omega)⟩,hf 0 (by omega),hf 1 (by omega),hf 2 (by omega),hf 3 (by omega),hf 4 (by omega),hf 5 (by omega),hf 6 (by omega),hf 7 (by omega),hf 8 (by omega),hf 9 (by omega)⟩
theorem TenX.fz {W:World} {b:Nat} {v0 v1 v2 v3 v4 v5 v6 v7 v8 v9:Value} (h:TenX W b v0 v1 v2 v3 v4 v5 v6 v7 v8 v9) {j:Nat} (hj:j < 10):W.frozen? ⟨b,j,none⟩=false:=by
 have:=(h.there j hj).2
 rwa [zzn] at this
theorem OrdT.upd {W:World} {b:Nat} {i:Int} {k:Bool} {D D':Nat→Nat} (h:OrdT W b i k D) {j:Nat} (hj:j < 8) {v:Nat} (hv:D' j=v) (hD:∀n,n≠j→D' n=D n):OrdT (W.setCell ⟨b,2+j,none⟩ (.int .u64 (v:Nat))) b i k D':=by
 have ne:∀n,n≠2+j→(⟨b,2+j,none⟩:Addr)≠⟨b,n,none⟩:=fun n hn e=>by injection e with _ e _; exact hn e.symm
 refine yhZ ?_ ?_ (fun n hn=>?_) (fun n hn=>?_)
 ·rw [zzL _ _ _ _ (ne 0 (by omega))]; exact h.1.1
 ·rw [zzL _ _ _ _ (ne 1 (by omega))]; exact h.1.2.1
 ·by_cases e:n=j
  ·subst e
   rw [hv]
   exact zzW _ _ _ (h.get hn).1
  ·rw [zzL _ _ _ _ (ne (2+n) (by omega)),hD n e]; exact (h.get hn).1
 ·rw [yaY]; exact TenX.fz h hn
theorem RgS.put {w W:World} {r:Ru} {b off:Nat} {x0:Int} (k:RgS w r b off x0 W) {b':Nat} (hb':w.heap.size+1 < b') (v0 v1 v2 v3 v4 v5 v6 v7 v8 v9:Value):RgS w r b off x0 (yiS W b' v0 v1 v2 v3 v4 v5 v6 v7 v8 v9):=
 (((((((((k.set hb' 0 v0).set hb' 1 v1).set hb' 2 v2).set hb' 3 v3).set hb' 4 v4).set hb' 5 v5).set hb' 6 v6).set hb' 7 v7).set hb' 8 v8).set hb' 9 v9
theorem OrdT.set0 {W:World} {b:Nat} {i i':Int} {k:Bool} {D:Nat→Nat} (h:OrdT W b i k D):OrdT (W.setCell ⟨b,0,none⟩ (.int .i64 i')) b i' k D:=by
 have ne:∀n,n≠0→(⟨b,0,none⟩:Addr)≠⟨b,n,none⟩:=fun n hn e=>by injection e with _ e _; exact hn e.symm
 refine yhZ (zzW _ _ _ h.1.1) ?_ (fun n hn=>?_) (fun n hn=>?_)
 ·rw [zzL _ _ _ _ (ne 1 (by omega))]; exact h.1.2.1
 ·rw [zzL _ _ _ _ (ne (2+n) (by omega))]; exact (h.get hn).1
 ·rw [yaY]; exact TenX.fz h hn
theorem yf0 (l:List (Int × Int)) (x:Int × Int):wkM (l ++ [x])=wkM l ||| ofM [x.2]:=by rw [wkM,List.foldl_append]; rfl
theorem ycU (l:List (Int × Int)) (x:Int × Int) (j:Nat):wkD (l ++ [x]) j=if x.2= (j:Int) then wkD l j ||| ofM [max x.1 (-x.1)] else wkD l j:=by rw [wkD,List.foldl_append]; rfl
theorem ygv {α:Type} (f:Nat→α→Nat) (hf:∀m x,m < 18446744073709551616→f m x < 18446744073709551616):∀(l:List α) (m:Nat),m < 18446744073709551616→l.foldl f m < 18446744073709551616
 | [],_,h=>h
 | x :: l,m,h=>ygv f hf l (f m x) (hf m x h)
theorem ygM (l:List (Int × Int)):wkM l < 18446744073709551616:=ygv _ (fun m x h=>Nat.or_lt_two_pow (n:=64) h (yaP _)) l 0 (by omega)
theorem yeK (l:List (Int × Int)) (j:Nat):wkD l j < 18446744073709551616:=ygv _ (fun m x h=>by
 show (if x.2= (j:Int) then m ||| ofM [max x.1 (-x.1)] else m) < 18446744073709551616
 split
 ·exact Nat.or_lt_two_pow (n:=64) h (yaP _)
 ·exact h) l 0 (by omega)
abbrev RyS (w:World) (b8:Nat) (i:Int) (k:Bool) (D:Nat→Nat) (W:World):Prop:=OrdT W b8 i k D∧w.heap.size+1 < b8∧Below w.heap.size w W
theorem RyS.set {w W:World} {b8:Nat} {i:Int} {k:Bool} {D:Nat→Nat} (h:RyS w b8 i k D W) (o:Nat) (v:Value):RyS w b8 i k D (W.setCell ⟨w.heap.size+1,o,none⟩ v):=by
 obtain ⟨h1,h2,h3⟩:=h
 have ne:∀n,(⟨w.heap.size+1,o,none⟩:Addr)≠⟨b8,n,none⟩:=fun n e=>by injection e with e _ _; omega
 refine ⟨yhZ ?_ ?_ (fun n hn=>?_) (fun n hn=>?_),h2,yab h3 (by omega)⟩
 ·rw [zzL _ _ _ _ (ne 0)]; exact h1.1.1
 ·rw [zzL _ _ _ _ (ne 1)]; exact h1.1.2.1
 ·rw [zzL _ _ _ _ (ne (2+n))]; exact (h1.get hn).1
 ·rw [yaY]; exact TenX.fz h1 hn
theorem RyS.dr {w W:World} {b8:Nat} {i:Int} {k:Bool} {D:Nat→Nat} (h:RyS w b8 i k D W):RyS w b8 i k D W.drew:=⟨h.1.below (Below.refl (b8+1) _).drew (Nat.lt_succ_self _),h.2.1,h.2.2.drew⟩
theorem ygc {W:World} {b o:Nat} {cs:List Value} (h:W.rangeAt b o cs):W.drew.rangeAt b o cs:=fun j v hv=>((Below.refl (b+1) W).drew.cell (p:=⟨b,o+j,none⟩) (Nat.lt_succ_self _)).trans (h j v hv)
theorem RyS.put {w W:World} {b8:Nat} {i:Int} {k:Bool} {D:Nat→Nat} (h:RyS w b8 i k D W) (v0 v1 v2 v3 v4 v5 v6 v7 v8 v9:Value):RyS w b8 i k D (yiS W (w.heap.size+1) v0 v1 v2 v3 v4 v5 v6 v7 v8 v9):=
 (((((((((h.set 0 v0).set 1 v1).set 2 v2).set 3 v3).set 4 v4).set 5 v5).set 6 v6).set 7 v7).set 8 v8).set 9 v9
structure WeL (w:World) (r:Ru) (b8:Nat) (i:Int) (k:Bool) (D:Nat→Nat) (W:World):Prop where
 f:WeF w r W
 t:OrdT W b8 i k D
 l:w.heap.size+1 < b8∧b8 < W.heap.size
theorem WeL.keep {w W W':World} {r:Ru} {b8:Nat} {i:Int} {k:Bool} {D:Nat→Nat} (h:WeL w r b8 i k D W) (hb:Below W.heap.size W W'):WeL w r b8 i k D W':=
 ⟨h.f.keep hb,h.t.below hb h.l.2,h.l.1,zH h.l.2 hb.size⟩
abbrev RxS (w:World) (r:Ru) (b8 b10:Nat) (y1:Int) (j:Nat) (W:World):Prop:=
 (W.cell? ⟨b10,0,none⟩=some (.int .i64 y1)∧W.cell? ⟨b10,1,none⟩=some (.int .i64 (j:Int)))∧WeF w r W∧w.heap.size+1 < b8∧b8 < b10∧b10 < W.heap.size
theorem RxS.keep {w W W':World} {r:Ru} {b8 b10:Nat} {y1:Int} {j:Nat} (k:RxS w r b8 b10 y1 j W) (hb:Below W.heap.size W W'):RxS w r b8 b10 y1 j W':=by
 obtain ⟨⟨h1,h2⟩,h3,h4,h5,h6⟩:=k
 exact ⟨⟨(hb.cell (p:=⟨b10,0,none⟩) h6).trans h1,(hb.cell (p:=⟨b10,1,none⟩) h6).trans h2⟩,h3.keep hb,h4,h5,zH h6 hb.size⟩
theorem RxS.set {w W:World} {r:Ru} {b8 b10:Nat} {y1:Int} {j:Nat} (k:RxS w r b8 b10 y1 j W) (o:Nat) (v:Value):RxS w r b8 b10 y1 j (W.setCell ⟨b8,o,none⟩ v):=by
 obtain ⟨⟨h1,h2⟩,h3,h4,h5,h6⟩:=k
 have ne:∀n,(⟨b8,o,none⟩:Addr)≠⟨b10,n,none⟩:=fun n e=>by injection e with e _ _; omega
 exact ⟨⟨(zzL _ _ _ _ (ne 0)).trans h1,(zzL _ _ _ _ (ne 1)).trans h2⟩,h3.set h4,h4,h5,by rw [World.size_setCell]; exact h6⟩
theorem Week_some (r:Ru) (w:World) (hr:RuS w r) (hm:r.Sm 1000000) (hc:yaf r=0) (h7:r.l7≠ []):Calls Tryz.prog 25 #[ruv r] w fun e w'=>e= .returned (.tuple #[.int .u64 (ybE r:Nat),yex r])∧Below w.heap.size w w':=by
 have hlen:0 < r.l7.length:=List.length_pos_iff.2 h7
 have hB0:=(ydY w r 25 31).be
 have HF0:=hid (ydY w r 25 31)
 have cB:=hid (ybe r _ (hr.below hB0) hm)
 have cF:=hid (fun W=>ybr W)
 have hfd:∀W,(Instr.field 34 (clv fullCl) 6).run Tryz.prog W= .ok (.int .u64 (fullCl.m 6:Nat)) W:=fun W=>yd9 fullCl W
 obtain ⟨y,mo,d,h,m,s,hst⟩:=ybv r.st
 rw [hst] at cB
 have hb:(yaf r == 0)=true:=by simpa using hc
 rw [hb] at cB
 have hl:((r.l7.length:Int) == 0)=false:=by simp; omega
 have hlI0:(0:Int) < r.l7.length:=by omega
 have hlI:(r.l7.length:Int)≤64:=by have:=(ycn (yaw hc).e7).1; omega
 have HD:=hid (ycn (yaw hc).e7).2.1
 have Hs:=hid hr.s7
 have HR:=hid hr
 have cP:=hid (fun W (h:RuS W r)=>yhD r W h hm.n7)
 have e1:ybE r=if outB 0 0 (nsL r)=true then fullCl.m 6 else wkM r.l7:=by rw [ybE,if_pos hc,if_neg h7]
 have e2:yex r=if outB 0 0 (nsL r)=true then ordv (yal r) (ybs r) (wkD r.l7) else yfZ:=by rw [yex]; simp only [hc,true_and]
 rw [e1,e2]
 obtain ⟨P,hP⟩:∃P,outB 0 0 (nsL r)=P:=⟨_,rfl⟩
 rw [hP] at cP⊢
 obtain ⟨F,hF⟩:∃F,fullCl=F:=⟨_,rfl⟩
 rw [hF] at cF hfd⊢
 obtain ⟨b,off,ha7,hb7,hc7⟩:=hr.s7.atNth hlen
 have hx0:=(hc7 0 hlen).1
 rw [Nat.zero_mul,Nat.add_zero] at hx0
 have hbk:ybs r=decide (r.l7[0].1 < 0):=by
  rw [ybs]
  obtain ⟨l,hl0⟩:∃l,r.l7=l:=⟨_,rfl⟩
  simp only [nsL,hl0]
  cases l with
  | nil=>exact absurd hl0 h7
  | cons y t=>rfl
 obtain ⟨x0,hx⟩:∃x0,r.l7[0].1=x0:=⟨_,rfl⟩
 rw [hx] at hx0 hbk
 have Hx0:=hid hx0
 have Ha7:=hid ha7
 rw [hbk]
 clear hr hm hst hB0 hb hc h7 e1 e2 hP hF hc7 hx hx0 hbk ha7
 go_enter Tryz.func25,Tryz.ntmps25
 go_wp2_with fail
 refine cB.out.mono ?_
 rintro e w1 ⟨rfl,hB1⟩
 have HF1:=hid ((HF0.out.keep hB1).keep (yaa (o:= .cells #[.int .i64 y, .int .i64 mo, .int .i64 d, .int .i64 h, .int .i64 m, .int .i64 s] 66) (Below.refl w1.heap.size w1) (zG _)))
 clear hB1
 go_wp2_with fail
 refine (cF.out _).mono ?_
 rintro e w2 ⟨rfl,hB2⟩
 have HF2:=hid (HF1.out.keep hB2)
 clear hB2
 obtain ⟨⟨k0,k1,k2,k3,k4⟩,k5,k6,k7,k8,k9,kx⟩:=HF2.out.rb.all
 obtain ⟨⟨z0,z1,z2,z3,z4,z5,z6,z7,z8,z9⟩,f0,f1,f2,f3,f4,f5,f6,f7,f8,f9⟩:=HF2.out.z
 rw [Ha7.out] at k7
 have HSw:Hid (RgS w r b off x0 w2):=⟨⟨k7,(HF2.out.be.cell (p:=⟨b,off,none⟩) hb7).trans Hx0.out⟩,HF2.out,hb7⟩
 have HS0:Hid (RgS w r b off x0 w2.drew):=HSw.out.keep (Below.refl _ _).drew
 have HS1:Hid (RgS w r b off x0 (w2.alloc (.cells #[.int .i64 1, .bool (decide (x0 < 0)), .int .u64 0, .int .u64 0, .int .u64 0, .int .u64 0, .int .u64 0, .int .u64 0, .int .u64 0, .int .u64 0] 31)).drew):=(HSw.out.keep (yaa (Below.refl _ _) (zG _))).keep (Below.refl _ _).drew
 have HT1:Hid (OrdT (w2.alloc (.cells #[.int .i64 1, .bool (decide (x0 < 0)), .int .u64 0, .int .u64 0, .int .u64 0, .int .u64 0, .int .u64 0, .int .u64 0, .int .u64 0, .int .u64 0] 31)).drew w2.heap.size 1 (decide (x0 < 0)) (wkD [])):=TenX.below (B:=w2.heap.size+1) (yf3 w2 (.int .i64 1) (.bool (decide (x0 < 0))) (.int .u64 0) (.int .u64 0) (.int .u64 0) (.int .u64 0) (.int .u64 0) (.int .u64 0) (.int .u64 0) (.int .u64 0) 31) (Below.refl _ _).drew (by omega)
 go_upto_region 9 with fail
 refine wp_region_held_drew (S:=fun w'=>RgS w r b off x0 w') (by kernel_rfl) HS0.out (fun hHeld=>?_)
 refine zhB 0 ?_
 refine zhB 1 ?_
 refine zhB 2 ?_
 refine zhB 3 ?_
 refine zhB 4 ?_
 refine zhB 5 ?_
 refine zhB 6 ?_
 have hn8:=yaa (o:= .cells #[.int .i64 0, .bool false, .int .u64 0, .int .u64 0, .int .u64 0, .int .u64 0, .int .u64 0, .int .u64 0, .int .u64 0, .int .u64 0] 31) (Below.refl w2.drew.heap.size w2.drew) (zG _)
 have HT8:=hid (yf3 w2.drew (.int .i64 0) (.bool false) (.int .u64 0) (.int .u64 0) (.int .u64 0) (.int .u64 0) (.int .u64 0) (.int .u64 0) (.int .u64 0) (.int .u64 0) 31)
 rw [World.size_drew] at HT8
 refine zzK 7 (fun K hK=>?_)
 go_simp
 refine hK.out _ _ (RgS.keep (by assumption) hn8) (fun hHeld=>?_)
 clear hK K
 try simp only [zP]
 refine zhB 8 ?_
 obtain ⟨⟨a0,a1,a2,a3,a4,a5,a6,a7,a8,a9⟩,g0,g1,g2,g3,g4,g5,g6,g7,g8,g9⟩:=HT8.out
 have hb8:w.heap.size+1 < w2.heap.size:=HF2.out.l
 refine zzK 9 (fun K hK=>?_)
 go_simp
 (try go_wp2_with fail)
 refine hK.out _ _ HS1.out (fun hHeld=>?_)
 clear hK K
 try simp only [zP]
 refine wpAnyH_done (by kernel_rfl) ?_ _
 have HL0:Hid (WeL w r w2.heap.size 1 (decide (x0 < 0)) (wkD []) (w2.alloc (.cells #[.int .i64 1, .bool (decide (x0 < 0)), .int .u64 0, .int .u64 0, .int .u64 0, .int .u64 0, .int .u64 0, .int .u64 0, .int .u64 0, .int .u64 0] 31)).drew):=⟨HS1.out.2.1,HT1.out,HF2.out.l,by show _ < (World.alloc _ _).heap.size; simp⟩
 obtain ⟨Y,hY⟩:∃Y,(w2.alloc (.cells #[.int .i64 1, .bool (decide (x0 < 0)), .int .u64 0, .int .u64 0, .int .u64 0, .int .u64 0, .int .u64 0, .int .u64 0, .int .u64 0, .int .u64 0] 31)).drew=Y:=⟨_,rfl⟩
 obtain ⟨b8,hb8'⟩:∃b,w2.heap.size=b:=⟨_,rfl⟩
 obtain ⟨K0,hK0⟩:∃k,decide (x0 < 0)=k:=⟨_,rfl⟩
 rw [hY,hb8',hK0] at HL0
 have HK:=hid hK0
 rw [hY,hb8']
 (try rw [hK0])
 clear hY hb8' hK0 HT1 HS1 HS0 HSw HT8 hn8 hb8 a0 a1 a2 a3 a4 a5 a6 a7 a8 a9 g0 g1 g2 g3 g4 g5 g6 g7 g8 g9 k0 k1 k2 k3 k4 k5 k6 k7 k8 k9 kx z0 z1 z2 z3 z4 z5 z6 z7 z8 z9 f0 f1 f2 f3 f4 f5 f6 f7 f8 f9 HF0 HF1 HF2 Hx0 hb7
 have hio:Hid (yal r=if r.fq=6∧r.l5.length=0 then 2 else 1):=rfl
 obtain ⟨⟨k0,k1,k2,k3,k4⟩,k5,k6,k7,k8,k9,kx⟩:=HL0.out.f.rb.all
 obtain ⟨⟨a0,-⟩,g0,-⟩:=HL0.out.t
 by_cases h6:r.fq=6
 ·have hb6:(r.fq == 6)=true:=by simpa using h6
  by_cases h5:r.l5.length=0
  ·have hb5:((r.l5.length:Int) == 0)=true:=by simpa using h5
   have hw:Hid (yal r=2):=by show _ = _; rw [hio.out,if_pos ⟨h6,h5⟩]
   have HL1:Hid (WeL w r b8 (yal r) K0 (wkD []) (Y.setCell ⟨b8,0,none⟩ (.int .i64 2))):=by
    rw [hw.out]
    exact ⟨HL0.out.f.set HL0.out.l.1,HL0.out.t.set0,HL0.out.l.1,by rw [World.size_setCell]; exact HL0.out.l.2⟩
   clear h6 h5
   have HV:=HL1
   go_wp2_with fail
   go_loopw [7,66] (fun v i wr=>∃k:Nat,i= .int .i64 k∧k≤r.l7.length∧v= .int .u64 (wkM (r.l7.take k):Nat)∧Hid (WeL w r b8 (yal r) K0 (wkD (r.l7.take k)) wr)) (fun _ i _=>r.l7.length - (intOf i).toNat)
   case atStart=>exact ⟨0,rfl,by omega,rfl,HV⟩
   case round=>
    obtain ⟨k,rfl,hk,rfl,HL⟩:=hrel
    by_cases hlt:k < r.l7.length
    ·obtain ⟨d,o7,ha,hb,hc⟩:=Hs.out.atNth hlt
     have e1:=(HL.out.f.be.cell (p:=⟨d,o7+k * 2,none⟩) hb).trans (hc k hlt).1
     have e2:=(HL.out.f.be.cell (p:=⟨d,o7+k * 2+1,none⟩) hb).trans (hc k hlt).2
     have ht:=hid (yam r.l7 k hlt)
     have hday:=HD.out _ (zzr hlt)
     obtain ⟨⟨y1,y2⟩,hy⟩:∃q,r.l7[k]=q:=⟨_,rfl⟩
     rw [hy] at e1 e2 ht hday
     obtain ⟨⟨d0,d1⟩,d2,d3⟩:=hday
     obtain ⟨j,rfl⟩:∃j:Nat,y2= (j:Int):=⟨y2.toNat,by have:1≤y2:=d2; omega⟩
     have hj:j < 8:=by have:(j:Int)≤7:=d3; omega
     have hjI:(j:Int) < 8:=by omega
     have hM:=ybI (ygM (r.l7.take k)) (yaP (inB [(j:Int)]))
     rw [show mk (inB [(j:Int)])=ofM [(j:Int)] from rfl,←show wkM (r.l7.take (k+1))=wkM (r.l7.take k) ||| ofM [(j:Int)] by rw [ht.out,yf0]] at hM
     have hDj:=ybI (yeK (r.l7.take k) j) (yaP (inB [max y1 (-y1)]))
     rw [show mk (inB [max y1 (-y1)])=ofM [max y1 (-y1)] from rfl,←show wkD (r.l7.take (k+1)) j=wkD (r.l7.take k) j ||| ofM [max y1 (-y1)] by rw [ht.out,ycU,if_pos rfl]] at hDj
     have HDn:Hid (∀n,n≠j→wkD (r.l7.take (k+1)) n=wkD (r.l7.take k) n):=fun n hn=>by rw [ht.out,ycU,if_neg (by intro e; have:(j:Int)= (n:Int):=e; omega)]
     rw [ha]
     clear hc hy
     have hLx:=HL.out.keep (yaa (o:= .cells #[.int .i64 y1, .int .i64 (j:Int)] 72) (Below.refl wr.heap.size wr) (zG _))
     have cO:=hid (ycw (j:Int) (wr.alloc (.cells #[.int .i64 y1, .int .i64 (j:Int)] 72)) 3)
     rw [zzN] at cO
     have HLx:=hid hLx
     have hx1:(wr.alloc (.cells #[.int .i64 y1, .int .i64 (j:Int)] 72)).cell? ⟨wr.heap.size,0,none⟩=some (.int .i64 y1)∧(wr.alloc (.cells #[.int .i64 y1, .int .i64 (j:Int)] 72)).cell? ⟨wr.heap.size,1,none⟩=some (.int .i64 (j:Int)):=by constructor <;> simp [go_sem]
     have HX1:=hid hx1
     clear hLx hx1
     go_wp2_with fail
     refine cO.out.mono ?_
     rintro e w4 ⟨rfl,hB4⟩
     have HL4:=hid (HLx.out.keep (by rw [zzN]; exact hB4))
     have HS4:Hid (RxS w r b8 wr.heap.size y1 j w4.drew):=RxS.keep ⟨⟨(hB4.cell (p:=⟨wr.heap.size,0,none⟩) (by show wr.heap.size < wr.heap.size+1; omega)).trans HX1.out.1,(hB4.cell (p:=⟨wr.heap.size,1,none⟩) (by show wr.heap.size < wr.heap.size+1; omega)).trans HX1.out.2⟩,HL4.out.f,HL4.out.l.1,HL.out.l.2,by have:=hB4.size; rw [zzN] at this; omega⟩ (Below.refl _ _).drew
     have HSx:Hid (RxS w r b8 wr.heap.size y1 j w4):=⟨⟨(hB4.cell (p:=⟨wr.heap.size,0,none⟩) (by show wr.heap.size < wr.heap.size+1; omega)).trans HX1.out.1,(hB4.cell (p:=⟨wr.heap.size,1,none⟩) (by show wr.heap.size < wr.heap.size+1; omega)).trans HX1.out.2⟩,HL4.out.f,HL4.out.l.1,HL.out.l.2,by have:=hB4.size; rw [zzN] at this; omega⟩
     have HL5:=hid (HL4.out.keep (Below.refl _ _).drew)
     clear hB4 e1 e2
     go_upto_region 16 with fail
     refine wp_region_held_drew (S:=fun w'=>RxS w r b8 wr.heap.size y1 j w') (by kernel_rfl) HS4.out (fun hHeld=>?_)
     have hwr:IntKind.i64.wrap (-y1)= -y1:=IntWalk.i64_in (-y1) (by omega)
     rw [show max y1 (-y1)= (if y1 < -y1 then -y1 else y1) by split <;> omega] at hDj
     refine zhB 0 ?_
     refine zhB 1 ?_
     refine zhB 2 ?_
     refine zhB 3 ?_
     refine zhB 5 ?_
     refine zhB 6 ?_
     refine zhB 7 ?_
     refine zhB 8 ?_
     refine zhB 9 ?_
     refine zhB 10 ?_
     refine zhB 14 ?_
     obtain ⟨mx,hmx⟩:∃mx,(if y1 < -y1 then -y1 else y1)=mx:=⟨_,rfl⟩
     rw [hmx] at hDj⊢
     clear hmx
     have cO2:=hid (ydU (mx) w4 3)
     have HL6a:Hid (WeL w r b8 (yal r) K0 (wkD (r.l7.take k)) ((w4.alloc (.cells #[.int .i64 (mx)] 3)).drew)):=(HL4.out.keep (yaa (Below.refl _ _) (zG _))).keep (Below.refl _ _).drew
     have HS6a:Hid (RxS w r b8 wr.heap.size y1 j ((w4.alloc (.cells #[.int .i64 (mx)] 3)).drew)):=(HSx.out.keep (yaa (Below.refl _ _) (zG _))).keep (Below.refl _ _).drew
     obtain ⟨gc,gf⟩:=HL5.out.t.get hj
     refine wpAnyH_ready (rs:= [4,11]) (by kernel_rfl) (by simp) ?_
     refine AllReadyH.cons rfl (fun K hK=>?_) (AllReadyH.cons rfl (fun K hK=>?_) AllReadyH.nil)
     ·go_simp
      (try go_wp2_with fail)
      refine hK.out _ _ (by assumption) (fun hHeld=>?_)
      clear hK K gc gf
      try simp only [zP]
      refine zzK 11 (fun K hK=>?_)
      go_simp
      refine hK.out _ _ HS6a.out (fun hHeld=>?_)
      clear hK K
      try simp only [zP]
      refine zzK 12 (fun K hK=>?_)
      go_simp
      refine cO2.out.mono ?_
      rintro e w5 ⟨rfl,hB5⟩
      have HL6:=hid (HL4.out.keep hB5)
      have HS6:=hid (HSx.out.keep hB5)
      clear hB5
      (try go_wp2_with fail)
      refine hK.out _ _ HS6.out (fun hHeld=>?_)
      clear hK K
      try simp only [zP]
      refine zhB 13 ?_
      refine zhB 15 ?_
      obtain ⟨gc,gf⟩:=HL6.out.t.get hj
      refine zzK 16 (fun K hK=>?_)
      go_simp
      (try go_wp2_with fail)
      refine hK.out _ _ (RxS.set HS6.out _ _) (fun hHeld=>?_)
      clear hK K
      try simp only [zP]
      refine wpAnyH_done (by kernel_rfl) ?_ _
      have HL7:Hid (WeL w r b8 (yal r) K0 (wkD (r.l7.take (k+1))) (w5.setCell ⟨b8,2+j,none⟩ (.int .u64 (wkD (r.l7.take (k+1)) j:Nat)))):=⟨HL6.out.f.set HL6.out.l.1,HL6.out.t.upd hj rfl HDn.out,HL6.out.l.1,by rw [World.size_setCell]; exact HL6.out.l.2⟩
      clear gc gf
      go_wp2
      exact ⟨⟨k+1,by go_num,by omega,rfl,HL7⟩,by simp [intOf]; omega⟩
     ·clear gc gf
      go_simp
      refine hK.out _ _ HS6a.out (fun hHeld=>?_)
      clear hK K
      try simp only [zP]
      obtain ⟨gc,gf⟩:=HL6a.out.t.get hj
      refine wpAnyH_ready (rs:= [4,12]) (by kernel_rfl) (by simp) ?_
      refine AllReadyH.cons rfl (fun K hK=>?_) (AllReadyH.cons rfl (fun K hK=>?_) AllReadyH.nil)
      ·go_simp
       (try go_wp2_with fail)
       refine hK.out _ _ (by assumption) (fun hHeld=>?_)
       clear hK K gc gf
       try simp only [zP]
       refine zzK 12 (fun K hK=>?_)
       go_simp
       refine cO2.out.mono ?_
       rintro e w5 ⟨rfl,hB5⟩
       have HL6:=hid (HL4.out.keep hB5)
       have HS6:=hid (HSx.out.keep hB5)
       clear hB5
       (try go_wp2_with fail)
       refine hK.out _ _ HS6.out (fun hHeld=>?_)
       clear hK K
       try simp only [zP]
       refine zhB 13 ?_
       refine zhB 15 ?_
       obtain ⟨gc,gf⟩:=HL6.out.t.get hj
       refine zzK 16 (fun K hK=>?_)
       go_simp
       (try go_wp2_with fail)
       refine hK.out _ _ (RxS.set HS6.out _ _) (fun hHeld=>?_)
       clear hK K
       try simp only [zP]
       refine wpAnyH_done (by kernel_rfl) ?_ _
       have HL7:Hid (WeL w r b8 (yal r) K0 (wkD (r.l7.take (k+1))) (w5.setCell ⟨b8,2+j,none⟩ (.int .u64 (wkD (r.l7.take (k+1)) j:Nat)))):=⟨HL6.out.f.set HL6.out.l.1,HL6.out.t.upd hj rfl HDn.out,HL6.out.l.1,by rw [World.size_setCell]; exact HL6.out.l.2⟩
       clear gc gf
       go_wp2
       exact ⟨⟨k+1,by go_num,by omega,rfl,HL7⟩,by simp [intOf]; omega⟩
      ·clear gc gf
       go_simp
       refine cO2.out.mono ?_
       rintro e w5 ⟨rfl,hB5⟩
       have HL6:=hid (HL4.out.keep hB5)
       have HS6:=hid (HSx.out.keep hB5)
       clear hB5
       (try go_wp2_with fail)
       refine hK.out _ _ HS6.out (fun hHeld=>?_)
       clear hK K
       try simp only [zP]
       obtain ⟨gc,gf⟩:=HL6.out.t.get hj
       refine zzK 4 (fun K hK=>?_)
       go_simp
       (try go_wp2_with fail)
       refine hK.out _ _ (by assumption) (fun hHeld=>?_)
       clear hK K gc gf
       try simp only [zP]
       refine zhB 13 ?_
       refine zhB 15 ?_
       obtain ⟨gc,gf⟩:=HL6.out.t.get hj
       refine zzK 16 (fun K hK=>?_)
       go_simp
       (try go_wp2_with fail)
       refine hK.out _ _ (RxS.set HS6.out _ _) (fun hHeld=>?_)
       clear hK K
       try simp only [zP]
       refine wpAnyH_done (by kernel_rfl) ?_ _
       have HL7:Hid (WeL w r b8 (yal r) K0 (wkD (r.l7.take (k+1))) (w5.setCell ⟨b8,2+j,none⟩ (.int .u64 (wkD (r.l7.take (k+1)) j:Nat)))):=⟨HL6.out.f.set HL6.out.l.1,HL6.out.t.upd hj rfl HDn.out,HL6.out.l.1,by rw [World.size_setCell]; exact HL6.out.l.2⟩
       clear gc gf
       go_wp2
       exact ⟨⟨k+1,by go_num,by omega,rfl,HL7⟩,by simp [intOf]; omega⟩
    ·have hke:r.l7.take k=r.l7:=List.take_of_length_le (by omega)
     rw [hke] at HL⊢
     clear hke
     obtain ⟨⟨k0,k1,k2,k3,k4⟩,k5,k6,k7,k8,k9,kx⟩:=HL.out.f.rb.all
     go_wp2_with fail
     refine (cP.out _ (HR.out.below HL.out.f.be)).mono ?_
     rintro e w6 ⟨rfl,hB6⟩
     have HL6:=hid (HL.out.keep hB6)
     clear hB6 k0 k1 k2 k3 k4 k5 k6 k7 k8 k9 kx
     obtain ⟨⟨z0,z1,z2,z3,z4,z5,z6,z7,z8,z9⟩,f0,f1,f2,f3,f4,f5,f6,f7,f8,f9⟩:=HL6.out.f.z
     cases P
     ·go_wp2
      exact bodyPost_ret (yar rfl _ _ (w.heap.size+1) 0 _ _ rfl (ybL HL6.out.f.z.there _ _ _ _ _ _ _ _ _ _) Tryz.underlying31 rfl yb6) rfl ⟨rfl,ybb HL6.out.f.be (by omega) _ _ _ _ _ _ _ _ _ _⟩
     ·obtain ⟨⟨t0,t1,t2,t3,t4,t5,t6,t7,t8,t9⟩,-⟩:=HL6.out.t
      have HO:Hid (RyS w b8 (yal r) K0 (wkD r.l7) w6.drew):=⟨(HL6.out.keep (Below.refl _ _).drew).t,HL6.out.l.1,(HL6.out.keep (Below.refl _ _).drew).f.be⟩
      have HO6:Hid (RyS w b8 (yal r) K0 (wkD r.l7) w6):=⟨HL6.out.t,HL6.out.l.1,HL6.out.f.be⟩
      clear t0 t1 t2 t3 t4 t5 t6 t7 t8 t9
      go_upto_region 20 with fail
      refine wp_region_held_drew (S:=fun w'=>RyS w b8 (yal r) K0 (wkD r.l7) w') (by kernel_rfl) HO.out (fun hHeld=>?_)
      refine zhB 0 ?_
      refine zhB 1 ?_
      refine zhB 2 ?_
      refine zzK 3 (fun K hK=>?_)
      go_simp
      (try go_wp2_with fail)
      refine hK.out _ _ (RyS.dr (RyS.put HO6.out (.int .i64 (yal r)) (.bool K0) (.int .u64 (wkD r.l7 0:Nat)) (.int .u64 (wkD r.l7 1:Nat)) (.int .u64 (wkD r.l7 2:Nat)) (.int .u64 (wkD r.l7 3:Nat)) (.int .u64 (wkD r.l7 4:Nat)) (.int .u64 (wkD r.l7 5:Nat)) (.int .u64 (wkD r.l7 6:Nat)) (.int .u64 (wkD r.l7 7:Nat)))) (fun hHeld=>?_)
      clear hK K
      try simp only [zP]
      refine wpAnyH_done (by kernel_rfl) ?_ _
      go_wp2
      exact bodyPost_ret (yar rfl _ _ (w.heap.size+1) 0 _ _ rfl (ygc (ybL HL6.out.f.z.there (.int .i64 (yal r)) (.bool K0) (.int .u64 (wkD r.l7 0:Nat)) (.int .u64 (wkD r.l7 1:Nat)) (.int .u64 (wkD r.l7 2:Nat)) (.int .u64 (wkD r.l7 3:Nat)) (.int .u64 (wkD r.l7 4:Nat)) (.int .u64 (wkD r.l7 5:Nat)) (.int .u64 (wkD r.l7 6:Nat)) (.int .u64 (wkD r.l7 7:Nat)))) Tryz.underlying31 rfl yb6) rfl ⟨by rw [HK.out]; rfl,(ybb HO6.out.2.2 (by omega) (.int .i64 (yal r)) (.bool K0) (.int .u64 (wkD r.l7 0:Nat)) (.int .u64 (wkD r.l7 1:Nat)) (.int .u64 (wkD r.l7 2:Nat)) (.int .u64 (wkD r.l7 3:Nat)) (.int .u64 (wkD r.l7 4:Nat)) (.int .u64 (wkD r.l7 5:Nat)) (.int .u64 (wkD r.l7 6:Nat)) (.int .u64 (wkD r.l7 7:Nat))).drew⟩
  ·have hb5:((r.l5.length:Int) == 0)=false:=by simpa using h5
   have hw:Hid (yal r=1):=by show _ = _; rw [hio.out,if_neg (fun h=>h5 h.2)]
   have HL1:Hid (WeL w r b8 (yal r) K0 (wkD []) Y):=by rw [hw.out]; exact HL0.out
   clear h6 h5
   have HV:=HL1
   go_wp2_with fail
   go_loopw [7,66] (fun v i wr=>∃k:Nat,i= .int .i64 k∧k≤r.l7.length∧v= .int .u64 (wkM (r.l7.take k):Nat)∧Hid (WeL w r b8 (yal r) K0 (wkD (r.l7.take k)) wr)) (fun _ i _=>r.l7.length - (intOf i).toNat)
   case atStart=>exact ⟨0,rfl,by omega,rfl,HV⟩
   case round=>
    obtain ⟨k,rfl,hk,rfl,HL⟩:=hrel
    by_cases hlt:k < r.l7.length
    ·obtain ⟨d,o7,ha,hb,hc⟩:=Hs.out.atNth hlt
     have e1:=(HL.out.f.be.cell (p:=⟨d,o7+k * 2,none⟩) hb).trans (hc k hlt).1
     have e2:=(HL.out.f.be.cell (p:=⟨d,o7+k * 2+1,none⟩) hb).trans (hc k hlt).2
     have ht:=hid (yam r.l7 k hlt)
     have hday:=HD.out _ (zzr hlt)
     obtain ⟨⟨y1,y2⟩,hy⟩:∃q,r.l7[k]=q:=⟨_,rfl⟩
     rw [hy] at e1 e2 ht hday
     obtain ⟨⟨d0,d1⟩,d2,d3⟩:=hday
     obtain ⟨j,rfl⟩:∃j:Nat,y2= (j:Int):=⟨y2.toNat,by have:1≤y2:=d2; omega⟩
     have hj:j < 8:=by have:(j:Int)≤7:=d3; omega
     have hjI:(j:Int) < 8:=by omega
     have hM:=ybI (ygM (r.l7.take k)) (yaP (inB [(j:Int)]))
     rw [show mk (inB [(j:Int)])=ofM [(j:Int)] from rfl,←show wkM (r.l7.take (k+1))=wkM (r.l7.take k) ||| ofM [(j:Int)] by rw [ht.out,yf0]] at hM
     have hDj:=ybI (yeK (r.l7.take k) j) (yaP (inB [max y1 (-y1)]))
     rw [show mk (inB [max y1 (-y1)])=ofM [max y1 (-y1)] from rfl,←show wkD (r.l7.take (k+1)) j=wkD (r.l7.take k) j ||| ofM [max y1 (-y1)] by rw [ht.out,ycU,if_pos rfl]] at hDj
     have HDn:Hid (∀n,n≠j→wkD (r.l7.take (k+1)) n=wkD (r.l7.take k) n):=fun n hn=>by rw [ht.out,ycU,if_neg (by intro e; have:(j:Int)= (n:Int):=e; omega)]
     rw [ha]
     clear hc hy
     have hLx:=HL.out.keep (yaa (o:= .cells #[.int .i64 y1, .int .i64 (j:Int)] 72) (Below.refl wr.heap.size wr) (zG _))
     have cO:=hid (ycw (j:Int) (wr.alloc (.cells #[.int .i64 y1, .int .i64 (j:Int)] 72)) 3)
     rw [zzN] at cO
     have HLx:=hid hLx
     have hx1:(wr.alloc (.cells #[.int .i64 y1, .int .i64 (j:Int)] 72)).cell? ⟨wr.heap.size,0,none⟩=some (.int .i64 y1)∧(wr.alloc (.cells #[.int .i64 y1, .int .i64 (j:Int)] 72)).cell? ⟨wr.heap.size,1,none⟩=some (.int .i64 (j:Int)):=by constructor <;> simp [go_sem]
     have HX1:=hid hx1
     clear hLx hx1
     go_wp2_with fail
     refine cO.out.mono ?_
     rintro e w4 ⟨rfl,hB4⟩
     have HL4:=hid (HLx.out.keep (by rw [zzN]; exact hB4))
     have HS4:Hid (RxS w r b8 wr.heap.size y1 j w4.drew):=RxS.keep ⟨⟨(hB4.cell (p:=⟨wr.heap.size,0,none⟩) (by show wr.heap.size < wr.heap.size+1; omega)).trans HX1.out.1,(hB4.cell (p:=⟨wr.heap.size,1,none⟩) (by show wr.heap.size < wr.heap.size+1; omega)).trans HX1.out.2⟩,HL4.out.f,HL4.out.l.1,HL.out.l.2,by have:=hB4.size; rw [zzN] at this; omega⟩ (Below.refl _ _).drew
     have HSx:Hid (RxS w r b8 wr.heap.size y1 j w4):=⟨⟨(hB4.cell (p:=⟨wr.heap.size,0,none⟩) (by show wr.heap.size < wr.heap.size+1; omega)).trans HX1.out.1,(hB4.cell (p:=⟨wr.heap.size,1,none⟩) (by show wr.heap.size < wr.heap.size+1; omega)).trans HX1.out.2⟩,HL4.out.f,HL4.out.l.1,HL.out.l.2,by have:=hB4.size; rw [zzN] at this; omega⟩
     have HL5:=hid (HL4.out.keep (Below.refl _ _).drew)
     clear hB4 e1 e2
     go_upto_region 16 with fail
     refine wp_region_held_drew (S:=fun w'=>RxS w r b8 wr.heap.size y1 j w') (by kernel_rfl) HS4.out (fun hHeld=>?_)
     have hwr:IntKind.i64.wrap (-y1)= -y1:=IntWalk.i64_in (-y1) (by omega)
     rw [show max y1 (-y1)= (if y1 < -y1 then -y1 else y1) by split <;> omega] at hDj
     refine zhB 0 ?_
     refine zhB 1 ?_
     refine zhB 2 ?_
     refine zhB 3 ?_
     refine zhB 5 ?_
     refine zhB 6 ?_
     refine zhB 7 ?_
     refine zhB 8 ?_
     refine zhB 9 ?_
     refine zhB 10 ?_
     refine zhB 14 ?_
     obtain ⟨mx,hmx⟩:∃mx,(if y1 < -y1 then -y1 else y1)=mx:=⟨_,rfl⟩
     rw [hmx] at hDj⊢
     clear hmx
     have cO2:=hid (ydU (mx) w4 3)
     have HL6a:Hid (WeL w r b8 (yal r) K0 (wkD (r.l7.take k)) ((w4.alloc (.cells #[.int .i64 (mx)] 3)).drew)):=(HL4.out.keep (yaa (Below.refl _ _) (zG _))).keep (Below.refl _ _).drew
     have HS6a:Hid (RxS w r b8 wr.heap.size y1 j ((w4.alloc (.cells #[.int .i64 (mx)] 3)).drew)):=(HSx.out.keep (yaa (Below.refl _ _) (zG _))).keep (Below.refl _ _).drew
     obtain ⟨gc,gf⟩:=HL5.out.t.get hj
     refine wpAnyH_ready (rs:= [4,11]) (by kernel_rfl) (by simp) ?_
     refine AllReadyH.cons rfl (fun K hK=>?_) (AllReadyH.cons rfl (fun K hK=>?_) AllReadyH.nil)
     ·go_simp
      (try go_wp2_with fail)
      refine hK.out _ _ (by assumption) (fun hHeld=>?_)
      clear hK K gc gf
      try simp only [zP]
      refine zzK 11 (fun K hK=>?_)
      go_simp
      refine hK.out _ _ HS6a.out (fun hHeld=>?_)
      clear hK K
      try simp only [zP]
      refine zzK 12 (fun K hK=>?_)
      go_simp
      refine cO2.out.mono ?_
      rintro e w5 ⟨rfl,hB5⟩
      have HL6:=hid (HL4.out.keep hB5)
      have HS6:=hid (HSx.out.keep hB5)
      clear hB5
      (try go_wp2_with fail)
      refine hK.out _ _ HS6.out (fun hHeld=>?_)
      clear hK K
      try simp only [zP]
      refine zhB 13 ?_
      refine zhB 15 ?_
      obtain ⟨gc,gf⟩:=HL6.out.t.get hj
      refine zzK 16 (fun K hK=>?_)
      go_simp
      (try go_wp2_with fail)
      refine hK.out _ _ (RxS.set HS6.out _ _) (fun hHeld=>?_)
      clear hK K
      try simp only [zP]
      refine wpAnyH_done (by kernel_rfl) ?_ _
      have HL7:Hid (WeL w r b8 (yal r) K0 (wkD (r.l7.take (k+1))) (w5.setCell ⟨b8,2+j,none⟩ (.int .u64 (wkD (r.l7.take (k+1)) j:Nat)))):=⟨HL6.out.f.set HL6.out.l.1,HL6.out.t.upd hj rfl HDn.out,HL6.out.l.1,by rw [World.size_setCell]; exact HL6.out.l.2⟩
      clear gc gf
      go_wp2
      exact ⟨⟨k+1,by go_num,by omega,rfl,HL7⟩,by simp [intOf]; omega⟩
     ·clear gc gf
      go_simp
      refine hK.out _ _ HS6a.out (fun hHeld=>?_)
      clear hK K
      try simp only [zP]
      obtain ⟨gc,gf⟩:=HL6a.out.t.get hj
      refine wpAnyH_ready (rs:= [4,12]) (by kernel_rfl) (by simp) ?_
      refine AllReadyH.cons rfl (fun K hK=>?_) (AllReadyH.cons rfl (fun K hK=>?_) AllReadyH.nil)
      ·go_simp
       (try go_wp2_with fail)
       refine hK.out _ _ (by assumption) (fun hHeld=>?_)
       clear hK K gc gf
       try simp only [zP]
       refine zzK 12 (fun K hK=>?_)
       go_simp
       refine cO2.out.mono ?_
       rintro e w5 ⟨rfl,hB5⟩
       have HL6:=hid (HL4.out.keep hB5)
       have HS6:=hid (HSx.out.keep hB5)
       clear hB5
       (try go_wp2_with fail)
       refine hK.out _ _ HS6.out (fun hHeld=>?_)
       clear hK K
       try simp only [zP]
       refine zhB 13 ?_
       refine zhB 15 ?_
       obtain ⟨gc,gf⟩:=HL6.out.t.get hj
       refine zzK 16 (fun K hK=>?_)
       go_simp
       (try go_wp2_with fail)
       refine hK.out _ _ (RxS.set HS6.out _ _) (fun hHeld=>?_)
       clear hK K
       try simp only [zP]
       refine wpAnyH_done (by kernel_rfl) ?_ _
       have HL7:Hid (WeL w r b8 (yal r) K0 (wkD (r.l7.take (k+1))) (w5.setCell ⟨b8,2+j,none⟩ (.int .u64 (wkD (r.l7.take (k+1)) j:Nat)))):=⟨HL6.out.f.set HL6.out.l.1,HL6.out.t.upd hj rfl HDn.out,HL6.out.l.1,by rw [World.size_setCell]; exact HL6.out.l.2⟩
       clear gc gf
       go_wp2
       exact ⟨⟨k+1,by go_num,by omega,rfl,HL7⟩,by simp [intOf]; omega⟩
      ·clear gc gf
       go_simp
       refine cO2.out.mono ?_
       rintro e w5 ⟨rfl,hB5⟩
       have HL6:=hid (HL4.out.keep hB5)
       have HS6:=hid (HSx.out.keep hB5)
       clear hB5
       (try go_wp2_with fail)
       refine hK.out _ _ HS6.out (fun hHeld=>?_)
       clear hK K
       try simp only [zP]
       obtain ⟨gc,gf⟩:=HL6.out.t.get hj
       refine zzK 4 (fun K hK=>?_)
       go_simp
       (try go_wp2_with fail)
       refine hK.out _ _ (by assumption) (fun hHeld=>?_)
       clear hK K gc gf
       try simp only [zP]
       refine zhB 13 ?_
       refine zhB 15 ?_
       obtain ⟨gc,gf⟩:=HL6.out.t.get hj
       refine zzK 16 (fun K hK=>?_)
       go_simp
       (try go_wp2_with fail)
       refine hK.out _ _ (RxS.set HS6.out _ _) (fun hHeld=>?_)
       clear hK K
       try simp only [zP]
       refine wpAnyH_done (by kernel_rfl) ?_ _
       have HL7:Hid (WeL w r b8 (yal r) K0 (wkD (r.l7.take (k+1))) (w5.setCell ⟨b8,2+j,none⟩ (.int .u64 (wkD (r.l7.take (k+1)) j:Nat)))):=⟨HL6.out.f.set HL6.out.l.1,HL6.out.t.upd hj rfl HDn.out,HL6.out.l.1,by rw [World.size_setCell]; exact HL6.out.l.2⟩
       clear gc gf
       go_wp2
       exact ⟨⟨k+1,by go_num,by omega,rfl,HL7⟩,by simp [intOf]; omega⟩
    ·have hke:r.l7.take k=r.l7:=List.take_of_length_le (by omega)
     rw [hke] at HL⊢
     clear hke
     obtain ⟨⟨k0,k1,k2,k3,k4⟩,k5,k6,k7,k8,k9,kx⟩:=HL.out.f.rb.all
     go_wp2_with fail
     refine (cP.out _ (HR.out.below HL.out.f.be)).mono ?_
     rintro e w6 ⟨rfl,hB6⟩
     have HL6:=hid (HL.out.keep hB6)
     clear hB6 k0 k1 k2 k3 k4 k5 k6 k7 k8 k9 kx
     obtain ⟨⟨z0,z1,z2,z3,z4,z5,z6,z7,z8,z9⟩,f0,f1,f2,f3,f4,f5,f6,f7,f8,f9⟩:=HL6.out.f.z
     cases P
     ·go_wp2
      exact bodyPost_ret (yar rfl _ _ (w.heap.size+1) 0 _ _ rfl (ybL HL6.out.f.z.there _ _ _ _ _ _ _ _ _ _) Tryz.underlying31 rfl yb6) rfl ⟨rfl,ybb HL6.out.f.be (by omega) _ _ _ _ _ _ _ _ _ _⟩
     ·obtain ⟨⟨t0,t1,t2,t3,t4,t5,t6,t7,t8,t9⟩,-⟩:=HL6.out.t
      have HO:Hid (RyS w b8 (yal r) K0 (wkD r.l7) w6.drew):=⟨(HL6.out.keep (Below.refl _ _).drew).t,HL6.out.l.1,(HL6.out.keep (Below.refl _ _).drew).f.be⟩
      have HO6:Hid (RyS w b8 (yal r) K0 (wkD r.l7) w6):=⟨HL6.out.t,HL6.out.l.1,HL6.out.f.be⟩
      clear t0 t1 t2 t3 t4 t5 t6 t7 t8 t9
      go_upto_region 20 with fail
      refine wp_region_held_drew (S:=fun w'=>RyS w b8 (yal r) K0 (wkD r.l7) w') (by kernel_rfl) HO.out (fun hHeld=>?_)
      refine zhB 0 ?_
      refine zhB 1 ?_
      refine zhB 2 ?_
      refine zzK 3 (fun K hK=>?_)
      go_simp
      (try go_wp2_with fail)
      refine hK.out _ _ (RyS.dr (RyS.put HO6.out (.int .i64 (yal r)) (.bool K0) (.int .u64 (wkD r.l7 0:Nat)) (.int .u64 (wkD r.l7 1:Nat)) (.int .u64 (wkD r.l7 2:Nat)) (.int .u64 (wkD r.l7 3:Nat)) (.int .u64 (wkD r.l7 4:Nat)) (.int .u64 (wkD r.l7 5:Nat)) (.int .u64 (wkD r.l7 6:Nat)) (.int .u64 (wkD r.l7 7:Nat)))) (fun hHeld=>?_)
      clear hK K
      try simp only [zP]
      refine wpAnyH_done (by kernel_rfl) ?_ _
      go_wp2
      exact bodyPost_ret (yar rfl _ _ (w.heap.size+1) 0 _ _ rfl (ygc (ybL HL6.out.f.z.there (.int .i64 (yal r)) (.bool K0) (.int .u64 (wkD r.l7 0:Nat)) (.int .u64 (wkD r.l7 1:Nat)) (.int .u64 (wkD r.l7 2:Nat)) (.int .u64 (wkD r.l7 3:Nat)) (.int .u64 (wkD r.l7 4:Nat)) (.int .u64 (wkD r.l7 5:Nat)) (.int .u64 (wkD r.l7 6:Nat)) (.int .u64 (wkD r.l7 7:Nat)))) Tryz.underlying31 rfl yb6) rfl ⟨by rw [HK.out]; rfl,(ybb HO6.out.2.2 (by omega) (.int .i64 (yal r)) (.bool K0) (.int .u64 (wkD r.l7 0:Nat)) (.int .u64 (wkD r.l7 1:Nat)) (.int .u64 (wkD r.l7 2:Nat)) (.int .u64 (wkD r.l7 3:Nat)) (.int .u64 (wkD r.l7 4:Nat)) (.int .u64 (wkD r.l7 5:Nat)) (.int .u64 (wkD r.l7 6:Nat)) (.int .u64 (wkD r.l7 7:Nat))).drew⟩
 ·have hb6:(r.fq == 6)=false:=by simpa using h6
  have hw:Hid (yal r=1):=by show _ = _; rw [hio.out,if_neg (fun h=>h6 h.1)]
  have HL1:Hid (WeL w r b8 (yal r) K0 (wkD []) Y):=by rw [hw.out]; exact HL0.out
  clear h6
  have HV:=HL1
  go_wp2_with fail
  go_loopw [7,66] (fun v i wr=>∃k:Nat,i= .int .i64 k∧k≤r.l7.length∧v= .int .u64 (wkM (r.l7.take k):Nat)∧Hid (WeL w r b8 (yal r) K0 (wkD (r.l7.take k)) wr)) (fun _ i _=>r.l7.length - (intOf i).toNat)
  case atStart=>exact ⟨0,rfl,by omega,rfl,HV⟩
  case round=>
   obtain ⟨k,rfl,hk,rfl,HL⟩:=hrel
   by_cases hlt:k < r.l7.length
   ·obtain ⟨d,o7,ha,hb,hc⟩:=Hs.out.atNth hlt
    have e1:=(HL.out.f.be.cell (p:=⟨d,o7+k * 2,none⟩) hb).trans (hc k hlt).1
    have e2:=(HL.out.f.be.cell (p:=⟨d,o7+k * 2+1,none⟩) hb).trans (hc k hlt).2
    have ht:=hid (yam r.l7 k hlt)
    have hday:=HD.out _ (zzr hlt)
    obtain ⟨⟨y1,y2⟩,hy⟩:∃q,r.l7[k]=q:=⟨_,rfl⟩
    rw [hy] at e1 e2 ht hday
    obtain ⟨⟨d0,d1⟩,d2,d3⟩:=hday
    obtain ⟨j,rfl⟩:∃j:Nat,y2= (j:Int):=⟨y2.toNat,by have:1≤y2:=d2; omega⟩
    have hj:j < 8:=by have:(j:Int)≤7:=d3; omega
    have hjI:(j:Int) < 8:=by omega
    have hM:=ybI (ygM (r.l7.take k)) (yaP (inB [(j:Int)]))
    rw [show mk (inB [(j:Int)])=ofM [(j:Int)] from rfl,←show wkM (r.l7.take (k+1))=wkM (r.l7.take k) ||| ofM [(j:Int)] by rw [ht.out,yf0]] at hM
    have hDj:=ybI (yeK (r.l7.take k) j) (yaP (inB [max y1 (-y1)]))
    rw [show mk (inB [max y1 (-y1)])=ofM [max y1 (-y1)] from rfl,←show wkD (r.l7.take (k+1)) j=wkD (r.l7.take k) j ||| ofM [max y1 (-y1)] by rw [ht.out,ycU,if_pos rfl]] at hDj
    have HDn:Hid (∀n,n≠j→wkD (r.l7.take (k+1)) n=wkD (r.l7.take k) n):=fun n hn=>by rw [ht.out,ycU,if_neg (by intro e; have:(j:Int)= (n:Int):=e; omega)]
    rw [ha]
    clear hc hy
    have hLx:=HL.out.keep (yaa (o:= .cells #[.int .i64 y1, .int .i64 (j:Int)] 72) (Below.refl wr.heap.size wr) (zG _))
    have cO:=hid (ycw (j:Int) (wr.alloc (.cells #[.int .i64 y1, .int .i64 (j:Int)] 72)) 3)
    rw [zzN] at cO
    have HLx:=hid hLx
    have hx1:(wr.alloc (.cells #[.int .i64 y1, .int .i64 (j:Int)] 72)).cell? ⟨wr.heap.size,0,none⟩=some (.int .i64 y1)∧(wr.alloc (.cells #[.int .i64 y1, .int .i64 (j:Int)] 72)).cell? ⟨wr.heap.size,1,none⟩=some (.int .i64 (j:Int)):=by constructor <;> simp [go_sem]
    have HX1:=hid hx1
    clear hLx hx1
    go_wp2_with fail
    refine cO.out.mono ?_
    rintro e w4 ⟨rfl,hB4⟩
    have HL4:=hid (HLx.out.keep (by rw [zzN]; exact hB4))
    have HS4:Hid (RxS w r b8 wr.heap.size y1 j w4.drew):=RxS.keep ⟨⟨(hB4.cell (p:=⟨wr.heap.size,0,none⟩) (by show wr.heap.size < wr.heap.size+1; omega)).trans HX1.out.1,(hB4.cell (p:=⟨wr.heap.size,1,none⟩) (by show wr.heap.size < wr.heap.size+1; omega)).trans HX1.out.2⟩,HL4.out.f,HL4.out.l.1,HL.out.l.2,by have:=hB4.size; rw [zzN] at this; omega⟩ (Below.refl _ _).drew
    have HSx:Hid (RxS w r b8 wr.heap.size y1 j w4):=⟨⟨(hB4.cell (p:=⟨wr.heap.size,0,none⟩) (by show wr.heap.size < wr.heap.size+1; omega)).trans HX1.out.1,(hB4.cell (p:=⟨wr.heap.size,1,none⟩) (by show wr.heap.size < wr.heap.size+1; omega)).trans HX1.out.2⟩,HL4.out.f,HL4.out.l.1,HL.out.l.2,by have:=hB4.size; rw [zzN] at this; omega⟩
    have HL5:=hid (HL4.out.keep (Below.refl _ _).drew)
    clear hB4 e1 e2
    go_upto_region 16 with fail
    refine wp_region_held_drew (S:=fun w'=>RxS w r b8 wr.heap.size y1 j w') (by kernel_rfl) HS4.out (fun hHeld=>?_)
    have hwr:IntKind.i64.wrap (-y1)= -y1:=IntWalk.i64_in (-y1) (by omega)
    rw [show max y1 (-y1)= (if y1 < -y1 then -y1 else y1) by split <;> omega] at hDj
    refine zhB 0 ?_
    refine zhB 1 ?_
    refine zhB 2 ?_
    refine zhB 3 ?_
    refine zhB 5 ?_
    refine zhB 6 ?_
    refine zhB 7 ?_
    refine zhB 8 ?_
    refine zhB 9 ?_
    refine zhB 10 ?_
    refine zhB 14 ?_
    obtain ⟨mx,hmx⟩:∃mx,(if y1 < -y1 then -y1 else y1)=mx:=⟨_,rfl⟩
    rw [hmx] at hDj⊢
    clear hmx
    have cO2:=hid (ydU (mx) w4 3)
    have HL6a:Hid (WeL w r b8 (yal r) K0 (wkD (r.l7.take k)) ((w4.alloc (.cells #[.int .i64 (mx)] 3)).drew)):=(HL4.out.keep (yaa (Below.refl _ _) (zG _))).keep (Below.refl _ _).drew
    have HS6a:Hid (RxS w r b8 wr.heap.size y1 j ((w4.alloc (.cells #[.int .i64 (mx)] 3)).drew)):=(HSx.out.keep (yaa (Below.refl _ _) (zG _))).keep (Below.refl _ _).drew
    obtain ⟨gc,gf⟩:=HL5.out.t.get hj
    refine wpAnyH_ready (rs:= [4,11]) (by kernel_rfl) (by simp) ?_
    refine AllReadyH.cons rfl (fun K hK=>?_) (AllReadyH.cons rfl (fun K hK=>?_) AllReadyH.nil)
    ·go_simp
     (try go_wp2_with fail)
     refine hK.out _ _ (by assumption) (fun hHeld=>?_)
     clear hK K gc gf
     try simp only [zP]
     refine zzK 11 (fun K hK=>?_)
     go_simp
     refine hK.out _ _ HS6a.out (fun hHeld=>?_)
     clear hK K
     try simp only [zP]
     refine zzK 12 (fun K hK=>?_)
     go_simp
     refine cO2.out.mono ?_
     rintro e w5 ⟨rfl,hB5⟩
     have HL6:=hid (HL4.out.keep hB5)
     have HS6:=hid (HSx.out.keep hB5)
     clear hB5
     (try go_wp2_with fail)
     refine hK.out _ _ HS6.out (fun hHeld=>?_)
     clear hK K
     try simp only [zP]
     refine zhB 13 ?_
     refine zhB 15 ?_
     obtain ⟨gc,gf⟩:=HL6.out.t.get hj
     refine zzK 16 (fun K hK=>?_)
     go_simp
     (try go_wp2_with fail)
     refine hK.out _ _ (RxS.set HS6.out _ _) (fun hHeld=>?_)
     clear hK K
     try simp only [zP]
     refine wpAnyH_done (by kernel_rfl) ?_ _
     have HL7:Hid (WeL w r b8 (yal r) K0 (wkD (r.l7.take (k+1))) (w5.setCell ⟨b8,2+j,none⟩ (.int .u64 (wkD (r.l7.take (k+1)) j:Nat)))):=⟨HL6.out.f.set HL6.out.l.1,HL6.out.t.upd hj rfl HDn.out,HL6.out.l.1,by rw [World.size_setCell]; exact HL6.out.l.2⟩
     clear gc gf
     go_wp2
     exact ⟨⟨k+1,by go_num,by omega,rfl,HL7⟩,by simp [intOf]; omega⟩
    ·clear gc gf
     go_simp
     refine hK.out _ _ HS6a.out (fun hHeld=>?_)
     clear hK K
     try simp only [zP]
     obtain ⟨gc,gf⟩:=HL6a.out.t.get hj
     refine wpAnyH_ready (rs:= [4,12]) (by kernel_rfl) (by simp) ?_
     refine AllReadyH.cons rfl (fun K hK=>?_) (AllReadyH.cons rfl (fun K hK=>?_) AllReadyH.nil)
     ·go_simp
      (try go_wp2_with fail)
      refine hK.out _ _ (by assumption) (fun hHeld=>?_)
      clear hK K gc gf
      try simp only [zP]
      refine zzK 12 (fun K hK=>?_)
      go_simp
      refine cO2.out.mono ?_
      rintro e w5 ⟨rfl,hB5⟩
      have HL6:=hid (HL4.out.keep hB5)
      have HS6:=hid (HSx.out.keep hB5)
      clear hB5
      (try go_wp2_with fail)
      refine hK.out _ _ HS6.out (fun hHeld=>?_)
      clear hK K
      try simp only [zP]
      refine zhB 13 ?_
      refine zhB 15 ?_
      obtain ⟨gc,gf⟩:=HL6.out.t.get hj
      refine zzK 16 (fun K hK=>?_)
      go_simp
      (try go_wp2_with fail)
      refine hK.out _ _ (RxS.set HS6.out _ _) (fun hHeld=>?_)
      clear hK K
      try simp only [zP]
      refine wpAnyH_done (by kernel_rfl) ?_ _
      have HL7:Hid (WeL w r b8 (yal r) K0 (wkD (r.l7.take (k+1))) (w5.setCell ⟨b8,2+j,none⟩ (.int .u64 (wkD (r.l7.take (k+1)) j:Nat)))):=⟨HL6.out.f.set HL6.out.l.1,HL6.out.t.upd hj rfl HDn.out,HL6.out.l.1,by rw [World.size_setCell]; exact HL6.out.l.2⟩
      clear gc gf
      go_wp2
      exact ⟨⟨k+1,by go_num,by omega,rfl,HL7⟩,by simp [intOf]; omega⟩
     ·clear gc gf
      go_simp
      refine cO2.out.mono ?_
      rintro e w5 ⟨rfl,hB5⟩
      have HL6:=hid (HL4.out.keep hB5)
      have HS6:=hid (HSx.out.keep hB5)
      clear hB5
      (try go_wp2_with fail)
      refine hK.out _ _ HS6.out (fun hHeld=>?_)
      clear hK K
      try simp only [zP]
      obtain ⟨gc,gf⟩:=HL6.out.t.get hj
      refine zzK 4 (fun K hK=>?_)
      go_simp
      (try go_wp2_with fail)
      refine hK.out _ _ (by assumption) (fun hHeld=>?_)
      clear hK K gc gf
      try simp only [zP]
      refine zhB 13 ?_
      refine zhB 15 ?_
      obtain ⟨gc,gf⟩:=HL6.out.t.get hj
      refine zzK 16 (fun K hK=>?_)
      go_simp
      (try go_wp2_with fail)
      refine hK.out _ _ (RxS.set HS6.out _ _) (fun hHeld=>?_)
      clear hK K
      try simp only [zP]
      refine wpAnyH_done (by kernel_rfl) ?_ _
      have HL7:Hid (WeL w r b8 (yal r) K0 (wkD (r.l7.take (k+1))) (w5.setCell ⟨b8,2+j,none⟩ (.int .u64 (wkD (r.l7.take (k+1)) j:Nat)))):=⟨HL6.out.f.set HL6.out.l.1,HL6.out.t.upd hj rfl HDn.out,HL6.out.l.1,by rw [World.size_setCell]; exact HL6.out.l.2⟩
      clear gc gf
      go_wp2
      exact ⟨⟨k+1,by go_num,by omega,rfl,HL7⟩,by simp [intOf]; omega⟩
   ·have hke:r.l7.take k=r.l7:=List.take_of_length_le (by omega)
    rw [hke] at HL⊢
    clear hke
    obtain ⟨⟨k0,k1,k2,k3,k4⟩,k5,k6,k7,k8,k9,kx⟩:=HL.out.f.rb.all
    go_wp2_with fail
    refine (cP.out _ (HR.out.below HL.out.f.be)).mono ?_
    rintro e w6 ⟨rfl,hB6⟩
    have HL6:=hid (HL.out.keep hB6)
    clear hB6 k0 k1 k2 k3 k4 k5 k6 k7 k8 k9 kx
    obtain ⟨⟨z0,z1,z2,z3,z4,z5,z6,z7,z8,z9⟩,f0,f1,f2,f3,f4,f5,f6,f7,f8,f9⟩:=HL6.out.f.z
    cases P
    ·go_wp2
     exact bodyPost_ret (yar rfl _ _ (w.heap.size+1) 0 _ _ rfl (ybL HL6.out.f.z.there _ _ _ _ _ _ _ _ _ _) Tryz.underlying31 rfl yb6) rfl ⟨rfl,ybb HL6.out.f.be (by omega) _ _ _ _ _ _ _ _ _ _⟩
    ·obtain ⟨⟨t0,t1,t2,t3,t4,t5,t6,t7,t8,t9⟩,-⟩:=HL6.out.t
     have HO:Hid (RyS w b8 (yal r) K0 (wkD r.l7) w6.drew):=⟨(HL6.out.keep (Below.refl _ _).drew).t,HL6.out.l.1,(HL6.out.keep (Below.refl _ _).drew).f.be⟩
     have HO6:Hid (RyS w b8 (yal r) K0 (wkD r.l7) w6):=⟨HL6.out.t,HL6.out.l.1,HL6.out.f.be⟩
     clear t0 t1 t2 t3 t4 t5 t6 t7 t8 t9
     go_upto_region 20 with fail
     refine wp_region_held_drew (S:=fun w'=>RyS w b8 (yal r) K0 (wkD r.l7) w') (by kernel_rfl) HO.out (fun hHeld=>?_)
     refine zhB 0 ?_
     refine zhB 1 ?_
     refine zhB 2 ?_
     refine zzK 3 (fun K hK=>?_)
     go_simp
     (try go_wp2_with fail)
     refine hK.out _ _ (RyS.dr (RyS.put HO6.out (.int .i64 (yal r)) (.bool K0) (.int .u64 (wkD r.l7 0:Nat)) (.int .u64 (wkD r.l7 1:Nat)) (.int .u64 (wkD r.l7 2:Nat)) (.int .u64 (wkD r.l7 3:Nat)) (.int .u64 (wkD r.l7 4:Nat)) (.int .u64 (wkD r.l7 5:Nat)) (.int .u64 (wkD r.l7 6:Nat)) (.int .u64 (wkD r.l7 7:Nat)))) (fun hHeld=>?_)
     clear hK K
     try simp only [zP]
     refine wpAnyH_done (by kernel_rfl) ?_ _
     go_wp2
     exact bodyPost_ret (yar rfl _ _ (w.heap.size+1) 0 _ _ rfl (ygc (ybL HL6.out.f.z.there (.int .i64 (yal r)) (.bool K0) (.int .u64 (wkD r.l7 0:Nat)) (.int .u64 (wkD r.l7 1:Nat)) (.int .u64 (wkD r.l7 2:Nat)) (.int .u64 (wkD r.l7 3:Nat)) (.int .u64 (wkD r.l7 4:Nat)) (.int .u64 (wkD r.l7 5:Nat)) (.int .u64 (wkD r.l7 6:Nat)) (.int .u64 (wkD r.l7 7:Nat)))) Tryz.underlying31 rfl yb6) rfl ⟨by rw [HK.out]; rfl,(ybb HO6.out.2.2 (by omega) (.int .i64 (yal r)) (.bool K0) (.int .u64 (wkD r.l7 0:Nat)) (.int .u64 (wkD r.l7 1:Nat)) (.int .u64 (wkD r.l7 2:Nat)) (.int .u64 (wkD r.l7 3:Nat)) (.int .u64 (wkD r.l7 4:Nat)) (.int .u64 (wkD r.l7 5:Nat)) (.int .u64 (wkD r.l7 6:Nat)) (.int .u64 (wkD r.l7 7:Nat))).drew⟩
theorem Week_any (r:Ru) (w:World) (hr:RuS w r) (hm:r.Sm 1000000):Calls Tryz.prog 25 #[ruv r] w fun e w'=>e= .returned (.tuple #[.int .u64 (ybE r:Nat),yex r])∧Below w.heap.size w w':=by
 by_cases hc:yaf r=0
 ·by_cases h7:r.l7= []
  ·exact Week_nil r w hr hm hc h7
  ·exact Week_some r w hr hm hc h7
 ·exact Week_no r w hr hm hc
end Go.Proofs.YtjahgimnfliooaaGreatDoor
