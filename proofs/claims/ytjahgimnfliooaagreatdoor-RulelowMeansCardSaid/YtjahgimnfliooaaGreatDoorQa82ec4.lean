/-
  roll.At, walked.
-/
import Derived.Test.YtjahgimnfliooaaGreatDoorQ1e0245
set_option maxRecDepth 100000
set_option maxHeartbeats 25600000
namespace Go.Proofs.YtjahgimnfliooaaGreatDoor
open Go.RowKit Go.Maps
set_option linter.unusedVariables false
def yh8 (v x:Value):Sem Value:=Instr.lookup 148 v x true
theorem look_st8 (v x:Value):Instr.lookup 148 v x true=yh8 v x:=rfl
def lenSt8 (v:Value):Sem Value:=Builtin.len_ #[148] 3 #[v]
theorem len_st8 (v:Value):Builtin.len_ #[148] 3 #[v]=lenSt8 v:=rfl
def updSt8 (v x y:Value):Sem Unit:=Instr.mapUpdate 148 v x y
theorem upd_st8 (v x y:Value):Instr.mapUpdate 148 v x y=updSt8 v x y:=rfl
attribute [local go_sem ↓] look_st8 len_st8 upd_st8 yi4 ygP
theorem box_st8 (w:World) (x:Nat→St1):∃W3,(yf4 (.pointer (some ⟨w.heap.size,0,none⟩)) (st8v x)).run Tryz.prog (w.alloc (.cells zl0 210))= .ok () W3∧W3.rangeAt w.heap.size 0 (st8L x)∧Below w.heap.size w W3∧w.heap.size < W3.heap.size:=by
 have hth:(w.alloc (.cells zl0 210)).there w.heap.size 0 32:=fun j hj=>by
  rw [zzn]
  refine ⟨?_,yaB w _ _ j⟩
  have:(w.alloc (.cells (st8L (fun _=>st0)).toArray 210)).cell? ⟨w.heap.size,j,none⟩= (st8L (fun _=>st0))[j]?:=by simp [go_sem]
  show ((w.alloc (.cells (st8L (fun _=>st0)).toArray 210)).cell? ⟨w.heap.size,j,none⟩).isSome=true
  rw [this,zzp (by simpa using hj)]; rfl
 refine ⟨_,run_storeAt_mid (P:=Tryz.prog) _ w.heap.size 0 210 (st8L x).toArray hth yd8 (by rw [List.all_toArray]; rfl),World.rangeAt_setCells_same _ _ _ _ hth,?_,?_⟩
 ·exact yaQ (zG _) _ _ _ (yaa (Below.refl _ _) (zG _))
 ·rw [yaN]; simp
theorem load_box {w:World} {b:Nat} {x:Nat→St1} (h:w.rangeAt b 0 (st8L x)):(ydp (.pointer (some ⟨b,0,none⟩))).run Tryz.prog w= .ok (st8v x) w:=
 run_loadAt_mid w b 0 210 (st8L x) _ h Tryz.underlying210 rfl yd8
theorem RAt2_any {W:World} {cs:List Cl} {br bk:Nat} {bps:List Nat} {F:Blk} {ws:Nat→Bool} {m:Nat} (n:Int) (h0:0≤n) (h1:n < 146097) (hm:m < 4611686018427387904) (h:RollS W cs br bk bps F ws m) :
  Calls Tryz.prog 106 #[.pointer (some ⟨br,0,none⟩),shN n] W (AtR2 W cs br bk bps F ws m n):=by
 have h8:cs.length≤8:=by have:=h.x.may; rw [mayL,zzX,zzY] at this; exact this.1
 have H:=hid h
 have H8:=hid h8
 have Hm:=hid hm
 have Hn:=hid (And.intro h0 h1)
 have es:shF n 0=n:=rfl
 have cA:=hid (fun W' (hB:Below W.heap.size W W')=>RAt1_any n h0 h1 (h.below hB))
 have cM:=hid (fun (F':Blk) (m':Nat) W' (h':RollS W' cs br bk bps F' ws m')=>RMade_any (stN cs n) (fun i _=>stN_ok h.x.ok h0 h1 i) h')
 obtain ⟨A,hA⟩:∃A,actM cs n=A:=⟨_,rfl⟩
 obtain ⟨q,hq⟩:∃q,yel cs n=q:=⟨_,rfl⟩
 have hA8:A < 256:=by rw [←hA]; exact actM_lt8 h8
 rw [hA,hq] at cA
 have HA:=hid hA
 have HQ:=hid hq
 clear hA hq h h8 hm
 rw [←ybg]
 rw [←ybg] at cA
 obtain ⟨s,hs⟩:∃s,shF n=s:=⟨_,rfl⟩
 rw [hs] at es cA⊢
 clear hs
 have h0':decide (s 0 < 0)=false:=by rw [es]; exact zzd (by omega)
 have h1':decide (146097≤s 0)=false:=by rw [es]; exact zzd (by omega)
 have Es:=hid es
 clear es h0 h1
 rw [shq]
 rw [shq] at cA
 obtain ⟨W1,hW1⟩:∃W1,W.alloc (.cells #[.int .i64 (s 0), .int .i64 (s 1), .int .i64 (s 2), .int .i64 (s 3), .int .i64 (s 4), .int .i64 (s 5), .int .i64 (s 6), .int .i64 (s 7), .int .i64 (s 8), .int .i64 (s 9)] 88)=W1:=⟨_,rfl⟩
 have HB1:Hid (Below W.heap.size W W1):=by rw [←hW1]; exact yaa (Below.refl _ _) (zG _)
 have hsh:ShS W1 W.heap.size s:=by rw [←hW1]; exact ycF W 88 _ _ _ _ _ _ _ _ _ _
 obtain ⟨s0,s1,s2,s3,s4,s5,s6,s7,s8,s9⟩:=hsh
 have HW1:=hid hW1
 clear hW1
 go_enter Tryz.func106,Tryz.ntmps106
 go_upto_region 1 with fail
 rw [HW1.out]
 go_wp2_with fail
 refine (cA.out _ HB1.out).mono ?_
 rintro e w2 ⟨rfl,hB2⟩
 have HB2:Hid (Below W.heap.size W w2):=HB1.out.trans (hB2.mono HB1.out.size)
 clear hB2 s0 s1 s2 s3 s4 s5 s6 s7 s8 s9 cA HB1
 obtain ⟨W3,k3,r3,b3,l3⟩:=box_st8 w2 (stN cs n)
 have hbxW:Hid (W.heap.size≤w2.heap.size):=HB2.out.size
 have HR3:=hid r3
 have HB3:Hid (Below W.heap.size W W3):=HB2.out.trans (b3.mono HB2.out.size)
 obtain ⟨V,hV⟩:∃V,st8v (stN cs n)=V:=⟨_,rfl⟩
 rw [hV] at k3⊢
 have HV:=hid hV
 have hl3:=hid l3
 clear r3 b3 hV l3
 rcases Nat.eq_zero_or_pos A with rfl | hA0
 ·clear hA8
  have hfin:Hid (AtR2 W cs br bk bps F ws m n (.returned (.pointer none)) W3):=⟨none,F,ws,m,rfl,H.out.below HB3.out,GrF.refl _ _,Eff.of_below HB3.out, .inl ⟨HA.out,rfl,rfl⟩,fun _=>HA.out,(fun b hb=>by cases hb),fun h=>absurd HA.out h⟩
  go_wp2
  go_ret
  exact hfin.out
 ·have hA1:(A:Int) < 256:=by omega
  have hA2:¬((A:Int)=0):=by omega
  have H3:=hid (H.out.below HB3.out)
  have HLD:Hid (∀w,Eff (RM br bk bps) W3 w→(ydp (.pointer (some ⟨w2.heap.size,0,none⟩))).run Tryz.prog w= .ok V w):=fun w hw=>by
   have:=load_box (w:=w) (b:=w2.heap.size) (x:=stN cs n) (fun j v hv=>(hw.cell (p:=⟨w2.heap.size,0+j,none⟩) hl3.out (H.out.mlt HB2.out.size)).trans (HR3.out j v hv))
   rwa [HV.out] at this
  cases q
  ·obtain ⟨Wd,hWd⟩:∃Wd,W3.drew=Wd:=⟨_,rfl⟩
   have hBd:Below W3.heap.size W3 Wd:=by rw [←hWd]; exact (Below.refl _ _).drew
   have hd:=H3.out.below hBd
   have hP:=hd.known
   have k2:Wd.cell? ⟨br,2,none⟩=some (.map (some bk)):=hd.x.known
   have hK8:K8 V:=⟨stN cs n,HV.out.symm,fun i _=>stN_ok hd.x.ok Hn.out.1 Hn.out.2 i⟩
   have HEdb:Hid (∀b,b < W.heap.size→Wd.heap[b]? =W.heap[b]?):=fun b hb=>(hBd.block b (zH hb HB3.out.size)).trans (HB3.out.block b hb)
   have HEd:Hid (Eff (RM br bk bps) W Wd):=(Eff.of_below HB3.out).trans (Eff.of_below hBd) (fun _ h=> .inl h)
   have HE3d:Hid (Eff (RM br bk bps) W3 Wd):=Eff.of_below hBd
   have hld:=HLD.out Wd HE3d.out
   have HWd:Hid (Wd=W3.drew):=hWd.symm
   have HK8:=hid hK8
   have HD:=hid hd
   clear hBd hWd
   rcases yib hP hK8 with ⟨hnk,qk⟩ | ⟨hhk,v,hv,qk⟩
   ·have HNK:=hid (fun h:HasK W bk V=>hnk (h.block (HEdb.out _ H.out.known.lt)))
    clear hnk
    obtain ⟨k,hk,hPk,ql⟩:=hP.count (t:=148) (by rw [Tryz.underlying148]) 3
    replace qk:(yh8 (.map (some bk)) V).run Tryz.prog Wd= .ok (.tuple #[.pointer none, .bool false]) Wd:=qk
    replace ql:(lenSt8 (.map (some bk))).run Tryz.prog Wd= .ok (.int .i64 k) Wd:=ql
    have HP:=hid hP
    have HPk:=hid hPk
    have Hkk:=hid hk
    clear hP hPk hk hd hK8
    by_cases hk:(k:Int)=256
    ·have hkd:((k:Int) == 256)=true:=by rw [hk]; rfl
     clear hk
     go_upto_region 11 with fail
     refine wp_region_held_drew (S:=fun w=>Hid (Wd=w)) (by kernel_rfl) HWd (fun hHeld=>?_)
     refine zhC 0 ?_
     refine zhC 1 ?_
     refine zhC 2 ?_
     refine zhC 3 ?_
     refine zhC 4 ?_
     refine zhC 5 ?_
     refine zhC 6 ?_
     refine zhC 7 ?_
     refine zhC 8 ?_
     refine zhC 9 ?_
     refine zhC 10 ?_
     refine wpAnyH_done (by kernel_rfl) ?_ _
     rw [←HWd.out]
     clear hHeld
     go_wp2_with (with_reducible refine ydw (t:=148) (.tmp 80) rfl rfl Tryz.underlying148 HP.out rfl ?_)
     intro W2 hM2 hg2
     have H2:=hid (HD.out.mapKnown hg2 (hM2.mono (by omega) (fun _ h=>h) (fun _ _ h=>h)))
     have HP2:Hid (MapS K8 (G8 cs Wd F (RM br bk bps)) W2 bk 255):=hM2.mono (by omega) (fun _ h=>h) (fun _ _ h=>h)
     have HE9:Hid (Eff (RM br bk bps) Wd W2):=Eff.of_grown hg2 (.inr (.inl rfl))
     clear hM2 hg2 qk ql hkd k2 hld
     have HEs:Hid (Eff (RM br bk bps) W3 W2):=HE3d.out.trans HE9.out (fun _ h=> .inl h)
     have HE2:Hid (Eff (RM br bk bps) W W2):=HEd.out.trans HE9.out (fun _ h=> .inl h)
     have hld2:=HLD.out W2 HEs.out
     have cm:=hid (cM.out F m W2 H2.out)
     rw [HV.out] at cm
     go_wp2_with fail
     refine cm.out.mono ?_
     rintro e w4 ⟨b,F2,rfl,hr4,hG4,hd4,hE4,hk4⟩
     have HR4:=hid hr4
     have HG4:Hid (GrF F F2 W):=(GrF.refl _ _).trans hG4 HE2.out.size
     have HD4:=hid hd4
     have HE4:=hid hE4
     have HK4:=hid hk4
     clear hr4 hG4 hd4 hE4 hk4 hld2 cm
     have km:=HR4.out.many
     have fzm:=HR4.out.x.fz 260
     have hm1:(m:Int) < 4611686018427387904:=by have:=Hm.out; omega
     have Em:Hid (((m:Int)+1)= ((m+1:Nat):Int)):=by show _ = _; omega
     go_upto_region 17 with fail
     rw [Em.out]
     obtain ⟨W5,hW5⟩:∃W5,w4.setCell ⟨br,260,none⟩ (.int .i64 ((m+1:Nat):Int))=W5:=⟨_,rfl⟩
     have h5:=HR4.out.setMany (m+1)
     have hE5:Eff (fun x=>x=br) w4 W5:=by rw [←hW5]; exact (Eff.refl (fun x=>x=br) _).set rfl _ _
     rw [hW5] at h5⊢
     obtain ⟨W7,hW7⟩:∃W7,W5.drew=W7:=⟨_,rfl⟩
     have hB7:Below W5.heap.size W5 W7:=by rw [←hW7]; exact (Below.refl _ _).drew
     have h7:=h5.below hB7
     have HE47:Hid (Eff (RM br bk bps) w4 W7):=(hE5.wide (fun _ h=> .inl h)).trans (Eff.of_below hB7) (fun _ h=> .inl h)
     have HE97:Hid (Eff (RM br bk bps) Wd W7):=(HE9.out.trans HE4.out (fun _ h=> .inl h)).trans HE47.out (fun _ h=> .inl h)
     have HEW7:Hid (Eff (RM br bk bps) W W7):=HEd.out.trans HE97.out (fun _ h=> .inl h)
     have hk7:W7.heap[bk]? =W2.heap[bk]?:=by
      have hl5:=h5.known.lt
      exact (hB7.block bk hl5).trans ((hE5.block bk HR4.out.known.lt (fun e=>HR4.out.x.apart.1 e.symm)).trans HK4.out)
     have hM5:MapS K8 (G8 cs W7 F2 (RM br bk bps)) W7 bk 255:=(HP2.out.keep hk7).mono (zG _) (fun _ h=>h) (fun key v g=>g.eff HE97.out (HG4.out.sub))
     have HD7:Hid (DiF W7 F2 (RM br bk bps) b (ydI cs (stN cs n))):=HD4.out.eff HE47.out (fun _ h=>h)
     obtain ⟨W6,q6,hM6,hg6⟩:=hM5.update (yhd W7) (t:=148) (e:=105) (by rw [Tryz.underlying148]) HK8.out (v:= .pointer (some ⟨b,0,none⟩)) (fun x hx=>⟨b,rfl,HD7.out.1,HD7.out.2.1,HD7.out.2.2.congr fun k _=>yfN H8.out (st8_inj (HV.out.trans hx)) k⟩)
     have HK6:=hid (yfg hM5 HK8.out q6)
     replace q6:(updSt8 (.map (some bk)) V (.pointer (some ⟨b,0,none⟩))).run Tryz.prog W7= .ok () W6:=q6
     have H6:=hid (h7.mapKnown hg6 (hM6.mono (zG _) (fun _ h=>h) (fun key v g=>g)))
     have HE76:Hid (Eff (RM br bk bps) W7 W6):=Eff.of_grown hg6 (.inr (.inl rfl))
     have hfin:Hid (AtR2 W cs br bk bps F ws m n (.returned (.pointer (some ⟨b,0,none⟩))) W6):=
      ⟨some b,F2,ws,m+1,rfl,H6.out,HG4.out,HEW7.out.trans HE76.out (fun _ h=> .inl h), .inr (.inr ⟨by rw [HA.out]; omega,HQ.out,rfl, .inr rfl⟩),(fun h=>by cases h),(fun b' hb'=>by
       cases hb'
       obtain ⟨g1,g2,g3⟩:=HD7.out.eff HE76.out (fun _ h=>h)
       exact ⟨g1,g2,g3.congr fun k hk=>yc4 Hn.out.1 Hn.out.2 hk⟩),fun _ _=>⟨by rw [HV.out]; exact HK6.out,fun h=>absurd (by rw [HV.out] at h; exact h) HNK.out⟩⟩
     have hc6:Hid (∀w,w=W7∨w=W6→w.cell? ⟨br,2,none⟩=some (.map (some bk))∧(ydp (.pointer (some ⟨w2.heap.size,0,none⟩))).run Tryz.prog w= .ok V w):=by
      intro w hw
      have e7:=HE3d.out.trans HE97.out (fun _ h=> .inl h)
      rcases hw with rfl | rfl
      ·exact ⟨h7.x.known,HLD.out _ e7⟩
      ·exact ⟨H6.out.x.known,HLD.out _ (e7.trans HE76.out (fun _ h=> .inl h))⟩
     have HW7:Hid (W7=W5.drew):=hW7.symm
     clear h5 hE5 hW5 hB7 h7 hk7 hM5 hM6 hg6 hW7 km fzm
     refine wp_region_held_drew (S:=fun w=>Hid (w=W7∨w=W6)) (by kernel_rfl) (hid (.inl HW7.out.symm)) (fun hHeld=>?_)
     refine zhF 0 (hc6.out) ?_
     refine zhF 1 (hc6.out) ?_
     refine zhF 2 (hc6.out) ?_
     refine zhF 3 (hc6.out) ?_
     refine zhF 4 (hc6.out) ?_
     refine zhF 5 (hc6.out) ?_
     refine zzK 6 (fun K hK=>?_)
     rw [←HW7.out]
     go_simp
     refine hK.out _ _ (hid (.inr rfl)) (fun hHeld=>?_)
     clear hK K
     refine wpAnyH_done (by kernel_rfl) ?_ _
     clear hHeld
     go_wp2
     go_ret
     exact hfin.out
    ·have hkd:((k:Int) == 256)=false:=by simp [hk]
     have Hk:=hid hk
     clear hk
     go_upto_region 11 with fail
     refine wp_region_held_drew (S:=fun w=>Hid (Wd=w)) (by kernel_rfl) HWd (fun hHeld=>?_)
     refine zhC 0 ?_
     refine zhC 1 ?_
     refine zhC 2 ?_
     refine zhC 3 ?_
     refine zhC 4 ?_
     refine zhC 5 ?_
     refine zhC 6 ?_
     refine zhC 7 ?_
     refine zhC 8 ?_
     refine zhC 9 ?_
     refine zhC 10 ?_
     refine wpAnyH_done (by kernel_rfl) ?_ _
     rw [←HWd.out]
     clear hHeld
     go_upto_region 15 with fail
     obtain ⟨W2,hW2⟩:∃W2,Wd=W2:=⟨_,rfl⟩
     have H2:Hid (RollS W2 cs br bk bps F ws m):=by rw [←hW2]; exact HD.out
     have HP2:Hid (MapS K8 (G8 cs Wd F (RM br bk bps)) W2 bk 255):=by
      rw [←hW2]; exact HPk.out.mono (by have:=Hkk.out; have:=Hk.out; omega) (fun _ h=>h) (fun _ _ h=>h)
     have HE9:Hid (Eff (RM br bk bps) Wd W2):=by rw [←hW2]; exact Eff.refl _ _
     rw [hW2]
     clear qk ql hkd k2 hld hW2
     have HEs:Hid (Eff (RM br bk bps) W3 W2):=HE3d.out.trans HE9.out (fun _ h=> .inl h)
     have HE2:Hid (Eff (RM br bk bps) W W2):=HEd.out.trans HE9.out (fun _ h=> .inl h)
     have hld2:=HLD.out W2 HEs.out
     have cm:=hid (cM.out F m W2 H2.out)
     rw [HV.out] at cm
     go_wp2_with fail
     refine cm.out.mono ?_
     rintro e w4 ⟨b,F2,rfl,hr4,hG4,hd4,hE4,hk4⟩
     have HR4:=hid hr4
     have HG4:Hid (GrF F F2 W):=(GrF.refl _ _).trans hG4 HE2.out.size
     have HD4:=hid hd4
     have HE4:=hid hE4
     have HK4:=hid hk4
     clear hr4 hG4 hd4 hE4 hk4 hld2 cm
     have km:=HR4.out.many
     have fzm:=HR4.out.x.fz 260
     have hm1:(m:Int) < 4611686018427387904:=by have:=Hm.out; omega
     have Em:Hid (((m:Int)+1)= ((m+1:Nat):Int)):=by show _ = _; omega
     go_upto_region 17 with fail
     rw [Em.out]
     obtain ⟨W5,hW5⟩:∃W5,w4.setCell ⟨br,260,none⟩ (.int .i64 ((m+1:Nat):Int))=W5:=⟨_,rfl⟩
     have h5:=HR4.out.setMany (m+1)
     have hE5:Eff (fun x=>x=br) w4 W5:=by rw [←hW5]; exact (Eff.refl (fun x=>x=br) _).set rfl _ _
     rw [hW5] at h5⊢
     obtain ⟨W7,hW7⟩:∃W7,W5.drew=W7:=⟨_,rfl⟩
     have hB7:Below W5.heap.size W5 W7:=by rw [←hW7]; exact (Below.refl _ _).drew
     have h7:=h5.below hB7
     have HE47:Hid (Eff (RM br bk bps) w4 W7):=(hE5.wide (fun _ h=> .inl h)).trans (Eff.of_below hB7) (fun _ h=> .inl h)
     have HE97:Hid (Eff (RM br bk bps) Wd W7):=(HE9.out.trans HE4.out (fun _ h=> .inl h)).trans HE47.out (fun _ h=> .inl h)
     have HEW7:Hid (Eff (RM br bk bps) W W7):=HEd.out.trans HE97.out (fun _ h=> .inl h)
     have hk7:W7.heap[bk]? =W2.heap[bk]?:=by
      have hl5:=h5.known.lt
      exact (hB7.block bk hl5).trans ((hE5.block bk HR4.out.known.lt (fun e=>HR4.out.x.apart.1 e.symm)).trans HK4.out)
     have hM5:MapS K8 (G8 cs W7 F2 (RM br bk bps)) W7 bk 255:=(HP2.out.keep hk7).mono (zG _) (fun _ h=>h) (fun key v g=>g.eff HE97.out (HG4.out.sub))
     have HD7:Hid (DiF W7 F2 (RM br bk bps) b (ydI cs (stN cs n))):=HD4.out.eff HE47.out (fun _ h=>h)
     obtain ⟨W6,q6,hM6,hg6⟩:=hM5.update (yhd W7) (t:=148) (e:=105) (by rw [Tryz.underlying148]) HK8.out (v:= .pointer (some ⟨b,0,none⟩)) (fun x hx=>⟨b,rfl,HD7.out.1,HD7.out.2.1,HD7.out.2.2.congr fun k _=>yfN H8.out (st8_inj (HV.out.trans hx)) k⟩)
     have HK6:=hid (yfg hM5 HK8.out q6)
     replace q6:(updSt8 (.map (some bk)) V (.pointer (some ⟨b,0,none⟩))).run Tryz.prog W7= .ok () W6:=q6
     have H6:=hid (h7.mapKnown hg6 (hM6.mono (zG _) (fun _ h=>h) (fun key v g=>g)))
     have HE76:Hid (Eff (RM br bk bps) W7 W6):=Eff.of_grown hg6 (.inr (.inl rfl))
     have hfin:Hid (AtR2 W cs br bk bps F ws m n (.returned (.pointer (some ⟨b,0,none⟩))) W6):=
      ⟨some b,F2,ws,m+1,rfl,H6.out,HG4.out,HEW7.out.trans HE76.out (fun _ h=> .inl h), .inr (.inr ⟨by rw [HA.out]; omega,HQ.out,rfl, .inr rfl⟩),(fun h=>by cases h),(fun b' hb'=>by
       cases hb'
       obtain ⟨g1,g2,g3⟩:=HD7.out.eff HE76.out (fun _ h=>h)
       exact ⟨g1,g2,g3.congr fun k hk=>yc4 Hn.out.1 Hn.out.2 hk⟩),fun _ _=>⟨by rw [HV.out]; exact HK6.out,fun h=>absurd (by rw [HV.out] at h; exact h) HNK.out⟩⟩
     have hc6:Hid (∀w,w=W7∨w=W6→w.cell? ⟨br,2,none⟩=some (.map (some bk))∧(ydp (.pointer (some ⟨w2.heap.size,0,none⟩))).run Tryz.prog w= .ok V w):=by
      intro w hw
      have e7:=HE3d.out.trans HE97.out (fun _ h=> .inl h)
      rcases hw with rfl | rfl
      ·exact ⟨h7.x.known,HLD.out _ e7⟩
      ·exact ⟨H6.out.x.known,HLD.out _ (e7.trans HE76.out (fun _ h=> .inl h))⟩
     have HW7:Hid (W7=W5.drew):=hW7.symm
     clear h5 hE5 hW5 hB7 h7 hk7 hM5 hM6 hg6 hW7 km fzm
     refine wp_region_held_drew (S:=fun w=>Hid (w=W7∨w=W6)) (by kernel_rfl) (hid (.inl HW7.out.symm)) (fun hHeld=>?_)
     refine zhF 0 (hc6.out) ?_
     refine zhF 1 (hc6.out) ?_
     refine zhF 2 (hc6.out) ?_
     refine zhF 3 (hc6.out) ?_
     refine zhF 4 (hc6.out) ?_
     refine zhF 5 (hc6.out) ?_
     refine zzK 6 (fun K hK=>?_)
     rw [←HW7.out]
     go_simp
     refine hK.out _ _ (hid (.inr rfl)) (fun hHeld=>?_)
     clear hK K
     refine wpAnyH_done (by kernel_rfl) ?_ _
     clear hHeld
     go_wp2
     go_ret
     exact hfin.out
   ·obtain ⟨b,rfl,hdi⟩:=hv (stN cs n) HV.out.symm
    have hfin:Hid (AtR2 W cs br bk bps F ws m n (.returned (.pointer (some ⟨b,0,none⟩))) Wd):=⟨some b,F,ws,m,rfl,hd,GrF.refl _ _,HEd.out, .inr (.inr ⟨by rw [HA.out]; omega,HQ.out,rfl, .inl rfl⟩),(fun h=>by cases h),(fun b' hb'=>by cases hb'; exact ⟨hdi.1,hdi.2.1,hdi.2.2.congr fun k hk=>yc4 Hn.out.1 Hn.out.2 hk⟩),fun _ _=>⟨by rw [HV.out]; exact hhk,fun _=>rfl⟩⟩
    replace qk:(yh8 (.map (some bk)) V).run Tryz.prog Wd= .ok (.tuple #[.pointer (some ⟨b,0,none⟩), .bool true]) Wd:=qk
    clear hv hdi hP hd hK8 hhk
    go_upto_region 11 with fail
    refine wp_region_held_drew (S:=fun w=>Hid (Wd=w)) (by kernel_rfl) HWd (fun hHeld=>?_)
    refine zhC 0 ?_
    refine zhC 1 ?_
    refine zhC 2 ?_
    refine zhC 3 ?_
    refine zhC 4 ?_
    refine zhC 5 ?_
    refine zhC 6 ?_
    refine zhC 7 ?_
    refine zhC 8 ?_
    refine zhC 9 ?_
    refine zhC 10 ?_
    refine wpAnyH_done (by kernel_rfl) ?_ _
    rw [←HWd.out]
    clear hHeld
    go_wp2
    go_ret
    exact hfin.out
  ·obtain ⟨d,kd,hds,hdi⟩:=H3.out.whole A hA8
   have Hds:=hid hds
   have Hdi:=hid hdi
   clear hds hdi
   cases d with
   | some b=>
     replace kd:W3.cell? ⟨br,4+A,none⟩=some (.pointer (some ⟨b,0,none⟩)):=kd
     have hfin:Hid (AtR2 W cs br bk bps F ws m n (.returned (.pointer (some ⟨b,0,none⟩))) W3):=by
      have hw:ws A=true:=Hds.out.symm
      refine ⟨some b,F,ws,m,rfl,H3.out,GrF.refl _ _,Eff.of_below HB3.out, .inr (.inl ⟨by rw [HA.out]; omega,HQ.out,?_,?_⟩),(fun h=>by cases h),(fun b' hb'=>?_),fun _ h=>absurd HQ.out (by rw [h]; simp)⟩
      ·rw [HA.out]; exact (H3.out.ws_same hw).symm
      ·rw [HA.out,hw]; rfl
      ·cases hb'
       obtain ⟨g1,g2,g3⟩:=Hdi.out b rfl
       refine ⟨g1,g2,g3.congr fun k hk=>?_⟩
       rw [←HA.out,←yd7 H8.out HQ.out k,yc4 Hn.out.1 Hn.out.2 hk]
     go_wp2
     go_ret
     exact hfin.out
   | none=>
     replace kd:W3.cell? ⟨br,4+A,none⟩=some (.pointer none):=kd
     go_upto_region 8 with fail
     refine wp_region_held_drew (S:=fun w=>Hid (Eff (RM br bk bps) W3 w)) (by kernel_rfl) (hid (Eff.refl _ _).drew) (fun hHeld=>?_)
     refine zhF 0 (HLD.out) ?_
     refine zhF 1 (HLD.out) ?_
     refine zhF 2 (HLD.out) ?_
     refine zhF 3 (HLD.out) ?_
     refine zhF 5 (HLD.out) ?_
     refine zhF 6 (HLD.out) ?_
     refine zzK 4 (fun K hK=>?_)
     go_simp
     have hE3:=hHeld.out
     have hr3:=H3.out.below (Below.refl _ _).drew
     have cm:=cM.out F m _ hr3
     rw [HV.out] at cm
     refine cm.mono ?_
     clear cm
     rintro e w4 ⟨b,F2,rfl,hr4,hG4,hd4,hE4,-⟩
     have HS4:Hid (Eff (RM br bk bps) W3 w4):=hE3.trans hE4 (fun _ h=> .inl h)
     have HX4:=HS4
     have HG4:Hid (GrF F F2 W):=(GrF.refl _ _).trans hG4 (zI HB3.out.size hE3.size)
     have HE4:Hid (Eff (RM br bk bps) W w4):=((Eff.of_below HB3.out).trans hE3 (fun _ h=> .inl h)).trans hE4 (fun _ h=> .inl h)
     have HR4:=hid hr4
     have HD4:Hid (DiF w4 F2 (RM br bk bps) b (yeL cs A)):=⟨hd4.1,hd4.2.1,hd4.2.2.congr fun k hk=>by rw [←HA.out,yd7 H8.out HQ.out k]⟩
     clear hE3 hr3 hr4 hG4 hd4 hE4 hHeld
     (try go_wp2_with fail)
     refine hK.out _ _ HS4 (fun hHeld=>?_)
     clear hK K HS4
     try simp only [zP]
     refine zhE 7 ?_
     have kd4:w4.cell? ⟨br,4+A,none⟩=some (.pointer none):=by
      obtain ⟨d,g1,g2,-⟩:=HR4.out.whole A hA8
      rw [←Hds.out] at g2
      cases d with
      | none=>exact g1
      | some x=>cases g2
     have fz4:w4.frozen? ⟨br,4+A,none⟩=false:=HR4.out.x.fz _
     refine zzK 8 (fun K hK=>?_)
     go_simp
     obtain ⟨W5,hW5⟩:∃W5,w4.setCell ⟨br,4+A,none⟩ (.pointer (some ⟨b,0,none⟩))=W5:=⟨_,rfl⟩
     have h5:=HR4.out.setWhole hA8 HD4.out
     have hE5:Eff (RM br bk bps) w4 W5:=by rw [←hW5]; exact (Eff.refl _ _).set (.inl rfl) _ _
     rw [hW5] at h5⊢
     have HS5:Hid (Eff (RM br bk bps) W3 W5):=HX4.out.trans hE5 (fun _ h=> .inl h)
     have HC5:Hid (W5.cell? ⟨br,4+A,none⟩=some (.pointer (some ⟨b,0,none⟩))):=by
      show _ = _
      rw [←hW5]; simp [go_sem,kd4]
     have H5:=hid h5
     have HE5:Hid (Eff (RM br bk bps) W W5):=HE4.out.trans hE5 (fun _ h=> .inl h)
     have HD5:Hid (DiF W5 F2 (RM br bk bps) b (yeL cs A)):=HD4.out.eff hE5 (fun _ h=>h)
     clear h5 hE5 hW5 kd4 fz4
     refine hK.out _ _ HS5 (fun hHeld=>?_)
     clear hK K hHeld HS5
     refine wpAnyH_done (by kernel_rfl) ?_ _
     have km:=H5.out.many
     have fzm:=H5.out.x.fz 260
     have hm1:(m:Int) < 4611686018427387904:=by have:=Hm.out; omega
     have em:((m:Int)+1)= ((m+1:Nat):Int):=by omega
     have Em:=hid em
     clear em
     go_upto_region 10 with fail
     rw [Em.out]
     obtain ⟨W6,hW6⟩:∃W6,W5.setCell ⟨br,260,none⟩ (.int .i64 ((m+1:Nat):Int))=W6:=⟨_,rfl⟩
     have h6:=H5.out.setMany (m+1)
     have hE6:Eff (RM br bk bps) W5 W6:=by rw [←hW6]; exact (Eff.refl _ _).set (.inl rfl) _ _
     rw [hW6] at h6⊢
     have kd6:W6.cell? ⟨br,4+A,none⟩=some (.pointer (some ⟨b,0,none⟩)):=by
      rw [←hW6,zzL _ _ _ _ (by intro h; injection h with _ h _; omega)]
      exact HC5.out
     have hfin:Hid (AtR2 W cs br bk bps F ws m n (.returned (.pointer (some ⟨b,0,none⟩))) W6):=by
      have hw:ws A=false:=Hds.out.symm
      refine ⟨some b,F2,_,m+1,rfl,h6,HG4.out,HE5.out.trans hE6 (fun _ h=> .inl h), .inr (.inl ⟨by rw [HA.out]; omega,HQ.out,by rw [HA.out],by rw [HA.out,hw]; rfl⟩),(fun h=>by cases h),(fun b' hb'=>?_),fun _ h=>absurd HQ.out (by rw [h]; simp)⟩
      cases hb'
      obtain ⟨g1,g2,g3⟩:=HD5.out.eff hE6 (fun _ h=>h)
      exact ⟨g1,g2,g3.congr fun k hk=>by rw [←HA.out,←yd7 H8.out HQ.out k,yc4 Hn.out.1 Hn.out.2 hk]⟩
     clear h6 hE6 hW6 km fzm
     go_wp2
     go_ret
     exact hfin.out
theorem RAt_any {W:World} {cs:List Cl} {br bk:Nat} {bps:List Nat} {F:Blk} {ws:Nat→Bool} {m:Nat} (n:Int) (h0:0≤n) (h1:n < 146097) (hm:m < 4611686018427387904) (h:RollS W cs br bk bps F ws m) :
  Calls Tryz.prog 106 #[.pointer (some ⟨br,0,none⟩),shN n] W (AtR W cs br bk bps F ws m n):=(RAt2_any n h0 h1 hm h).mono fun _ _ h=>h.at
end Go.Proofs.YtjahgimnfliooaaGreatDoor
