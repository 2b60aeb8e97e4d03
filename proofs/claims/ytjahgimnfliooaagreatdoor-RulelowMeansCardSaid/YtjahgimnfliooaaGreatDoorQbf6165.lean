/-
  roll.part: the disc of one clause's state.
-/
import Derived.Test.YtjahgimnfliooaaGreatDoorQ189cb8
import Derived.Test.YtjahgimnfliooaaGreatDoorQ4c1930
set_option maxRecDepth 100000
set_option maxHeartbeats 25600000
namespace Go.Proofs.YtjahgimnfliooaaGreatDoor
open Go.RowKit Go.Maps
set_option linter.unusedVariables false
structure GrF (F F':Blk) (W:World):Prop where
 sub:∀b,F b→F' b
 new:∀b,F' b→F b∨W.heap.size≤b
theorem GrF.refl (F:Blk) (W:World):GrF F F W:=⟨fun _ h=>h,fun _ h=> .inl h⟩
theorem GrF.trans {F F' F2:Blk} {W W':World} (h:GrF F F' W) (k:GrF F' F2 W') (hs:W.heap.size≤W'.heap.size):GrF F F2 W:=
 ⟨fun b hb=>k.sub b (h.sub b hb),fun b hb=>by
  rcases k.new b hb with h1 | h1
  ·exact h.new b h1
  ·exact .inr (by omega)⟩
def lookSt (v x:Value):Sem Value:=Instr.lookup 156 v x true
theorem look_st (v x:Value):Instr.lookup 156 v x true=lookSt v x:=rfl
def lenSt (v:Value):Sem Value:=Builtin.len_ #[156] 3 #[v]
theorem len_st (v:Value):Builtin.len_ #[156] 3 #[v]=lenSt v:=rfl
def updSt (v x y:Value):Sem Unit:=Instr.mapUpdate 156 v x y
theorem upd_st (v x y:Value):Instr.mapUpdate 156 v x y=updSt v x y:=rfl
attribute [local go_sem ↓] look_st len_st upd_st yaC
theorem K1.of {s:St1} (h:s.Ok):K1 s.v:=⟨s,rfl,h⟩
theorem SlF.at {W:World} {F M:Blk} {a:Option Addr} {cells:List Value} (h:SlF W F M a cells) {j:Nat} (hj:j < cells.length):∃b off,a=some ⟨b,off,none⟩∧b < W.heap.size∧F b∧¬M b∧∀j (h:j < cells.length),W.cell? ⟨b,off+j,none⟩=some cells[j]:=by
 rcases h with h | ⟨b,off,h1,h2,h3,h4,h5⟩
 ·rw [h] at hj; exact absurd hj (by simp)
 ·exact ⟨b,off,h1,h4,h2,h3,h5⟩
theorem RPart_any {W:World} {cs:List Cl} {br bk:Nat} {bps:List Nat} {F:Blk} {ws:Nat→Bool} {m:Nat} (i:Nat) (s:St1) (hi:i < cs.length) (hs:s.Ok) (h:RollS W cs br bk bps F ws m) :
  Calls Tryz.prog 182 #[.pointer (some ⟨br,0,none⟩), .int .i64 i,s.v] W fun e W'=>∃b F',e= .returned (.pointer (some ⟨b,0,none⟩))∧RollS W' cs br bk bps F' ws m∧GrF F F' W∧DiF W' F' (RM br bk bps) b (secQ (atC cs i) s.a s.f s.u s.p)∧Eff (RM br bk bps) W W'∧W'.heap[bk]? =W.heap[bk]?:=by
 obtain ⟨W1,hW1⟩:∃W1,W.alloc (.cells s.l.toArray 203)=W1:=⟨_,rfl⟩
 have hB1:Below W.heap.size W W1:=by rw [←hW1]; exact yaa (Below.refl _ _) (zG _)
 have hl1:W.heap.size < W1.heap.size:=by rw [←hW1]; simp
 obtain ⟨Wd,hWd⟩:∃Wd,W1.drew=Wd:=⟨_,rfl⟩
 have hBd:Below W1.heap.size W1 Wd:=by rw [←hWd]; exact (Below.refl _ _).drew
 have h1:=(h.below hB1).below hBd
 have hBs:Below W.heap.size W Wd:=hB1.trans (hBd.mono hB1.size)
 obtain ⟨a3,c3,k3,s3⟩:=h1.x.parts
 have hil:i < bps.length:=by rw [h.x.len]; exact hi
 obtain ⟨b3,o3,rfl,l3,f3,n3,g3⟩:=s3.at (j:=i) (by simpa using hil)
 have g3i:=g3 i (by simpa using hil)
 rw [List.getElem_map] at g3i
 have x0:Wd.cell? ⟨W.heap.size,0,none⟩=some (.bool s.a):=(hBd.cell (p:=⟨W.heap.size,0,none⟩) hl1).trans (by rw [←hW1]; simp [go_sem])
 have x1:Wd.cell? ⟨W.heap.size,1,none⟩=some (.int .i64 s.f):=(hBd.cell (p:=⟨W.heap.size,1,none⟩) hl1).trans (by rw [←hW1]; simp [go_sem])
 have x2:Wd.cell? ⟨W.heap.size,2,none⟩=some (.int .i64 s.u):=(hBd.cell (p:=⟨W.heap.size,2,none⟩) hl1).trans (by rw [←hW1]; simp [go_sem])
 have x3:Wd.cell? ⟨W.heap.size,3,none⟩=some (.int .i64 s.p):=(hBd.cell (p:=⟨W.heap.size,3,none⟩) hl1).trans (by rw [←hW1]; simp [go_sem])
 have g3j:Wd.cell? ⟨b3,o3+i,none⟩=some (.map (some (bps.getD i 0))):=by rw [g3i,List.getD_eq_getElem?_getD,zzp hil]; rfl
 obtain ⟨n,hnn⟩:∃n,cs.length=n:=⟨_,rfl⟩
 have hn:i < n:=by omega
 rw [hnn] at k3
 have hP:=h1.parts i hi
 have hup:=fun (W':World) (hg:Wd.grownBy W' (some (bps.getD i 0))) (hM:MapS K1 (G1 (atC cs i) Wd F (RM br bk bps)) W' (bps.getD i 0) 256)=>h1.mapPart hi hg hM
 obtain ⟨bp,hbp⟩:∃bp,bps.getD i 0=bp:=⟨_,rfl⟩
 have HBP:bp < W.heap.size∧RM br bk bps bp∧br≠bp∧b3≠bp:=by
  rw [←hbp]
  refine ⟨(h.parts i hi).lt,h.mem hi,fun e=>?_,fun e=>n3 (by rw [e]; exact h.mem hi)⟩
  exact h.x.apart.2.1 (by rw [e]; exact ydt hil)
 have HBK:Hid (bk < W.heap.size∧bk≠bp):=⟨h.known.lt,fun e=>h.x.apart.2.2.1 (by rw [e,←hbp]; exact ydt hil)⟩
 rw [hbp] at g3j hP hup
 have Hbpe:=hid hbp
 clear hbp
 have HW1:=hid hW1
 have HWd:Hid (Wd=W1.drew):=hWd.symm
 clear hW1 hWd
 rcases hP.lookup (keyT1 Wd) (t:=156) (by rw [Tryz.underlying156]) (z:= .pointer none) (by rfl) true (K1.of hs) with q | ⟨v,hv,q⟩
 ·obtain ⟨k,hk,hPk,ql⟩:=hP.count (t:=156) (by rw [Tryz.underlying156]) 3
  replace q:(lookSt (.map (some bp)) (.agg #[.bool s.a, .int .i64 s.f, .int .i64 s.u, .int .i64 s.p])).run Tryz.prog Wd= .ok (.tuple #[.pointer none, .bool false]) Wd:=q
  replace ql:(lenSt (.map (some bp))).run Tryz.prog Wd= .ok (.int .i64 k) Wd:=ql
  have hP9:=hid hP
  have Hup:=hid hup
  have H1:=hid h1
  have HBs:=hid hBs
  have HPk:=hid hPk
  have Hhs:=hid hs
  have hslt:Hid (W.heap.size < Wd.heap.size):=zH hl1 hBd.size
  have Hbp:Hid (bp < W.heap.size∧RM br bk bps bp∧br≠bp∧b3≠bp):=HBP
  have Hi:=hid hi
  have Hkk:=hid hk
  clear g3i g3 h h1 hP hup hil hB1 hBd hBs f3 n3 hPk hs s3 hi hk hl1 HBP
  by_cases hk:(k:Int)=256
  ·have hkd:((k:Int) == 256)=true:=by rw [hk]; rfl
   have Hk:=hid hk
   clear hk
   go_enter Tryz.func182,Tryz.ntmps182
   go_wp2_with fail
   rw [HW1.out]
   refine wp_region_held_drew (S:=fun w=>Hid (Wd=w)) (by kernel_rfl) HWd (fun hHeld=>?_)
   refine zhC 0 ?_
   refine zhC 1 ?_
   refine zhC 2 ?_
   refine zhC 3 ?_
   refine zhC 4 ?_
   refine zhC 5 ?_
   refine zhC 6 ?_
   refine zhC 7 ?_
   refine zhC 8 ?_
   refine zhC 9 ?_
   refine zhC 10 ?_
   refine zhC 11 ?_
   refine zhC 12 ?_
   refine zhC 13 ?_
   refine wpAnyH_done (by kernel_rfl) ?_ _
   rw [←HWd.out]
   clear hHeld
   go_wp2_with (with_reducible refine ydw (t:=156) (.tmp 38) rfl rfl Tryz.underlying156 hP9.out rfl ?_)
   intro W2 hM2 hg2
   have H2:=hid (Hup.out W2 hg2 (hM2.mono (by omega) (fun _ h=>h) (fun _ _ h=>h)))
   have HP2:Hid (MapS K1 (G1 (atC cs i) Wd F (RM br bk bps)) W2 bp 255):=hM2.mono (by omega) (fun _ h=>h) (fun _ _ h=>h)
   have kc:∀b o,b < Wd.heap.size→b≠bp→W2.cell? ⟨b,o,none⟩=Wd.cell? ⟨b,o,none⟩:=fun b o hb hn=>zzJ (w:=Wd) (a:=⟨b,o,none⟩) (hg2.block b hb (fun e=>hn (Option.some.inj e)))
   have hne:W.heap.size≠bp:=by have:=Hbp.out.1; omega
   have hss:W.heap.size < W2.heap.size:=zH hslt.out hg2.size
   have HE2:Hid (Eff (RM br bk bps) W W2):=(Eff.of_below HBs.out).trans (Eff.of_grown hg2 Hbp.out.2.1) (fun _ h=> .inl h)
   replace k3:=(kc br 3 H1.out.rlt Hbp.out.2.2.1).trans k3
   replace g3j:=(kc b3 _ l3 Hbp.out.2.2.2).trans g3j
   replace x0:=(kc _ _ hslt.out hne).trans x0
   replace x1:=(kc _ _ hslt.out hne).trans x1
   replace x2:=(kc _ _ hslt.out hne).trans x2
   replace x3:=(kc _ _ hslt.out hne).trans x3
   have HE9:Hid (Eff (RM br bk bps) Wd W2):=Eff.of_grown hg2 Hbp.out.2.1
   have HK2:Hid (W2.heap[bk]? =W.heap[bk]?):=(hg2.block bk (zH HBK.out.1 HBs.out.size) (fun e=>HBK.out.2 (Option.some.inj e))).trans (HBs.out.block bk HBK.out.1)
   have hl3:b3 < W2.heap.size:=zH l3 hg2.size
   have HL3:=hid hl3
   have hrl:=hid (H2.out.rlt)
   clear kc hM2 hg2 q ql hkd l3 hl3
   go_wp2_with fail
   obtain ⟨a0,c0,k0,s0,-,-⟩:=H2.out.x.cls
   obtain ⟨b0,o0,rfl,l0,r0⟩:=s0.sl.atCl (k:=i) Hi.out
   rw [←ycu Hi.out] at r0
   rw [hnn] at k0
   have cS:=hid (fun W hT=>yev (atC cs i) s.a s.f s.u s.p W (by rw [ycu Hi.out]; exact H2.out.x.ok _ (zzr Hi.out)) hT)
   have hc:Hid (∀w,Below W2.heap.size W2 w→w.cell? ⟨br,0,none⟩=some (.slice (some ⟨b0,o0,none⟩) n c0)∧(ybi (.pointer (some ⟨b0,o0+i * 30,none⟩))).run Tryz.prog w= .ok (clv (atC cs i)) w∧w.cell? ⟨br,3,none⟩=some (.slice (some ⟨b3,o3,none⟩) n c3)∧w.cell? ⟨b3,o3+i,none⟩=some (.map (some bp))∧
     w.cell? ⟨W.heap.size,0,none⟩=some (.bool s.a)∧w.cell? ⟨W.heap.size,1,none⟩=some (.int .i64 s.f)∧w.cell? ⟨W.heap.size,2,none⟩=some (.int .i64 s.u)∧w.cell? ⟨W.heap.size,3,none⟩=some (.int .i64 s.p)):=fun w hw=>
    ⟨(hw.cell (p:=⟨br,0,none⟩) hrl.out).trans k0,yjZ (ybS r0 hw l0),(hw.cell (p:=⟨br,3,none⟩) hrl.out).trans k3,(hw.cell (p:=⟨b3,o3+i,none⟩) HL3.out).trans g3j,(hw.cell (p:=⟨W.heap.size,0,none⟩) hss).trans x0,(hw.cell (p:=⟨W.heap.size,1,none⟩) hss).trans x1,(hw.cell (p:=⟨W.heap.size,2,none⟩) hss).trans x2,(hw.cell (p:=⟨W.heap.size,3,none⟩) hss).trans x3⟩
   have HT2:=hid H2.out.x.tab.1
   have Hss:=hid hss
   clear k0 s0 l0 r0 k3 g3j x0 x1 x2 x3 hss
   refine wp_region_held_drew (S:=fun w=>Hid (Below W2.heap.size W2 w)) (by kernel_rfl) (hid (Below.refl _ _).drew) (fun hHeld=>?_)
   refine zhF 0 (hc.out) ?_
   refine zhF 1 (hc.out) ?_
   refine zhF 2 (hc.out) ?_
   refine zhF 3 (hc.out) ?_
   refine zhF 4 (hc.out) ?_
   refine zhF 5 (hc.out) ?_
   refine zhF 6 (hc.out) ?_
   refine zhF 7 (hc.out) ?_
   refine zzK 8 (fun K hK=>?_)
   go_simp
   refine (cS.out _ (HT2.out.later hHeld.out)).mono ?_
   rintro e w4 ⟨b,rfl,hle,hD,hB4⟩
   have hH4:Hid (Below W2.heap.size W2 w4):=hHeld.out.trans (hB4.mono hHeld.out.size)
   have HD:=hid hD
   have HL:Hid (W2.heap.size≤b):=zI hHeld.out.size hle
   clear hB4 hD hle
   (try go_wp2_with fail)
   refine hK.out _ _ hH4 (fun hHeld=>?_)
   clear hK K hH4
   try simp only [zP]
   refine zhF 9 (hc.out) ?_
   refine wpAnyH_done (by kernel_rfl) ?_ _
   have HB4:=hHeld
   clear hHeld
   obtain ⟨W5,hW5⟩:∃W5,w4.drew=W5:=⟨_,rfl⟩
   have HW5:Hid (W5=w4.drew):=hW5.symm
   clear hW5
   have HB5:Hid (Below W2.heap.size W2 W5):=by rw [HW5.out]; exact HB4.out.drew
   have HD5:Hid (DiscAt W5 b (secQ (atC cs i) s.a s.f s.u s.p)):=by rw [HW5.out]; exact HD.out.below (Below.refl _ _).drew HD.out.lt
   have hH5:=(H2.out.below HB5.out).wide (F':=fun x=>F x∨x=b) (fun _ h=> .inl h) (fun x hx=>by
    rcases hx with hx | rfl
    ·exact zH (H2.out.x.lt x hx) HB5.out.size
    ·exact HD5.out.lt)
   have hdi:DiF W5 (fun x=>F x∨x=b) (RM br bk bps) b (secQ (atC cs i) s.a s.f s.u s.p):=⟨.inr rfl,fun hm=>by have:=H2.out.x.lt b (H2.out.x.sub b hm); have:=HL.out; omega,HD5.out⟩
   have HE95:Hid (Eff (RM br bk bps) Wd W5):=HE9.out.trans (Eff.of_below HB5.out) (fun _ h=> .inl h)
   have hM5:MapS K1 (G1 (atC cs i) W5 (fun x=>F x∨x=b) (RM br bk bps)) W5 bp 255:=(HP2.out.keep (HB5.out.block bp (HP2.out.lt))).mono (zG _) (fun _ h=>h) (fun key v g=>g.eff HE95.out (fun _ h=> .inl h))
   obtain ⟨W6,q6,hM6,hg6⟩:=hM5.update (keyT1 W5) (t:=156) (e:=105) (by rw [Tryz.underlying156]) (K1.of Hhs.out) (v:= .pointer (some ⟨b,0,none⟩)) (fun x hx=>⟨b,rfl,by have:=st1_inj hx; subst this; exact hdi⟩)
   replace q6:(updSt (.map (some bp)) (.agg #[.bool s.a, .int .i64 s.f, .int .i64 s.u, .int .i64 s.p]) (.pointer (some ⟨b,0,none⟩))).run Tryz.prog W5= .ok () W6:=q6
   have H6:Hid (RollS W6 cs br bk bps (fun x=>F x∨x=b) ws m):=by
    refine hH5.mapPart Hi.out (by rw [Hbpe.out]; exact hg6) (by rw [Hbpe.out]; exact hM6.mono (zG _) (fun _ h=>h) (fun key v g=>g.eff (Eff.refl _ _) (fun _ h=>h)))
   have HD6:Hid (DiF W6 (fun x=>F x∨x=b) (RM br bk bps) b (secQ (atC cs i) s.a s.f s.u s.p)):=hdi.eff (Eff.of_grown hg6 Hbp.out.2.1) (fun _ h=>h)
   have HE6:Hid (Eff (RM br bk bps) W W6):=(HE2.out.trans (Eff.of_below HB5.out) (fun _ h=> .inl h)).trans (Eff.of_grown hg6 Hbp.out.2.1) (fun _ h=> .inl h)
   have HL':Hid (W.heap.size≤b):=zI HE2.out.size HL.out
   have HK6:Hid (W6.heap[bk]? =W.heap[bk]?):=by
    have hk2:bk < W2.heap.size:=zH HBK.out.1 HE2.out.size
    exact (hg6.block bk (zH hk2 HB5.out.size) (fun e=>HBK.out.2 (Option.some.inj e))).trans ((HB5.out.block bk hk2).trans HK2.out)
   have h5:=hc.out W5 HB5.out
   have hc6:Hid (∀w,w=W5∨w=W6→w.cell? ⟨br,0,none⟩=some (.slice (some ⟨b0,o0,none⟩) n c0)∧True∧w.cell? ⟨br,3,none⟩=some (.slice (some ⟨b3,o3,none⟩) n c3)∧w.cell? ⟨b3,o3+i,none⟩=some (.map (some bp))∧
     w.cell? ⟨W.heap.size,0,none⟩=some (.bool s.a)∧w.cell? ⟨W.heap.size,1,none⟩=some (.int .i64 s.f)∧w.cell? ⟨W.heap.size,2,none⟩=some (.int .i64 s.u)∧w.cell? ⟨W.heap.size,3,none⟩=some (.int .i64 s.p)):=by
    have hs5:=HB5.out.size
    have kc:∀b o,b < W5.heap.size→b≠bp→W6.cell? ⟨b,o,none⟩=W5.cell? ⟨b,o,none⟩:=fun b o hb hn=>zzJ (w:=W5) (a:=⟨b,o,none⟩) (hg6.block b hb (fun e=>hn (Option.some.inj e)))
    have hbW:W.heap.size < W5.heap.size:=zH Hss.out hs5
    have hne:W.heap.size≠bp:=by have:=Hbp.out.1; omega
    have hbr:br < W5.heap.size:=zH hrl.out hs5
    intro w hw
    rcases hw with rfl | rfl
    ·exact ⟨h5.1,trivial,h5.2.2⟩
    ·exact ⟨(kc br _ hbr Hbp.out.2.2.1).trans h5.1,trivial,(kc br _ hbr Hbp.out.2.2.1).trans h5.2.2.1,(kc b3 _ (zH HL3.out hs5) Hbp.out.2.2.2).trans h5.2.2.2.1,(kc _ _ hbW hne).trans h5.2.2.2.2.1,(kc _ _ hbW hne).trans h5.2.2.2.2.2.1,(kc _ _ hbW hne).trans h5.2.2.2.2.2.2.1,(kc _ _ hbW hne).trans h5.2.2.2.2.2.2.2⟩
   clear h5 hg6 hM6 hM5 hdi hH5
   go_wp2_with fail
   refine wp_region_held_drew (S:=fun w=>Hid (w=W5∨w=W6)) (by kernel_rfl) (hid (.inl HW5.out.symm)) (fun hHeld=>?_)
   refine zhF 0 (hc6.out) ?_
   refine zhF 1 (hc6.out) ?_
   refine zhF 2 (hc6.out) ?_
   refine zhF 3 (hc6.out) ?_
   refine zhF 4 (hc6.out) ?_
   refine zhF 5 (hc6.out) ?_
   refine zhF 6 (hc6.out) ?_
   refine zhF 7 (hc6.out) ?_
   refine zhF 8 (hc6.out) ?_
   refine zzK 9 (fun K hK=>?_)
   rw [←HW5.out]
   go_simp
   refine hK.out _ _ (hid (.inr rfl)) (fun hHeld=>?_)
   clear hK K
   refine wpAnyH_done (by kernel_rfl) ?_ _
   clear hHeld
   go_wp2
   go_ret
   exact ⟨b,_,rfl,H6.out,⟨fun _ h=> .inl h,fun x hx=>hx.imp id (fun e=>by rw [e]; exact HL'.out)⟩,HD6.out,HE6.out,HK6.out⟩
  ·have hkd:((k:Int) == 256)=false:=by simp [hk]
   have Hk:=hid hk
   clear hk
   go_enter Tryz.func182,Tryz.ntmps182
   go_wp2_with fail
   rw [HW1.out]
   refine wp_region_held_drew (S:=fun w=>Hid (Wd=w)) (by kernel_rfl) HWd (fun hHeld=>?_)
   refine zhC 0 ?_
   refine zhC 1 ?_
   refine zhC 2 ?_
   refine zhC 3 ?_
   refine zhC 4 ?_
   refine zhC 5 ?_
   refine zhC 6 ?_
   refine zhC 7 ?_
   refine zhC 8 ?_
   refine zhC 9 ?_
   refine zhC 10 ?_
   refine zhC 11 ?_
   refine zhC 12 ?_
   refine zhC 13 ?_
   refine wpAnyH_done (by kernel_rfl) ?_ _
   rw [←HWd.out]
   clear hHeld
   go_wp2_with fail
   obtain ⟨W2,hW2⟩:∃W2,Wd=W2:=⟨_,rfl⟩
   have H2:Hid (RollS W2 cs br bk bps F ws m):=by rw [←hW2]; exact H1.out
   have HP2:Hid (MapS K1 (G1 (atC cs i) Wd F (RM br bk bps)) W2 bp 255):=by
    rw [←hW2]; exact HPk.out.mono (by have:=Hkk.out; have:=Hk.out; omega) (fun _ h=>h) (fun _ _ h=>h)
   have hss:W.heap.size < W2.heap.size:=by rw [←hW2]; exact hslt.out
   have HE2:Hid (Eff (RM br bk bps) W W2):=by rw [←hW2]; exact Eff.of_below HBs.out
   have HK2:Hid (W2.heap[bk]? =W.heap[bk]?):=by rw [←hW2]; exact HBs.out.block bk HBK.out.1
   have HE9:Hid (Eff (RM br bk bps) Wd W2):=by rw [←hW2]; exact Eff.refl _ _
   have HL3:Hid (b3 < W2.heap.size):=by rw [←hW2]; exact l3
   have hrl:Hid (br < W2.heap.size):=H2.out.rlt
   rw [hW2] at k3 g3j x0 x1 x2 x3
   rw [hW2]
   clear q ql hkd l3 hW2
   obtain ⟨a0,c0,k0,s0,-,-⟩:=H2.out.x.cls
   obtain ⟨b0,o0,rfl,l0,r0⟩:=s0.sl.atCl (k:=i) Hi.out
   rw [←ycu Hi.out] at r0
   rw [hnn] at k0
   have cS:=hid (fun W hT=>yev (atC cs i) s.a s.f s.u s.p W (by rw [ycu Hi.out]; exact H2.out.x.ok _ (zzr Hi.out)) hT)
   have hc:Hid (∀w,Below W2.heap.size W2 w→w.cell? ⟨br,0,none⟩=some (.slice (some ⟨b0,o0,none⟩) n c0)∧(ybi (.pointer (some ⟨b0,o0+i * 30,none⟩))).run Tryz.prog w= .ok (clv (atC cs i)) w∧w.cell? ⟨br,3,none⟩=some (.slice (some ⟨b3,o3,none⟩) n c3)∧w.cell? ⟨b3,o3+i,none⟩=some (.map (some bp))∧
     w.cell? ⟨W.heap.size,0,none⟩=some (.bool s.a)∧w.cell? ⟨W.heap.size,1,none⟩=some (.int .i64 s.f)∧w.cell? ⟨W.heap.size,2,none⟩=some (.int .i64 s.u)∧w.cell? ⟨W.heap.size,3,none⟩=some (.int .i64 s.p)):=fun w hw=>
    ⟨(hw.cell (p:=⟨br,0,none⟩) hrl.out).trans k0,yjZ (ybS r0 hw l0),(hw.cell (p:=⟨br,3,none⟩) hrl.out).trans k3,(hw.cell (p:=⟨b3,o3+i,none⟩) HL3.out).trans g3j,(hw.cell (p:=⟨W.heap.size,0,none⟩) hss).trans x0,(hw.cell (p:=⟨W.heap.size,1,none⟩) hss).trans x1,(hw.cell (p:=⟨W.heap.size,2,none⟩) hss).trans x2,(hw.cell (p:=⟨W.heap.size,3,none⟩) hss).trans x3⟩
   have HT2:=hid H2.out.x.tab.1
   have Hss:=hid hss
   clear k0 s0 l0 r0 k3 g3j x0 x1 x2 x3 hss
   refine wp_region_held_drew (S:=fun w=>Hid (Below W2.heap.size W2 w)) (by kernel_rfl) (hid (Below.refl _ _).drew) (fun hHeld=>?_)
   refine zhF 0 (hc.out) ?_
   refine zhF 1 (hc.out) ?_
   refine zhF 2 (hc.out) ?_
   refine zhF 3 (hc.out) ?_
   refine zhF 4 (hc.out) ?_
   refine zhF 5 (hc.out) ?_
   refine zhF 6 (hc.out) ?_
   refine zhF 7 (hc.out) ?_
   refine zzK 8 (fun K hK=>?_)
   go_simp
   refine (cS.out _ (HT2.out.later hHeld.out)).mono ?_
   rintro e w4 ⟨b,rfl,hle,hD,hB4⟩
   have hH4:Hid (Below W2.heap.size W2 w4):=hHeld.out.trans (hB4.mono hHeld.out.size)
   have HD:=hid hD
   have HL:Hid (W2.heap.size≤b):=zI hHeld.out.size hle
   clear hB4 hD hle
   (try go_wp2_with fail)
   refine hK.out _ _ hH4 (fun hHeld=>?_)
   clear hK K hH4
   try simp only [zP]
   refine zhF 9 (hc.out) ?_
   refine wpAnyH_done (by kernel_rfl) ?_ _
   have HB4:=hHeld
   clear hHeld
   obtain ⟨W5,hW5⟩:∃W5,w4.drew=W5:=⟨_,rfl⟩
   have HW5:Hid (W5=w4.drew):=hW5.symm
   clear hW5
   have HB5:Hid (Below W2.heap.size W2 W5):=by rw [HW5.out]; exact HB4.out.drew
   have HD5:Hid (DiscAt W5 b (secQ (atC cs i) s.a s.f s.u s.p)):=by rw [HW5.out]; exact HD.out.below (Below.refl _ _).drew HD.out.lt
   have hH5:=(H2.out.below HB5.out).wide (F':=fun x=>F x∨x=b) (fun _ h=> .inl h) (fun x hx=>by
    rcases hx with hx | rfl
    ·exact zH (H2.out.x.lt x hx) HB5.out.size
    ·exact HD5.out.lt)
   have hdi:DiF W5 (fun x=>F x∨x=b) (RM br bk bps) b (secQ (atC cs i) s.a s.f s.u s.p):=⟨.inr rfl,fun hm=>by have:=H2.out.x.lt b (H2.out.x.sub b hm); have:=HL.out; omega,HD5.out⟩
   have HE95:Hid (Eff (RM br bk bps) Wd W5):=HE9.out.trans (Eff.of_below HB5.out) (fun _ h=> .inl h)
   have hM5:MapS K1 (G1 (atC cs i) W5 (fun x=>F x∨x=b) (RM br bk bps)) W5 bp 255:=(HP2.out.keep (HB5.out.block bp (HP2.out.lt))).mono (zG _) (fun _ h=>h) (fun key v g=>g.eff HE95.out (fun _ h=> .inl h))
   obtain ⟨W6,q6,hM6,hg6⟩:=hM5.update (keyT1 W5) (t:=156) (e:=105) (by rw [Tryz.underlying156]) (K1.of Hhs.out) (v:= .pointer (some ⟨b,0,none⟩)) (fun x hx=>⟨b,rfl,by have:=st1_inj hx; subst this; exact hdi⟩)
   replace q6:(updSt (.map (some bp)) (.agg #[.bool s.a, .int .i64 s.f, .int .i64 s.u, .int .i64 s.p]) (.pointer (some ⟨b,0,none⟩))).run Tryz.prog W5= .ok () W6:=q6
   have H6:Hid (RollS W6 cs br bk bps (fun x=>F x∨x=b) ws m):=by
    refine hH5.mapPart Hi.out (by rw [Hbpe.out]; exact hg6) (by rw [Hbpe.out]; exact hM6.mono (zG _) (fun _ h=>h) (fun key v g=>g.eff (Eff.refl _ _) (fun _ h=>h)))
   have HD6:Hid (DiF W6 (fun x=>F x∨x=b) (RM br bk bps) b (secQ (atC cs i) s.a s.f s.u s.p)):=hdi.eff (Eff.of_grown hg6 Hbp.out.2.1) (fun _ h=>h)
   have HE6:Hid (Eff (RM br bk bps) W W6):=(HE2.out.trans (Eff.of_below HB5.out) (fun _ h=> .inl h)).trans (Eff.of_grown hg6 Hbp.out.2.1) (fun _ h=> .inl h)
   have HL':Hid (W.heap.size≤b):=zI HE2.out.size HL.out
   have HK6:Hid (W6.heap[bk]? =W.heap[bk]?):=by
    have hk2:bk < W2.heap.size:=zH HBK.out.1 HE2.out.size
    exact (hg6.block bk (zH hk2 HB5.out.size) (fun e=>HBK.out.2 (Option.some.inj e))).trans ((HB5.out.block bk hk2).trans HK2.out)
   have h5:=hc.out W5 HB5.out
   have hc6:Hid (∀w,w=W5∨w=W6→w.cell? ⟨br,0,none⟩=some (.slice (some ⟨b0,o0,none⟩) n c0)∧True∧w.cell? ⟨br,3,none⟩=some (.slice (some ⟨b3,o3,none⟩) n c3)∧w.cell? ⟨b3,o3+i,none⟩=some (.map (some bp))∧
     w.cell? ⟨W.heap.size,0,none⟩=some (.bool s.a)∧w.cell? ⟨W.heap.size,1,none⟩=some (.int .i64 s.f)∧w.cell? ⟨W.heap.size,2,none⟩=some (.int .i64 s.u)∧w.cell? ⟨W.heap.size,3,none⟩=some (.int .i64 s.p)):=by
    have hs5:=HB5.out.size
    have kc:∀b o,b < W5.heap.size→b≠bp→W6.cell? ⟨b,o,none⟩=W5.cell? ⟨b,o,none⟩:=fun b o hb hn=>zzJ (w:=W5) (a:=⟨b,o,none⟩) (hg6.block b hb (fun e=>hn (Option.some.inj e)))
    have hbW:W.heap.size < W5.heap.size:=zH Hss.out hs5
    have hne:W.heap.size≠bp:=by have:=Hbp.out.1; omega
    have hbr:br < W5.heap.size:=zH hrl.out hs5
    intro w hw
    rcases hw with rfl | rfl
    ·exact ⟨h5.1,trivial,h5.2.2⟩
    ·exact ⟨(kc br _ hbr Hbp.out.2.2.1).trans h5.1,trivial,(kc br _ hbr Hbp.out.2.2.1).trans h5.2.2.1,(kc b3 _ (zH HL3.out hs5) Hbp.out.2.2.2).trans h5.2.2.2.1,(kc _ _ hbW hne).trans h5.2.2.2.2.1,(kc _ _ hbW hne).trans h5.2.2.2.2.2.1,(kc _ _ hbW hne).trans h5.2.2.2.2.2.2.1,(kc _ _ hbW hne).trans h5.2.2.2.2.2.2.2⟩
   clear h5 hg6 hM6 hM5 hdi hH5
   go_wp2_with fail
   refine wp_region_held_drew (S:=fun w=>Hid (w=W5∨w=W6)) (by kernel_rfl) (hid (.inl HW5.out.symm)) (fun hHeld=>?_)
   refine zhF 0 (hc6.out) ?_
   refine zhF 1 (hc6.out) ?_
   refine zhF 2 (hc6.out) ?_
   refine zhF 3 (hc6.out) ?_
   refine zhF 4 (hc6.out) ?_
   refine zhF 5 (hc6.out) ?_
   refine zhF 6 (hc6.out) ?_
   refine zhF 7 (hc6.out) ?_
   refine zhF 8 (hc6.out) ?_
   refine zzK 9 (fun K hK=>?_)
   rw [←HW5.out]
   go_simp
   refine hK.out _ _ (hid (.inr rfl)) (fun hHeld=>?_)
   clear hK K
   refine wpAnyH_done (by kernel_rfl) ?_ _
   clear hHeld
   go_wp2
   go_ret
   exact ⟨b,_,rfl,H6.out,⟨fun _ h=> .inl h,fun x hx=>hx.imp id (fun e=>by rw [e]; exact HL'.out)⟩,HD6.out,HE6.out,HK6.out⟩
 ·obtain ⟨b,rfl,hd⟩:=hv s rfl
  have hfin:Hid (∃b' F',Ending.returned (.pointer (some ⟨b,0,none⟩))= .returned (.pointer (some ⟨b',0,none⟩))∧RollS Wd cs br bk bps F' ws m∧GrF F F' W∧DiF Wd F' (RM br bk bps) b' (secQ (atC cs i) s.a s.f s.u s.p)∧Eff (RM br bk bps) W Wd∧Wd.heap[bk]? =W.heap[bk]?):=⟨b,F,rfl,h1,GrF.refl _ _,hd,Eff.of_below hBs,hBs.block bk HBK.out.1⟩
  replace q:(lookSt (.map (some bp)) (.agg #[.bool s.a, .int .i64 s.f, .int .i64 s.u, .int .i64 s.p])).run Tryz.prog Wd= .ok (.tuple #[.pointer (some ⟨b,0,none⟩), .bool true]) Wd:=q
  clear g3i g3 h h1 hd hP hup HBP hv hil hB1 hBd hBs l3 f3 n3 hi hnn
  go_enter Tryz.func182,Tryz.ntmps182
  go_wp2_with fail
  rw [HW1.out]
  refine wp_region_held_drew (S:=fun w=>Hid (Wd=w)) (by kernel_rfl) HWd (fun hHeld=>?_)
  refine zhC 0 ?_
  refine zhC 1 ?_
  refine zhC 2 ?_
  refine zhC 3 ?_
  refine zhC 4 ?_
  refine zhC 5 ?_
  refine zhC 6 ?_
  refine zhC 7 ?_
  refine zhC 8 ?_
  refine zhC 9 ?_
  refine zhC 10 ?_
  refine zhC 11 ?_
  refine zhC 12 ?_
  refine zhC 13 ?_
  refine wpAnyH_done (by kernel_rfl) ?_ _
  cases hHeld.out
  clear hHeld
  go_wp2
  go_ret
  obtain ⟨b',F',e,g⟩:=hfin.out
  cases e
  exact ⟨b,rfl,F',g⟩
end Go.Proofs.YtjahgimnfliooaaGreatDoor
