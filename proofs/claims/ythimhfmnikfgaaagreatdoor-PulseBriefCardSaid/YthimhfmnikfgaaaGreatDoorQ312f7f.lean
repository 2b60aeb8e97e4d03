/-
  pulse.inners: the beats of discs, and those that are known again.
  pulse.outer: which day, week, month and year a day is.
  What the beats of a clause's instants are, day by day (plain).
-/
import Derived.Test.YthimhfmnikfgaaaGreatDoorQ81bc78
import Derived.Test.YthimhfmnikfgaaaGreatDoorQ6013e0
import Derived.Test.YthimhfmnikfgaaaGreatDoorQ7b2de7
import Derived.Deep.Cut
import Derived.BigRegion
import Derived.Test.YthimhfmnikfgaaaGreatDoorQc1bf1f
import Derived.Test.YthimhfmnikfgaaaGreatDoorQ7d07ba
import Derived.Test.YthimhfmnikfgaaaGreatDoorQ0db571
import Derived.Test.YthimhfmnikfgaaaGreatDoorQ4031f0
namespace Go.Proofs.YthimhfmnikfgaaaGreatDoor
set_option linter.unusedVariables false
section
open Go.RowKit Go.Maps
attribute [local go_sem ↓] loadAt_3b storeAt_3b
def lookI (v x:Value):Sem Value:=Instr.lookup 226 v x true
theorem look_i (v x:Value):Instr.lookup 226 v x true=lookI v x:=rfl
def lnI (v:Value):Sem Value:=Builtin.len_ #[226] 3 #[v]
theorem ln_i (v:Value):Builtin.len_ #[226] 3 #[v]=lnI v:=rfl
def updI (v x y:Value):Sem Unit:=Instr.mapUpdate 226 v x y
theorem upd_i (v x y:Value):Instr.mapUpdate 226 v x y=updI v x y:=rfl
attribute [local go_sem ↓] look_i ln_i upd_i
def DiK (W:World) (F M:Blk) (v:Value):Prop:=∃d q,v= .pointer (some ⟨d,0,none⟩)∧DiF W F M d q
def DiG (W:World) (F M:Blk) (x v:Value):Prop:=∃d q,x= .pointer (some ⟨d,0,none⟩)∧DiF W F M d q∧v=bv3 (nrB (secL q))
section
variable {W W':World} {F F' M:Blk}
theorem DiF.keepI {d:Nat} {q:Nat→Bool} (h:DiF W F M d q) (hs:W.heap.size≤W'.heap.size) (hF:∀b,F b→F' b) (hb:∀b,F b∧¬M b→W'.heap[b]? =W.heap[b]?):DiF W' F' M d q:=
 ⟨hF _ h.1,h.2.1,h.2.2.block hs (hb _ ⟨h.1,h.2.1⟩)⟩
theorem DiK.keep {v:Value} (h:DiK W F M v) (hs:W.heap.size≤W'.heap.size) (hF:∀b,F b→F' b) (hb:∀b,F b∧¬M b→W'.heap[b]? =W.heap[b]?):DiK W' F' M v:=by
 obtain ⟨d,q,h1,h2⟩:=h
 exact ⟨d,q,h1,h2.keepI hs hF hb⟩
theorem DiG.keep {x v:Value} (h:DiG W F M x v) (hs:W.heap.size≤W'.heap.size) (hF:∀b,F b→F' b) (hb:∀b,F b∧¬M b→W'.heap[b]? =W.heap[b]?):DiG W' F' M x v:=by
 obtain ⟨d,q,h1,h2,h3⟩:=h
 exact ⟨d,q,h1,h2.keepI hs hF hb,h3⟩
theorem MapI.keep {b n:Nat} (h:MapS (DiK W F M) (DiG W F M) W b n) (hs:W.heap.size≤W'.heap.size) (hF:∀b,F b→F' b) (hb:∀b,F b∧¬M b→W'.heap[b]? =W.heap[b]?) (hm:W'.heap[b]? =W.heap[b]?):MapS (DiK W' F' M) (DiG W' F' M) W' b n:=
 (h.keep hm).mono (zG _) (fun v hv=>hv.keep hs hF hb) (fun x v hv=>hv.keep hs hF hb)
set_option maxRecDepth 100000 in
theorem discT (W:World) (F M:Blk):KeyT Tryz.prog 125 (DiK W F M) W:=by
 refine KeyT.ask Tryz.underlying125 ?_ ?_ ?_ ?_
 ·rintro _ _ ⟨d,q,rfl,-⟩ ⟨d',q',rfl,-⟩; rfl
 ·rintro em _ ⟨d,q,rfl,-⟩; kernel_rfl
 ·rintro _ _ ⟨d,q,rfl,h⟩ ⟨d',q',rfl,h'⟩
  have e:=ptrEq_run (w:=W) (d:=some d) (e:=some d') (PtrOk.disc (d:=some d) (q:=q) h.2.2) (PtrOk.disc (d:=some d') (q:=q') h'.2.2) 9999
  refine ⟨_,e,fun hd=>?_⟩
  rw [decide_eq_true_eq] at hd
  injection hd with hd
  rw [hd]
 ·rintro _ ⟨d,q,rfl,-⟩; simp [Instr.sameBits]
end
structure PuS (bx bm:Nat) (F M:Blk) (W:World):Prop where
 c:W.cell? ⟨bx,0,none⟩=some (.map (some bm))
 m:MapS (DiK W F M) (DiG W F M) W bm 512
 nx:¬F bx
 nm:¬F bm
 ne:bx≠bm
 lx:bx < W.heap.size
 lt:∀b,F b→b < W.heap.size
theorem PuS.keep {bx bm:Nat} {F F' M:Blk} {W W':World} (h:PuS bx bm F M W) (hs:W.heap.size≤W'.heap.size) (hF:∀b,F b→F' b) (hN:∀b,F' b→F b∨W.heap.size≤b) (hl:∀b,F' b→b < W'.heap.size) (hb:∀b,F b∧¬M b→W'.heap[b]? =W.heap[b]?) (hx:W'.heap[bx]? =W.heap[bx]?) (hm:W'.heap[bm]? =W.heap[bm]?):PuS bx bm F' M W':=
 ⟨(World.cell?_of_block (w:=W) (a:=⟨bx,0,none⟩) hx).trans h.c,MapI.keep h.m hs hF hb hm,fun e=>(hN _ e).elim h.nx (fun g=>by have:=h.lx; omega),fun e=>(hN _ e).elim h.nm (fun g=>by have:=h.m.lt; omega),h.ne,zH h.lx hs,hl⟩
structure PuM (bx bm b0 b1:Nat) (F M:Blk) (n:Nat) (W0 W:World):Prop where
 c:W.cell? ⟨bx,0,none⟩=some (.map (some bm))
 m:MapS (DiK W F M) (DiG W F M) W bm n
 eff:Eff (fun c=>c=bm) W0 W
 a0:BtS b0 3 (fun _=>(false,0,0)) W
 a1:∃B,BtS b1 3 B W
set_option maxRecDepth 100000 in
set_option maxHeartbeats 3200000 in
theorem PInners1_any {bx bm d:Nat} {F M:Blk} {q:Nat→Bool} {W:World} (h:PuS bx bm F M W) (hd:DiF W F M d q) (hT:Tab W) (hTF:F 0) :
  Calls Tryz.prog 146 #[.pointer (some ⟨d,0,none⟩), .pointer (some ⟨bx,0,none⟩)] W fun e W'=>e= .returned (bv3 (nrB (secL q)))∧PuS bx bm F M W'∧Eff (fun c=>c=bm) W W':=by
 obtain ⟨W1,hW1⟩:∃W1,W.alloc (.cells #[.bool false, .int .i64 0, .int .i64 0, .bool false, .int .i64 0, .int .i64 0, .bool false, .int .i64 0, .int .i64 0] 155)=W1:=⟨_,rfl⟩
 have hB1:Below W.heap.size W W1:=by rw [←hW1]; exact below_new (Below.refl _ _) (zG _)
 have s1:W1.heap.size=W.heap.size+1:=by rw [←hW1]; simp
 have hA0:BtS W.heap.size 3 (fun _=>(false,0,0)) W1:=by rw [←hW1]; exact btS_new W 155 3
 have hk:∀b,F b∧¬M b→W1.heap[b]? =W.heap[b]?:=fun b hb=>hB1.block b (h.lt b hb.1)
 have hP1:=h.keep (F':=F) hB1.size (fun _ h=>h) (fun _ h=> .inl h) (fun b hb=>zH (h.lt b hb) hB1.size) hk (hB1.block _ h.lx) (hB1.block _ h.m.lt)
 have hd1:=hd.keepI (W':=W1) (F':=F) hB1.size (fun _ h=>h) hk
 have hL:=hP1.m.lookup (discT W1 F M) (t:=226) Tryz.underlying226 (z:=bv3 (fun _=>(false,0,0))) (by kernel_rfl) true (x:= .pointer (some ⟨d,0,none⟩)) ⟨d,q,rfl,hd1⟩
 have hN:∀c,(c=bm∨c=bx∨F c)→c < W.heap.size:=fun c hc=>by
  rcases hc with rfl | rfl | hc
  ·exact h.m.lt
  ·exact h.lx
  ·exact h.lt c hc
 have c1:=hP1.c
 have HH:=hid h
 have HP1:=hid hP1
 have HB1:=hid hB1
 have S1:=hid s1
 have HA0:=hid hA0
 have HN:=hid hN
 have HD1:=hid hd1
 have HW1:=hid hW1
 have HT:=hid (And.intro hT hTF)
 -- the box of what is found
 have hbox:Hid (∀B:Nat→Bt,(store3S (.pointer (some ⟨W1.heap.size,0,none⟩)) (bv3 B)).run Tryz.prog (W1.alloc (.cells #[.bool false, .int .i64 0, .int .i64 0, .bool false, .int .i64 0, .int .i64 0, .bool false, .int .i64 0, .int .i64 0] 155))= .ok () ((W1.alloc (.cells #[.bool false, .int .i64 0, .int .i64 0, .bool false, .int .i64 0, .int .i64 0, .bool false, .int .i64 0, .int .i64 0] 155)).setCells W1.heap.size 0 (btL 3 B))∧
   BtS W1.heap.size 3 B ((W1.alloc (.cells #[.bool false, .int .i64 0, .int .i64 0, .bool false, .int .i64 0, .int .i64 0, .bool false, .int .i64 0, .int .i64 0] 155)).setCells W1.heap.size 0 (btL 3 B))∧Below W1.heap.size W1 ((W1.alloc (.cells #[.bool false, .int .i64 0, .int .i64 0, .bool false, .int .i64 0, .int .i64 0, .bool false, .int .i64 0, .int .i64 0] 155)).setCells W1.heap.size 0 (btL 3 B))):=fun B=>by
  have e:BtS W1.heap.size 3 (fun _=>(false,0,0)) (W1.alloc (.cells #[.bool false, .int .i64 0, .int .i64 0, .bool false, .int .i64 0, .int .i64 0, .bool false, .int .i64 0, .int .i64 0] 155)):=btS_new W1 155 3
  exact ⟨e.st3 B,e.put B,(below_new (Below.refl _ _) (zG _)).trans ((Eff.setCells (O:=fun x=>x=W1.heap.size) rfl (btL 3 B) 0 _ (Eff.refl _ _)).below (by rintro b rfl; exact zG _) (by simp))⟩
 have hfin:Hid (∀B W2,BtS W.heap.size 3 (fun _=>(false,0,0)) W2→(store3S (.pointer (some ⟨W.heap.size,0,none⟩)) (bv3 B)).run Tryz.prog W2= .ok () (W2.setCells W.heap.size 0 (btL 3 B))∧BtS W.heap.size 3 B (W2.setCells W.heap.size 0 (btL 3 B))∧Eff (fun c=>c=W.heap.size) W2 (W2.setCells W.heap.size 0 (btL 3 B))):=fun B W2 e=>
  ⟨e.st3 B,e.put B,Eff.setCells (O:=fun x=>x=W.heap.size) rfl (btL 3 B) 0 _ (Eff.refl _ _)⟩
 obtain ⟨B,hB⟩:∃B,nrB (secL q)=B:=⟨_,rfl⟩
 rw [hB]
 have HBq:=hid hB
 clear hW1 hB1 s1 hA0 hk hP1 hd1 h hd hN hT hTF hB
 go_enter Tryz.func146,Tryz.ntmps146
 go_upto_region 1 with fail
 rw [HW1.out]
 rcases hL with hl | ⟨v,hv,hl⟩
 rotate_left
 ·obtain ⟨d',q',e1,hd',rfl⟩:=hv
  have hq:secL q' =secL q:=by
   injection e1 with e1; injection e1 with e1; injection e1 with e1
   subst e1
   have e:(List.range 86400).filter q' = (List.range 86400).filter q:=List.filter_congr fun k hk=>DiscAt.unique hd'.2.2 HD1.out.2.2 k (List.mem_range.1 hk)
   rw [secL,secL,sel,sel,e]
  rw [hq,HBq.out] at hl
  replace hl:(lookI (.map (some bm)) (.pointer (some ⟨d,0,none⟩))).run Tryz.prog W1= .ok (.tuple #[bv3 B, .bool true]) W1:=hl
  obtain ⟨b1,b2,b3⟩:=hbox.out B
  have H2:=hid b2
  have H3:=hid b3
  clear b2 b3 hd' hq e1
  go_upto_region 2 with fail
  obtain ⟨w2,hw2⟩:∃w2,(W1.alloc (.cells #[.bool false, .int .i64 0, .int .i64 0, .bool false, .int .i64 0, .int .i64 0, .bool false, .int .i64 0, .int .i64 0] 155)).setCells W1.heap.size 0 (btL 3 B)=w2:=⟨_,rfl⟩
  rw [hw2] at H2 H3
  rw [hw2]
  have ld:=H2.out.ld3
  have hA2:BtS W.heap.size 3 (fun _=>(false,0,0)) w2:=HA0.out.block H3.out.size (H3.out.block _ HA0.out.lt)
  obtain ⟨f1,f2,f3⟩:=hfin.out B w2 hA2
  have F2:=hid f2
  have F3:=hid f3
  have HB2:Hid (Below W.heap.size W w2):=HB1.out.trans (H3.out.mono HB1.out.size)
  clear b1 hl hw2 hA2 f2 f3 c1
  go_wp2
  have hB4:Below W.heap.size W (w2.setCells W.heap.size 0 (btL 3 B)):=HB2.out.trans (F3.out.below (by rintro b rfl; exact zG _) HB2.out.size)
  refine bodyPost_ret (results_cell_mid rfl _ _ W.heap.size 0 _ _ rfl F2.out.range Tryz.underlying155 rfl (by rw [btL_len]; exact info3b)) rfl ⟨rfl,?_,Eff.of_below hB4⟩
  exact HH.out.keep hB4.size (fun _ h=>h) (fun _ h=> .inl h) (fun b hb=>zH (HH.out.lt b hb) hB4.size) (fun b hb=>hB4.block b (HH.out.lt b hb.1)) (hB4.block _ HH.out.lx) (hB4.block _ HH.out.m.lt)
 ·replace hl:(lookI (.map (some bm)) (.pointer (some ⟨d,0,none⟩))).run Tryz.prog W1= .ok (.tuple #[bv3 (fun _=>(false,0,0)), .bool false]) W1:=hl
  obtain ⟨b1,b2,b3⟩:=hbox.out (fun _=>(false,0,0))
  have H2:=hid b2
  have H3:=hid b3
  clear b2 b3
  go_upto_region 2 with fail
  obtain ⟨w2,hw2⟩:∃w2,(W1.alloc (.cells #[.bool false, .int .i64 0, .int .i64 0, .bool false, .int .i64 0, .int .i64 0, .bool false, .int .i64 0, .int .i64 0] 155)).setCells W1.heap.size 0 (btL 3 fun _=>(false,0,0))=w2:=⟨_,rfl⟩
  rw [hw2] at H2 H3
  rw [hw2]
  have HB2:Hid (Below W.heap.size W w2):=HB1.out.trans (H3.out.mono HB1.out.size)
  have hk2:∀b,F b∧¬M b→w2.heap[b]? =W.heap[b]?:=fun b hb=>HB2.out.block b (HH.out.lt b hb.1)
  have hm2:MapS (DiK w2 F M) (DiG w2 F M) w2 bm 512:=MapI.keep HH.out.m HB2.out.size (fun _ h=>h) hk2 (HB2.out.block _ HH.out.m.lt)
  have c2:w2.cell? ⟨bx,0,none⟩=some (.map (some bm)):=(HB2.out.cell (p:=⟨bx,0,none⟩) HH.out.lx).trans HH.out.c
  have HA2:Hid (BtS W.heap.size 3 (fun _=>(false,0,0)) w2):=HA0.out.block H3.out.size (H3.out.block _ HA0.out.lt)
  obtain ⟨k,hk,hPk,ql⟩:=hm2.count (t:=226) Tryz.underlying226 3
  replace ql:(lnI (.map (some bm))).run Tryz.prog w2= .ok (.int .i64 k) w2:=ql
  have HPk:=hid hPk
  have Hk:=hid hk
  have Hm2:=hid hm2
  have Hc2:=hid c2
  obtain ⟨bb,hbb⟩:∃c,W1.heap.size=c:=⟨_,rfl⟩
  have Hbb:Hid (bb=W.heap.size+1):=by show _ = _; rw [←hbb,S1.out]
  rw [hbb] at H2 H3
  rw [hbb]
  clear b1 hl hw2 hk2 hm2 c1 hPk hk hbox hbb
  iterate 12 go_step
  (try dsimp only)
  go_cut [] from 18 (fun wx=>PuM bx bm W.heap.size bb F M 511 W wx)
  case first=>
   by_cases h5:(k:Int)=512
   ·have hkd:((k:Int) == 512)=true:=by rw [h5]; rfl
    clear h5
    go_wp2_with (with_reducible refine wpList_clearS (t:=226) (.tmp 17) rfl rfl Tryz.underlying226 Hm2.out rfl ?_)
    intro w3 hM3 hg3
    have hE3:Eff (fun c=>c=bm) w2 w3:=Eff.of_grown hg3 rfl
    have hS3:PuM bx bm W.heap.size bb F M 511 W w3:=by
     have hb:∀b,b < w2.heap.size→b≠bm→w3.heap[b]? =w2.heap[b]?:=fun b hb hn=>hE3.block b hb hn
     have l2:=HB2.out.size
     have lm:=HH.out.m.lt
     refine ⟨(World.cell?_of_block (w:=w2) (a:=⟨bx,0,none⟩) (hb bx (zH HH.out.lx l2) HH.out.ne)).trans Hc2.out,?_,(Eff.of_below HB2.out).trans hE3 (fun b h=> .inl h),HA2.out.block hE3.size (hb _ HA2.out.lt (by omega)),_,H2.out.block hE3.size (hb _ H2.out.lt (by have:=Hbb.out; omega))⟩
     exact hM3.mono (by omega) (fun v hv=>hv.keep hE3.size (fun _ h=>h) (fun b hf=>hb b (zH (HH.out.lt b hf.1) l2) (fun e=>HH.out.nm (e ▸ hf.1)))) (fun x v hv=>hv.keep hE3.size (fun _ h=>h) (fun b hf=>hb b (zH (HH.out.lt b hf.1) l2) (fun e=>HH.out.nm (e ▸ hf.1))))
    have HS3:=hid hS3
    clear ql hkd c2 hM3 hg3 hE3 hS3
    go_wp2
    go_meet
    exact HS3.out
   ·have hkd:((k:Int) == 512)=false:=by simpa using h5
    have HS3:Hid (PuM bx bm W.heap.size bb F M 511 W w2):=⟨Hc2.out,HPk.out.mono (by have:=Hk.out; omega) (fun _ h=>h) (fun _ _ h=>h),Eff.of_below HB2.out,HA2.out,_,H2.out⟩
    clear h5
    go_wp2
    go_meet
    exact HS3.out
  case rest=>
   have HC:=hid hcut
   have lm:=HH.out.m.lt
   have hdn:d≠bm:=fun e=>HH.out.nm (e ▸ HD1.out.1)
   have hld:d < W.heap.size:=HH.out.lt d HD1.out.1
   have hdc:DiscAt wc d q:=by
    have h0:DiscAt W1 d q:=HD1.out.2.2
    have e:wc.heap[d]? =W1.heap[d]?:=(hcut.eff.block d hld hdn).trans (HB1.out.block d hld).symm
    exact DiscAt.block h0 (by have:=S1.out; have:=hcut.a1; have:=hcut.a0.lt; obtain ⟨B',hB'⟩:=hcut.a1; have:=hB'.lt; have:=Hbb.out; omega) e
   have hTc:Tab wc:=HT.out.1.eff hcut.eff (fun e=>HH.out.nm (e ▸ HT.out.2))
   have cI:=hid (Inner_any d q wc hTc hdc)
   rw [HBq.out] at cI
   clear hcut lm hdn hld hdc hTc ql c2
   go_wp2_with fail
   refine cI.out.mono ?_
   rintro e w4 ⟨rfl,hB4⟩
   obtain ⟨B4,hB4'⟩:=HC.out.a1
   have l4:=hB4.size
   have g4:=hB4'.block (W':=w4) l4 (hB4.block _ hB4'.lt)
   have st4:=g4.st3 B
   have p4:=hid (g4.put B)
   have e4:Eff (fun c=>c=bb) w4 (w4.setCells bb 0 (btL 3 B)):=Eff.setCells (O:=fun x=>x=bb) rfl (btL 3 B) 0 _ (Eff.refl _ _)
   have E4:=hid ((HC.out.eff.trans (Eff.of_below (O:=fun c=>c=bm) hB4) (fun _ h=> .inl h)).trans e4 (fun b hb=> .inr (by have:=Hbb.out; omega)))
   have lm:=HH.out.m.lt
   have lx:=HH.out.lx
   have hne:=HH.out.ne
   have kb:∀b,b < W.heap.size→(w4.setCells bb 0 (btL 3 B)).heap[b]? =wc.heap[b]?:=fun b hb=>by
    have hl:b < wc.heap.size:=zH hb HC.out.eff.size
    exact (e4.block b (zH hl l4) (by have:=Hbb.out; omega)).trans (hB4.block b hl)
   have c5:(w4.setCells bb 0 (btL 3 B)).cell? ⟨bx,0,none⟩=some (.map (some bm)):=(World.cell?_of_block (w:=wc) (a:=⟨bx,0,none⟩) (kb bx lx)).trans HC.out.c
   have m5:MapS (DiK (w4.setCells bb 0 (btL 3 B)) F M) (DiG (w4.setCells bb 0 (btL 3 B)) F M) (w4.setCells bb 0 (btL 3 B)) bm 511:=
    MapI.keep HC.out.m (zI l4 e4.size) (fun _ h=>h) (fun b hb=>kb b (HH.out.lt b hb.1)) (kb bm lm)
   have a5:BtS W.heap.size 3 (fun _=>(false,0,0)) (w4.setCells bb 0 (btL 3 B)):=(HC.out.a0.block l4 (hB4.block _ HC.out.a0.lt)).block e4.size (e4.block _ (zH HC.out.a0.lt l4) (by have:=Hbb.out; omega))
   have d5:DiF (w4.setCells bb 0 (btL 3 B)) F M d q:=HD1.out.keepI (by have:=E4.out.size; have:=S1.out; have:=p4.out.lt; have:=Hbb.out; omega) (fun _ h=>h) (fun b hb=>(kb b (HH.out.lt b hb.1)).trans ((HC.out.eff.block b (HH.out.lt b hb.1) (fun e=>HH.out.nm (e ▸ hb.1))).trans (HB1.out.block b (HH.out.lt b hb.1)).symm))
   obtain ⟨w5,hw5⟩:∃w5,w4.setCells bb 0 (btL 3 B)=w5:=⟨_,rfl⟩
   rw [hw5] at st4 p4 E4 c5 m5 a5 d5
   obtain ⟨w6,q6,m6,g6⟩:=m5.update (discT w5 F M) (t:=226) (e:=155) Tryz.underlying226 (x:= .pointer (some ⟨d,0,none⟩)) ⟨d,q,rfl,d5⟩ (v:=bv3 B) ⟨d,q,rfl,d5,by rw [HBq.out]⟩
   replace q6:(updI (.map (some bm)) (.pointer (some ⟨d,0,none⟩)) (bv3 B)).run Tryz.prog w5= .ok () w6:=q6
   have e6:Eff (fun c=>c=bm) w5 w6:=Eff.of_grown g6 rfl
   have ld5:=p4.out.ld3
   have lb6:bb≠bm:=by have:=Hbb.out; omega
   have p6:=p4.out.block e6.size (e6.block _ p4.out.lt lb6)
   have ld6:=p6.ld3
   have a6:=a5.block e6.size (e6.block _ a5.lt (by omega))
   obtain ⟨f1,f2,f3⟩:=hfin.out B w6 a6
   have F2:=hid f2
   have hE7:Eff (fun c=>c=bm) W (w6.setCells W.heap.size 0 (btL 3 B)):=(E4.out.trans e6 (fun _ h=> .inl h)).trans f3 (fun b hb=> .inr (by omega))
   have hm6:MapS (DiK w6 F M) (DiG w6 F M) w6 bm 512:=m6.mono (zG _) (fun v hv=>hv.keep e6.size (fun _ h=>h) (fun b hb=>e6.block b (zH (HH.out.lt b hb.1) E4.out.size) (fun e=>HH.out.nm (e ▸ hb.1)))) (fun x v hv=>hv.keep e6.size (fun _ h=>h) (fun b hb=>e6.block b (zH (HH.out.lt b hb.1) E4.out.size) (fun e=>HH.out.nm (e ▸ hb.1))))
   have hS7:PuS bx bm F M (w6.setCells W.heap.size 0 (btL 3 B)):=by
    have k7:∀b,b < W.heap.size→(w6.setCells W.heap.size 0 (btL 3 B)).heap[b]? =w6.heap[b]?:=fun b hb=>f3.block b (zH hb (zI E4.out.size e6.size)) (by omega)
    have c6:w6.cell? ⟨bx,0,none⟩=some (.map (some bm)):=(e6.cell (p:=⟨bx,0,none⟩) (zH lx E4.out.size) hne).trans c5
    exact ⟨(World.cell?_of_block (w:=w6) (a:=⟨bx,0,none⟩) (k7 bx lx)).trans c6,MapI.keep hm6 f3.size (fun _ h=>h) (fun b hb=>k7 b (HH.out.lt b hb.1)) (k7 bm lm),HH.out.nx,HH.out.nm,hne,zH lx hE7.size,fun b hb=>zH (HH.out.lt b hb) hE7.size⟩
   have HS7:=hid hS7
   have HE7:=hid hE7
   have Hw5:=hid hw5
   have c6:w6.cell? ⟨bx,0,none⟩=some (.map (some bm)):=(e6.cell (p:=⟨bx,0,none⟩) (zH lx E4.out.size) hne).trans c5
   clear hB4 hB4' g4 e4 kb m5 a5 d5 m6 g6 e6 p6 a6 f2 f3 hE7 hm6 hS7 lb6 lm lx hne l4 hw5 cI
   go_wp2
   exact bodyPost_ret (results_cell_mid rfl _ _ W.heap.size 0 _ _ rfl F2.out.range Tryz.underlying155 rfl (by rw [btL_len]; exact info3b)) rfl ⟨rfl,HS7.out,HE7.out⟩
end
section
open Go.RowKit Go.Maps
def L7 (f:Nat→Int):List Value:=(List.range 7).map fun i=> .int .i64 (f i)
theorem L7_len (f:Nat→Int):(L7 f).length=7:=by simp [L7]
theorem L7_at (f:Nat→Int) {j:Nat} (hj:j < (L7 f).length):(L7 f)[j]= .int .i64 (f j):=by simp [L7]
structure Ar7 (b:Nat) (f:Nat→Int) (W:World):Prop where
 c:∀i,i < 7→W.cell? ⟨b,i,none⟩=some (.int .i64 (f i))
 z:∀i,W.frozen? ⟨b,i,none⟩=false
 lt:b < W.heap.size
theorem Ar7.block {b:Nat} {f:Nat→Int} {W W':World} (h:Ar7 b f W) (hs:W.heap.size≤W'.heap.size) (hb:W'.heap[b]? =W.heap[b]?):Ar7 b f W':=
 ⟨fun i hi=>(World.cell?_of_block (w:=W) (a:=⟨b,i,none⟩) hb).trans (h.c i hi),fun i=>(World.frozen?_of_block (w:=W) (a:=⟨b,i,none⟩) hb).trans (h.z i),zH h.lt hs⟩
def arr7 (f:Nat→Int):Value:= .agg (L7 f).toArray
theorem info7i:(Tryz.prog.info? 24).map (·.size)=some 7:=by kernel_rfl
theorem Ar7.range {b:Nat} {f:Nat→Int} {W:World} (h:Ar7 b f W):W.rangeAt b 0 (L7 f):=fun j v hv=>by
 obtain ⟨hj,e⟩:=List.getElem?_eq_some_iff.1 hv
 rw [L7_at] at e
 rw [Nat.zero_add,h.c j (by rw [L7_len] at hj; exact hj),←e]
theorem Ar7.there {b:Nat} {f:Nat→Int} {W:World} (h:Ar7 b f W) (g:Nat→Int):W.there b 0 (L7 g).toArray.size:=fun j hj=>by
 rw [List.size_toArray,L7_len] at hj
 rw [Nat.zero_add]
 exact ⟨by rw [h.c j hj]; rfl,h.z j⟩
def load7iS (v:Value):Sem Value:=Instr.loadAt 24 v
theorem loadAt_7i (v:Value):Instr.loadAt 24 v=load7iS v:=rfl
def store7iS (v u:Value):Sem Unit:=Instr.storeAt 24 v u
theorem storeAt_7i (v u:Value):Instr.storeAt 24 v u=store7iS v u:=rfl
theorem Ar7.ld {b:Nat} {f:Nat→Int} {W:World} (h:Ar7 b f W):(load7iS (.pointer (some ⟨b,0,none⟩))).run Tryz.prog W= .ok (arr7 f) W:=by
 unfold load7iS
 simp only [Instr.loadAt,Instr.sureAddr,Sem.run_bind,Sem.run_pure,Result.andThen_ok,run_loadVar_mid W b 0 24 (L7 f) _ h.range Tryz.underlying24 rfl (by rw [L7_len]; exact info7i)]
 rfl
theorem Ar7.st {b:Nat} {f:Nat→Int} {W:World} (h:Ar7 b f W) (g:Nat→Int):(store7iS (.pointer (some ⟨b,0,none⟩)) (arr7 g)).run Tryz.prog W= .ok () (W.setCells b 0 (L7 g)):=by
 unfold store7iS
 rw [arr7,run_storeAt_mid W b 0 24 (L7 g).toArray (h.there g) (by rw [List.size_toArray,L7_len]; exact info7i) (by simp [L7,Value.oneCell'])]
theorem Ar7.put {b:Nat} {f:Nat→Int} {W:World} (h:Ar7 b f W) (g:Nat→Int):Ar7 b g (W.setCells b 0 (L7 g)):=by
 have hs:=(Eff.setCells (O:=fun x=>x=b) rfl (L7 g) 0 W (Eff.refl _ W)).size
 refine ⟨fun i hi=>?_,fun i=>by rw [World.frozen?_setCells]; exact h.z i,zH h.lt hs⟩
 have:=World.cell?_setCells_in b (L7 g) 0 W (fun j hj=>by rw [L7_len] at hj; rw [Nat.zero_add,h.c j hj]; rfl) i (by rw [L7_len]; exact hi)
 rw [Nat.zero_add,L7_at] at this
 exact this
theorem ar7_new (w:World) (t:TypeId):Ar7 w.heap.size (fun _=>0) (w.alloc (.cells #[.int .i64 0, .int .i64 0, .int .i64 0, .int .i64 0, .int .i64 0, .int .i64 0, .int .i64 0] t)):=by
 refine ⟨fun i hi=>?_,fun i=>frozen_fresh w _ t i,by simp⟩
 rw [World.cell?,World.alloc_heap_new]
 have h7:i=0∨i=1∨i=2∨i=3∨i=4∨i=5∨i=6:=by omega
 rcases h7 with rfl | rfl | rfl | rfl | rfl | rfl | rfl <;> rfl
def outF (n:Int) (u:Nat):Int:=if u=3 then n else if u=4 then wkN n else if u=5 then 12 * fY n+fMo n else if u=6 then fY n else 0
theorem outF_arr (n:Int):arr7 (outF n)= .agg #[.int .i64 0, .int .i64 0, .int .i64 0, .int .i64 n, .int .i64 (wkN n), .int .i64 (12 * fY n+fMo n), .int .i64 (fY n)]:=rfl
attribute [local go_sem ↓] loadAt_7i storeAt_7i
set_option maxRecDepth 100000 in
set_option maxHeartbeats 3200000 in
theorem POuter_any (n:Int) (W:World) (h0:0≤n) (h1:n < 146097):Calls Tryz.prog 90 #[shN n] W fun e W'=>e= .returned (arr7 (outF n))∧Below W.heap.size W W':=by
 have cW:=hid (fun W=>WNumber_any n W h0 (by omega))
 obtain ⟨y0,y1,m0,m1,-,-⟩:=fDate_year h0 h1
 have HO:Hid (arr7 (outF n)= .agg #[.int .i64 0, .int .i64 0, .int .i64 0, .int .i64 n, .int .i64 (wkN n), .int .i64 (12 * fY n+fMo n), .int .i64 (fY n)]):=outF_arr n
 have hW0:ShS (W.alloc (.cells (shList (shF n)).toArray 124)) W.heap.size (shF n):=shC_new W 124 _ _ _ _ _ _ _ _ _ _
 have hs1:shF n 1=fY n:=rfl
 have hs2:shF n 2=fMo n:=rfl
 have hs0:shF n 0=n:=rfl
 rw [←shq_shF]
 obtain ⟨s,hs⟩:∃s,shF n=s:=⟨_,rfl⟩
 rw [hs] at hW0 hs1 hs2 hs0⊢
 obtain ⟨W1,hW1⟩:∃W1,(W.alloc (.cells (shList s).toArray 124)).alloc (.cells #[.int .i64 0, .int .i64 0, .int .i64 0, .int .i64 0, .int .i64 0, .int .i64 0, .int .i64 0] 24)=W1:=⟨_,rfl⟩
 have HB1:Hid (Below W.heap.size W W1):=by rw [←hW1]; exact below_new (below_new (Below.refl _ _) (zG _)) (by simp)
 have S1:Hid (W1.heap.size=W.heap.size+1+1):=by show _ = _; rw [←hW1]; simp
 have HA1:Hid (Ar7 (W.heap.size+1) (fun _=>0) W1):=by
  have e:=ar7_new (W.alloc (.cells (shList s).toArray 124)) 24
  rw [World.size_alloc] at e
  rw [←hW1]; exact e
 have HS1:Hid (ShS W1 W.heap.size s):=by rw [←hW1]; exact shS_blk hW0 (Below.heap_alloc _ _ _ (by simp))
 have HW1:=hid hW1
 have Hs:=hid hs
 have hyw:IntKind.i64.wrap (12 * fY n)=12 * fY n:=IntWalk.i64_in _ (by omega)
 have hmw:IntKind.i64.wrap (12 * fY n+fMo n)=12 * fY n+fMo n:=IntWalk.i64_in _ (by omega)
 obtain ⟨y,hy⟩:∃y,fY n=y:=⟨_,rfl⟩
 obtain ⟨m,hm⟩:∃m,fMo n=m:=⟨_,rfl⟩
 obtain ⟨k,hk⟩:∃k,wkN n=k:=⟨_,rfl⟩
 rw [hy,hm,hk] at HO
 rw [hy] at hs1 hyw
 rw [hy,hm] at hmw
 rw [hm] at hs2
 rw [hk] at cW
 obtain ⟨A,hA⟩:∃A,outF n=A:=⟨_,rfl⟩
 rw [hA] at HO
 rw [hA]
 have hc:Hid (∀w,Below W1.heap.size W1 w→w.cell? ⟨W.heap.size,0,none⟩=some (.int .i64 n)∧w.cell? ⟨W.heap.size,1,none⟩=some (.int .i64 y)∧w.cell? ⟨W.heap.size,2,none⟩=some (.int .i64 m)):=fun w hB=>by
  have l0:W.heap.size < W1.heap.size:=by rw [S1.out]; omega
  obtain ⟨a0,a1,a2,-⟩:=HS1.out
  exact ⟨(hB.cell (p:=⟨W.heap.size,0,none⟩) l0).trans (hs0 ▸ a0),(hB.cell (p:=⟨W.heap.size,1,none⟩) l0).trans (hs1 ▸ a1),(hB.cell (p:=⟨W.heap.size,2,none⟩) l0).trans (hs2 ▸ a2)⟩
 clear hW0 hs0 hs1 hs2 hs hW1 hy hm hk hA y0 y1 m0 m1
 unfold shq
 go_enter Tryz.func90,Tryz.ntmps90
 go_upto_region 1 with fail
 rw [HW1.out]
 refine wp_region_held_drew (S:=fun w=>Hid (w.cell? ⟨W.heap.size,0,none⟩=some (.int .i64 n)∧w.cell? ⟨W.heap.size,1,none⟩=some (.int .i64 y)∧w.cell? ⟨W.heap.size,2,none⟩=some (.int .i64 m))) (by kernel_rfl) (hid (hc.out _ (Below.refl _ _).drew)) (fun hHeld=>?_)
 refine zT 0 (v:=?_) ?_ ?_
 rotate_left
 ·intro w' hSw; obtain ⟨q0,q1,q2⟩:=hSw.out; clear hSw; go_simp; (try with_reducible rfl)
 try simp only [zP]
 refine zT 1 (v:=?_) ?_ ?_
 rotate_left
 ·intro w' hSw; obtain ⟨q0,q1,q2⟩:=hSw.out; clear hSw; go_simp; (try with_reducible rfl)
 try simp only [zP]
 refine zT 2 (v:=?_) ?_ ?_
 rotate_left
 ·intro w' hSw; obtain ⟨q0,q1,q2⟩:=hSw.out; clear hSw; go_simp; (try with_reducible rfl)
 try simp only [zP]
 refine zT 3 (v:=?_) ?_ ?_
 rotate_left
 ·intro w' hSw; obtain ⟨q0,q1,q2⟩:=hSw.out; clear hSw; go_simp; (try with_reducible rfl)
 try simp only [zP]
 refine zT 5 (v:=?_) ?_ ?_
 rotate_left
 ·intro w' hSw; obtain ⟨q0,q1,q2⟩:=hSw.out; clear hSw; go_simp; (try with_reducible rfl)
 try simp only [zP]
 refine zT 6 (v:=?_) ?_ ?_
 rotate_left
 ·intro w' hSw; obtain ⟨q0,q1,q2⟩:=hSw.out; clear hSw; go_simp; (try with_reducible rfl)
 try simp only [zP]
 refine zT 7 (v:=?_) ?_ ?_
 rotate_left
 ·intro w' hSw; obtain ⟨q0,q1,q2⟩:=hSw.out; clear hSw; go_simp; (try with_reducible rfl)
 try simp only [zP]
 refine zT 8 (v:=?_) ?_ ?_
 rotate_left
 ·intro w' hSw; obtain ⟨q0,q1,q2⟩:=hSw.out; clear hSw; go_simp; (try with_reducible rfl)
 try simp only [zP]
 refine zT 9 (v:=?_) ?_ ?_
 rotate_left
 ·intro w' hSw; obtain ⟨q0,q1,q2⟩:=hSw.out; clear hSw; go_simp; (try with_reducible rfl)
 try simp only [zP]
 refine zT 10 (v:=?_) ?_ ?_
 rotate_left
 ·intro w' hSw; obtain ⟨q0,q1,q2⟩:=hSw.out; clear hSw; go_simp; (try with_reducible rfl)
 try simp only [zP]
 refine zT 11 (v:=?_) ?_ ?_
 rotate_left
 ·intro w' hSw; obtain ⟨q0,q1,q2⟩:=hSw.out; clear hSw; go_simp; (try with_reducible rfl)
 try simp only [zP]
 refine zT 12 (v:=?_) ?_ ?_
 rotate_left
 ·intro w' hSw; obtain ⟨q0,q1,q2⟩:=hSw.out; clear hSw; go_simp; (try with_reducible rfl)
 try simp only [zP]
 refine wpAnyH_ready (rs:= [4]) (by kernel_rfl) (by simp) ?_
 refine AllReadyH.cons rfl (fun K hK=>?_) AllReadyH.nil
 go_simp
 refine (cW.out _).mono ?_
 rintro e w2 ⟨rfl,rfl⟩
 (try go_wp2_with fail)
 refine hK.out _ _ (by assumption) (fun hHeld=>?_)
 clear hK K
 try simp only [zP]
 refine zT 13 (v:=?_) ?_ ?_
 rotate_left
 ·intro w' hSw; obtain ⟨q0,q1,q2⟩:=hSw.out; clear hSw; go_simp; (try with_reducible rfl)
 try simp only [zP]
 refine wpAnyH_ready (rs:= [14]) (by kernel_rfl) (by simp) ?_
 refine AllReadyH.cons rfl (fun K hK=>?_) AllReadyH.nil
 have hA2:=HA1.out.block (W':=W1.drew) (zG _) rfl
 have hst:=hA2.st A
 rw [HO.out] at hst
 have HP:=hid (hA2.put A)
 have hE:Eff (fun c=>c=W.heap.size+1) W1.drew (W1.drew.setCells (W.heap.size+1) 0 (L7 A)):=Eff.setCells (O:=fun x=>x=W.heap.size+1) rfl (L7 A) 0 _ (Eff.refl _ _)
 have HE:=hid hE
 have hS3:(W1.drew.setCells (W.heap.size+1) 0 (L7 A)).cell? ⟨W.heap.size,0,none⟩=some (.int .i64 n)∧(W1.drew.setCells (W.heap.size+1) 0 (L7 A)).cell? ⟨W.heap.size,1,none⟩=some (.int .i64 y)∧(W1.drew.setCells (W.heap.size+1) 0 (L7 A)).cell? ⟨W.heap.size,2,none⟩=some (.int .i64 m):=by
  have l0:W.heap.size < W1.drew.heap.size:=by show _ < W1.heap.size; rw [S1.out]; omega
  obtain ⟨a0,a1,a2⟩:=hc.out W1.drew (Below.refl _ _).drew
  exact ⟨(hE.cell (p:=⟨W.heap.size,0,none⟩) l0 (by simp)).trans a0,(hE.cell (p:=⟨W.heap.size,1,none⟩) l0 (by simp)).trans a1,(hE.cell (p:=⟨W.heap.size,2,none⟩) l0 (by simp)).trans a2⟩
 clear hA2 hE
 go_simp
 (try go_wp2_with fail)
 refine hK.out _ _ (hid hS3) (fun hHeld=>?_)
 clear hK K hst hS3
 try simp only [zP]
 refine wpAnyH_done (by kernel_rfl) ?_ _
 clear hHeld
 go_wp2
 exact bodyPost_ret (results_cell_mid rfl _ _ (W.heap.size+1) 0 _ _ rfl HP.out.range Tryz.underlying24 rfl (by rw [L7_len]; exact info7i)) rfl ⟨rfl,HB1.out.drew.trans (HE.out.below (by rintro b rfl; exact zG _) (by show _≤W1.heap.size; rw [S1.out]; omega)|>.mono (by omega))⟩
end
section
open Go.RowKit Go.Maps
def unN (n:Int) (j u:Nat):Int:=if u < 3 then (86400 * n+j) / szI u else outF n u
theorem outF_bd {n:Int} (h0:0≤n) (h1:n < 146097) (u:Nat):0≤outF n u∧outF n u≤146097:=by
 obtain ⟨y0,y1,m0,m1,-,-⟩:=fDate_year h0 h1
 have hk:=wkN_bd h0 h1
 rw [outF]
 split
 ·omega
 ·split
  ·omega
  ·split
   ·omega
   ·split <;> omega
theorem szI_dvd (u:Nat):86400 % szI u=0:=by rw [szI]; split; rfl; split <;> rfl
theorem unN_low {n:Int} {j u:Nat} (hu:u < 3):unN n j u=n * (86400 / szI u)+(j:Int) / szI u:=by
 have h3:u=0∨u=1∨u=2:=by omega
 rcases h3 with rfl | rfl | rfl
 ·show (86400 * n+j) / 1=n * (86400 / 1)+(j:Int) / 1; omega
 ·show (86400 * n+j) / 60=n * (86400 / 60)+(j:Int) / 60; omega
 ·show (86400 * n+j) / 3600=n * (86400 / 3600)+(j:Int) / 3600; omega
theorem unN_bd {n:Int} (h0:0≤n) (h1:n < 146097) {j:Nat} (hj:j < 86400) (u:Nat):0≤unN n j u∧unN n j u≤12622780799:=by
 rw [unN]
 split
 ·have hz:=szI_pos u
  exact ⟨Int.ediv_nonneg (by omega) (by omega),Int.le_trans (Int.ediv_le_self _ (by omega)) (by omega)⟩
 ·have:=outF_bd h0 h1 u; omega
def UD (cs:List Cl) (k u:Nat) (x:Int):Prop:=∃(i:Nat) (D:Int) (j:Nat),i < k∧(dayS cs (daysL 0 146096))[i]? =some D∧j < 86400∧dayQ cs D j=true∧x=unN D j u
def BQ (cs:List Cl) (k:Nat) (B:Nat→Bt):Prop:=∀u,u < 7→BeatQ (UD cs k u) (B u)
theorem BQ.zero (cs:List Cl):BQ cs 0 (fun _=>(false,0,0)):=fun u _=>BeatP.congr BeatP.empty fun x=>⟨fun h=>h.elim,fun ⟨i,_,_,h,_⟩=>by omega⟩
theorem day_rng {cs:List Cl} {i:Nat} {D:Int} (h:(dayS cs (daysL 0 146096))[i]? =some D):0≤D∧D < 146097∧∃j,j < 86400∧dayQ cs D j=true:=by
 have hm:=List.mem_of_getElem? h
 rw [dayS,List.mem_filter,daysL_mem] at hm
 obtain ⟨⟨a,b⟩,c⟩:=hm
 refine ⟨a,by omega,?_⟩
 rw [anyQ,List.any_eq_true] at c
 obtain ⟨j,hj,hq⟩:=c
 exact ⟨j,List.mem_range.1 hj,hq⟩
theorem UD.rng {cs:List Cl} {k u:Nat} {x:Int} (h:UD cs k u x):0≤x∧x≤12622780799:=by
 obtain ⟨i,D,j,-,hD,hj,-,rfl⟩:=h
 obtain ⟨a,b,-⟩:=day_rng hD
 exact unN_bd a b hj u
theorem BQ.bd {cs:List Cl} {k:Nat} {B:Nat→Bt} (h:BQ cs k B) {u:Nat} (hu:u < 7):M62 (B u).2.1∧M62 (B u).2.2:=by
 have:=BeatP.bd (M:=12622780799) (h u hu) (by omega) fun x hx=>hx.rng
 simp only [M62]; omega
theorem UD.more {cs:List Cl} {k u:Nat} {D:Int} (hD:(dayS cs (daysL 0 146096))[k]? =some D) (x:Int):UD cs (k+1) u x↔UD cs k u x∨∃j,j < 86400∧dayQ cs D j=true∧x=unN D j u:=by
 constructor
 ·rintro ⟨i,D',j,hi,h1,h2,h3,h4⟩
  rcases Nat.lt_succ_iff_lt_or_eq.1 hi with h | h
  ·exact .inl ⟨i,D',j,h,h1,h2,h3,h4⟩
  ·subst h
   rw [hD] at h1
   cases h1
   exact .inr ⟨j,h2,h3,h4⟩
 ·rintro (⟨i,D',j,hi,h⟩ | ⟨j,h⟩)
  ·exact ⟨i,D',j,by omega,h⟩
  ·exact ⟨k,D,j,by omega,hD,h⟩
theorem BeatP.shift {S:Int→Prop} {f g:Int} (h:BeatP S true f g) (c:Int):BeatP (fun x=>S (x - c)) true (c+f) g:=
 ⟨fun e=>(by cases e),fun _=>(by show S (c+f - c); rw [show c+f - c=f by omega]; exact h.yes rfl),h.ge,fun d=>by
  rw [h.dvd d]
  constructor
  ·intro p x y hx hy
   have:=p _ _ hx hy
   rwa [show x - c - (y - c)=x - y by omega] at this
  ·intro p x y hx hy
   have:=p (x+c) (y+c) (by show S (x+c - c); rw [show x+c - c=x by omega]; exact hx) (by show S (y+c - c); rw [show y+c - c=y by omega]; exact hy)
   rwa [show x+c - (y+c)=x - y by omega] at this⟩
def nxB (D:Int) (N B:Nat→Bt) (u:Nat):Bt:=if u < 3 then gcdB (takeB (B u) (D * (86400 / szI u)+(N u).2.1)) (N u).2.2 else takeB (B u) (outF D u)
theorem secL_has {q:Nat→Bool} {x:Int}:x∈secL q↔∃j,j < 86400∧q j=true∧x= (j:Int):=by rw [secL]; exact sel_mem
attribute [local irreducible] secL
theorem BQ.next {cs:List Cl} {k:Nat} {D:Int} {B:Nat→Bt} (h:BQ cs k B) (hD:(dayS cs (daysL 0 146096))[k]? =some D):BQ cs (k+1) (nxB D (nrB (secL (dayQ cs D))) B):=fun u hu=>by
 obtain ⟨a,b,j0,hj0,hq0⟩:=day_rng hD
 rw [nxB]
 by_cases h3:u < 3
 ·rw [if_pos h3]
  have hn:=nrB_q (secL (dayQ cs D)) u _ (zG _)
  rw [List.take_length] at hn
  obtain ⟨N,hN⟩:∃N,nrB (secL (dayQ cs D)) u=N:=⟨_,rfl⟩
  rw [hN] at hn⊢
  obtain ⟨y,f,g⟩:=N
  simp only [BeatQ] at hn
  have hy:y=true:=by
   cases y
   ·exact absurd ⟨(j0:Int),secL_has.2 ⟨j0,hj0,hq0,rfl⟩,rfl⟩ ((hn.no rfl).2.2 ((j0:Int) / szI u))
   ·rfl
  subst hy
  refine BeatP.congr ((h u hu).both (hn.shift (D * (86400 / szI u)))) fun x=>?_
  rw [UD.more hD]
  refine or_congr Iff.rfl ?_
  constructor
  ·rintro ⟨v,hv,e⟩
   obtain ⟨j,h1,h2,rfl⟩:=secL_has.1 hv
   exact ⟨j,h1,h2,by rw [unN_low h3]; omega⟩
  ·rintro ⟨j,h1,h2,rfl⟩
   exact ⟨j,secL_has.2 ⟨j,h1,h2,rfl⟩,by rw [unN_low h3]; omega⟩
 ·rw [if_neg h3]
  refine BeatP.congr ((h u hu).take (outF D u)) fun x=>?_
  rw [UD.more hD]
  refine or_congr Iff.rfl ?_
  constructor
  ·rintro rfl; exact ⟨j0,hj0,hq0,by rw [unN,if_neg h3]⟩
  ·rintro ⟨j,_,_,rfl⟩; rw [unN,if_neg h3]
theorem nrB_day {cs:List Cl} {D:Int} {j0:Nat} (hj0:j0 < 86400) (hq0:dayQ cs D j0=true) (u:Nat):M62 (nrB (secL (dayQ cs D)) u).2.1∧M62 (nrB (secL (dayQ cs D)) u).2.2∧(nrB (secL (dayQ cs D)) u).2.1 < 86400:=by
 have hn:=nrB_q (secL (dayQ cs D)) u _ (zG _)
 rw [List.take_length] at hn
 have:=BeatP.bd (M:=86399) hn (by omega) fun v ⟨x,hm,e⟩=>by
  obtain ⟨j,h1,-,rfl⟩:=secL_has.1 hm
  have h2:=div_rng (x:=(j:Int)) (by omega) (by omega) (szI_pos u).1
  omega
 simp only [M62]; omega
end
end Go.Proofs.YthimhfmnikfgaaaGreatDoor
