/-
  Verdicts that are the same; ferialaw21.fault, lives.
-/
import Derived.Test.YtmjljpdeohbfbaaGreatDoorQfd3d2b
import Derived.Test.YtmjljpdeohbfbaaGreatDoorQ4cfd4d
import Derived.Test.YtmjljpdeohbfbaaGreatDoorQa1fa8d
import Derived.Deep.CutRange
namespace Go.Proofs.YtmjljpdeohbfbaaGreatDoor
open Go.RowKit Go.Maps
set_option linter.unusedVariables false
/-! ### verdicts that are the same -/
theorem cellsVr:Tryz.prog.cellsOf 26=3:=by kernel_rfl
theorem keyVr:Tryz.prog.keyTypeAt 3 26=true:=by kernel_rfl
theorem formVr (y:Bool) (t:Int) (f:Bool):(verV y t f).formed Tryz.prog 26=true:=by
 unfold Value.formed verV; simp only [Tryz.underlying26,cellsVr]; rfl
theorem lits_vr (d:Nat) (y:Bool) (t:Int) (f:Bool) (ht:i64B t):Tryz.prog.keyLits (d+2) 26 [.bool y, .int .i64 t, .bool f]=some [.bool y, .int .i64 t, .bool f]:=by
 unfold Program.keyLits
 simp only [Tryz.underlying26]
 simp [cellsI64,cellsVr,cellsBl,lits_l,lits_b,ht]
def eqlVerS (a b:Value):Sem Value:=binOp .eql 26 a b
theorem eql_verS (a b:Value):binOp .eql 26 a b=eqlVerS a b:=rfl
theorem eqlVer_run (y y':Bool) (t t':Int) (f f':Bool) (w:World) (ht:i64B t) (ht':i64B t'):(eqlVerS (verV y t f) (verV y' t' f')).run Tryz.prog w= .ok (.bool (decide (y=y'∧t=t'∧f=f'))) w:=by
 obtain ⟨r,hr,hi⟩:=run_equalIn_deep 9997 3 26 keyVr w 3 3 _ _ _ _ (formVr y t f) (formVr y' t' f') (lits_vr 1 y t f ht) (lits_vr 1 y' t' f' ht')
 have e:r=decide (y=y'∧t=t'∧f=f'):=by
  rw [Bool.eq_iff_iff,decide_eq_true_eq,hi]
  simp
 rw [eqlVerS,verV,verV,run_eql_struct]
 rw [verV,verV] at hr
 rw [hr,e]; rfl
/-! ### the chapter's example -/
def wkCl:Cl:={fullCl with m:=fun i=>if i=6 then 126 else fullM i}
theorem wk_m (i:Nat) (hi:i < 7):wkCl.m i < 18446744073709551616:=by
 show (if i=6 then 126 else fullM i) < _
 split
 ·decide
 ·exact full_ok.m i hi
theorem wk_ok:wkCl.Ok:={full_ok with m:=wk_m}
theorem wk_may:mayC wkCl=true:=by kernel_rfl
theorem wk_fault:faultL [wkCl]=0:=by kernel_rfl
theorem wk_has {t:Int} (h0:0≤t) (h1:t < 12622780800):hasC wkCl t=hasB 126 ((t / 86400 % 7+3) % 7+1):=by
 have hf:=full_has (t:=t) (by simp only [winB,decide_eq_true_eq]; omega)
 rw [hasC] at hf
 simp only [Bool.and_eq_true] at hf
 obtain ⟨e1,-,e3,e4,e5,e6⟩:=hf
 rw [dayC,dateB,domB] at e6
 simp only [Bool.and_eq_true] at e6
 obtain ⟨-,⟨g1,g2,g3,g4,g5⟩,g6⟩:=e6
 rw [if_neg (by decide)] at g1
 simp only [Bool.and_eq_true] at g1
 have k3:betB wkCl.fr wkCl.un t=true:=e3
 have k4:todIn (t % 86400) (wkCl.m 2) (wkCl.m 1) (wkCl.m 0)=true:=e4
 have k5:onB wkCl.unit wkCl.step wkCl.anchor t=true:=e5
 have k6:dayOn wkCl.unit wkCl.step wkCl.anchor (t / 86400)=true:=g6
 have q1:hasB (wkCl.m 4) (shF (t / 86400) 3)=true:=g1.1
 have q2:hasB (wkCl.m 3) (shF (t / 86400) 2)=true:=g2
 have q3:hasB (wkCl.m 5) (shF (t / 86400) 4)=true:=g3
 have q4:hasW wkCl.ys (shF (t / 86400) 1 - 1970)=true:=g4
 have q5:nthB wkCl.oin wkCl.oback wkCl.od (shF (t / 86400))=true:=g5
 have q6:hasB (wkCl.m 6) (shF (t / 86400) 5)=hasB 126 ((t / 86400 % 7+3) % 7+1):=rfl
 rw [hasC,e1,wk_may,k3,k4,k5,dayC,wk_may,k6,dateB,domB,if_neg (by decide),q1,q2,q3,q4,q5,q6]
 simp
theorem wk_least:LeastP (fun p q=>p != q) [fullCl] [wkCl] 259200:=by
 have hw:∀t,instB [wkCl] t=hasC wkCl t:=fun t=>by simp [instB]
 refine ⟨by decide,by decide,?_,fun s hs=>?_⟩
 ·show (instB [fullCl] 259200 != instB [wkCl] 259200)=true
  rw [inst_full (by decide) (by decide),hw,wk_has (by decide) (by decide)]
  decide +kernel
 ·show (instB [fullCl] s != instB [wkCl] s)=false
  rcases Int.lt_or_le s 0 with h | h
  ·rw [inst_out (.inl h),inst_out (.inl h)]; rfl
  ·rw [inst_full h (by omega),hw,wk_has h (by omega)]
   have h3:s / 86400=0∨s / 86400=1∨s / 86400=2:=by omega
   rcases h3 with e | e | e <;> rw [e] <;> decide +kernel
theorem wk_eq {y:Bool} {t:Int} {f:Bool} {er:Int} (h:VrdP (fun p q=>p != q) [fullCl] [wkCl] y t f er):er=0∧y=false∧t=259200∧f=true:=by
 obtain ⟨h1,-,h3⟩:=h
 have e:er=0:=by rw [h1,fault2,if_neg (by rw [fault_full]; simp),wk_fault]
 have h4:=h3 e
 have h5:VerP (fun p q=>p != q) [fullCl] [wkCl] false 259200 true:= .inr ⟨wk_least,rfl,(inst_full (by decide) (by decide)).symm⟩
 obtain ⟨rfl,rfl,rfl⟩:=h4.unique h5
 exact ⟨e,rfl,rfl,rfl⟩
theorem clB_at6 {W:World} {b:Nat} {c c':Cl} {v:Value} (h:ClB W b c) (e:clList c' = (clList c).set 6 v):ClB (W.setCell ⟨b,6,none⟩ v) b c':=by
 intro j x hx
 rw [e] at hx
 by_cases hj:j=6
 ·subst hj
  have hl:6 < (clList c).length:=by show 6 < 30; omega
  rw [List.getElem?_set_self hl] at hx
  obtain rfl:=Option.some.inj hx
  rw [Nat.zero_add]
  exact World.cell?_setCell_same _ _ _ (h.at 6 (List.getElem?_eq_getElem hl))
 ·rw [List.getElem?_set_ne (Ne.symm hj)] at hx
  rw [World.cell?_setCell_other _ _ _ _ (by intro e; injection e with _ e _; omega)]
  exact h j x hx
structure LvM (W0:World) (bc:Nat) (C F:Cl) (A B V:Option Nat) (W:World):Prop where
 bel:Below W0.heap.size W0 W
 c0:ClB W0 bc C∧bc < W0.heap.size
 sa:∀g,A=some g→Sl W (some ⟨g,0,none⟩) (cls [F])
 sb:∀g,B=some g→Sl W (some ⟨g,0,none⟩) (cls [C])
 sv:∀b,V=some b→W0.heap.size≤b∧W.cell? ⟨b,0,none⟩=some (.bool false)∧W.cell? ⟨b,1,none⟩=some (.int .i64 0)∧W.cell? ⟨b,2,none⟩=some (.bool false)∧∀i,W.frozen? ⟨b,i,none⟩=false
 lv:∀b,V=some b→b < W.heap.size
section
variable {W0 W W':World} {bc:Nat} {C F:Cl} {A B V:Option Nat}
theorem LvM.cl (h:LvM W0 bc C F A B V W):(loadClS (.pointer (some ⟨bc,0,none⟩))).run Tryz.prog W= .ok (clv C) W:=(h.c0.1.below h.bel h.c0.2).ld
theorem LvM.below (h:LvM W0 bc C F A B V W) (hB:Below W.heap.size W W'):LvM W0 bc C F A B V W':=
 ⟨h.bel.trans (hB.mono h.bel.size),h.c0,fun g hg=>(h.sa g hg).below hB,fun g hg=>(h.sb g hg).below hB,fun b hb=>by
  obtain ⟨h1,h2,h3,h4,h5⟩:=h.sv b hb
  have hl:=h.lv b hb
  exact ⟨h1,(hB.cell (p:=⟨b,0,none⟩) hl).trans h2,(hB.cell (p:=⟨b,1,none⟩) hl).trans h3,(hB.cell (p:=⟨b,2,none⟩) hl).trans h4,fun i=>(hB.frozen (p:=⟨b,i,none⟩) hl).trans (h5 i)⟩,fun b hb=>zH (h.lv b hb) hB.size⟩
theorem LvM.whole {g:Nat} (h:LvM W0 bc C F none B V W) (hO:OwnR W W' [F] (.slice (some ⟨g,0,none⟩) 1 1)) (hB:Below W.heap.size W W'):LvM W0 bc C F (some g) B V W':=
 ⟨(h.below hB).bel,h.c0,fun g' hg=>by cases hg; exact owns_sl hO,(h.below hB).sb,(h.below hB).sv,(h.below hB).lv⟩
theorem LvM.slice (h:LvM W0 bc C F A none V W) (t:TypeId):LvM W0 bc C F A (some W.heap.size) V (W.alloc (.cells (clList C).toArray t)):=by
 have hB:=below_new (o:= .cells (clList C).toArray t) (Below.refl W.heap.size W) (zG _)
 have h':=h.below hB
 refine ⟨h'.bel,h.c0,h'.sa,fun g hg=>?_,h'.sv,h'.lv⟩
 cases hg
 have:=sl_range (cs:=clList C) (range_new W (clList C) t) (by simp)
 rwa [show cls [C]=clList C from List.append_nil _]
theorem LvM.ver (h:LvM W0 bc C F A B none W) (t:TypeId):LvM W0 bc C F A B (some W.heap.size) (W.alloc (.cells #[.bool false, .int .i64 0, .bool false] t)):=by
 have hB:=below_new (o:= .cells #[.bool false, .int .i64 0, .bool false] t) (Below.refl W.heap.size W) (zG _)
 have h':=h.below hB
 refine ⟨h'.bel,h.c0,h'.sa,h'.sb,fun b hb=>?_,fun b hb=>?_⟩
 ·cases hb
  exact ⟨h.bel.size,by simp [go_sem],by simp [go_sem],by simp [go_sem],fun i=>by simp [go_sem]⟩
 ·cases hb; simp
theorem LvM.fin {bv:Nat} (h:LvM W0 bc C F A B (some bv) W):Below W0.heap.size W0 (((W.setCell ⟨bv,0,none⟩ (.bool false)).setCell ⟨bv,1,none⟩ (.int .i64 259200)).setCell ⟨bv,2,none⟩ (.bool true))∧
  ((((W.setCell ⟨bv,0,none⟩ (.bool false)).setCell ⟨bv,1,none⟩ (.int .i64 259200)).setCell ⟨bv,2,none⟩ (.bool true)).cell? ⟨bv,0,none⟩=some (.bool false)∧(((W.setCell ⟨bv,0,none⟩ (.bool false)).setCell ⟨bv,1,none⟩ (.int .i64 259200)).setCell ⟨bv,2,none⟩ (.bool true)).cell? ⟨bv,1,none⟩=some (.int .i64 259200)∧(((W.setCell ⟨bv,0,none⟩ (.bool false)).setCell ⟨bv,1,none⟩ (.int .i64 259200)).setCell ⟨bv,2,none⟩ (.bool true)).cell? ⟨bv,2,none⟩=some (.bool true))∧
  (loadClS (.pointer (some ⟨bc,0,none⟩))).run Tryz.prog (((W.setCell ⟨bv,0,none⟩ (.bool false)).setCell ⟨bv,1,none⟩ (.int .i64 259200)).setCell ⟨bv,2,none⟩ (.bool true))= .ok (clv C) (((W.setCell ⟨bv,0,none⟩ (.bool false)).setCell ⟨bv,1,none⟩ (.int .i64 259200)).setCell ⟨bv,2,none⟩ (.bool true)):=by
 obtain ⟨h1,h2,h3,h4,h5⟩:=h.sv bv rfl
 have hb:=below_set (u:= .bool true) (o:=2) (below_set (u:= .int .i64 259200) (o:=1) (below_set (u:= .bool false) (o:=0) h.bel h1) h1) h1
 exact ⟨hb,⟨by simp [go_sem,h2],by simp [go_sem,h3],by simp [go_sem,h4]⟩,(h.c0.1.below hb h.c0.2).ld⟩
end
attribute [local go_sem ↓] storeAt_cl loadAt_cl eql_verS
attribute [local go_sem] run_storeClS
set_option maxRecDepth 100000 in
set_option maxHeartbeats 3200000 in
theorem Lives21_any (w:World) (hT:Tab w):Calls Tryz.prog 12 #[] w fun e w'=>e= .returned (.bool true)∧Below w.heap.size w w':=by
 have HT:=hid hT
 have cR0:=hid (fun W=>RFull_any W)
 have cW:=hid (fun W=>IWhole_any W)
 have cE:=hid (fun (ga gb:Nat) W (h1:Sl W (some ⟨ga,0,none⟩) (cls [fullCl])) (h2:Sl W (some ⟨gb,0,none⟩) (cls [wkCl])) (hT:Tab W)=>
  (show Calls Tryz.prog 13 #[.slice (some ⟨ga,0,none⟩) 1 1, .slice (some ⟨gb,0,none⟩) 1 1] W fun e W'=>e= .returned (.tuple #[.agg #[.bool false, .int .i64 259200, .bool true], .int .i64 0])∧Below W.heap.size W W' from
    (MtEqual_any (some ⟨ga,0,none⟩) 1 [fullCl] (some ⟨gb,0,none⟩) 1 [wkCl] W (by simp) (by simp) h1 (by simp) full_okL (by simp) (by simp) h2 (by simp) (by simpa using wk_ok) hT).mono fun e W' ⟨⟨y,t,f,er,h1,h2⟩,h3⟩=>by
      obtain ⟨rfl,rfl,rfl,rfl⟩:=wk_eq h2
      exact ⟨h1,h3⟩))
 have eC:Hid (clList wkCl= (clList fullCl).set 6 (.int .u64 126)):=by show _ = _; rfl
 have qv:∀W,(eqlVerS (.agg #[.bool false, .int .i64 259200, .bool true]) (.agg #[.bool false, .int .i64 259200, .bool true])).run Tryz.prog W= .ok (.bool true) W:=fun W=>by
  have:=eqlVer_run false false 259200 259200 true true W ⟨by decide,by decide⟩ ⟨by decide,by decide⟩
  rw [verV] at this
  rw [this]; rfl
 have Qv:=hid qv
 obtain ⟨F,hFF⟩:∃F,fullCl=F:=⟨_,rfl⟩
 obtain ⟨C,hCC⟩:∃C,wkCl=C:=⟨_,rfl⟩
 rw [hFF] at cR0 cW eC
 rw [hCC] at eC
 rw [hFF,hCC] at cE
 clear hFF hCC hT qv
 go_enter Tryz.func12,Tryz.ntmps12
 go_wp2_with fail
 refine (cR0.out _).mono ?_
 rintro e w1 ⟨rfl,hB1⟩
 have HB1:=hid hB1
 clear hB1
 have hth:(w1.alloc (.cells zL.toArray 43)).there w1.heap.size 0 30:=there_new w1 _ _
 have hC0:ClB (putCl (w1.alloc (.cells zL.toArray 43)) w1.heap.size (clList F)) w1.heap.size F:=putCl_range _ rfl hth
 have hBa:Below w1.heap.size w1 (putCl (w1.alloc (.cells zL.toArray 43)) w1.heap.size (clList F)):=putCl_below (below_new (Below.refl _ _) (zG _)) (zG _) _
 have hth2:(putCl (w1.alloc (.cells zL.toArray 43)) w1.heap.size (clList F)).there w1.heap.size 0 30:=World.there_setCells hth _ _ _
 have h6:=hC0.at 6 rfl
 have f6:(putCl (w1.alloc (.cells zL.toArray 43)) w1.heap.size (clList F)).frozen? ⟨w1.heap.size,6,none⟩=false:=by simpa using (hth2 6 (by omega)).2
 have hsz:w1.heap.size < (putCl (w1.alloc (.cells zL.toArray 43)) w1.heap.size (clList F)).heap.size:=by
  have:=(World.keptBut_setCells w1.heap.size (may:=fun _=>True) (clList F) 0 (w1.alloc (.cells zL.toArray 43)) (fun _ _=>trivial)).size
  rw [World.size_alloc] at this
  exact this
 have hC6:=clB_at6 hC0 eC.out
 have hbs:Below w1.heap.size w1 ((putCl (w1.alloc (.cells zL.toArray 43)) w1.heap.size (clList F)).setCell ⟨w1.heap.size,6,none⟩ (.int .u64 126)):=below_set hBa (zG _)
 have hsz2:w1.heap.size < ((putCl (w1.alloc (.cells zL.toArray 43)) w1.heap.size (clList F)).setCell ⟨w1.heap.size,6,none⟩ (.int .u64 126)).heap.size:=by rw [World.size_setCell]; exact hsz
 go_upto_region 3 with fail
 obtain ⟨W3,hW3⟩:∃W,(putCl (w1.alloc (.cells zL.toArray 43)) w1.heap.size (clList F)).setCell ⟨w1.heap.size,6,none⟩ (.int .u64 126)=W:=⟨_,rfl⟩
 rw [hW3] at hC6 hbs hsz2⊢
 have HB3:=hid (HB1.out.trans (hbs.mono HB1.out.size))
 have S0':LvM W3 w1.heap.size C F none none none W3:=⟨Below.refl _ _,⟨hC6,hsz2⟩,fun _ h=>(by cases h),fun _ h=>(by cases h),fun _ h=>(by cases h),fun _ h=>(by cases h)⟩
 clear hth hC0 hBa hth2 h6 f6 hsz hC6 hbs hsz2 hW3
 go_cut [2,3] from 4 (fun x2 x3 wx=>∃bv:Nat,x2= .pointer (some ⟨bv,0,none⟩)∧x3= .int .i64 0∧Hid (Below W3.heap.size W3 wx∧(wx.cell? ⟨bv,0,none⟩=some (.bool false)∧wx.cell? ⟨bv,1,none⟩=some (.int .i64 259200)∧wx.cell? ⟨bv,2,none⟩=some (.bool true))∧True))
 case first=>
  obtain ⟨Wd,hWd⟩:∃Wd,W3.drew=Wd:=⟨_,rfl⟩
  have S0:Hid (LvM W3 w1.heap.size C F none none none Wd):=by rw [←hWd]; exact S0'.below (Below.refl _ _).drew
  have HWd:=hid hWd
  clear S0' hWd
  refine wp_region_held_drew (S:=fun w'=>Hid ((loadClS (.pointer (some ⟨w1.heap.size,0,none⟩))).run Tryz.prog w' = .ok (clv C) w')) (by kernel_rfl) (hid (by rw [HWd.out]; exact S0.out.cl)) (fun hHeld=>?_)
  rw [HWd.out]
  clear hHeld
  have hHeld:Hid ((loadClS (.pointer (some ⟨w1.heap.size,0,none⟩))).run Tryz.prog Wd= .ok (clv C) Wd):=hid S0.out.cl
  refine zT 1 (v:=?_) ?_ ?_
  rotate_left
  ·intro w' hSw; have hld:=hSw.out; clear hSw; go_simp; (try with_reducible rfl)
  try simp only [zP]
  refine wpAnyH_ready (rs:= [0,2,7]) (by kernel_rfl) (by simp) ?_
  refine AllReadyH.cons rfl (fun K hK=>?_) (AllReadyH.cons rfl (fun K hK=>?_) (AllReadyH.cons rfl (fun K hK=>?_) AllReadyH.nil))
  ·go_simp
   refine (cW.out _).mono ?_
   rintro e w1 ⟨⟨g,rfl,hO⟩,hB⟩
   have S1:=hid (S0.out.whole hO hB)
   clear hO hB
   (try go_wp2_with fail)
   refine hK.out _ _ (hid S1.out.cl) (fun hHeld=>?_)
   clear hK K
   try simp only [zP]
   refine wpAnyH_ready (rs:= [2,7]) (by kernel_rfl) (by simp) ?_
   refine AllReadyH.cons rfl (fun K hK=>?_) (AllReadyH.cons rfl (fun K hK=>?_) AllReadyH.nil)
   ·go_simp
    (try go_wp2_with fail)
    have hs2:=S1.out.slice 43
    obtain ⟨w2,hw2⟩:∃w',World.alloc w1 (.cells (clList C).toArray 43)=w':=⟨_,rfl⟩
    rw [hw2] at hs2⊢
    obtain ⟨gb,hgb⟩:∃gb,w1.heap.size=gb:=⟨_,rfl⟩
    rw [hgb] at hs2⊢
    have S2:=hid hs2
    clear hw2 hgb hs2
    refine hK.out _ _ (hid S2.out.cl) (fun hHeld=>?_)
    clear hK K
    try simp only [zP]
    refine wpAnyH_ready (rs:= [3,7]) (by kernel_rfl) (by simp) ?_
    refine AllReadyH.cons rfl (fun K hK=>?_) (AllReadyH.cons rfl (fun K hK=>?_) AllReadyH.nil)
    ·go_simp
     refine (cE.out _ _ _ (S2.out.sa _ rfl) (S2.out.sb _ rfl) (HT.out.later (HB3.out.trans (S2.out.bel.mono HB3.out.size)))).mono ?_
     rintro e w3 ⟨rfl,hB⟩
     have S3:=hid (S2.out.below hB)
     clear hB
     (try go_wp2_with fail)
     refine hK.out _ _ (hid S3.out.cl) (fun hHeld=>?_)
     clear hK K
     try simp only [zP]
     refine zT 4 (v:=?_) ?_ ?_
     rotate_left
     ·intro w' hSw; clear hSw; go_simp; (try with_reducible rfl)
     try simp only [zP]
     refine zT 5 (v:=?_) ?_ ?_
     rotate_left
     ·intro w' hSw; clear hSw; go_simp; (try with_reducible rfl)
     try simp only [zP]
     refine zT 6 (v:=?_) ?_ ?_
     rotate_left
     ·intro w' hSw; clear hSw; go_simp; (try with_reducible rfl)
     try simp only [zP]
     refine wpAnyH_ready (rs:= [7]) (by kernel_rfl) (by simp) ?_
     refine AllReadyH.cons rfl (fun K hK=>?_) AllReadyH.nil
     go_simp
     (try go_wp2_with fail)
     have hs4:=S3.out.ver 26
     obtain ⟨w4,hw4⟩:∃w',World.alloc w3 (.cells #[.bool false, .int .i64 0, .bool false] 26)=w':=⟨_,rfl⟩
     rw [hw4] at hs4⊢
     obtain ⟨bv,hbv⟩:∃gb,w3.heap.size=gb:=⟨_,rfl⟩
     rw [hbv] at hs4⊢
     have S4:=hid hs4
     clear hw4 hbv hs4
     refine hK.out _ _ (hid S4.out.cl) (fun hHeld=>?_)
     clear hK K
     try simp only [zP]
     refine wpAnyH_ready (rs:= [8]) (by kernel_rfl) (by simp) ?_
     refine AllReadyH.cons rfl (fun K hK=>?_) AllReadyH.nil
     obtain ⟨-,c0,c1,c2,z⟩:=S4.out.sv _ rfl
     have z0:=z 0
     have z1:=z 1
     have z2:=z 2
     clear z
     go_simp
     have hfin:=S4.out.fin
     (try go_wp2_with fail)
     refine hK.out _ _ (hid hfin.2.2) (fun hHeld=>?_)
     clear hK K c0 c1 c2 z0 z1 z2
     try simp only [zP]
     refine zT 9 (v:=?_) ?_ ?_
     rotate_left
     ·intro w' hSw; clear hSw; go_simp; (try with_reducible rfl)
     try simp only [zP]
     refine wpAnyH_done (by kernel_rfl) ?_ _
     clear hHeld
     go_wp2_with fail
     go_meet
     exact ⟨_,rfl,rfl,hid ⟨hfin.1,hfin.2.1,trivial⟩⟩
    ·go_simp
     (try go_wp2_with fail)
     have hs3:=S2.out.ver 26
     obtain ⟨w3,hw3⟩:∃w',World.alloc w2 (.cells #[.bool false, .int .i64 0, .bool false] 26)=w':=⟨_,rfl⟩
     rw [hw3] at hs3⊢
     obtain ⟨bv,hbv⟩:∃gb,w2.heap.size=gb:=⟨_,rfl⟩
     rw [hbv] at hs3⊢
     have S3:=hid hs3
     clear hw3 hbv hs3
     refine hK.out _ _ (hid S3.out.cl) (fun hHeld=>?_)
     clear hK K
     try simp only [zP]
     refine wpAnyH_ready (rs:= [3]) (by kernel_rfl) (by simp) ?_
     refine AllReadyH.cons rfl (fun K hK=>?_) AllReadyH.nil
     go_simp
     refine (cE.out _ _ _ (S3.out.sa _ rfl) (S3.out.sb _ rfl) (HT.out.later (HB3.out.trans (S3.out.bel.mono HB3.out.size)))).mono ?_
     rintro e w4 ⟨rfl,hB⟩
     have S4:=hid (S3.out.below hB)
     clear hB
     (try go_wp2_with fail)
     refine hK.out _ _ (hid S4.out.cl) (fun hHeld=>?_)
     clear hK K
     try simp only [zP]
     refine zT 4 (v:=?_) ?_ ?_
     rotate_left
     ·intro w' hSw; clear hSw; go_simp; (try with_reducible rfl)
     try simp only [zP]
     refine zT 5 (v:=?_) ?_ ?_
     rotate_left
     ·intro w' hSw; clear hSw; go_simp; (try with_reducible rfl)
     try simp only [zP]
     refine zT 6 (v:=?_) ?_ ?_
     rotate_left
     ·intro w' hSw; clear hSw; go_simp; (try with_reducible rfl)
     try simp only [zP]
     refine wpAnyH_ready (rs:= [8]) (by kernel_rfl) (by simp) ?_
     refine AllReadyH.cons rfl (fun K hK=>?_) AllReadyH.nil
     obtain ⟨-,c0,c1,c2,z⟩:=S4.out.sv _ rfl
     have z0:=z 0
     have z1:=z 1
     have z2:=z 2
     clear z
     go_simp
     have hfin:=S4.out.fin
     (try go_wp2_with fail)
     refine hK.out _ _ (hid hfin.2.2) (fun hHeld=>?_)
     clear hK K c0 c1 c2 z0 z1 z2
     try simp only [zP]
     refine zT 9 (v:=?_) ?_ ?_
     rotate_left
     ·intro w' hSw; clear hSw; go_simp; (try with_reducible rfl)
     try simp only [zP]
     refine wpAnyH_done (by kernel_rfl) ?_ _
     clear hHeld
     go_wp2_with fail
     go_meet
     exact ⟨_,rfl,rfl,hid ⟨hfin.1,hfin.2.1,trivial⟩⟩
   ·go_simp
    (try go_wp2_with fail)
    have hs2:=S1.out.ver 26
    obtain ⟨w2,hw2⟩:∃w',World.alloc w1 (.cells #[.bool false, .int .i64 0, .bool false] 26)=w':=⟨_,rfl⟩
    rw [hw2] at hs2⊢
    obtain ⟨bv,hbv⟩:∃gb,w1.heap.size=gb:=⟨_,rfl⟩
    rw [hbv] at hs2⊢
    have S2:=hid hs2
    clear hw2 hbv hs2
    refine hK.out _ _ (hid S2.out.cl) (fun hHeld=>?_)
    clear hK K
    try simp only [zP]
    refine wpAnyH_ready (rs:= [2]) (by kernel_rfl) (by simp) ?_
    refine AllReadyH.cons rfl (fun K hK=>?_) AllReadyH.nil
    go_simp
    (try go_wp2_with fail)
    have hs3:=S2.out.slice 43
    obtain ⟨w3,hw3⟩:∃w',World.alloc w2 (.cells (clList C).toArray 43)=w':=⟨_,rfl⟩
    rw [hw3] at hs3⊢
    obtain ⟨gb,hgb⟩:∃gb,w2.heap.size=gb:=⟨_,rfl⟩
    rw [hgb] at hs3⊢
    have S3:=hid hs3
    clear hw3 hgb hs3
    refine hK.out _ _ (hid S3.out.cl) (fun hHeld=>?_)
    clear hK K
    try simp only [zP]
    refine wpAnyH_ready (rs:= [3]) (by kernel_rfl) (by simp) ?_
    refine AllReadyH.cons rfl (fun K hK=>?_) AllReadyH.nil
    go_simp
    refine (cE.out _ _ _ (S3.out.sa _ rfl) (S3.out.sb _ rfl) (HT.out.later (HB3.out.trans (S3.out.bel.mono HB3.out.size)))).mono ?_
    rintro e w4 ⟨rfl,hB⟩
    have S4:=hid (S3.out.below hB)
    clear hB
    (try go_wp2_with fail)
    refine hK.out _ _ (hid S4.out.cl) (fun hHeld=>?_)
    clear hK K
    try simp only [zP]
    refine zT 4 (v:=?_) ?_ ?_
    rotate_left
    ·intro w' hSw; clear hSw; go_simp; (try with_reducible rfl)
    try simp only [zP]
    refine zT 5 (v:=?_) ?_ ?_
    rotate_left
    ·intro w' hSw; clear hSw; go_simp; (try with_reducible rfl)
    try simp only [zP]
    refine zT 6 (v:=?_) ?_ ?_
    rotate_left
    ·intro w' hSw; clear hSw; go_simp; (try with_reducible rfl)
    try simp only [zP]
    refine wpAnyH_ready (rs:= [8]) (by kernel_rfl) (by simp) ?_
    refine AllReadyH.cons rfl (fun K hK=>?_) AllReadyH.nil
    obtain ⟨-,c0,c1,c2,z⟩:=S4.out.sv _ rfl
    have z0:=z 0
    have z1:=z 1
    have z2:=z 2
    clear z
    go_simp
    have hfin:=S4.out.fin
    (try go_wp2_with fail)
    refine hK.out _ _ (hid hfin.2.2) (fun hHeld=>?_)
    clear hK K c0 c1 c2 z0 z1 z2
    try simp only [zP]
    refine zT 9 (v:=?_) ?_ ?_
    rotate_left
    ·intro w' hSw; clear hSw; go_simp; (try with_reducible rfl)
    try simp only [zP]
    refine wpAnyH_done (by kernel_rfl) ?_ _
    clear hHeld
    go_wp2_with fail
    go_meet
    exact ⟨_,rfl,rfl,hid ⟨hfin.1,hfin.2.1,trivial⟩⟩
  ·go_simp
   (try go_wp2_with fail)
   have hs1:=S0.out.slice 43
   obtain ⟨w1,hw1⟩:∃w',World.alloc Wd (.cells (clList C).toArray 43)=w':=⟨_,rfl⟩
   rw [hw1] at hs1⊢
   obtain ⟨gb,hgb⟩:∃gb,Wd.heap.size=gb:=⟨_,rfl⟩
   rw [hgb] at hs1⊢
   have S1:=hid hs1
   clear hw1 hgb hs1
   refine hK.out _ _ (hid S1.out.cl) (fun hHeld=>?_)
   clear hK K
   try simp only [zP]
   refine wpAnyH_ready (rs:= [0,7]) (by kernel_rfl) (by simp) ?_
   refine AllReadyH.cons rfl (fun K hK=>?_) (AllReadyH.cons rfl (fun K hK=>?_) AllReadyH.nil)
   ·go_simp
    refine (cW.out _).mono ?_
    rintro e w2 ⟨⟨g,rfl,hO⟩,hB⟩
    have S2:=hid (S1.out.whole hO hB)
    clear hO hB
    (try go_wp2_with fail)
    refine hK.out _ _ (hid S2.out.cl) (fun hHeld=>?_)
    clear hK K
    try simp only [zP]
    refine wpAnyH_ready (rs:= [3,7]) (by kernel_rfl) (by simp) ?_
    refine AllReadyH.cons rfl (fun K hK=>?_) (AllReadyH.cons rfl (fun K hK=>?_) AllReadyH.nil)
    ·go_simp
     refine (cE.out _ _ _ (S2.out.sa _ rfl) (S2.out.sb _ rfl) (HT.out.later (HB3.out.trans (S2.out.bel.mono HB3.out.size)))).mono ?_
     rintro e w3 ⟨rfl,hB⟩
     have S3:=hid (S2.out.below hB)
     clear hB
     (try go_wp2_with fail)
     refine hK.out _ _ (hid S3.out.cl) (fun hHeld=>?_)
     clear hK K
     try simp only [zP]
     refine zT 4 (v:=?_) ?_ ?_
     rotate_left
     ·intro w' hSw; clear hSw; go_simp; (try with_reducible rfl)
     try simp only [zP]
     refine zT 5 (v:=?_) ?_ ?_
     rotate_left
     ·intro w' hSw; clear hSw; go_simp; (try with_reducible rfl)
     try simp only [zP]
     refine zT 6 (v:=?_) ?_ ?_
     rotate_left
     ·intro w' hSw; clear hSw; go_simp; (try with_reducible rfl)
     try simp only [zP]
     refine wpAnyH_ready (rs:= [7]) (by kernel_rfl) (by simp) ?_
     refine AllReadyH.cons rfl (fun K hK=>?_) AllReadyH.nil
     go_simp
     (try go_wp2_with fail)
     have hs4:=S3.out.ver 26
     obtain ⟨w4,hw4⟩:∃w',World.alloc w3 (.cells #[.bool false, .int .i64 0, .bool false] 26)=w':=⟨_,rfl⟩
     rw [hw4] at hs4⊢
     obtain ⟨bv,hbv⟩:∃gb,w3.heap.size=gb:=⟨_,rfl⟩
     rw [hbv] at hs4⊢
     have S4:=hid hs4
     clear hw4 hbv hs4
     refine hK.out _ _ (hid S4.out.cl) (fun hHeld=>?_)
     clear hK K
     try simp only [zP]
     refine wpAnyH_ready (rs:= [8]) (by kernel_rfl) (by simp) ?_
     refine AllReadyH.cons rfl (fun K hK=>?_) AllReadyH.nil
     obtain ⟨-,c0,c1,c2,z⟩:=S4.out.sv _ rfl
     have z0:=z 0
     have z1:=z 1
     have z2:=z 2
     clear z
     go_simp
     have hfin:=S4.out.fin
     (try go_wp2_with fail)
     refine hK.out _ _ (hid hfin.2.2) (fun hHeld=>?_)
     clear hK K c0 c1 c2 z0 z1 z2
     try simp only [zP]
     refine zT 9 (v:=?_) ?_ ?_
     rotate_left
     ·intro w' hSw; clear hSw; go_simp; (try with_reducible rfl)
     try simp only [zP]
     refine wpAnyH_done (by kernel_rfl) ?_ _
     clear hHeld
     go_wp2_with fail
     go_meet
     exact ⟨_,rfl,rfl,hid ⟨hfin.1,hfin.2.1,trivial⟩⟩
    ·go_simp
     (try go_wp2_with fail)
     have hs3:=S2.out.ver 26
     obtain ⟨w3,hw3⟩:∃w',World.alloc w2 (.cells #[.bool false, .int .i64 0, .bool false] 26)=w':=⟨_,rfl⟩
     rw [hw3] at hs3⊢
     obtain ⟨bv,hbv⟩:∃gb,w2.heap.size=gb:=⟨_,rfl⟩
     rw [hbv] at hs3⊢
     have S3:=hid hs3
     clear hw3 hbv hs3
     refine hK.out _ _ (hid S3.out.cl) (fun hHeld=>?_)
     clear hK K
     try simp only [zP]
     refine wpAnyH_ready (rs:= [3]) (by kernel_rfl) (by simp) ?_
     refine AllReadyH.cons rfl (fun K hK=>?_) AllReadyH.nil
     go_simp
     refine (cE.out _ _ _ (S3.out.sa _ rfl) (S3.out.sb _ rfl) (HT.out.later (HB3.out.trans (S3.out.bel.mono HB3.out.size)))).mono ?_
     rintro e w4 ⟨rfl,hB⟩
     have S4:=hid (S3.out.below hB)
     clear hB
     (try go_wp2_with fail)
     refine hK.out _ _ (hid S4.out.cl) (fun hHeld=>?_)
     clear hK K
     try simp only [zP]
     refine zT 4 (v:=?_) ?_ ?_
     rotate_left
     ·intro w' hSw; clear hSw; go_simp; (try with_reducible rfl)
     try simp only [zP]
     refine zT 5 (v:=?_) ?_ ?_
     rotate_left
     ·intro w' hSw; clear hSw; go_simp; (try with_reducible rfl)
     try simp only [zP]
     refine zT 6 (v:=?_) ?_ ?_
     rotate_left
     ·intro w' hSw; clear hSw; go_simp; (try with_reducible rfl)
     try simp only [zP]
     refine wpAnyH_ready (rs:= [8]) (by kernel_rfl) (by simp) ?_
     refine AllReadyH.cons rfl (fun K hK=>?_) AllReadyH.nil
     obtain ⟨-,c0,c1,c2,z⟩:=S4.out.sv _ rfl
     have z0:=z 0
     have z1:=z 1
     have z2:=z 2
     clear z
     go_simp
     have hfin:=S4.out.fin
     (try go_wp2_with fail)
     refine hK.out _ _ (hid hfin.2.2) (fun hHeld=>?_)
     clear hK K c0 c1 c2 z0 z1 z2
     try simp only [zP]
     refine zT 9 (v:=?_) ?_ ?_
     rotate_left
     ·intro w' hSw; clear hSw; go_simp; (try with_reducible rfl)
     try simp only [zP]
     refine wpAnyH_done (by kernel_rfl) ?_ _
     clear hHeld
     go_wp2_with fail
     go_meet
     exact ⟨_,rfl,rfl,hid ⟨hfin.1,hfin.2.1,trivial⟩⟩
   ·go_simp
    (try go_wp2_with fail)
    have hs2:=S1.out.ver 26
    obtain ⟨w2,hw2⟩:∃w',World.alloc w1 (.cells #[.bool false, .int .i64 0, .bool false] 26)=w':=⟨_,rfl⟩
    rw [hw2] at hs2⊢
    obtain ⟨bv,hbv⟩:∃gb,w1.heap.size=gb:=⟨_,rfl⟩
    rw [hbv] at hs2⊢
    have S2:=hid hs2
    clear hw2 hbv hs2
    refine hK.out _ _ (hid S2.out.cl) (fun hHeld=>?_)
    clear hK K
    try simp only [zP]
    refine wpAnyH_ready (rs:= [0]) (by kernel_rfl) (by simp) ?_
    refine AllReadyH.cons rfl (fun K hK=>?_) AllReadyH.nil
    go_simp
    refine (cW.out _).mono ?_
    rintro e w3 ⟨⟨g,rfl,hO⟩,hB⟩
    have S3:=hid (S2.out.whole hO hB)
    clear hO hB
    (try go_wp2_with fail)
    refine hK.out _ _ (hid S3.out.cl) (fun hHeld=>?_)
    clear hK K
    try simp only [zP]
    refine wpAnyH_ready (rs:= [3]) (by kernel_rfl) (by simp) ?_
    refine AllReadyH.cons rfl (fun K hK=>?_) AllReadyH.nil
    go_simp
    refine (cE.out _ _ _ (S3.out.sa _ rfl) (S3.out.sb _ rfl) (HT.out.later (HB3.out.trans (S3.out.bel.mono HB3.out.size)))).mono ?_
    rintro e w4 ⟨rfl,hB⟩
    have S4:=hid (S3.out.below hB)
    clear hB
    (try go_wp2_with fail)
    refine hK.out _ _ (hid S4.out.cl) (fun hHeld=>?_)
    clear hK K
    try simp only [zP]
    refine zT 4 (v:=?_) ?_ ?_
    rotate_left
    ·intro w' hSw; clear hSw; go_simp; (try with_reducible rfl)
    try simp only [zP]
    refine zT 5 (v:=?_) ?_ ?_
    rotate_left
    ·intro w' hSw; clear hSw; go_simp; (try with_reducible rfl)
    try simp only [zP]
    refine zT 6 (v:=?_) ?_ ?_
    rotate_left
    ·intro w' hSw; clear hSw; go_simp; (try with_reducible rfl)
    try simp only [zP]
    refine wpAnyH_ready (rs:= [8]) (by kernel_rfl) (by simp) ?_
    refine AllReadyH.cons rfl (fun K hK=>?_) AllReadyH.nil
    obtain ⟨-,c0,c1,c2,z⟩:=S4.out.sv _ rfl
    have z0:=z 0
    have z1:=z 1
    have z2:=z 2
    clear z
    go_simp
    have hfin:=S4.out.fin
    (try go_wp2_with fail)
    refine hK.out _ _ (hid hfin.2.2) (fun hHeld=>?_)
    clear hK K c0 c1 c2 z0 z1 z2
    try simp only [zP]
    refine zT 9 (v:=?_) ?_ ?_
    rotate_left
    ·intro w' hSw; clear hSw; go_simp; (try with_reducible rfl)
    try simp only [zP]
    refine wpAnyH_done (by kernel_rfl) ?_ _
    clear hHeld
    go_wp2_with fail
    go_meet
    exact ⟨_,rfl,rfl,hid ⟨hfin.1,hfin.2.1,trivial⟩⟩
  ·go_simp
   (try go_wp2_with fail)
   have hs1:=S0.out.ver 26
   obtain ⟨w1,hw1⟩:∃w',World.alloc Wd (.cells #[.bool false, .int .i64 0, .bool false] 26)=w':=⟨_,rfl⟩
   rw [hw1] at hs1⊢
   obtain ⟨bv,hbv⟩:∃gb,Wd.heap.size=gb:=⟨_,rfl⟩
   rw [hbv] at hs1⊢
   have S1:=hid hs1
   clear hw1 hbv hs1
   refine hK.out _ _ (hid S1.out.cl) (fun hHeld=>?_)
   clear hK K
   try simp only [zP]
   refine wpAnyH_ready (rs:= [0,2]) (by kernel_rfl) (by simp) ?_
   refine AllReadyH.cons rfl (fun K hK=>?_) (AllReadyH.cons rfl (fun K hK=>?_) AllReadyH.nil)
   ·go_simp
    refine (cW.out _).mono ?_
    rintro e w2 ⟨⟨g,rfl,hO⟩,hB⟩
    have S2:=hid (S1.out.whole hO hB)
    clear hO hB
    (try go_wp2_with fail)
    refine hK.out _ _ (hid S2.out.cl) (fun hHeld=>?_)
    clear hK K
    try simp only [zP]
    refine wpAnyH_ready (rs:= [2]) (by kernel_rfl) (by simp) ?_
    refine AllReadyH.cons rfl (fun K hK=>?_) AllReadyH.nil
    go_simp
    (try go_wp2_with fail)
    have hs3:=S2.out.slice 43
    obtain ⟨w3,hw3⟩:∃w',World.alloc w2 (.cells (clList C).toArray 43)=w':=⟨_,rfl⟩
    rw [hw3] at hs3⊢
    obtain ⟨gb,hgb⟩:∃gb,w2.heap.size=gb:=⟨_,rfl⟩
    rw [hgb] at hs3⊢
    have S3:=hid hs3
    clear hw3 hgb hs3
    refine hK.out _ _ (hid S3.out.cl) (fun hHeld=>?_)
    clear hK K
    try simp only [zP]
    refine wpAnyH_ready (rs:= [3]) (by kernel_rfl) (by simp) ?_
    refine AllReadyH.cons rfl (fun K hK=>?_) AllReadyH.nil
    go_simp
    refine (cE.out _ _ _ (S3.out.sa _ rfl) (S3.out.sb _ rfl) (HT.out.later (HB3.out.trans (S3.out.bel.mono HB3.out.size)))).mono ?_
    rintro e w4 ⟨rfl,hB⟩
    have S4:=hid (S3.out.below hB)
    clear hB
    (try go_wp2_with fail)
    refine hK.out _ _ (hid S4.out.cl) (fun hHeld=>?_)
    clear hK K
    try simp only [zP]
    refine zT 4 (v:=?_) ?_ ?_
    rotate_left
    ·intro w' hSw; clear hSw; go_simp; (try with_reducible rfl)
    try simp only [zP]
    refine zT 5 (v:=?_) ?_ ?_
    rotate_left
    ·intro w' hSw; clear hSw; go_simp; (try with_reducible rfl)
    try simp only [zP]
    refine zT 6 (v:=?_) ?_ ?_
    rotate_left
    ·intro w' hSw; clear hSw; go_simp; (try with_reducible rfl)
    try simp only [zP]
    refine wpAnyH_ready (rs:= [8]) (by kernel_rfl) (by simp) ?_
    refine AllReadyH.cons rfl (fun K hK=>?_) AllReadyH.nil
    obtain ⟨-,c0,c1,c2,z⟩:=S4.out.sv _ rfl
    have z0:=z 0
    have z1:=z 1
    have z2:=z 2
    clear z
    go_simp
    have hfin:=S4.out.fin
    (try go_wp2_with fail)
    refine hK.out _ _ (hid hfin.2.2) (fun hHeld=>?_)
    clear hK K c0 c1 c2 z0 z1 z2
    try simp only [zP]
    refine zT 9 (v:=?_) ?_ ?_
    rotate_left
    ·intro w' hSw; clear hSw; go_simp; (try with_reducible rfl)
    try simp only [zP]
    refine wpAnyH_done (by kernel_rfl) ?_ _
    clear hHeld
    go_wp2_with fail
    go_meet
    exact ⟨_,rfl,rfl,hid ⟨hfin.1,hfin.2.1,trivial⟩⟩
   ·go_simp
    (try go_wp2_with fail)
    have hs2:=S1.out.slice 43
    obtain ⟨w2,hw2⟩:∃w',World.alloc w1 (.cells (clList C).toArray 43)=w':=⟨_,rfl⟩
    rw [hw2] at hs2⊢
    obtain ⟨gb,hgb⟩:∃gb,w1.heap.size=gb:=⟨_,rfl⟩
    rw [hgb] at hs2⊢
    have S2:=hid hs2
    clear hw2 hgb hs2
    refine hK.out _ _ (hid S2.out.cl) (fun hHeld=>?_)
    clear hK K
    try simp only [zP]
    refine wpAnyH_ready (rs:= [0]) (by kernel_rfl) (by simp) ?_
    refine AllReadyH.cons rfl (fun K hK=>?_) AllReadyH.nil
    go_simp
    refine (cW.out _).mono ?_
    rintro e w3 ⟨⟨g,rfl,hO⟩,hB⟩
    have S3:=hid (S2.out.whole hO hB)
    clear hO hB
    (try go_wp2_with fail)
    refine hK.out _ _ (hid S3.out.cl) (fun hHeld=>?_)
    clear hK K
    try simp only [zP]
    refine wpAnyH_ready (rs:= [3]) (by kernel_rfl) (by simp) ?_
    refine AllReadyH.cons rfl (fun K hK=>?_) AllReadyH.nil
    go_simp
    refine (cE.out _ _ _ (S3.out.sa _ rfl) (S3.out.sb _ rfl) (HT.out.later (HB3.out.trans (S3.out.bel.mono HB3.out.size)))).mono ?_
    rintro e w4 ⟨rfl,hB⟩
    have S4:=hid (S3.out.below hB)
    clear hB
    (try go_wp2_with fail)
    refine hK.out _ _ (hid S4.out.cl) (fun hHeld=>?_)
    clear hK K
    try simp only [zP]
    refine zT 4 (v:=?_) ?_ ?_
    rotate_left
    ·intro w' hSw; clear hSw; go_simp; (try with_reducible rfl)
    try simp only [zP]
    refine zT 5 (v:=?_) ?_ ?_
    rotate_left
    ·intro w' hSw; clear hSw; go_simp; (try with_reducible rfl)
    try simp only [zP]
    refine zT 6 (v:=?_) ?_ ?_
    rotate_left
    ·intro w' hSw; clear hSw; go_simp; (try with_reducible rfl)
    try simp only [zP]
    refine wpAnyH_ready (rs:= [8]) (by kernel_rfl) (by simp) ?_
    refine AllReadyH.cons rfl (fun K hK=>?_) AllReadyH.nil
    obtain ⟨-,c0,c1,c2,z⟩:=S4.out.sv _ rfl
    have z0:=z 0
    have z1:=z 1
    have z2:=z 2
    clear z
    go_simp
    have hfin:=S4.out.fin
    (try go_wp2_with fail)
    refine hK.out _ _ (hid hfin.2.2) (fun hHeld=>?_)
    clear hK K c0 c1 c2 z0 z1 z2
    try simp only [zP]
    refine zT 9 (v:=?_) ?_ ?_
    rotate_left
    ·intro w' hSw; clear hSw; go_simp; (try with_reducible rfl)
    try simp only [zP]
    refine wpAnyH_done (by kernel_rfl) ?_ _
    clear hHeld
    go_wp2_with fail
    go_meet
    exact ⟨_,rfl,rfl,hid ⟨hfin.1,hfin.2.1,trivial⟩⟩
 case rest=>
  obtain ⟨bv,rfl,rfl,hH⟩:=hcut
  obtain ⟨hb,⟨c0,c1,c2⟩,-⟩:=hH.out
  have HB:=hid (HB3.out.trans (hb.mono HB3.out.size))
  have qv:=Qv.out
  clear hb hH
  go_wp2
  go_ret
  exact ⟨rfl,HB.out⟩
theorem Fault21_any (a:Option Addr) (cap:Nat) (la:List Cl) (b:Option Addr) (capb:Nat) (lb:List Cl) (w:World) (hl:la.length≤9223372036854775807) (hlc:la.length≤cap) (hs:Sl w a (cls la)) (hno:a=none→cap=0) (hok:∀c∈la,c.Ok)
  (hlb:lb.length≤9223372036854775807) (hlcb:lb.length≤capb) (hsb:Sl w b (cls lb)) (hnob:b=none→capb=0) (hokb:∀c∈lb,c.Ok) :
  Calls Tryz.prog 14 #[.slice a la.length cap, .slice b lb.length capb] w fun e w'=>e= .returned (.int .i64 (fault2 la lb))∧Below w.heap.size w w':=by
 have cO:=hid ((IOf_any a cap la w hl hlc hs hno hok).mono fun e w' h=>(show (∃v,e= .returned (.tuple #[v, .int .i64 (faultL la)]))∧Below w.heap.size w w' from ⟨⟨_,h.1.choose_spec.1⟩,h.2⟩))
 have cP:=hid (fun W (hB:Below w.heap.size w W)=>(IOf_any b capb lb W hlb hlcb (hsb.below hB) hnob hokb).mono fun e w' h=>(show (∃v,e= .returned (.tuple #[v, .int .i64 (faultL lb)]))∧Below W.heap.size W w' from ⟨⟨_,h.1.choose_spec.1⟩,h.2⟩))
 have hf2:fault2 la lb=if faultL la≠0 then faultL la else faultL lb:=rfl
 obtain ⟨X,hX⟩:∃X,faultL la=X:=⟨_,rfl⟩
 obtain ⟨Y,hY⟩:∃X,faultL lb=X:=⟨_,rfl⟩
 rw [hX] at cO hf2
 rw [hY] at cP hf2
 rw [hf2]
 clear hs hno hok hsb hnob hokb hX hY hf2
 by_cases h0:X=0
 ·rw [if_neg (by simpa using h0)]
  subst h0
  go_enter Tryz.func14,Tryz.ntmps14
  go_wp2_with fail
  refine cO.out.mono ?_
  rintro e w1 ⟨⟨v,rfl⟩,hB⟩
  have HB:=hid hB
  have c2:=hid (cP.out w1 hB)
  clear hB cP cO
  go_wp2_with fail
  refine c2.out.mono ?_
  rintro e w2 ⟨⟨v2,rfl⟩,hB2⟩
  have HB2:=hid (HB.out.trans (hB2.mono HB.out.size))
  clear hB2 c2
  go_wp2
  go_ret
  exact ⟨rfl,HB2.out⟩
 ·rw [if_pos h0]
  have hX0:(X == 0)=false:=by simpa using h0
  clear cP h0
  go_enter Tryz.func14,Tryz.ntmps14
  go_wp2_with fail
  refine cO.out.mono ?_
  rintro e w1 ⟨⟨v,rfl⟩,hB⟩
  have HB:=hid hB
  clear hB cO
  go_wp2
  go_ret
  exact ⟨rfl,HB.out⟩
end Go.Proofs.YtmjljpdeohbfbaaGreatDoor
