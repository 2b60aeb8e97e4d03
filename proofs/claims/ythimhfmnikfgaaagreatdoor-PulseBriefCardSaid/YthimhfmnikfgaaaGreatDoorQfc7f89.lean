/-
  ferialaw23.PulseBrief answers true for every clauses, day and number of days.
-/
import Derived.Test.YthimhfmnikfgaaaGreatDoorQ666e3d
import Derived.Test.YthimhfmnikfgaaaGreatDoorQ30fd51
namespace Go.Proofs.YthimhfmnikfgaaaGreatDoor
open Go.RowKit Go.Maps
set_option linter.unusedVariables false
attribute [local irreducible] secL
theorem clB_set' {W:World} {b:Nat} {F G:Cl} {k:Nat} {u:Value} (h:ClB W b F) (hk:k < 30) (e:clList G= (clList F).set k u):ClB (W.setCell ⟨b,k,none⟩ u) b G:=by
 have h6:=h.at k (List.getElem?_eq_getElem (show k < (clList F).length from hk))
 intro j v hv
 by_cases hj:j=k
 ·subst hj
  have hv':u=v:=by
   rw [e,List.getElem?_set_self (show j < (clList F).length from hk)] at hv
   simpa using hv
  rw [←hv',Nat.zero_add]
  exact World.cell?_setCell_same _ _ _ (by rw [h6])
 ·rw [e,List.getElem?_set_ne (by omega)] at hv
  rw [World.cell?_setCell_other _ _ _ _ (by intro e; injection e with _ e2 _; exact hj (by omega))]
  exact h j v hv
theorem frozen_setCells' (a:Addr) (b:Nat):∀(vs:List Value) (o:Nat) (W:World),(W.setCells b o vs).frozen? a=W.frozen? a
 | [],_,_=>rfl
 | v :: vs,o,W=>by rw [World.setCells,frozen_setCells' a b vs (o+1)]; simp [go_sem]
theorem cls_snoc (l:List Cl) (c:Cl):cls (l ++ [c])=cls l ++ clList c:=by
 rw [cls,cls,List.flatMap_append]; simp
theorem no_gs {e:Ending} {l:List Cl} (h:PofR l e) (hf:faultL l≠0):e= .returned (.tuple #[arr7 (fun _=>0), .int .i64 (faultL l)]):=by
 obtain ⟨g,rfl,h1,-⟩:=h
 rw [show g=fun _=>0 from funext fun u=>h1 hf u]
theorem fault_long {l:List Cl} (h:8 < l.length):faultL l=5:=by rw [faultL,if_pos h]
attribute [local go_sem ↓] eql_7i
theorem run_eqg7z (W:World):(eqGuard .eql 24 (.tmp 89) (.tmp 90) (arr7 (fun _=>0)) (.agg #[.int .i64 0, .int .i64 0, .int .i64 0, .int .i64 0, .int .i64 0, .int .i64 0, .int .i64 0])).run Tryz.prog W= .ok () W:=by kernel_rfl
theorem run_eql7z (W:World):(eql7S (arr7 (fun _=>0)) (.agg #[.int .i64 0, .int .i64 0, .int .i64 0, .int .i64 0, .int .i64 0, .int .i64 0, .int .i64 0])).run Tryz.prog W= .ok (.bool true) W:=by kernel_rfl
attribute [local go_sem] run_eqg7z run_eql7z
structure Au7 (b:Nat) (f:Nat→Nat) (W:World):Prop where
 c:∀i,i < 7→W.cell? ⟨b,i,none⟩=some (.int .u64 (f i:Nat))
 z:∀i,W.frozen? ⟨b,i,none⟩=false
 lt:b < W.heap.size
theorem Au7.block {b:Nat} {f:Nat→Nat} {W W':World} (h:Au7 b f W) (hs:W.heap.size≤W'.heap.size) (hb:W'.heap[b]? =W.heap[b]?):Au7 b f W':=
 ⟨fun i hi=>(World.cell?_of_block (w:=W) (a:=⟨b,i,none⟩) hb).trans (h.c i hi),fun i=>(World.frozen?_of_block (w:=W) (a:=⟨b,i,none⟩) hb).trans (h.z i),zH h.lt hs⟩
theorem Au7.below {b B:Nat} {f:Nat→Nat} {W W':World} (h:Au7 b f W) (hB:Below B W W') (hl:b < B):Au7 b f W':=h.block hB.size (hB.block b hl)
theorem Au7.set {b:Nat} {f:Nat→Nat} {W:World} (h:Au7 b f W) {u:Nat} (hu:u < 7) (v:Nat) {g:Nat→Nat} (e:∀i,i < 7→g i=if i=u then v else f i):Au7 b g (W.setCell ⟨b,u,none⟩ (.int .u64 (v:Nat))):=
 ⟨fun i hi=>by
  by_cases e2:i=u
  ·subst e2; have h1:=h.c i hi; rw [e i hi,if_pos rfl]; simp [go_sem,h1]
  ·rw [World.cell?_setCell_other _ _ _ _ (fun e3=>by injection e3 with _ e4; exact e2 e4.symm),h.c i hi,e i hi,if_neg e2],fun i=>by simpa [go_sem] using h.z i,by simpa using h.lt⟩
theorem Au7.as {b:Nat} {f g:Nat→Nat} {W:World} (h:Au7 b f W) (e:∀i,i < 7→g i=f i):Au7 b g W:=⟨fun i hi=>by rw [h.c i hi,e i hi],h.z,h.lt⟩
theorem au7_new (w:World) (t:TypeId):Au7 w.heap.size (fun _=>0) (w.alloc (.cells #[.int .u64 0, .int .u64 0, .int .u64 0, .int .u64 0, .int .u64 0, .int .u64 0, .int .u64 0] t)):=
 ⟨fun i hi=>by
  have h7:i=0∨i=1∨i=2∨i=3∨i=4∨i=5∨i=6:=by omega
  rcases h7 with rfl | rfl | rfl | rfl | rfl | rfl | rfl <;> simp [go_sem],fun i=>by simp [go_sem],by simp⟩
theorem bi_end {ks:List Cl} {f T:Int} {fs:Int} {G:Nat→Nat} (h:BI ks f (T+1) 0 fs G) (hf:0≤f) (hfT:f≤T) (hT:T < 146097) {u:Nat} (hu:u < 7):(G u:Int)≤12622780799:=
 (BeatP.bd (M:=12622780799) (h u hu) (by omega) fun x hx=>by
   rcases hx with ⟨D,s,h1,h2,h3,rfl⟩ | ⟨s,hs,rfl⟩
   ·have:=nsec_rng _ _ h3
    have:=whU_bd (u:=(u:Int)) (t:=86400 * D+s) (by omega) (by omega); omega
   ·simp at hs).2.2.2
def mixG (i:Nat) (fs t:Int) (G:Nat→Nat) (u v:Nat):Nat:=if v < u then stG1 i fs t G v else G v
theorem mix_same {i:Nat} {fs t:Int} {G:Nat→Nat} {u:Nat} (h:stG1 i fs t G u=G u) (v:Nat):mixG i fs t G (u+1) v=mixG i fs t G u v:=by
 rw [mixG,mixG]
 by_cases e:v=u
 ·subst e; rw [if_pos (by omega),if_neg (by omega),h]
 ·by_cases e2:v < u
  ·rw [if_pos (by omega),if_pos e2]
  ·rw [if_neg (by omega),if_neg e2]
theorem mix_next {i:Nat} {fs t:Int} {G:Nat→Nat} {u:Nat} (v:Nat):mixG i fs t G (u+1) v=if v=u then stG1 i fs t G u else mixG i fs t G u v:=by
 rw [mixG,mixG]
 by_cases e:v=u
 ·subst e; rw [if_pos (by omega),if_pos rfl]
 ·rw [if_neg e]
  by_cases e2:v < u
  ·rw [if_pos (by omega),if_pos e2]
  ·rw [if_neg (by omega),if_neg e2]
attribute [local go_sem ↓] loadAt_cl storeAt_cl loadAt_7i storeAt_7i
attribute [local go_sem] run_storeClS
set_option maxRecDepth 100000 in
set_option maxHeartbeats 12800000 in
theorem PulseBrief_walk (a:Option Addr) (cap:Nat) (l:List Cl) (x y:Nat) (w:World) (hl:l.length≤9223372036854775807) (hlc:l.length≤cap) (hs:Sl w a (cls l)) (hno:a=none→cap=0) (hok:∀c∈l,c.Ok) (hx:x < 4294967296) (hy:y < 256) (hT:Tab w) :
  Calls Tryz.prog 3 #[.slice a l.length cap, .int .u32 (x:Nat), .int .u8 (y:Nat)] w fun e w'=>e= .returned (.bool true)∧Below w.heap.size w w':=by
 have cL:=hid (fun W (hB:Below w.heap.size w W)=>Lives23_any W (hT.later hB))
 by_cases h8:8 < l.length
 ·have cO:=hid (POf_any a cap l w hl hlc hs hno hok hT)
  have Hf:=hid (fault_long h8)
  clear hs hno hok hT
  go_enter Tryz.func3,Tryz.ntmps3
  go_wp2_with fail
  refine cO.out.mono ?_
  rintro e w1 ⟨hR,hB1⟩
  have hR2:=no_gs hR (by rw [Hf.out]; decide)
  rw [Hf.out] at hR2
  subst hR2
  have HB1:=hid hB1
  have e8:Ar7 w1.heap.size (fun _=>0) (w1.alloc (.cells #[.int .i64 0, .int .i64 0, .int .i64 0, .int .i64 0, .int .i64 0, .int .i64 0, .int .i64 0] 24)):=ar7_new w1 24
  have hst8:=e8.st (fun _=>0)
  have H8:=e8.put (fun _=>0)
  have HB8:Hid (Below w1.heap.size w1 ((w1.alloc (.cells #[.int .i64 0, .int .i64 0, .int .i64 0, .int .i64 0, .int .i64 0, .int .i64 0, .int .i64 0] 24)).setCells w1.heap.size 0 (L7 (fun _=>0)))):=(below_new (Below.refl _ _) (zG _)).trans ((Eff.setCells (O:=fun x=>x=w1.heap.size) rfl (L7 (fun _=>0)) 0 _ (Eff.refl _ _)).below (by rintro b rfl; exact zG _) (by simp))
  obtain ⟨w3,hw3⟩:∃W,(w1.alloc (.cells #[.int .i64 0, .int .i64 0, .int .i64 0, .int .i64 0, .int .i64 0, .int .i64 0, .int .i64 0] 24)).setCells w1.heap.size 0 (L7 (fun _=>0))=W:=⟨_,rfl⟩
  rw [hw3] at H8 HB8 hst8
  have HB3:=hid (HB1.out.trans (HB8.out.mono HB1.out.size))
  have A8:=hid H8
  clear e8 H8 hw3
  have cL1:=hid (cL.out w3 HB3.out)
  clear hB1 hR cO
  go_wp2_with fail
  refine cL1.out.mono ?_
  rintro e w4 ⟨rfl,hB4⟩
  have HB4:=hid (HB3.out.trans (hB4.mono HB3.out.size))
  clear hB4 cL1
  go_wp2
  go_ret
  exact ⟨rfl,HB4.out⟩
 have HT:=hid hT
 have Hs:=hid hs
 have Hok:=hid hok
 have hxi:0≤(x:Int)∧(x:Int) < 4294967296:=by omega
 have hyi:0≤(y:Int)∧(y:Int) < 256:=by omega
 obtain ⟨x,hX⟩:∃X:Int,(x:Int)=X:=⟨_,rfl⟩
 obtain ⟨y,hY⟩:∃X:Int,(y:Int)=X:=⟨_,rfl⟩
 rw [hX] at hxi⊢
 rw [hY] at hyi⊢
 clear hX hY hx hy
 have hf0:x.tmod 146097=x % 146097:=Int.tmod_eq_emod_of_nonneg (by omega)
 have hg0:y.tmod 12=y % 12:=Int.tmod_eq_emod_of_nonneg (by omega)
 have hf1:0≤x % 146097∧x % 146097 < 146097:=by omega
 have hg1:0≤y % 12∧y % 12 < 12:=by omega
 obtain ⟨f,hf⟩:∃f,x % 146097=f:=⟨_,rfl⟩
 obtain ⟨g,hg⟩:∃g,y % 12=g:=⟨_,rfl⟩
 rw [hf] at hf0 hf1
 rw [hg] at hg0 hg1
 have hf2:IntKind.i64.wrap (x.tmod 146097)=f:=by rw [hf0]; exact IntWalk.i64_in _ (by omega)
 have hg2:IntKind.i64.wrap (y.tmod 12)=g:=by rw [hg0]; exact IntWalk.i64_in _ (by omega)
 have hx2:IntKind.i64.wrap x=x:=IntWalk.i64_in _ (by omega)
 have hy2:IntKind.i64.wrap y=y:=IntWalk.i64_in _ (by omega)
 clear hf hg hs hno hok hT hxi hyi
 go_enter Tryz.func3,Tryz.ntmps3
 go_upto_region 6 with fail
 have hT1:f≤min 146096 (f+g)∧min 146096 (f+g)≤146096:=by omega
 obtain ⟨T,hT⟩:∃T,min 146096 (f+g)=T:=⟨_,rfl⟩
 rw [hT] at hT1⊢
 clear hT hf0 hf2 hg0 hg1 hg2 hx2 hy2
 obtain ⟨F,hF⟩:∃F,86400 * f=F:=⟨_,rfl⟩
 obtain ⟨U,hU⟩:∃U,86400 * T+86399=U:=⟨_,rfl⟩
 have hFU:0≤F∧F≤U∧U≤12622780799:=by omega
 have HF:=hid hF
 have HU:=hid hU
 have hF2:IntKind.i64.wrap (86400 * f)=F:=by rw [hF]; exact IntWalk.i64_in _ (by omega)
 have hT2:IntKind.i64.wrap (86400 * T)=86400 * T:=IntWalk.i64_in _ (by omega)
 have hU2:IntKind.i64.wrap (86400 * T+86399)=U:=by rw [hU]; exact IntWalk.i64_in _ (by omega)
 have hklen:(l.map (hdCl F U)).length=l.length:=List.length_map ..
 obtain ⟨ks,hks⟩:∃ks,l.map (hdCl F U)=ks:=⟨_,rfl⟩
 rw [hks] at hklen
 have Hks:=hid hks
 have Hkl:=hid hklen
 clear hks hklen
 go_wp2_with fail
 go_loopw [11,12] (fun v i wr=>∃(k co:Nat) (ao:Option Addr),i= .int .i64 k∧k≤l.length∧v= .slice ao k co∧Hid (wr.ownsRow w.heap.size 35 30 (.slice ao k co) k (cls (ks.take k)))∧Hid (Below w.heap.size w wr)) (fun _ i _=>l.length - (intOf i).toNat)
 case atStart=>exact ⟨0,0,none,rfl,by omega,rfl,World.ownsRow_nil _ _ _ _,Below.refl _ _⟩
 case round=>
  obtain ⟨k,co,ao,rfl,hk,rfl,HO,HB⟩:=hrel
  by_cases hlt:k < l.length
  ·obtain ⟨b,off,rfl,hbk,hr⟩:=Hs.out.atCl hlt
   have hr':=range_below hr HB.out hbk
   have hcs:cls (ks.take (k+1))=cls (ks.take k) ++ clList (hdCl F U l[k]):=by
    rw [←Hks.out,←List.map_take,take_snoc l k hlt,List.map_append,List.map_cons,List.map_nil,cls_snoc,←List.map_take]
   have Hcs:=hid hcs
   obtain ⟨c,hc⟩:∃c,l[k]=c:=⟨_,rfl⟩
   rw [hc] at hr' Hcs
   have le:=ld_at hr'
   have hth2:(wr.alloc (.cells zL.toArray 35)).there wr.heap.size 0 30:=there_new wr _ _
   have hn2:=below_new (o:= .cells zL.toArray 35) (Below.refl wr.heap.size wr) (zG _)
   obtain ⟨W1,hW1⟩:∃W1,putCl (wr.alloc (.cells zL.toArray 35)) wr.heap.size (clList c)=W1:=⟨_,rfl⟩
   have hC1:ClB W1 wr.heap.size c:=by rw [←hW1]; exact putCl_range _ rfl hth2
   have hz1:∀i,W1.frozen? ⟨wr.heap.size,i,none⟩=false:=fun i=>by rw [←hW1,putCl_eq,frozen_setCells']; simp [go_sem]
   have hb1:Below wr.heap.size wr W1:=by rw [←hW1]; exact putCl_below hn2 (zG _) _
   have hl1:wr.heap.size < W1.heap.size:=by rw [←hW1,putCl_eq,size_setCells,World.size_alloc]; omega
   have HW1:=hid hW1
   have HC1:=hid hC1
   have Hb1:=hid hb1
   have HZ1:=hid hz1
   have cM:Hid (Calls Tryz.prog 10 #[.slice (some ⟨W1.heap.size,0,none⟩) 2 2] (W1.alloc (.cells #[.int .i64 c.fr, .int .i64 c.un, .int .i64 F, .int .i64 U] 37)) fun e w'=>
     e= .returned (spv (heldF (mtF [(c.fr,c.un),(F,U)]) (mtU [(c.fr,c.un),(F,U)])) (heldU (mtF [(c.fr,c.un),(F,U)]) (mtU [(c.fr,c.un),(F,U)])))∧Below W1.heap.size W1 w'):=by
    refine (RMeet9_any (some ⟨W1.heap.size,0,none⟩) 2 [(c.fr,c.un),(F,U)] _ (by simp) (sl_range (range_new W1 _ _) (by simp))).mono ?_
    rintro e w' ⟨he,hb⟩
    exact ⟨he,(below_new (Below.refl _ _) (zG _)).trans (hb.mono (by simp))⟩
   have hkn:hdCl F U c= {c with fr:=heldF (mtF [(c.fr,c.un),(F,U)]) (mtU [(c.fr,c.un),(F,U)]),un:=heldU (mtF [(c.fr,c.un),(F,U)]) (mtU [(c.fr,c.un),(F,U)])}:=rfl
   obtain ⟨X,hX⟩:∃X,heldF (mtF [(c.fr,c.un),(F,U)]) (mtU [(c.fr,c.un),(F,U)])=X:=⟨_,rfl⟩
   obtain ⟨Y,hY⟩:∃Y,heldU (mtF [(c.fr,c.un),(F,U)]) (mtU [(c.fr,c.un),(F,U)])=Y:=⟨_,rfl⟩
   rw [hX,hY] at cM hkn
   have Hkn:=hid hkn
   clear hW1 hn2 hb1 hC1 hr hr' hc hz1 hcs hX hY hkn
   go_upto_region 11 with fail
   rw [HW1.out]
   have t0:=HC1.out.tail.2.2.2.1
   have t1:=HC1.out.tail.2.2.2.2
   clear le hth2
   go_wp2_with fail
   refine cM.out.mono ?_
   rintro e w2 ⟨rfl,hB2⟩
   obtain ⟨W2,hW2⟩:∃W,w2.alloc (.cells #[.int .i64 X, .int .i64 Y] 37)=W:=⟨_,rfl⟩
   have k1:W2.cell? ⟨w2.heap.size,0,none⟩=some (.int .i64 X):=by rw [←hW2]; simp [go_sem]
   have k2:W2.cell? ⟨w2.heap.size,1,none⟩=some (.int .i64 Y):=by rw [←hW2]; simp [go_sem]
   have hb2:Below W1.heap.size W1 W2:=by rw [←hW2]; exact below_new hB2 hB2.size
   have hl2:wr.heap.size < w2.heap.size:=zH hl1 hB2.size
   have hC2:ClB W2 wr.heap.size c:=range_below HC1.out hb2 hl1
   have HC2:=hid hC2
   have z1:W2.frozen? ⟨wr.heap.size,28,none⟩=false:=(hb2.frozen (p:=⟨wr.heap.size,28,none⟩) hl1).trans (HZ1.out 28)
   have z2:W2.frozen? ⟨wr.heap.size,29,none⟩=false:=(hb2.frozen (p:=⟨wr.heap.size,29,none⟩) hl1).trans (HZ1.out 29)
   have t2:=HC2.out.tail.2.2.2.1
   have t3:=HC2.out.tail.2.2.2.2
   have hne:wr.heap.size≠w2.heap.size:=by omega
   have hne2:w2.heap.size≠wr.heap.size:=by omega
   have Hb2:=hid (Hb1.out.trans (hb2.mono (Nat.le_of_lt hl1)))
   have HW2:=hid hW2
   clear hW2 hb2 hB2 hC2 cM t0 t1
   go_upto_region 12 with fail
   rw [HW2.out]
   obtain ⟨W3,hW3⟩:∃W,(W2.setCell ⟨wr.heap.size,28,none⟩ (.int .i64 X)).setCell ⟨wr.heap.size,29,none⟩ (.int .i64 Y)=W:=⟨_,rfl⟩
   have HC3:Hid (ClB W3 wr.heap.size (hdCl F U c)):=by
    show ClB _ _ _
    rw [←hW3]
    exact clB_set' (clB_set' HC2.out (F:=c) (G:={c with fr:=X}) (k:=28) (by omega) rfl) (G:=hdCl F U c) (k:=29) (by omega) (by rw [Hkn.out]; rfl)
   have HB3:Hid (Below wr.heap.size wr W3):=by show Below _ _ _; rw [←hW3]; exact below_set (below_set Hb2.out (zG _)) (zG _)
   have HW3:=hid hW3
   clear hW3
   go_upto_region 14 with fail
   rw [HW3.out]
   have l2:=HC3.out.ld
   have HO2:=hid (owns_below HO.out HB3.out (zG _))
   have HBw:=hid (HB.out.trans (HB3.out.mono HB.out.size))
   clear t2 t3 z1 z2 k1 k2
   go_wp2_with (at_builtin; refine appLit eClz (.tmp 77) (.tmp 79) rfl rfl rfl rfl rfl HO2.out rfl (clL_one (hdCl F U c)) (by omega) (by omega) HBw.out.size ?_)
   intro a' cap' w7 g1 g2 g3 g4
   have hO3:Hid (w7.ownsRow w.heap.size 35 30 (.slice a' (k+1) cap') (k+1) (cls (ks.take (k+1)))):=by
    show World.ownsRow _ _ _ _ _ _ _
    rw [Hcs.out]; exact g1
   have HB4:=hid (HBw.out.trans g3)
   clear g1 g2 g3 g4 l2
   go_wp2
   exact ⟨⟨k+1,cap',a',by go_num,by omega,rfl,hO3,HB4⟩,by simp [intOf]; omega⟩
  ·obtain rfl:k=l.length:=by omega
   rw [List.take_of_length_le (by rw [Hkl.out]; exact zG _)] at HO
   have hoks:∀c∈ks,c.Ok:=fun c hc=>by
    rw [←Hks.out] at hc
    obtain ⟨d,hd,rfl⟩:=List.mem_map.1 hc
    exact hd_ok (Hok.out d hd) (by simp only [i64B]; omega) (by simp only [i64B]; omega)
   have hk8:ks.length≤8:=by rw [Hkl.out]; omega
   have Hoks:=hid hoks
   have Hk8:=hid hk8
   have ho':=HO.out
   rw [←Hkl.out] at ho'
   have hsO:=owns_sl ho'
   have cP:=hid (POf_any ao co ks wr (by omega) (owns_cap ho') hsO (owns_none ho') hoks (HT.out.later HB.out))
   have cM:=hid (fun W (hB:Below wr.heap.size wr W)=>RMay17_any ao co ks W (by omega) (hsO.below hB) hoks)
   have cA:=hid (fun n W (hB:Below wr.heap.size wr W) h0 h1=>own_ret (RLapAll16_any ao co ks n W (by omega) (hsO.below hB) hoks h0 h1))
   have cLr:=hid (fun W (hB:Below wr.heap.size wr W)=>cL.out W (HB.out.trans (hB.mono HB.out.size)))
   rw [Hkl.out] at cP cM cA
   clear hoks hk8 ho' hsO hk hlt
   go_wp2_with fail
   refine cP.out.mono ?_
   rintro e w1 ⟨⟨p,rfl,hp0,hp⟩,hB1⟩
   have HB1:=hid hB1
   have e8:Ar7 w1.heap.size (fun _=>0) (w1.alloc (.cells #[.int .i64 0, .int .i64 0, .int .i64 0, .int .i64 0, .int .i64 0, .int .i64 0, .int .i64 0] 24)):=ar7_new w1 24
   have hst8:=e8.st p
   have H8:=e8.put p
   have HB8:Hid (Below w1.heap.size w1 ((w1.alloc (.cells #[.int .i64 0, .int .i64 0, .int .i64 0, .int .i64 0, .int .i64 0, .int .i64 0, .int .i64 0] 24)).setCells w1.heap.size 0 (L7 p))):=(below_new (Below.refl _ _) (zG _)).trans ((Eff.setCells (O:=fun x=>x=w1.heap.size) rfl (L7 p) 0 _ (Eff.refl _ _)).below (by rintro b rfl; exact zG _) (by simp))
   obtain ⟨w3,hw3⟩:∃W,(w1.alloc (.cells #[.int .i64 0, .int .i64 0, .int .i64 0, .int .i64 0, .int .i64 0, .int .i64 0, .int .i64 0] 24)).setCells w1.heap.size 0 (L7 p)=W:=⟨_,rfl⟩
   rw [hw3] at H8 HB8 hst8
   have HB3:=hid (HB1.out.trans (HB8.out.mono HB1.out.size))
   have A8:=hid H8
   clear e8 H8 hw3
   have Hp:=hid (And.intro hp0 hp)
   have cM3:=hid (cM.out w3 HB3.out)
   clear hB1 hp0 hp cP cM
   cases hm:mayL ks
   ·rw [hm] at cM3
    have hf:=fault_no Hk8.out hm
    have hp0:p=fun _=>0:=funext fun u=>Hp.out.1 (by rw [hf]; decide) u
    subst hp0
    rw [hf]
    clear hm hf
    go_wp2_with fail
    refine cM3.out.mono ?_
    rintro e w4 ⟨rfl,hB4⟩
    have HB4:=hid (HB3.out.trans (hB4.mono HB3.out.size))
    have hA4:Ar7 w1.heap.size (fun _=>0) w4:=A8.out.block hB4.size (hB4.block _ A8.out.lt)
    have hld:=hA4.ld
    have cL4:=hid (cLr.out w4 HB4.out)
    clear hB4 hA4 cM3
    go_wp2_with fail
    refine cL4.out.mono ?_
    rintro e w5 ⟨rfl,hB5⟩
    have HB5:=hid (HB.out.trans ((HB4.out.trans (hB5.mono HB4.out.size)).mono HB.out.size))
    clear hB5 cL4
    go_wp2
    go_ret
    exact ⟨rfl,HB5.out⟩
   rw [hm] at cM3
   have hf:=fault_may' hm
   rw [hf]
   have Hf:=hid hf
   clear hm hf
   go_wp2_with fail
   refine cM3.out.mono ?_
   rintro e w4 ⟨rfl,hB4⟩
   have HB4:=hid (HB3.out.trans (hB4.mono HB3.out.size))
   have HA4:Hid (Ar7 w1.heap.size p w4):=A8.out.block hB4.size (hB4.block _ A8.out.lt)
   obtain ⟨w5,hw5⟩:∃W,w4.alloc (.cells #[.int .u64 0, .int .u64 0, .int .u64 0, .int .u64 0, .int .u64 0, .int .u64 0, .int .u64 0] 33)=W:=⟨_,rfl⟩
   have HU5:Hid (Au7 w4.heap.size (fun _=>0) w5):=by show Au7 _ _ _; rw [←hw5]; exact au7_new w4 _
   have hb5:Below w4.heap.size w4 w5:=by rw [←hw5]; exact below_new (Below.refl _ _) (zG _)
   have HB5:=hid (HB4.out.trans (hb5.mono HB4.out.size))
   have hle5:wr.heap.size≤w4.heap.size:=HB4.out.size
   have hA5:Hid (Ar7 w1.heap.size p w5):=HA4.out.block hb5.size (hb5.block _ HA4.out.lt)
   have hlp:w1.heap.size < w4.heap.size:=HA4.out.lt
   have HW5:=hid hw5
   clear hB4 cM3 hb5 hw5
   go_upto_region 19 with fail
   rw [HW5.out]
   go_wp2_with fail
   have hle0:wr.heap.size≤w5.heap.size:=HB5.out.size
   have HK:Hid (∀W,Eff (fun b=>b=w4.heap.size) w5 W→Below w.heap.size w W):=fun W h=>HB.out.trans ((HB5.out.trans (h.below (fun b hb=>by omega) HB5.out.size)).mono HB.out.size)
   have cA5:=hid (fun n W (h:Eff (fun b=>b=w4.heap.size) w5 W)=>cA.out n W (HB5.out.trans (h.below (fun b hb=>by omega) HB5.out.size)))
   have HP5:Hid (∀W,Eff (fun b=>b=w4.heap.size) w5 W→Ar7 w1.heap.size p W):=fun W h=>hA5.out.block h.size (h.block _ hA5.out.lt (by omega))
   clear cA cLr HB4 HB3 HB1 HA4 hA5 A8 hle5 hle0 hlp HW5
   go_loopw [18,19] (fun fv dv W=>∃(fs d:Int) (G:Nat→Nat),fv= .int .i64 fs∧dv= .int .i64 d∧f≤d∧d≤T+1∧-1≤fs∧fs≤12622780799∧Hid (BI ks f d 0 fs G)∧Hid (Au7 w4.heap.size G W∧Eff (fun b=>b=w4.heap.size) w5 W)) (fun _ dv _=>(T+1 - intOf dv).toNat)
   case atStart=>exact ⟨-1,f,fun _=>0,rfl,rfl,by omega,by omega,by omega,by omega,BI.zero ks f,HU5.out,Eff.refl _ _⟩
   case round=>
    obtain ⟨fs,d,G,rfl,rfl,hfd,hdT,hfs0,hfs1,HBI,HE⟩:=hrel
    by_cases hd:d≤T
    ·have c6:=hid (cA5.out d wr HE.out.2 (by omega) (by omega))
     have hlen:=secL_len (dayQ ks d)
     have hmem:Hid (∀x∈secL (dayQ ks d),0≤x∧x < 86400):=nsec_rng (dayQ ks d)
     obtain ⟨X,hX⟩:∃X,secL (dayQ ks d)=X:=⟨_,rfl⟩
     have HX:=hid hX
     rw [hX] at c6 hlen hmem
     clear hX
     have hd2:IntKind.i64.wrap (86400 * d)=86400 * d:=IntWalk.i64_in _ (by omega)
     go_wp2_with fail
     refine c6.out.mono ?_
     rintro e w6 ⟨xa,nx,cx,rfl,hnx,hsx,how,hB6⟩
     cases hnx.out
     have HS6:=hid hsx
     have HU6:=hid (HE.out.1.below hB6 HE.out.1.lt)
     have HE6:=hid (HE.out.2.trans (Eff.of_below (O:=fun b=>b=w4.heap.size) hB6) (fun _ h=> .inl h))
     have Hlo:Hid (∀b off,xa=some ⟨b,off,none⟩→b≠w4.heap.size):=fun b off e=>by
      subst e
      have h1:wr.heap.size≤b:=(owns_lt how rfl).1
      have h2:=HE.out.1.lt
      omega
     clear hB6 hsx hnx how c6 HE
     go_wp2_with fail
     go_loopw [18,21] (fun fv iv W=>∃(fs:Int) (i:Nat) (G:Nat→Nat),fv= .int .i64 fs∧iv= .int .i64 i∧i≤X.length∧-1≤fs∧fs≤12622780799∧Hid (BI ks f d i fs G)∧Hid (Au7 w4.heap.size G W∧Eff (fun b=>b=w4.heap.size) w6 W)) (fun _ iv _=>X.length - (intOf iv).toNat)
     case atStart=>exact ⟨fs,0,G,rfl,rfl,by omega,by omega,by omega,HBI,HU6.out,Eff.refl _ _⟩
     case round=>
      clear HBI hfs0 hfs1 HU6
      obtain ⟨fs,i,G,rfl,rfl,hi,hfs0,hfs1,HBI,HE⟩:=hrel
      by_cases hil:i < X.length
      ·have hii:(i:Int) < (X.length:Int):=by omega
       obtain ⟨b,off,rfl,hbk,hc⟩:=HS6.out.atInt hil
       have e1:wr.cell? ⟨b,off+i,none⟩=some (.int .i64 X[i]):=(HE.out.2.cell (p:=⟨b,off+i,none⟩) hbk (Hlo.out b off rfl)).trans (hc i hil)
       have b1:=hmem.out _ (List.getElem_mem hil)
       obtain ⟨s,hs⟩:∃s,X[i]=s:=⟨_,rfl⟩
       rw [hs] at e1 b1
       obtain ⟨t,ht⟩:∃t,86400 * d+s=t:=⟨_,rfl⟩
       have hw1:IntKind.i64.wrap (86400 * d+s)=t:=by rw [ht]; exact IntWalk.i64_in _ (by omega)
       have htb:0≤t∧t < 12622780800:=by omega
       have HN:Hid (∀G',(∀u,u < 7→G' u=stG1 i (fsN fs t) t G u)→BI ks f d (i+1) (fsN fs t) G'):=fun G' hG'=>by
        have hX:=HX.out
        subst hX
        have hs':=hs
        have h1:=HBI.out.step hil (by omega) G' (by rw [hs',ht]; exact hG')
        rw [hs',ht] at h1
        exact h1
       have HG7:Hid (∀u,u < 7→(G u:Int)≤12622780799):=fun u hu=>HBI.out.bd (by omega) hfd (by omega) hu
       clear hc hs ht
       rcases Int.lt_or_le fs 0 with hn | hn
       ·have hfn:fsN fs t=t:=if_pos hn
        rw [hfn] at HN
        go_wp2_with fail
        go_loopw [23] (fun uv W=>∃u:Nat,uv= .int .i64 u∧u≤7∧Hid (Au7 w4.heap.size (mixG i (t) t G u) W∧Eff (fun b=>b=w4.heap.size) w6 W)) (fun uv _=>7 - (intOf uv).toNat)
        case atStart=>exact ⟨0,rfl,by omega,HE.out.1.as (fun v _=>by rw [mixG,if_neg (by omega)]),HE.out.2⟩
        case round=>
         clear e1
         obtain ⟨u,rfl,hu,HJ⟩:=hrel
         by_cases hu7:u < 7
         ·have hui:(u:Int) < 7:=by omega
          have hu0:(0:Int)≤(u:Int):=by omega
          by_cases hsk:3≤u∧0 < i
          ·have hs3:(3:Int)≤(u:Int):=by omega
           have hi0:(0:Int) < (i:Int):=by omega
           have HJ2:Hid (Au7 w4.heap.size (mixG i (t) t G (u+1)) wr∧Eff (fun b=>b=w4.heap.size) w6 wr):=⟨HJ.out.1.as (fun v _=>mix_same (by rw [stG1,if_pos hsk]) v),HJ.out.2⟩
           clear hsk
           go_wp2
           exact ⟨⟨u+1,by go_num,by omega,HJ2⟩,by simp [intOf]; omega⟩
          ·have Hsk:=hid hsk
           have cW1:=hid (fun W=>RUWhich_yes (u:Int) t W (by omega) (by omega) (by omega) (by omega))
           have cW2:=hid (fun W=>RUWhich_yes (u:Int) (t) W (by omega) (by omega) (by omega) (by omega))
           have ha1:=whU_bd (u:=(u:Int)) (t:=t) (by omega) (by omega)
           have ha2:=whU_bd (u:=(u:Int)) (t:=t) (by omega) (by omega)
           obtain ⟨a1,h1⟩:∃a,whU (u:Int) t=a:=⟨_,rfl⟩
           obtain ⟨a2,h2⟩:∃a,whU (u:Int) (t)=a:=⟨_,rfl⟩
           have HA1:=hid h1
           have HA2:=hid h2
           rw [h1] at cW1 ha1
           rw [h2] at cW2 ha2
           have hcz:=HJ.out.1.c u hu7
           have hzz:=HJ.out.1.z u
           have hmu:mixG i (t) t G u u=G u:=by rw [mixG,if_neg (by omega)]
           have hgb:=HG7.out u hu7
           obtain ⟨q,hq0⟩:∃q,G u=q:=⟨_,rfl⟩
           have HQ:=hid hq0
           rw [hmu,hq0] at hcz
           rw [hq0] at hgb
           have hqn:(0:Int)≤(q:Int):=by omega
           have haw:IntKind.i64.wrap (a1 - a2)=a1 - a2:=IntWalk.i64_in _ (by omega)
           clear h1 h2 hmu hq0
           rcases (show u < 3∨3≤u∧i=0 by omega) with h3 | ⟨h3,h0⟩
           ·have h3i:¬(3:Int)≤(u:Int):=by omega
            clear hsk
            by_cases hq:q=1
            ·have HJ2:Hid (Au7 w4.heap.size (mixG i (t) t G (u+1)) wr∧Eff (fun b=>b=w4.heap.size) w6 wr):=⟨HJ.out.1.as (fun v _=>mix_same (by rw [stG1,if_neg Hsk.out,HQ.out,hq]; rfl) v),HJ.out.2⟩
             have hcz1:wr.cell? ⟨w4.heap.size,u,none⟩=some (.int .u64 1):=by rw [hcz,hq]; rfl
             clear hcz hq
             go_wp2_with fail
             refine (cW1.out _).mono ?_
             rintro e W ⟨rfl,rfl⟩
             go_wp2_with fail
             refine (cW2.out _).mono ?_
             rintro e W ⟨rfl,rfl⟩
             go_wp2
             exact ⟨⟨u+1,by go_num,by omega,HJ2⟩,by simp [intOf]; omega⟩
            ·have hqi:¬(q:Int)=1:=by omega
             have hqw:IntKind.i64.wrap (q:Int)= (q:Int):=IntWalk.i64_in _ (by omega)
             have cG:=hid (RGcd01_any (some ⟨wr.heap.size,0,none⟩) 2 [(q:Int),a1 - a2] (wr.alloc (.cells #[.int .i64 (q:Nat), .int .i64 (a1 - a2)] 2)) (by simp) (sl_range (range_new wr _ _) (by simp)) (fun n hn=>by
              simp only [List.mem_cons,List.not_mem_nil,or_false] at hn
              rcases hn with rfl | rfl
              ·simp only [i64B]; omega
              ·simp only [i64B]; omega))
             have hbn:=below_new (o:= .cells #[.int .i64 (q:Nat), .int .i64 (a1 - a2)] 2) (Below.refl wr.heap.size wr) (zG _)
             have hltg:=HJ.out.1.lt
             have hst:stG1 i (t) t G u=gcdL [(q:Int),a1 - a2]:=by rw [stG1,if_neg Hsk.out,HQ.out,if_neg hq,show whU (u:Int) t - whU (u:Int) (t)=a1 - a2 by have h1:=HA1.out; have h2:=HA2.out; omega]
             obtain ⟨n,hn⟩:∃n,gcdL [(q:Int),a1 - a2]=n:=⟨_,rfl⟩
             rw [hn] at cG hst
             have HJ2:Hid (Au7 w4.heap.size (mixG i (t) t G (u+1)) ((wr.alloc (.cells #[.int .i64 (q:Nat), .int .i64 (a1 - a2)] 2)).setCell ⟨w4.heap.size,u,none⟩ (.int .u64 (n:Nat)))∧Eff (fun b=>b=w4.heap.size) w6 ((wr.alloc (.cells #[.int .i64 (q:Nat), .int .i64 (a1 - a2)] 2)).setCell ⟨w4.heap.size,u,none⟩ (.int .u64 (n:Nat)))):=
              ⟨(HJ.out.1.below hbn hltg).set hu7 n (fun v _=>by rw [mix_next,hst]),(HJ.out.2.trans (Eff.of_below (O:=fun b=>b=w4.heap.size) hbn) (fun _ h=> .inl h)).set rfl _ _⟩
             have hcz1:=(hbn.cell (p:=⟨w4.heap.size,u,none⟩) hltg).trans hcz
             have hzz1:=(hbn.frozen (p:=⟨w4.heap.size,u,none⟩) hltg).trans (HJ.out.1.z u)
             clear hn hst hbn hltg
             go_wp2_with fail
             refine (cW1.out _).mono ?_
             rintro e W ⟨rfl,rfl⟩
             go_wp2_with fail
             refine (cW2.out _).mono ?_
             rintro e W ⟨rfl,rfl⟩
             go_wp2_with fail
             refine cG.out.mono ?_
             rintro e W11 ⟨rfl,hw⟩
             rw [hw] at HJ2 hcz1 hzz1
             clear hw hzz
             go_wp2
             exact ⟨⟨u+1,by go_num,by omega,HJ2⟩,by simp [intOf]; omega⟩
           ·have h3i:(3:Int)≤(u:Int):=by omega
            have h0i:¬(0:Int) < (i:Int):=by omega
            clear hsk h0
            by_cases hq:q=1
            ·have HJ2:Hid (Au7 w4.heap.size (mixG i (t) t G (u+1)) wr∧Eff (fun b=>b=w4.heap.size) w6 wr):=⟨HJ.out.1.as (fun v _=>mix_same (by rw [stG1,if_neg Hsk.out,HQ.out,hq]; rfl) v),HJ.out.2⟩
             have hcz1:wr.cell? ⟨w4.heap.size,u,none⟩=some (.int .u64 1):=by rw [hcz,hq]; rfl
             clear hcz hq
             go_wp2_with fail
             refine (cW1.out _).mono ?_
             rintro e W ⟨rfl,rfl⟩
             go_wp2_with fail
             refine (cW2.out _).mono ?_
             rintro e W ⟨rfl,rfl⟩
             go_wp2
             exact ⟨⟨u+1,by go_num,by omega,HJ2⟩,by simp [intOf]; omega⟩
            ·have hqi:¬(q:Int)=1:=by omega
             have hqw:IntKind.i64.wrap (q:Int)= (q:Int):=IntWalk.i64_in _ (by omega)
             have cG:=hid (RGcd01_any (some ⟨wr.heap.size,0,none⟩) 2 [(q:Int),a1 - a2] (wr.alloc (.cells #[.int .i64 (q:Nat), .int .i64 (a1 - a2)] 2)) (by simp) (sl_range (range_new wr _ _) (by simp)) (fun n hn=>by
              simp only [List.mem_cons,List.not_mem_nil,or_false] at hn
              rcases hn with rfl | rfl
              ·simp only [i64B]; omega
              ·simp only [i64B]; omega))
             have hbn:=below_new (o:= .cells #[.int .i64 (q:Nat), .int .i64 (a1 - a2)] 2) (Below.refl wr.heap.size wr) (zG _)
             have hltg:=HJ.out.1.lt
             have hst:stG1 i (t) t G u=gcdL [(q:Int),a1 - a2]:=by rw [stG1,if_neg Hsk.out,HQ.out,if_neg hq,show whU (u:Int) t - whU (u:Int) (t)=a1 - a2 by have h1:=HA1.out; have h2:=HA2.out; omega]
             obtain ⟨n,hn⟩:∃n,gcdL [(q:Int),a1 - a2]=n:=⟨_,rfl⟩
             rw [hn] at cG hst
             have HJ2:Hid (Au7 w4.heap.size (mixG i (t) t G (u+1)) ((wr.alloc (.cells #[.int .i64 (q:Nat), .int .i64 (a1 - a2)] 2)).setCell ⟨w4.heap.size,u,none⟩ (.int .u64 (n:Nat)))∧Eff (fun b=>b=w4.heap.size) w6 ((wr.alloc (.cells #[.int .i64 (q:Nat), .int .i64 (a1 - a2)] 2)).setCell ⟨w4.heap.size,u,none⟩ (.int .u64 (n:Nat)))):=
              ⟨(HJ.out.1.below hbn hltg).set hu7 n (fun v _=>by rw [mix_next,hst]),(HJ.out.2.trans (Eff.of_below (O:=fun b=>b=w4.heap.size) hbn) (fun _ h=> .inl h)).set rfl _ _⟩
             have hcz1:=(hbn.cell (p:=⟨w4.heap.size,u,none⟩) hltg).trans hcz
             have hzz1:=(hbn.frozen (p:=⟨w4.heap.size,u,none⟩) hltg).trans (HJ.out.1.z u)
             clear hn hst hbn hltg
             go_wp2_with fail
             refine (cW1.out _).mono ?_
             rintro e W ⟨rfl,rfl⟩
             go_wp2_with fail
             refine (cW2.out _).mono ?_
             rintro e W ⟨rfl,rfl⟩
             go_wp2_with fail
             refine cG.out.mono ?_
             rintro e W11 ⟨rfl,hw⟩
             rw [hw] at HJ2 hcz1 hzz1
             clear hw hzz
             go_wp2
             exact ⟨⟨u+1,by go_num,by omega,HJ2⟩,by simp [intOf]; omega⟩
         ·obtain rfl:u=7:=by omega
          have HN7:=hid (HN.out (mixG i (t) t G 7) (fun v hv=>by rw [mixG,if_pos hv]))
          have hiw:IntKind.i64.wrap ((i:Int)+1)= (i:Int)+1:=IntWalk.i64_in _ (by omega)
          clear HN
          go_wp2
          exact ⟨⟨t,i+1,mixG i (t) t G 7,rfl,by go_num,by omega,by omega,by omega,HN7,HJ.out⟩,by simp [intOf]; omega⟩
       ·have hfn:fsN fs t=fs:=if_neg (by omega)
        have hnn:¬fs < 0:=by omega
        rw [hfn] at HN
        go_wp2_with fail
        go_loopw [23] (fun uv W=>∃u:Nat,uv= .int .i64 u∧u≤7∧Hid (Au7 w4.heap.size (mixG i (fs) t G u) W∧Eff (fun b=>b=w4.heap.size) w6 W)) (fun uv _=>7 - (intOf uv).toNat)
        case atStart=>exact ⟨0,rfl,by omega,HE.out.1.as (fun v _=>by rw [mixG,if_neg (by omega)]),HE.out.2⟩
        case round=>
         clear e1
         obtain ⟨u,rfl,hu,HJ⟩:=hrel
         by_cases hu7:u < 7
         ·have hui:(u:Int) < 7:=by omega
          have hu0:(0:Int)≤(u:Int):=by omega
          by_cases hsk:3≤u∧0 < i
          ·have hs3:(3:Int)≤(u:Int):=by omega
           have hi0:(0:Int) < (i:Int):=by omega
           have HJ2:Hid (Au7 w4.heap.size (mixG i (fs) t G (u+1)) wr∧Eff (fun b=>b=w4.heap.size) w6 wr):=⟨HJ.out.1.as (fun v _=>mix_same (by rw [stG1,if_pos hsk]) v),HJ.out.2⟩
           clear hsk
           go_wp2
           exact ⟨⟨u+1,by go_num,by omega,HJ2⟩,by simp [intOf]; omega⟩
          ·have Hsk:=hid hsk
           have cW1:=hid (fun W=>RUWhich_yes (u:Int) t W (by omega) (by omega) (by omega) (by omega))
           have cW2:=hid (fun W=>RUWhich_yes (u:Int) (fs) W (by omega) (by omega) (by omega) (by omega))
           have ha1:=whU_bd (u:=(u:Int)) (t:=t) (by omega) (by omega)
           have ha2:=whU_bd (u:=(u:Int)) (t:=fs) (by omega) (by omega)
           obtain ⟨a1,h1⟩:∃a,whU (u:Int) t=a:=⟨_,rfl⟩
           obtain ⟨a2,h2⟩:∃a,whU (u:Int) (fs)=a:=⟨_,rfl⟩
           have HA1:=hid h1
           have HA2:=hid h2
           rw [h1] at cW1 ha1
           rw [h2] at cW2 ha2
           have hcz:=HJ.out.1.c u hu7
           have hzz:=HJ.out.1.z u
           have hmu:mixG i (fs) t G u u=G u:=by rw [mixG,if_neg (by omega)]
           have hgb:=HG7.out u hu7
           obtain ⟨q,hq0⟩:∃q,G u=q:=⟨_,rfl⟩
           have HQ:=hid hq0
           rw [hmu,hq0] at hcz
           rw [hq0] at hgb
           have hqn:(0:Int)≤(q:Int):=by omega
           have haw:IntKind.i64.wrap (a1 - a2)=a1 - a2:=IntWalk.i64_in _ (by omega)
           clear h1 h2 hmu hq0
           rcases (show u < 3∨3≤u∧i=0 by omega) with h3 | ⟨h3,h0⟩
           ·have h3i:¬(3:Int)≤(u:Int):=by omega
            clear hsk
            by_cases hq:q=1
            ·have HJ2:Hid (Au7 w4.heap.size (mixG i (fs) t G (u+1)) wr∧Eff (fun b=>b=w4.heap.size) w6 wr):=⟨HJ.out.1.as (fun v _=>mix_same (by rw [stG1,if_neg Hsk.out,HQ.out,hq]; rfl) v),HJ.out.2⟩
             have hcz1:wr.cell? ⟨w4.heap.size,u,none⟩=some (.int .u64 1):=by rw [hcz,hq]; rfl
             clear hcz hq
             go_wp2_with fail
             refine (cW1.out _).mono ?_
             rintro e W ⟨rfl,rfl⟩
             go_wp2_with fail
             refine (cW2.out _).mono ?_
             rintro e W ⟨rfl,rfl⟩
             go_wp2
             exact ⟨⟨u+1,by go_num,by omega,HJ2⟩,by simp [intOf]; omega⟩
            ·have hqi:¬(q:Int)=1:=by omega
             have hqw:IntKind.i64.wrap (q:Int)= (q:Int):=IntWalk.i64_in _ (by omega)
             have cG:=hid (RGcd01_any (some ⟨wr.heap.size,0,none⟩) 2 [(q:Int),a1 - a2] (wr.alloc (.cells #[.int .i64 (q:Nat), .int .i64 (a1 - a2)] 2)) (by simp) (sl_range (range_new wr _ _) (by simp)) (fun n hn=>by
              simp only [List.mem_cons,List.not_mem_nil,or_false] at hn
              rcases hn with rfl | rfl
              ·simp only [i64B]; omega
              ·simp only [i64B]; omega))
             have hbn:=below_new (o:= .cells #[.int .i64 (q:Nat), .int .i64 (a1 - a2)] 2) (Below.refl wr.heap.size wr) (zG _)
             have hltg:=HJ.out.1.lt
             have hst:stG1 i (fs) t G u=gcdL [(q:Int),a1 - a2]:=by rw [stG1,if_neg Hsk.out,HQ.out,if_neg hq,show whU (u:Int) t - whU (u:Int) (fs)=a1 - a2 by have h1:=HA1.out; have h2:=HA2.out; omega]
             obtain ⟨n,hn⟩:∃n,gcdL [(q:Int),a1 - a2]=n:=⟨_,rfl⟩
             rw [hn] at cG hst
             have HJ2:Hid (Au7 w4.heap.size (mixG i (fs) t G (u+1)) ((wr.alloc (.cells #[.int .i64 (q:Nat), .int .i64 (a1 - a2)] 2)).setCell ⟨w4.heap.size,u,none⟩ (.int .u64 (n:Nat)))∧Eff (fun b=>b=w4.heap.size) w6 ((wr.alloc (.cells #[.int .i64 (q:Nat), .int .i64 (a1 - a2)] 2)).setCell ⟨w4.heap.size,u,none⟩ (.int .u64 (n:Nat)))):=
              ⟨(HJ.out.1.below hbn hltg).set hu7 n (fun v _=>by rw [mix_next,hst]),(HJ.out.2.trans (Eff.of_below (O:=fun b=>b=w4.heap.size) hbn) (fun _ h=> .inl h)).set rfl _ _⟩
             have hcz1:=(hbn.cell (p:=⟨w4.heap.size,u,none⟩) hltg).trans hcz
             have hzz1:=(hbn.frozen (p:=⟨w4.heap.size,u,none⟩) hltg).trans (HJ.out.1.z u)
             clear hn hst hbn hltg
             go_wp2_with fail
             refine (cW1.out _).mono ?_
             rintro e W ⟨rfl,rfl⟩
             go_wp2_with fail
             refine (cW2.out _).mono ?_
             rintro e W ⟨rfl,rfl⟩
             go_wp2_with fail
             refine cG.out.mono ?_
             rintro e W11 ⟨rfl,hw⟩
             rw [hw] at HJ2 hcz1 hzz1
             clear hw hzz
             go_wp2
             exact ⟨⟨u+1,by go_num,by omega,HJ2⟩,by simp [intOf]; omega⟩
           ·have h3i:(3:Int)≤(u:Int):=by omega
            have h0i:¬(0:Int) < (i:Int):=by omega
            clear hsk h0
            by_cases hq:q=1
            ·have HJ2:Hid (Au7 w4.heap.size (mixG i (fs) t G (u+1)) wr∧Eff (fun b=>b=w4.heap.size) w6 wr):=⟨HJ.out.1.as (fun v _=>mix_same (by rw [stG1,if_neg Hsk.out,HQ.out,hq]; rfl) v),HJ.out.2⟩
             have hcz1:wr.cell? ⟨w4.heap.size,u,none⟩=some (.int .u64 1):=by rw [hcz,hq]; rfl
             clear hcz hq
             go_wp2_with fail
             refine (cW1.out _).mono ?_
             rintro e W ⟨rfl,rfl⟩
             go_wp2_with fail
             refine (cW2.out _).mono ?_
             rintro e W ⟨rfl,rfl⟩
             go_wp2
             exact ⟨⟨u+1,by go_num,by omega,HJ2⟩,by simp [intOf]; omega⟩
            ·have hqi:¬(q:Int)=1:=by omega
             have hqw:IntKind.i64.wrap (q:Int)= (q:Int):=IntWalk.i64_in _ (by omega)
             have cG:=hid (RGcd01_any (some ⟨wr.heap.size,0,none⟩) 2 [(q:Int),a1 - a2] (wr.alloc (.cells #[.int .i64 (q:Nat), .int .i64 (a1 - a2)] 2)) (by simp) (sl_range (range_new wr _ _) (by simp)) (fun n hn=>by
              simp only [List.mem_cons,List.not_mem_nil,or_false] at hn
              rcases hn with rfl | rfl
              ·simp only [i64B]; omega
              ·simp only [i64B]; omega))
             have hbn:=below_new (o:= .cells #[.int .i64 (q:Nat), .int .i64 (a1 - a2)] 2) (Below.refl wr.heap.size wr) (zG _)
             have hltg:=HJ.out.1.lt
             have hst:stG1 i (fs) t G u=gcdL [(q:Int),a1 - a2]:=by rw [stG1,if_neg Hsk.out,HQ.out,if_neg hq,show whU (u:Int) t - whU (u:Int) (fs)=a1 - a2 by have h1:=HA1.out; have h2:=HA2.out; omega]
             obtain ⟨n,hn⟩:∃n,gcdL [(q:Int),a1 - a2]=n:=⟨_,rfl⟩
             rw [hn] at cG hst
             have HJ2:Hid (Au7 w4.heap.size (mixG i (fs) t G (u+1)) ((wr.alloc (.cells #[.int .i64 (q:Nat), .int .i64 (a1 - a2)] 2)).setCell ⟨w4.heap.size,u,none⟩ (.int .u64 (n:Nat)))∧Eff (fun b=>b=w4.heap.size) w6 ((wr.alloc (.cells #[.int .i64 (q:Nat), .int .i64 (a1 - a2)] 2)).setCell ⟨w4.heap.size,u,none⟩ (.int .u64 (n:Nat)))):=
              ⟨(HJ.out.1.below hbn hltg).set hu7 n (fun v _=>by rw [mix_next,hst]),(HJ.out.2.trans (Eff.of_below (O:=fun b=>b=w4.heap.size) hbn) (fun _ h=> .inl h)).set rfl _ _⟩
             have hcz1:=(hbn.cell (p:=⟨w4.heap.size,u,none⟩) hltg).trans hcz
             have hzz1:=(hbn.frozen (p:=⟨w4.heap.size,u,none⟩) hltg).trans (HJ.out.1.z u)
             clear hn hst hbn hltg
             go_wp2_with fail
             refine (cW1.out _).mono ?_
             rintro e W ⟨rfl,rfl⟩
             go_wp2_with fail
             refine (cW2.out _).mono ?_
             rintro e W ⟨rfl,rfl⟩
             go_wp2_with fail
             refine cG.out.mono ?_
             rintro e W11 ⟨rfl,hw⟩
             rw [hw] at HJ2 hcz1 hzz1
             clear hw hzz
             go_wp2
             exact ⟨⟨u+1,by go_num,by omega,HJ2⟩,by simp [intOf]; omega⟩
         ·obtain rfl:u=7:=by omega
          have HN7:=hid (HN.out (mixG i (fs) t G 7) (fun v hv=>by rw [mixG,if_pos hv]))
          have hiw:IntKind.i64.wrap ((i:Int)+1)= (i:Int)+1:=IntWalk.i64_in _ (by omega)
          clear HN
          go_wp2
          exact ⟨⟨fs,i+1,mixG i (fs) t G 7,rfl,by go_num,by omega,by omega,by omega,HN7,HJ.out⟩,by simp [intOf]; omega⟩
      ·obtain rfl:i=X.length:=by omega
       have hni:¬(X.length:Int) < (X.length:Int):=by omega
       have HN:Hid (BI ks f (d+1) 0 fs G):=by
        have hX:=HX.out
        subst hX
        exact HBI.out.day hfd
       have HE9:=hid (HE6.out.trans HE.out.2 (fun _ h=> .inl h))
       have HU9:=hid HE.out.1
       have hdw:IntKind.i64.wrap (d+1)=d+1:=IntWalk.i64_in _ (by omega)
       clear HE
       go_wp2
       exact ⟨⟨fs,d+1,G,rfl,rfl,by omega,by omega,by omega,by omega,HN,HU9.out,HE9.out⟩,by simp [intOf]; omega⟩
    ·obtain rfl:d=T+1:=by omega
     have HPu:Hid (∀u,u < 7→(G u:Int)=p u∧(G u:Int)≤12622780799):=fun u hu=>by
      obtain ⟨y,n,hb⟩:=Hp.out.2 Hf.out u hu
      have h1:=HBI.out
      have hk:l.map (hdCl (86400 * f) (86400 * T+86399))=ks:=by rw [HF.out,HU.out]; exact Hks.out
      rw [←hk] at h1 hb
      exact ⟨BI.pulse h1 hu hb,bi_end HBI.out (by omega) (by omega) (by omega) hu⟩
     have HE9:Hid (Au7 w4.heap.size G wr∧Ar7 w1.heap.size p wr∧Below w.heap.size w wr):=⟨HE.out.1,HP5.out wr HE.out.2,HK.out wr HE.out.2⟩
     obtain ⟨w9,hw9⟩:∃w9,wr=w9:=⟨_,rfl⟩
     rw [hw9] at HE9⊢
     obtain ⟨bG,hbG⟩:∃x,w4.heap.size=x:=⟨_,rfl⟩
     obtain ⟨bP,hbP⟩:∃x,w1.heap.size=x:=⟨_,rfl⟩
     rw [hbG,hbP] at HE9⊢
     clear hw9 hbG hbP HBI HE cA5 HP5 HK hfs0 hfs1 hfd hdT hd
     go_wp2_with fail
     go_loopw [25] (fun uv W=>∃u:Nat,uv= .int .i64 u∧u≤7∧Hid (Au7 bG G W∧Ar7 bP p W∧Below w.heap.size w W)) (fun uv _=>7 - (intOf uv).toNat)
     case atStart=>exact ⟨0,rfl,by omega,HE9⟩
     case round=>
      clear HE9
      obtain ⟨u,rfl,hu,HJ⟩:=hrel
      by_cases hu7:u < 7
      ·have hui:(u:Int) < 7:=by omega
       have hu0:(0:Int)≤(u:Int):=by omega
       have c1:=HJ.out.1.c u hu7
       have c2:=HJ.out.2.1.c u hu7
       obtain ⟨e1,e2⟩:=HPu.out u hu7
       obtain ⟨q,hq⟩:∃q,G u=q:=⟨_,rfl⟩
       rw [hq] at c1 e1 e2
       rw [←e1] at c2
       have hwq:IntKind.u64.wrap (q:Int)= (q:Int):=wrap_nat (by omega)
       have HN:Hid (Au7 bG G wr.drew∧Ar7 bP p wr.drew∧Below w.heap.size w wr.drew):=⟨HJ.out.1.below (Below.refl _ _).drew HJ.out.1.lt,HJ.out.2.1.block (zG _) rfl,HJ.out.2.2.drew⟩
       have hC:Hid (wr.drew.cell? ⟨bG,u,none⟩=some (.int .u64 (q:Nat))∧wr.drew.cell? ⟨bP,u,none⟩=some (.int .i64 (q:Nat))):=⟨c1,c2⟩
       have hq0:(0:Int)≤(q:Int):=by omega
       have HQ0:=hid hq0
       clear c1 c2 e1 e2 hq
       go_upto_region 40 with fail
       refine regE (fun _=>false) (S:=fun W=>Hid (W.cell? ⟨bG,u,none⟩=some (.int .u64 (q:Nat))∧W.cell? ⟨bP,u,none⟩=some (.int .i64 (q:Nat)))) (by kernel_rfl) hC (fun hHeld=>?_)
       refine eT 0 (v:=?_) ?_ ?_
       rotate_left
       ·intro w hSw; obtain ⟨f0,f1⟩:=hSw.out; clear hSw; go_simp; (try with_reducible rfl)
       try simp only [ePut]
       refine eT 1 (v:=?_) ?_ ?_
       rotate_left
       ·intro w hSw; obtain ⟨f0,f1⟩:=hSw.out; clear hSw; go_simp; (try with_reducible rfl)
       try simp only [ePut]
       refine eT 2 (v:=?_) ?_ ?_
       rotate_left
       ·intro w hSw; obtain ⟨f0,f1⟩:=hSw.out; clear hSw; go_simp; (try with_reducible rfl)
       try simp only [ePut]
       refine eT 3 (v:=?_) ?_ ?_
       rotate_left
       ·intro w hSw; obtain ⟨f0,f1⟩:=hSw.out; clear hSw; go_simp; (try with_reducible rfl)
       try simp only [ePut]
       refine eT 4 (v:=?_) ?_ ?_
       rotate_left
       ·intro w hSw; obtain ⟨f0,f1⟩:=hSw.out; clear hSw; go_simp; (try with_reducible rfl)
       try simp only [ePut]
       refine eT 5 (v:=?_) ?_ ?_
       rotate_left
       ·intro w hSw; obtain ⟨f0,f1⟩:=hSw.out; clear hSw; go_simp; (try with_reducible rfl)
       try simp only [ePut]
       refine eT 6 (v:= .int .i64 (q:Nat)) ?_ ?_
       ·intro w hSw; go_simp; (try (intro _; omega)); (try omega)
       try simp only [ePut]
       refine eT 7 (v:=?_) ?_ ?_
       rotate_left
       ·intro w hSw; skip; clear hSw; go_simp; (try with_reducible rfl)
       try simp only [ePut]
       refine eT 8 (v:=?_) ?_ ?_
       rotate_left
       ·intro w hSw; skip; clear hSw; go_simp; (try with_reducible rfl)
       try simp only [ePut]
       refine OrdE.done (by kernel_rfl) ?_ _
       clear hHeld hC
       go_wp2
       exact ⟨⟨u+1,by go_num,by omega,HN⟩,by simp [intOf]; omega⟩
      ·obtain rfl:u=7:=by omega
       have cLr:=hid (cL.out wr HJ.out.2.2)
       clear hu hu7
       go_wp2_with fail
       refine cLr.out.mono ?_
       rintro e w10 ⟨rfl,hB10⟩
       have HB10:=hid (HJ.out.2.2.trans (hB10.mono HJ.out.2.2.size))
       clear hB10 cLr
       go_wp2
       go_ret
       exact ⟨rfl,HB10.out⟩
end Go.Proofs.YthimhfmnikfgaaaGreatDoor
