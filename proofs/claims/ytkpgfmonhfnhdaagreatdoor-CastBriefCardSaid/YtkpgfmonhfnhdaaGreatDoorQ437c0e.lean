/-
  ferialaw22.lives: the chapter's example.
  ferialaw22.CastBrief answers true for every clauses, day and number of days.
  The table of math/bits that this seat's rows list: what a row's premise gives of it, and a world that holds it.
-/
import Derived.Test.YtkpgfmonhfnhdaaGreatDoorQf2952f
import Derived.Test.YtkpgfmonhfnhdaaGreatDoorQfb4f3d
import Derived.Test.YtkpgfmonhfnhdaaGreatDoorQ8095c5
import Derived.Test.YtkpgfmonhfnhdaaGreatDoorQ9a3ceb
import Derived.Test.YtkpgfmonhfnhdaaGreatDoorQ039b6d
import Derived.Test.YtkpgfmonhfnhdaaGreatDoorCards
import Derived.Test.YtkpgfmonhfnhdaaGreatDoorTie
import Derived.Test.YtkpgfmonhfnhdaaGreatDoorQd4b665
import Derived.Test.YtkpgfmonhfnhdaaGreatDoorQ3e71e3
import Derived.Deep.DeepHandedRow
import Derived.Lib.LaidTab
namespace Go.Proofs.YtkpgfmonhfnhdaaGreatDoor
set_option linter.unusedVariables false
section
open Go.RowKit Go.Maps
attribute [local irreducible] secL
attribute [local go_sem ↓] ydt ycX
theorem full_dq {D:Int} (h0:0≤D) (h1:D≤146096) {j:Nat} (hj:j < 86400):dayQ [fullCl] D j=true:=by
 rw [dayQ,List.any_cons,List.any_nil,Bool.or_false]
 exact yiv (by rw [winB,decide_eq_true_eq]; omega)
def allS:List Int:=secL fun _=>true
theorem yek {x:Int}:x∈allS↔0≤x∧x < 86400:=by
 rw [allS,yaw]
 constructor
 ·rintro ⟨j,hj,-,rfl⟩; omega
 ·intro h; exact ⟨x.toNat,by omega,rfl,by omega⟩
theorem ygQ:allS.Pairwise (·< ·):=yey _
theorem ygK {D:Int} (h0:0≤D) (h1:D≤146096):secL (dayQ [fullCl] D)=allS:=yfa fun k hk=>full_dq h0 h1 hk
theorem yiu:lsL [fullCl] (yae 0 146096)= (yae 0 146096).map fun _=>allS:=by
 rw [lsL]; exact List.map_congr_left fun D hD=>ygK (yaP.1 hD).1 (yaP.1 hD).2
theorem full_ev:evB (lsL [fullCl] (yae 0 146096))=true:=by
 rw [yiu]
 generalize yae 0 146096=X
 rw [evB,List.all_eq_true]
 intro L hL
 cases X with
 | nil=>cases hL
 | cons D X=>
   obtain ⟨E,hE,rfl⟩:=List.mem_map.1 hL
   exact decide_eq_true rfl
theorem all_sq:sqB allS=true:=by
 rw [sqB,decide_eq_true_eq]
 congr 1
 refine ydM (ycr _ _ _) ygQ fun x=>⟨fun h=>yek.2 (ydr _ _ _ h),fun h=>?_⟩
 have hx:=yek.1 h
 have lt:∀l,ofM l < 18446744073709551616:=fun l=>yan _
 refine (ybL (lt _) (lt _) (lt _) hx.1 hx.2).2 ?_
 have key:∀(l:List Int) (y:Int),0≤y→y < 64→y∈l→hasB (ofM l) y=true:=fun l y y0 y1 hy=>by
  rw [hasB,yb6]
  simp [show y.toNat < 64 by omega,Int.toNat_of_nonneg y0,hy]
  try omega
 rw [ybY,key (hrL allS) (x / 3600) (by omega) (by omega) (List.mem_map.2 ⟨x,h,rfl⟩),key (mnL allS) (x / 60 % 60) (by omega) (by omega) (List.mem_map.2 ⟨x,h,rfl⟩),key (scL allS) (x % 60) (by omega) (by omega) (List.mem_map.2 ⟨x,h,rfl⟩),dayB]
 simp; omega
theorem full_sq:sqA (lsL [fullCl] (yae 0 146096))=true:=by
 rw [yiu,sqA,List.all_eq_true]
 intro L hL
 obtain ⟨E,hE,rfl⟩:=List.mem_map.1 hL
 exact all_sq
theorem fst_all:fstI allS=0:=by
 obtain ⟨i,hi,he⟩:=List.getElem_of_mem (yek.2 (show (0:Int)≤0∧(0:Int) < 86400 by omega))
 have h0:0 < allS.length:=by omega
 rw [fstI,List.getElem?_eq_getElem h0,Option.getD_some]
 by_cases i0:i=0
 ·subst i0; exact he
 ·have h1:=(List.pairwise_iff_getElem.1 ygQ) 0 i h0 hi (by omega)
  have h2:=(yek.1 (List.getElem_mem h0)).1
  omega
theorem fiV_hd {l:List Cl} {X:List Int} {D:Int} (h:X[0]? =some D):fiV l X=86400 * D+fstI (secL (dayQ l D)):=by unfold fiV; rw [h]
theorem full_fi:fiV [fullCl] (yae 0 146096)=0:=by
 have e:(yae 0 146096)[0]? =some 0:=by
  rw [List.getElem?_eq_getElem (by rw [yaH]; decide),ycj]; rfl
 rw [fiV_hd e,ygK (by omega) (by omega),fst_all]; rfl
theorem mid_month:∀i:Nat,i < 13→1≤i→shF (30 * i - 15) 2=i:=by decide +kernel
theorem fcU_3 (X:List Int):fcU 0 0 0 X 3=ofM (X.map fun D=>shF D 2):=by
 unfold fcU; rw [if_neg (by omega),if_neg (by omega),if_neg (by omega),if_pos (by omega)]
theorem full_mo:fcU 0 0 0 (yae 0 146096) 3=8190:=by
 rw [fcU_3]
 have e:ofM ((yae 0 146096).map fun D=>shF D 2)=mk fun i=>decide (1≤i∧i≤12):=by
  rw [ofM]
  refine yaE fun i hi=>?_
  rw [inB]
  refine decide_eq_decide.2 ?_
  rw [List.mem_map]
  constructor
  ·rintro ⟨D,hD,e⟩
   have hd:=yaP.1 hD
   have:=yas (n:=D) hd.1 (by omega)
   have e2:fMo D=i:=e
   omega
  ·intro h
   exact ⟨30 * i - 15,yaP.2 ⟨by omega,by omega⟩,mid_month i (by omega) h.1⟩
 rw [e]; decide +kernel
theorem full_face {u:Nat→Nat} {fi la n:Int} {ev sq:Bool} (h:FaceP [fullCl] u fi la n ev sq):fi=0∧n=146097∧ev=true∧sq=true∧u 3=8190:=by
 obtain ⟨-,hu,hn,hf,-,he,hs⟩:=h
 rw [ygN (by omega) (by omega)] at hn hf he hs
 have h3:=hu 3 (by omega) (by omega)
 rw [ygN (by omega) (by omega),full_mo] at h3
 exact ⟨hf.trans full_fi,by rw [hn,yaH]; rfl,he.trans full_ev,hs.trans full_sq,h3⟩
set_option maxRecDepth 100000 in
set_option maxHeartbeats 3200000 in
theorem yhP (w:World) (hT:Tab w):Calls Tryz.prog 7 #[] w fun e w'=>e= .returned (.bool true)∧Below w.heap.size w w':=by
 have cW:=hid (yjR w)
 have cO:=hid (fun (g:Nat) W (hB:Below w.heap.size w W) (h:Sl W (some ⟨g,0,none⟩) (cls [fullCl]))=>yhV (some ⟨g,0,none⟩) 1 [fullCl] W (by simp) (by simp) h (fun h=>by cases h) full_okL (hT.later hB))
 clear hT
 go_enter Tryz.func7,Tryz.ntmps7
 go_wp2_with fail
 refine cW.out.mono ?_
 rintro e w1 ⟨⟨g,rfl,hO⟩,hB1⟩
 obtain ⟨a1,cap1,e1,hsl,-⟩:=ya6 hO
 injection e1 with e1 e2 e3
 subst e1
 have HB1:=hid hB1
 have cO1:=hid (cO.out g w1 hB1 hsl)
 clear hB1 hO hsl cW cO e2 e3
 go_wp2_with fail
 refine cO1.out.mono ?_
 rintro e w2 ⟨hC,hB2⟩
 rcases hC with ⟨hf,-⟩ | ⟨-,u,fi,la,n,ev,sq,rfl,hF⟩
 ·exact absurd yjv hf
 obtain ⟨rfl,rfl,rfl,rfl,hu3⟩:=full_face hF
 have HB2:=hid (HB1.out.trans (hB2.mono HB1.out.size))
 have e8:FcB w2.heap.size (fun _=>0) 0 0 0 false false (w2.alloc (.cells zl0 28)):=ydS w2 28
 have hst8:=e8.st u 0 la 146097 true true
 have H8:=e8.put u 0 la 146097 true true
 have HB8:Hid (Below w2.heap.size w2 ((w2.alloc (.cells zl0 28)).setCells w2.heap.size 0 (fcL u 0 la 146097 true true))):=(yaa (Below.refl _ _) (zG _)).trans ((Eff.setCells (O:=fun x=>x=w2.heap.size) rfl (fcL u 0 la 146097 true true) 0 _ (Eff.refl _ _)).below (by rintro b rfl; exact zG _) (by simp))
 obtain ⟨w3,hw3⟩:∃w3,(w2.alloc (.cells zl0 28)).setCells w2.heap.size 0 (fcL u 0 la 146097 true true)=w3:=⟨_,rfl⟩
 rw [hw3] at H8 HB8 hst8
 have HB3:=hid (HB2.out.trans (HB8.out.mono HB2.out.size))
 have c46:=H8.c46
 have c48:=H8.c48
 have c49:=H8.c49
 have c50:=H8.c50
 have c3:=H8.c 3 (by omega)
 rw [hu3] at c3
 have hnn:w2.heap.size=w2.heap.size:=rfl
 clear hB2 e8 hw3 H8 cO1 hF hu3 hnn
 go_wp2
 go_ret
 exact ⟨rfl,HB3.out⟩
end
section
open Go.RowKit Go.Maps
attribute [local irreducible] secL
attribute [local go_sem ↓] yap ya9 ydt ycX eql_fcS
attribute [local go_sem] yaR eqgFc eqgFc2 eqlFcz
set_option maxRecDepth 100000 in
set_option maxHeartbeats 12800000 in
theorem ye3 (a:Option Addr) (cap:Nat) (l:List Cl) (x y:Nat) (w:World) (hl:l.length≤9223372036854775807) (hlc:l.length≤cap) (hs:Sl w a (cls l)) (hno:a=none→cap=0) (hok:∀c∈l,c.Ok) (hx:x < 4294967296) (hy:y < 256) (hT:Tab w) :
  Calls Tryz.prog 3 #[.slice a l.length cap, .int .u32 (x:Nat), .int .u8 (y:Nat)] w fun e w'=>e= .returned (.bool true)∧Below w.heap.size w w':=by
 have cL:=hid (fun W (hB:Below w.heap.size w W)=>yhP W (hT.later hB))
 by_cases h8:8 < l.length
 ·have cO:=hid (yhV a cap l w hl hlc hs hno hok hT)
  have Hf:=hid (yju h8)
  clear hs hno hok hT
  go_enter Tryz.func3,Tryz.ntmps3
  go_wp2_with fail
  refine cO.out.mono ?_
  rintro e w1 ⟨hR,hB1⟩
  have HB1:=hid hB1
  rcases hR with ⟨-,rfl⟩ | ⟨hf0,-⟩
  rotate_left
  ·rw [Hf.out] at hf0; exact absurd hf0 (by decide)
  rw [Hf.out]
  obtain ⟨w3,hst8,A8,HB8⟩:=fc_box w1 (fun _=>0) 0 0 0 false false
  have HB3:=hid (HB1.out.trans (HB8.out.mono HB1.out.size))
  have cL1:=hid (cL.out w3 HB3.out)
  clear hB1 cO
  go_wp2_with fail
  refine cL1.out.mono ?_
  rintro e w4 ⟨rfl,hB4⟩
  have HB4:=hid (HB3.out.trans (hB4.mono HB3.out.size))
  clear hB4 cL1
  go_wp2
  go_ret
  exact ⟨rfl,HB4.out⟩
 have HT:=hid hT
 have Hs:=hid hs
 have Hok:=hid hok
 have hxi:0≤(x:Int)∧(x:Int) < 4294967296:=by omega
 have hyi:0≤(y:Int)∧(y:Int) < 256:=by omega
 obtain ⟨x,hX⟩:∃X:Int,(x:Int)=X:=⟨_,rfl⟩
 obtain ⟨y,hY⟩:∃X:Int,(y:Int)=X:=⟨_,rfl⟩
 rw [hX] at hxi⊢
 rw [hY] at hyi⊢
 clear hX hY hx hy
 have hf0:x.tmod 146097=x % 146097:=Int.tmod_eq_emod_of_nonneg (by omega)
 have hg0:y.tmod 12=y % 12:=Int.tmod_eq_emod_of_nonneg (by omega)
 have hf1:0≤x % 146097∧x % 146097 < 146097:=by omega
 have hg1:0≤y % 12∧y % 12 < 12:=by omega
 obtain ⟨f,hf⟩:∃f,x % 146097=f:=⟨_,rfl⟩
 obtain ⟨g,hg⟩:∃g,y % 12=g:=⟨_,rfl⟩
 rw [hf] at hf0 hf1
 rw [hg] at hg0 hg1
 have hf2:IntKind.i64.wrap (x.tmod 146097)=f:=by rw [hf0]; exact IntWalk.i64_in _ (by omega)
 have hg2:IntKind.i64.wrap (y.tmod 12)=g:=by rw [hg0]; exact IntWalk.i64_in _ (by omega)
 have hx2:IntKind.i64.wrap x=x:=IntWalk.i64_in _ (by omega)
 have hy2:IntKind.i64.wrap y=y:=IntWalk.i64_in _ (by omega)
 clear hf hg hs hno hok hT hxi hyi
 go_enter Tryz.func3,Tryz.ntmps3
 go_upto_region 6 with fail
 have hT1:f≤min 146096 (f+g)∧min 146096 (f+g)≤146096:=by omega
 obtain ⟨T,hT⟩:∃T,min 146096 (f+g)=T:=⟨_,rfl⟩
 rw [hT] at hT1⊢
 clear hT hf0 hf2 hg0 hg1 hg2 hx2 hy2
 obtain ⟨F,hF⟩:∃F,86400 * f=F:=⟨_,rfl⟩
 obtain ⟨U,hU⟩:∃U,86400 * T+86399=U:=⟨_,rfl⟩
 have hFU:0≤F∧F≤U∧U≤12622780799:=by omega
 have HF:=hid hF
 have HU:=hid hU
 have hF2:IntKind.i64.wrap (86400 * f)=F:=by rw [hF]; exact IntWalk.i64_in _ (by omega)
 have hT2:IntKind.i64.wrap (86400 * T)=86400 * T:=IntWalk.i64_in _ (by omega)
 have hU2:IntKind.i64.wrap (86400 * T+86399)=U:=by rw [hU]; exact IntWalk.i64_in _ (by omega)
 have hklen:(l.map (hdCl F U)).length=l.length:=List.length_map ..
 obtain ⟨ks,hks⟩:∃ks,l.map (hdCl F U)=ks:=⟨_,rfl⟩
 rw [hks] at hklen
 have Hks:=hid hks
 have Hkl:=hid hklen
 clear hks hklen
 go_wp2_with fail
 go_loopw [11,12] (fun v i wr=>∃(k co:Nat) (ao:Option Addr),i= .int .i64 k∧k≤l.length∧v= .slice ao k co∧Hid (wr.ownsRow w.heap.size 36 30 (.slice ao k co) k (cls (ks.take k)))∧Hid (Below w.heap.size w wr)) (fun _ i _=>l.length - (intOf i).toNat)
 case atStart=>exact ⟨0,0,none,rfl,by omega,rfl,World.ownsRow_nil _ _ _ _,Below.refl _ _⟩
 case round=>
  obtain ⟨k,co,ao,rfl,hk,rfl,HO,HB⟩:=hrel
  by_cases hlt:k < l.length
  ·obtain ⟨b,off,rfl,hbk,hr⟩:=Hs.out.atCl hlt
   have hr':=yaA hr HB.out hbk
   have hcs:cls (ks.take (k+1))=cls (ks.take k) ++ yad (hdCl F U l[k]):=by
    rw [←Hks.out,←List.map_take,yai l k hlt,List.map_append,List.map_cons,List.map_nil,cls_snoc,←List.map_take]
   have Hcs:=hid hcs
   obtain ⟨c,hc⟩:∃c,l[k]=c:=⟨_,rfl⟩
   rw [hc] at hr' Hcs
   have le:=yfT hr'
   have hth2:(wr.alloc (.cells zL.toArray 36)).there wr.heap.size 0 30:=yb9 wr _ _
   have hn2:=yaa (o:= .cells zL.toArray 36) (Below.refl wr.heap.size wr) (zG _)
   obtain ⟨W1,hW1⟩:∃W1,yb5 (wr.alloc (.cells zL.toArray 36)) wr.heap.size (yad c)=W1:=⟨_,rfl⟩
   have hC1:ClB W1 wr.heap.size c:=by rw [←hW1]; exact ybp _ rfl hth2
   have hz1:∀i,W1.frozen? ⟨wr.heap.size,i,none⟩=false:=fun i=>by rw [←hW1,yif,ycA]; simp [go_sem]
   have hb1:Below wr.heap.size wr W1:=by rw [←hW1]; exact ybq hn2 (zG _) _
   have hl1:wr.heap.size < W1.heap.size:=by rw [←hW1,yif,ybe,World.size_alloc]; omega
   have HW1:=hid hW1
   have HC1:=hid hC1
   have Hb1:=hid hb1
   have HZ1:=hid hz1
   have cM:Hid (Calls Tryz.prog 8 #[.slice (some ⟨W1.heap.size,0,none⟩) 2 2] (W1.alloc (.cells #[.int .i64 c.fr, .int .i64 c.un, .int .i64 F, .int .i64 U] 38)) fun e w'=>
     e= .returned (spv (yal (mtF [(c.fr,c.un),(F,U)]) (mtU [(c.fr,c.un),(F,U)])) (yak (mtF [(c.fr,c.un),(F,U)]) (mtU [(c.fr,c.un),(F,U)])))∧Below W1.heap.size W1 w'):=by
    refine (yjH (some ⟨W1.heap.size,0,none⟩) 2 [(c.fr,c.un),(F,U)] _ (by simp) (ydo (yaD W1 _ _) (by simp))).mono ?_
    rintro e w' ⟨he,hb⟩
    exact ⟨he,(yaa (Below.refl _ _) (zG _)).trans (hb.mono (by simp))⟩
   have hkn:hdCl F U c= {c with fr:=yal (mtF [(c.fr,c.un),(F,U)]) (mtU [(c.fr,c.un),(F,U)]),un:=yak (mtF [(c.fr,c.un),(F,U)]) (mtU [(c.fr,c.un),(F,U)])}:=rfl
   obtain ⟨X,hX⟩:∃X,yal (mtF [(c.fr,c.un),(F,U)]) (mtU [(c.fr,c.un),(F,U)])=X:=⟨_,rfl⟩
   obtain ⟨Y,hY⟩:∃Y,yak (mtF [(c.fr,c.un),(F,U)]) (mtU [(c.fr,c.un),(F,U)])=Y:=⟨_,rfl⟩
   rw [hX,hY] at cM hkn
   have Hkn:=hid hkn
   clear hW1 hn2 hb1 hC1 hr hr' hc hz1 hcs hX hY hkn
   go_upto_region 11 with fail
   rw [HW1.out]
   have t0:=HC1.out.tail.2.2.2.1
   have t1:=HC1.out.tail.2.2.2.2
   clear le hth2
   go_wp2_with fail
   refine cM.out.mono ?_
   rintro e w2 ⟨rfl,hB2⟩
   obtain ⟨W2,hW2⟩:∃W,w2.alloc (.cells #[.int .i64 X, .int .i64 Y] 38)=W:=⟨_,rfl⟩
   have k1:W2.cell? ⟨w2.heap.size,0,none⟩=some (.int .i64 X):=by rw [←hW2]; simp [go_sem]
   have k2:W2.cell? ⟨w2.heap.size,1,none⟩=some (.int .i64 Y):=by rw [←hW2]; simp [go_sem]
   have hb2:Below W1.heap.size W1 W2:=by rw [←hW2]; exact yaa hB2 hB2.size
   have hl2:wr.heap.size < w2.heap.size:=zH hl1 hB2.size
   have hC2:ClB W2 wr.heap.size c:=yaA HC1.out hb2 hl1
   have HC2:=hid hC2
   have z1:W2.frozen? ⟨wr.heap.size,28,none⟩=false:=(hb2.frozen (p:=⟨wr.heap.size,28,none⟩) hl1).trans (HZ1.out 28)
   have z2:W2.frozen? ⟨wr.heap.size,29,none⟩=false:=(hb2.frozen (p:=⟨wr.heap.size,29,none⟩) hl1).trans (HZ1.out 29)
   have t2:=HC2.out.tail.2.2.2.1
   have t3:=HC2.out.tail.2.2.2.2
   have hne:wr.heap.size≠w2.heap.size:=by omega
   have hne2:w2.heap.size≠wr.heap.size:=by omega
   have Hb2:=hid (Hb1.out.trans (hb2.mono (Nat.le_of_lt hl1)))
   have HW2:=hid hW2
   clear hW2 hb2 hB2 hC2 cM t0 t1
   go_upto_region 12 with fail
   rw [HW2.out]
   obtain ⟨W3,hW3⟩:∃W,(W2.setCell ⟨wr.heap.size,28,none⟩ (.int .i64 X)).setCell ⟨wr.heap.size,29,none⟩ (.int .i64 Y)=W:=⟨_,rfl⟩
   have HC3:Hid (ClB W3 wr.heap.size (hdCl F U c)):=by
    show ClB _ _ _
    rw [←hW3]
    exact yiH (yiH HC2.out (F:=c) (G:={c with fr:=X}) (k:=28) (by omega) rfl) (G:=hdCl F U c) (k:=29) (by omega) (by rw [Hkn.out]; rfl)
   have HB3:Hid (Below wr.heap.size wr W3):=by show Below _ _ _; rw [←hW3]; exact yab (yab Hb2.out (zG _)) (zG _)
   have HW3:=hid hW3
   clear hW3
   go_upto_region 14 with fail
   rw [HW3.out]
   have l2:=HC3.out.ld
   have HO2:=hid (ycg HO.out HB3.out (zG _))
   have HBw:=hid (HB.out.trans (HB3.out.mono HB.out.size))
   clear t2 t3 z1 z2 k1 k2
   go_wp2_with (at_builtin; refine appLit eClz (.tmp 68) (.tmp 70) rfl rfl rfl rfl rfl HO2.out rfl (clL_one (hdCl F U c)) (by omega) (by omega) HBw.out.size ?_)
   intro a' cap' w7 g1 g2 g3 g4
   have hO3:Hid (w7.ownsRow w.heap.size 36 30 (.slice a' (k+1) cap') (k+1) (cls (ks.take (k+1)))):=by
    show World.ownsRow _ _ _ _ _ _ _
    rw [Hcs.out]; exact g1
   have HB4:=hid (HBw.out.trans g3)
   clear g1 g2 g3 g4 l2
   go_wp2
   exact ⟨⟨k+1,cap',a',by go_num,by omega,rfl,hO3,HB4⟩,by simp [intOf]; omega⟩
  ·obtain rfl:k=l.length:=by omega
   rw [List.take_of_length_le (by rw [Hkl.out]; exact zG _)] at HO
   have hoks:∀c∈ks,c.Ok:=fun c hc=>by
    rw [←Hks.out] at hc
    obtain ⟨d,hd,rfl⟩:=List.mem_map.1 hc
    exact hd_ok (Hok.out d hd) (by simp only [i64B]; omega) (by simp only [i64B]; omega)
   have hk8:ks.length≤8:=by rw [Hkl.out]; omega
   have Hoks:=hid hoks
   have Hk8:=hid hk8
   have ho':=HO.out
   rw [←Hkl.out] at ho'
   have hsO:=yeC ho'
   have HDc:Hid (dayS ks (yae 0 146096)=dayS ks (yae f T)):=by show _ = _; rw [←Hks.out,←HF.out,←HU.out]; exact day_cut hf1.1 hT1.2
   have cP:=hid (yhV ao co ks wr (by omega) (yig ho') hsO (ycf ho') hoks (HT.out.later HB.out))
   have cM:=hid (fun W (hB:Below wr.heap.size wr W)=>yjI ao co ks W (by omega) (hsO.below hB) hoks)
   have cA:=hid (fun W (hB:Below wr.heap.size wr W)=>RFace_any ao co ks f T W (by omega) (hsO.below hB) hoks hf1.1 (by omega) hT1.2 (by omega))
   have cLr:=hid (fun W (hB:Below wr.heap.size wr W)=>cL.out W (HB.out.trans (hB.mono HB.out.size)))
   rw [Hkl.out] at cP cM cA
   rw [←HDc.out] at cA
   clear hoks hk8 ho' hsO hk hlt
   go_wp2_with fail
   refine cP.out.mono ?_
   rintro e w1 ⟨hR,hB1⟩
   have HB1:=hid hB1
   clear hB1 cP
   cases hm:mayL ks
   ·have hf:=fault_no Hk8.out hm
    rcases hR with ⟨-,rfl⟩ | ⟨hf0,-⟩
    rotate_left
    ·rw [hf] at hf0; exact absurd hf0 (by decide)
    rw [hf]
    obtain ⟨w3,hst8,A8,HB8⟩:=fc_box w1 (fun _=>0) 0 0 0 false false
    have HB3:=hid (HB1.out.trans (HB8.out.mono HB1.out.size))
    have cM3:=hid (cM.out w3 HB3.out)
    rw [hm] at cM3
    clear hm hf cM
    go_wp2_with fail
    refine cM3.out.mono ?_
    rintro e w4 ⟨rfl,hB4⟩
    have HB4:=hid (HB3.out.trans (hB4.mono HB3.out.size))
    have hld:=(A8.out.block hB4.size (hB4.block _ A8.out.lt)).ld
    have cL4:=hid (cLr.out w4 HB4.out)
    clear hB4 cM3 hst8
    go_wp2_with fail
    refine cL4.out.mono ?_
    rintro e w5 ⟨rfl,hB5⟩
    have HB5:=hid (HB.out.trans ((HB4.out.trans (hB5.mono HB4.out.size)).mono HB.out.size))
    clear hB5 cL4
    go_wp2
    go_ret
    exact ⟨rfl,HB5.out⟩
   have hf:=yjt hm
   rcases hR with ⟨hf0,-⟩ | ⟨-,u,fi,la,n,ev,sq,rfl,hFP⟩
   ·exact absurd hf hf0
   rw [hFP.ref] at cA
   have HEq:=hid (fun W=>hFP.eql W)
   obtain ⟨w3,hst8,A8,HB8⟩:=fc_box w1 u fi la n ev sq
   have HB3:=hid (HB1.out.trans (HB8.out.mono HB1.out.size))
   have cM3:=hid (cM.out w3 HB3.out)
   rw [hm] at cM3
   clear hm hf hFP cM
   go_wp2_with fail
   refine cM3.out.mono ?_
   rintro e w4 ⟨rfl,hB4⟩
   have HB4:=hid (HB3.out.trans (hB4.mono HB3.out.size))
   have hA4:=A8.out.block hB4.size (hB4.block _ A8.out.lt)
   have hC:Hid (∀W,Below w4.heap.size w4 W→Hid ((yeK (.pointer (some ⟨w1.heap.size,0,none⟩))).run Tryz.prog W= .ok (fcv u fi la n ev sq) W)):=fun W hB=>(hA4.block hB.size (hB.block _ hA4.lt)).ld
   have hB0:Hid (Below w4.heap.size w4 w4.drew):=(Below.refl _ _).drew
   have cA4:=hid (cA.out w4.drew (HB4.out.trans (hB0.out.mono HB4.out.size)))
   have cL4:=hid (fun W (hB:Below w4.heap.size w4 W)=>cLr.out W (HB4.out.trans (hB.mono HB4.out.size)))
   clear hB4 cM3 hst8 hA4 cA cLr
   go_upto_region 18 with fail
   refine regF [] (S:=fun W=>Hid ((yeK (.pointer (some ⟨w1.heap.size,0,none⟩))).run Tryz.prog W= .ok (fcv u fi la n ev sq) W)) (by kernel_rfl) (hC.out _ hB0.out) (fun hHeld=>?_)
   refine zfA 0 ?_
   refine zfA 1 ?_
   refine zfA 2 ?_
   refine zfA 3 ?_
   refine zfA 4 ?_
   refine zfA 5 ?_
   refine zfA 6 ?_
   refine rgO 7 (fun K hK=>?_)
   rw [if_pos (by rfl)]
   go_simp
   refine cA4.out.mono ?_
   rintro e w5 ⟨rfl,hB5⟩
   have HB5:Hid (Below w4.heap.size w4 w5):=hB0.out.trans (hB5.mono hB0.out.size)
   refine hK.out _ _ (fun _=>hC.out _ HB5.out) ?_
   clear hK hB5
   try simp only [rgPut]
   have hS5:=hid (hC.out _ HB5.out)
   refine rgT 8 (v:=?_) ?_ ?_
   rotate_left
   ·intro w hSw; have f0:=hSw.out; have f1:=HEq.out w; clear hSw; go_simp; (try with_reducible rfl)
   try simp only [rgPut]
   refine zfA 9 ?_
   refine zfA 10 ?_
   refine rgO 11 (fun K hK=>?_)
   rw [if_pos (by rfl)]
   go_simp
   refine (cL4.out _ HB5.out).mono ?_
   rintro e w6 ⟨rfl,hB6⟩
   have HB6:Hid (Below w4.heap.size w4 w6):=HB5.out.trans (hB6.mono HB5.out.size)
   refine hK.out _ _ (fun _=>hC.out _ HB6.out) ?_
   clear hK hB6
   try simp only [rgPut]
   have hS6:=hid (hC.out _ HB6.out)
   refine zfA 12 ?_
   refine zfA 13 ?_
   refine OrdF.done (by kernel_rfl) ?_ _
   have HBf:=hid (HB.out.trans ((HB4.out.trans (HB6.out.mono HB4.out.size)).mono HB.out.size))
   go_wp2
   go_ret
   exact ⟨rfl,HBf.out⟩
end
section
open Go.ChangeShapes Go.WideShapes Go.ChangeAt Go.RowKit
theorem yhs:ownKnob Tryz.prog.godebug=none:=by kernel_rfl
theorem yhx:laidOutB Tryz.prog=true:=by kernel_rfl
theorem gTab:Tryz.prog.globalNamed "math/bits.deBruijn64tab" =some 0:=by kernel_rfl
theorem gTabType:(Tryz.prog.globals[0]?).map (·.type)=some 228:=by kernel_rfl
theorem cellsTab:Tryz.prog.cellsOf 228=64:=by kernel_rfl
theorem cellsU8:Tryz.prog.cellsOf 5=1:=by kernel_rfl
def tabInts:List Int:=Lib.deBruijn64tab.map fun (n:Nat)=>(n:Int)
theorem yhi:∀i,i < 64→tabInts.getD i 0= ((Lib.deBruijn64tab.getD i 0:Nat):Int):=by decide
theorem tab_of {W:World} (h:laidMetH Tryz.prog [("math/bits.deBruijn64tab",Rows.laid_math_bits_deBruijn64tab)] W):Tab W:=by
 have ht:Lib.TabIs Tryz.prog W "math/bits.deBruijn64tab" .u8 tabInts:=Lib.tabIs_of_head (rest:= []) gTab gTabType Tryz.underlying228 Tryz.underlying5 cellsU8 cellsTab h
 have hc:∀i,i < 64→W.cell? ⟨0,i,none⟩=some (.int .u8 (tabInts.getD i 0)):=fun i hi=>ht.cell gTab i hi
 exact ⟨Nat.lt_of_le_of_lt (Nat.zero_le _) (World.block_lt_of_cell? W _ (hc 0 (by omega))),fun i hi=>by rw [hc i hi,yhi i hi]⟩
noncomputable def yeP (os:Os):World:=
 {World.holding Tryz.prog os ⟨#[],#[],[]⟩ with heap:=(World.holding Tryz.prog os ⟨#[],#[],[]⟩).heap.modify 0 fun
   | .cells _ t frozen=> .cells (tabInts.map (Value.int .u8)).toArray t frozen
   | o=>o}
end
end Go.Proofs.YtkpgfmonhfnhdaaGreatDoor
