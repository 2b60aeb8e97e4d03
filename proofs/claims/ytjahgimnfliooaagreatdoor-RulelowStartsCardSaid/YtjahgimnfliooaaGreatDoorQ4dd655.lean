/-
  The first and the last instant of a rule's set (plain).
  ferialaw35.lives answers true; the first and the last instant of a rule's set (plain).
  ferialaw35.Means: what a rule means, but for its count.
  ferialaw35.RulelowStarts: the walk.
  The table of math/bits that this seat's rows list: what a row's premise gives of it, and a world that holds it.
-/
import Derived.Test.YtjahgimnfliooaaGreatDoorQe51693
import Derived.Test.YtjahgimnfliooaaGreatDoorQ183855
import Derived.Test.YtjahgimnfliooaaGreatDoorQ555a1f
import Derived.Test.YtjahgimnfliooaaGreatDoorQ824254
import Derived.Test.YtjahgimnfliooaaGreatDoorQ905fbf
import Derived.Test.YtjahgimnfliooaaGreatDoorQ09ea5c
import Derived.Test.YtjahgimnfliooaaGreatDoorCards
import Derived.Test.YtjahgimnfliooaaGreatDoorTie
import Derived.Test.YtjahgimnfliooaaGreatDoorQ146507
import Derived.Test.YtjahgimnfliooaaGreatDoorQ497b5f
import Derived.Deep.DeepHandedRow
import Derived.Lib.LaidTab
set_option maxRecDepth 100000
set_option maxHeartbeats 25600000
namespace Go.Proofs.YtjahgimnfliooaaGreatDoor
set_option linter.unusedVariables false
section
open Go.RowKit Go.Maps
attribute [local irreducible] secL
theorem has_un {c:Cl} {x:Int} (h:x≤c.un) (t:Int):hasC {c with un:=x} t= (hasC c t && decide (t≤x)):=by
 have e:betB c.fr x t= (betB c.fr c.un t && decide (t≤x)):=by
  rw [betB,betB]
  by_cases ht:t≤x
  ·rw [zzZ ht,zzZ (show t≤c.un by omega),Bool.and_true,Bool.and_true]
  ·rw [zzd ht,Bool.and_false,Bool.and_false]
 show (winB t && (mayC c && (betB c.fr x t && (ybn (t % 86400) (c.m 2) (c.m 1) (c.m 0) && (onB c.unit c.step c.anchor t && dayC c (t / 86400))))))= _
 rw [e,hasC]
 ac_rfl
theorem has_bet {c:Cl} {t:Int} (h:hasC c t=true):c.fr≤t∧t≤c.un:=by
 rw [hasC] at h
 simp only [zzX,betB,zzY] at h
 exact h.2.2.1
theorem lowF_has {r:Ru} (hc:yaf r=0) {t:Int} (h:hasC (lowF r) t=true):hasC (lowC r) t=true:=by
 rw [lowF] at h
 split at h
 ·rename_i hp
  rcases yia hc (by omega) with ⟨x,e,hx⟩ | e
  ·rw [e] at h
   rw [has_un (has_bet hx).2,zzX] at h
   exact h.1
  ·rw [e] at hp; exact absurd hp.2 (by decide)
 ·exact h
theorem yj1 {r:Ru} (hc:yaf r=0):yas [lowF r]=0:=by
 have h:mayL [lowF r]=true:=by simp [mayL,yi6 hc]
 rw [ycN,zzY] at h; exact h
theorem low_check {r:Ru} (h:lowE r=0):yaf r=0:=by
 by_cases e:yaf r=0
 ·exact e
 ·rw [lowE,if_neg e] at h; exact h
theorem ru0_low:lowE ru0=0:=by rw [lowE,if_pos yg6,if_neg (by decide)]
theorem ru0_life (t:Int):hasL [lowF ru0] t= ((winB t && decide (t % 86400=0)) && decide (t≤172800)):=by
 have e:lowF ru0= {lowC ru0 with un:=172800}:=by
  rw [lowF,if_pos ⟨by decide,by rw [show ru0.co=3 from rfl,ru0_nth]⟩,show ru0.co=3 from rfl,ru0_nth]
 have hm:mayL [lowF ru0]=true:=by simp [mayL,yi6 yg6]
 rw [hasL,hm,zzo,List.any_cons,List.any_nil,Bool.or_false,e,has_un (show (172800:Int)≤12622780799 by decide),ru0_has]
theorem on_trans {u s a x y:Int} (h1:onB u s a x=true) (h2:onB u s a y=true):onB u s x y=true:=by
 rw [onB,ybK] at h1 h2⊢
 simp only [zzX,zzY] at h1 h2⊢
 obtain ⟨a1,a2,a3,a4⟩:=h1
 obtain ⟨-,b2,-,b4⟩:=h2
 refine ⟨a2,b2,a3,?_⟩
 rw [show yaB u y - yaB u x= (yaB u y - yaB u a) - (yaB u x - yaB u a) by omega]
 exact Int.emod_eq_zero_of_dvd (Int.dvd_sub (Int.dvd_of_emod_eq_zero b4) (Int.dvd_of_emod_eq_zero a4))
theorem yfO {r:Ru} {t:Int} (h:ydk r t=true):r.st≤t∧(r.un= -1∨t≤r.un)∧onB r.fq r.iv r.st t=true:=by
 rw [ydk] at h
 simp only [zzX,Bool.or_eq_true,zzY] at h
 exact ⟨h.2.1.1,h.2.1.2,h.2.2.2.2⟩
theorem yjR {r:Ru} (hc:yaf r=0):(ycv [lowF r] (-1)= (0,15)∧ydd [lowF r] 12622780800= (0,15))∨
  ∃a b,ycv [lowF r] (-1)= (a,0)∧ydd [lowF r] 12622780800= (b,0)∧r.st≤a∧(r.un= -1∨b≤r.un)∧onB r.fq r.iv r.st a=true∧onB r.fq r.iv a b=true∧ydk r a=true:=by
 have hf:=yj1 hc
 have one:∀{t},ybc [lowF r] t=true→ydk r t=true:=fun {t} h=>by
  rw [←low_has hc]
  exact lowF_has hc (by simpa [ybc] using h)
 rcases yfM (t:=-1) hf with ⟨a,e1,g1,g2,g3⟩ | ⟨e1,g⟩
 ·rcases yfJ (t:=12622780800) hf with ⟨b,e2,f1,f2,f3⟩ | ⟨e2,f⟩
  ·have ha:=yfO (one g1)
   have hb:=yfO (one f1)
   exact .inr ⟨a,b,e1,e2,ha.1,hb.2.1,ha.2.2,on_trans ha.2.2 hb.2.2,one g1⟩
  ·have:=f a (ybx g1).2; rw [g1] at this; cases this
 ·rcases yfJ (t:=12622780800) hf with ⟨b,e2,f1,f2,f3⟩ | ⟨e2,f⟩
  ·have:=g b (by have:=(ybx f1).1; omega); rw [f1] at this; cases this
  ·exact .inl ⟨e1,e2⟩
end
section
open Go.RowKit Go.Maps
attribute [local irreducible] secL
theorem ru0_s (W:World):RuS W ru0:=⟨.inl rfl, .inl rfl, .inl rfl, .inl rfl, .inl rfl, .inl rfl⟩
theorem ru0_m:ru0.Sm 1000000:=⟨by simp [ru0],by simp [ru0],by simp [ru0],by simp [ru0],by simp [ru0],by simp [ru0]⟩
theorem ru0_n:ru0.Num:=⟨by show i64B 0; unfold i64B; omega,by show i64B 3; unfold i64B; omega,by show i64B 1; unfold i64B; omega,by show i64B 3; unfold i64B; omega,by show i64B (-1); unfold i64B; omega⟩
theorem ru0_v:ruv ru0= .agg #[.int .i64 0, .int .i64 3, .int .i64 1, .int .i64 3, .int .i64 (-1), .slice none 0 0, .slice none 0 0, .slice none 0 0, .slice none 0 0, .slice none 0 0, .slice none 0 0]:=rfl
theorem yiv (w:World) (hT:Tab w):Calls Tryz.prog 7 #[] w fun e w'=>e= .returned (.bool true)∧Below w.heap.size w w':=by
 have cL:=yfn ru0 w (ru0_s w) ru0_m ru0_n hT
 rw [ru0_v] at cL
 have CL:=hid cL
 have hok:∀c∈ [lowF ru0],c.Ok:=by simpa using lowF_ok ru0_n yg6
 have cH:Hid (∀(g:Nat) (w1:World),Sl w1 (some ⟨g,0,none⟩) (cls [lowF ru0])→∀t W,Below w1.heap.size w1 W→Calls Tryz.prog 20 #[.slice (some ⟨g,0,none⟩) 1 1, .int .i64 t] W fun e w'=>e= .returned (.bool ((winB t && decide (t % 86400=0)) && decide (t≤172800)))∧Below W.heap.size W w'):=
  fun g w1 hs t W hB=>by
   rw [←ru0_life]
   exact IHas_any (some ⟨g,0,none⟩) 1 [lowF ru0] t W (by simp) (hs.below hB) hok
 clear cL hok hT
 go_enter Tryz.func7,Tryz.ntmps7
 go_wp2_with fail
 refine CL.out.mono ?_
 rintro e w1 ⟨⟨h,-⟩ | ⟨-,g,rfl,hg,hs⟩,hB1⟩
 ·exact absurd ru0_low h
 have HB1:=hid hB1
 have K:=hid (cH.out g w1 hs)
 clear hB1 hs CL cH
 go_wp2_with fail
 refine (K.out _ _ (Below.refl _ _)).mono ?_
 rintro e w2 ⟨rfl,hB⟩
 have HB2:=hid hB
 rw [show ((winB 0 && decide ((0:Int) % 86400=0)) && decide ((0:Int)≤172800))=true by decide]
 clear hB
 go_wp2_with fail
 refine (K.out _ _ HB2.out).mono ?_
 rintro e w3 ⟨rfl,hB⟩
 have HB3:=hid (HB2.out.trans (hB.mono HB2.out.size))
 rw [show ((winB 172800 && decide ((172800:Int) % 86400=0)) && decide ((172800:Int)≤172800))=true by decide]
 clear hB
 go_wp2_with fail
 refine (K.out _ _ HB3.out).mono ?_
 rintro e w4 ⟨rfl,hB⟩
 have HB4:=hid (HB1.out.trans ((HB3.out.trans (hB.mono HB3.out.size)).mono HB1.out.size))
 rw [show ((winB 259200 && decide ((259200:Int) % 86400=0)) && decide ((259200:Int)≤172800))=false by decide]
 clear hB
 go_wp2
 go_ret
 exact ⟨rfl,HB4.out⟩
end
section
open Go.RowKit Go.Maps
attribute [local irreducible] secL
attribute [local go_sem ↓] ydL
theorem yiB (r:Ru) (t:Int) (w:World) (hr:RuS w r) (hm:r.Sm 1000000) (hst:winB r.st=true) (hn:r.Num):Calls Tryz.prog 14 #[ruv r, .int .i64 t] w fun e w'=>e= .returned (.bool (ydk r t))∧Below w.heap.size w w':=by
 have hB0:Below w.heap.size w (w.alloc (.cells (yai r).toArray 25)):=yaa (Below.refl _ _) (zG _)
 have hR0:=yaJ w r 25
 have s0:w.heap.size < (w.alloc (.cells (yai r).toArray 25)).heap.size:=by simp
 obtain ⟨W0,hW0⟩:∃W,w.alloc (.cells (yai r).toArray 25)=W:=⟨_,rfl⟩
 rw [hW0] at hB0 hR0 s0
 obtain ⟨b1,eb1⟩:∃b,w.heap.size=b:=⟨_,rfl⟩
 rw [eb1] at hR0 s0
 have HB0:=hid hB0
 have HR0:=hid hR0
 have S0:=hid s0
 have E1:=hid eb1
 have HW0:=hid hW0
 have Hr:=hid hr
 have cI:=hid (ydW t W0)
 have HM:Hid (ydk r t= (winB t && ((decide (r.st≤t) && (decide (r.un= -1) || decide (t≤r.un))) && (yfB r (shF (t / 86400)) && (yeN r (t % 86400) && onB r.fq r.iv r.st t))))):=rfl
 obtain ⟨R,hR⟩:∃R,ydk r t=R:=⟨_,rfl⟩
 rw [hR] at HM⊢
 clear hW0 hB0 hR0 s0 eb1 hr hR
 go_enter Tryz.func14,Tryz.ntmps14
 go_upto_region 1 with fail
 rw [HW0.out,E1.out]
 have k0:=HR0.out.at 0 (v:= .int .i64 r.st) rfl
 have k4:=HR0.out.at 4 (v:= .int .i64 r.un) rfl
 go_wp2_with fail
 refine cI.out.mono ?_
 rintro e w' ⟨rfl,rfl⟩
 clear cI
 rcases ya5 t with ⟨hw,t0,t1⟩ | ⟨hw,-⟩
 rotate_left
 ·rw [hw]
  have HX:Hid (R=false):=by show _ = _; rw [HM.out,hw]; rfl
  clear hw
  go_wp2
  go_ret
  exact ⟨by rw [HX.out] <;> rfl,HB0.out⟩
 rw [hw]
 have Hw:=hid hw
 clear hw
 by_cases h1:t < r.st
 ·have HX:Hid (R=false):=by show _ = _; rw [HM.out,Hw.out,zzd (show¬r.st≤t by omega)]; rfl
  go_wp2
  go_ret
  exact ⟨by rw [HX.out] <;> rfl,HB0.out⟩
 have HM2:Hid ((r.un= -1∨t≤r.un)→R= (yfB r (shF (t / 86400)) && (yeN r (t % 86400) && onB r.fq r.iv r.st t))):=fun h=>by
  rw [HM.out,Hw.out,zzZ (show r.st≤t by omega)]
  have e:(decide (r.un= -1) || decide (t≤r.un))=true:=by rw [Bool.or_eq_true,zzY,zzY]; exact h
  rw [e]; rfl
 have HM3:Hid (r.un≠-1→¬t≤r.un→R=false):=fun h h2=>by
  rw [HM.out,Hw.out,zzd h,zzd h2,Bool.false_or,Bool.and_false]; rfl
 have cO:=hid (ygL r.fq r.iv r.st t)
 have cO':=hid (fun W=>ygL r.fq r.iv r.st t W hn.iv)
 obtain ⟨D,hD⟩:∃D,t / 86400=D:=⟨_,rfl⟩
 obtain ⟨n,hn0⟩:∃n,t % 86400=n:=⟨_,rfl⟩
 have hDr:0≤D∧D < 146097:=by omega
 have hnr:0≤n∧n < 86400:=by omega
 have hbd:=shF_bd hDr.1 hDr.2
 have cS:=hid (fun W=>ykE D W hDr.1 hDr.2)
 have cD:=hid (fun W (hB:Below w.heap.size w W)=>yiA r (shF D) W (Hr.out.below hB) hm hst hbd.1)
 have cT:=hid (fun W (hB:Below w.heap.size w W)=>RTime_any r n W (Hr.out.below hB) hm hst hnr.1 hnr.2)
 rw [hD,hn0] at HM2
 rw [←yaT] at cS
 obtain ⟨sh,hsh⟩:∃s,shF D=s:=⟨_,rfl⟩
 rw [hsh] at cS cD HM2
 obtain ⟨dR,hdR⟩:∃b,yfB r sh=b:=⟨_,rfl⟩
 obtain ⟨tR,htR⟩:∃b,yeN r n=b:=⟨_,rfl⟩
 obtain ⟨oR,hoR⟩:∃b,onB r.fq r.iv r.st t=b:=⟨_,rfl⟩
 rw [hdR] at cD HM2
 rw [htR] at cT HM2
 rw [hoR] at cO' HM2
 have hq1:t.tdiv 86400=D:=by rw [Int.tdiv_eq_ediv_of_nonneg t0]; exact hD
 have hq2:IntKind.i64.wrap D=D:=IntWalk.i64_in _ (by omega)
 have hr1:t.tmod 86400=n:=by rw [Int.tmod_eq_emod_of_nonneg t0]; exact hn0
 have hr2:IntKind.i64.wrap n=n:=IntWalk.i64_in _ (by omega)
 have hC:Hid (∀W,Below W0.heap.size W0 W→Hid ((ydu (.pointer (some ⟨b1,0,none⟩))).run Tryz.prog W= .ok (ruv r) W∧W.cell? ⟨b1,0,none⟩=some (.int .i64 r.st)∧W.cell? ⟨b1,1,none⟩=some (.int .i64 r.fq)∧W.cell? ⟨b1,2,none⟩=some (.int .i64 r.iv))):=fun W hB=>
  have h:=HR0.out.below hB S0.out
  ⟨h.ldw,h.all.1.1,h.all.1.2.1,h.all.1.2.2.1⟩
 have HU:Hid (Below W0.heap.size W0 W0.drew):=(Below.refl _ _).drew
 clear cO hdR htR hoR hsh hbd hDr hnr HM
 have main:∀(hun:r.un= -1∨t≤r.un),R= (dR && (tR && oR)):=HM2.out
 have Main:=hid main
 clear main HM2
 by_cases hu:r.un= -1
 ·have hun:r.un= -1∨t≤r.un:= .inl hu
  have Hun:=hid hun
  rw [hu] at k4
  clear hu hun
  go_upto_region 3 with fail
  refine regF [] (S:=fun W=>Hid ((ydu (.pointer (some ⟨b1,0,none⟩))).run Tryz.prog W= .ok (ruv r) W∧W.cell? ⟨b1,0,none⟩=some (.int .i64 r.st)∧W.cell? ⟨b1,1,none⟩=some (.int .i64 r.fq)∧W.cell? ⟨b1,2,none⟩=some (.int .i64 r.iv))) (by kernel_rfl) (hC.out _ HU.out) (fun hHeld=>?_)
  refine zfA 0 ?_
  refine zfA 1 ?_
  refine zfA 2 ?_
  refine zzO 3 (fun K hK=>?_)
  go_simp
  refine (cS.out _).mono ?_
  rintro e wa ⟨rfl,hB⟩
  have HUwa:Hid (Below W0.heap.size W0 wa):=HU.out.trans (hB.mono HU.out.size)
  refine hK.out _ _ (fun _=>hC.out _ HUwa.out) ?_
  clear hK hB
  try simp only [rgPut]
  have hSwa:=hid (hC.out _ HUwa.out)
  refine zzO 4 (fun K hK=>?_)
  go_simp
  refine (cD.out _ (HB0.out.trans (HUwa.out.mono HB0.out.size))).mono ?_
  rintro e wb ⟨rfl,hB⟩
  have HUwb:Hid (Below W0.heap.size W0 wb):=HUwa.out.trans (hB.mono HUwa.out.size)
  refine hK.out _ _ (fun _=>hC.out _ HUwb.out) ?_
  clear hK hB
  try simp only [rgPut]
  have hSwb:=hid (hC.out _ HUwb.out)
  refine zfA 5 ?_
  cases dR
  ·have HX:Hid (R=false):=by show _ = _; rw [Main.out Hun.out]; rfl
   refine zfS 6 ?_
   refine zfS 7 ?_
   refine zfS 8 ?_
   refine zfS 9 ?_
   refine zfA 10 ?_
   refine zfA 11 ?_
   refine zfS 12 ?_
   refine zfS 13 ?_
   refine zfS 14 ?_
   refine zfS 15 ?_
   refine zfS 16 ?_
   refine zfS 17 ?_
   refine zfS 18 ?_
   refine zfS 19 ?_
   refine zfA 20 ?_
   refine zfA 21 ?_
   refine OrdF.done (by kernel_rfl) ?_ _
   have HBf:=hid (HB0.out.trans (HUwb.out.mono HB0.out.size))
   go_wp2
   go_ret
   exact ⟨by rw [HX.out] <;> rfl,HBf.out⟩
  refine zfA 6 ?_
  refine zfA 7 ?_
  refine zfA 8 ?_
  refine zzO 9 (fun K hK=>?_)
  go_simp
  refine (cT.out _ (HB0.out.trans (HUwb.out.mono HB0.out.size))).mono ?_
  rintro e wc ⟨rfl,hB⟩
  have HUwc:Hid (Below W0.heap.size W0 wc):=HUwb.out.trans (hB.mono HUwb.out.size)
  refine hK.out _ _ (fun _=>hC.out _ HUwc.out) ?_
  clear hK hB
  try simp only [rgPut]
  have hSwc:=hid (hC.out _ HUwc.out)
  refine zfA 10 ?_
  refine zfA 11 ?_
  cases tR
  ·have HX:Hid (R=false):=by show _ = _; rw [Main.out Hun.out]; rfl
   refine zfS 12 ?_
   refine zfS 13 ?_
   refine zfS 14 ?_
   refine zfS 15 ?_
   refine zfS 16 ?_
   refine zfS 17 ?_
   refine zfS 18 ?_
   refine zfS 19 ?_
   refine zfA 20 ?_
   refine zfA 21 ?_
   refine OrdF.done (by kernel_rfl) ?_ _
   have HBf:=hid (HB0.out.trans (HUwc.out.mono HB0.out.size))
   go_wp2
   go_ret
   exact ⟨by rw [HX.out] <;> rfl,HBf.out⟩
  have HX:Hid (R=oR):=by show _ = _; rw [Main.out Hun.out]; cases oR <;> rfl
  refine zfA 12 ?_
  refine zfA 13 ?_
  refine zfA 14 ?_
  refine zfA 15 ?_
  refine zfA 16 ?_
  refine zfA 17 ?_
  refine zfA 18 ?_
  refine zzO 19 (fun K hK=>?_)
  go_simp
  refine (cO'.out _).mono ?_
  rintro e w' ⟨rfl,rfl⟩
  refine hK.out _ _ (fun _=>hC.out _ HUwc.out) ?_
  clear hK
  try simp only [rgPut]
  refine zfA 20 ?_
  refine zfA 21 ?_
  refine OrdF.done (by kernel_rfl) ?_ _
  have HBf:=hid (HB0.out.trans (HUwc.out.mono HB0.out.size))
  go_wp2
  go_ret
  exact ⟨by rw [HX.out] <;> rfl,HBf.out⟩
 ·have q1:(r.un == -1)=false:=by simpa using hu
  by_cases h2:t≤r.un
  ·have hun:r.un= -1∨t≤r.un:= .inr h2
   have Hun:=hid hun
   have q2:¬r.un < t:=by omega
   clear hu hun
   go_upto_region 3 with fail
   refine regF [] (S:=fun W=>Hid ((ydu (.pointer (some ⟨b1,0,none⟩))).run Tryz.prog W= .ok (ruv r) W∧W.cell? ⟨b1,0,none⟩=some (.int .i64 r.st)∧W.cell? ⟨b1,1,none⟩=some (.int .i64 r.fq)∧W.cell? ⟨b1,2,none⟩=some (.int .i64 r.iv))) (by kernel_rfl) (hC.out _ HU.out) (fun hHeld=>?_)
   refine zfA 0 ?_
   refine zfA 1 ?_
   refine zfA 2 ?_
   refine zzO 3 (fun K hK=>?_)
   go_simp
   refine (cS.out _).mono ?_
   rintro e wa ⟨rfl,hB⟩
   have HUwa:Hid (Below W0.heap.size W0 wa):=HU.out.trans (hB.mono HU.out.size)
   refine hK.out _ _ (fun _=>hC.out _ HUwa.out) ?_
   clear hK hB
   try simp only [rgPut]
   have hSwa:=hid (hC.out _ HUwa.out)
   refine zzO 4 (fun K hK=>?_)
   go_simp
   refine (cD.out _ (HB0.out.trans (HUwa.out.mono HB0.out.size))).mono ?_
   rintro e wb ⟨rfl,hB⟩
   have HUwb:Hid (Below W0.heap.size W0 wb):=HUwa.out.trans (hB.mono HUwa.out.size)
   refine hK.out _ _ (fun _=>hC.out _ HUwb.out) ?_
   clear hK hB
   try simp only [rgPut]
   have hSwb:=hid (hC.out _ HUwb.out)
   refine zfA 5 ?_
   cases dR
   ·have HX:Hid (R=false):=by show _ = _; rw [Main.out Hun.out]; rfl
    refine zfS 6 ?_
    refine zfS 7 ?_
    refine zfS 8 ?_
    refine zfS 9 ?_
    refine zfA 10 ?_
    refine zfA 11 ?_
    refine zfS 12 ?_
    refine zfS 13 ?_
    refine zfS 14 ?_
    refine zfS 15 ?_
    refine zfS 16 ?_
    refine zfS 17 ?_
    refine zfS 18 ?_
    refine zfS 19 ?_
    refine zfA 20 ?_
    refine zfA 21 ?_
    refine OrdF.done (by kernel_rfl) ?_ _
    have HBf:=hid (HB0.out.trans (HUwb.out.mono HB0.out.size))
    go_wp2
    go_ret
    exact ⟨by rw [HX.out] <;> rfl,HBf.out⟩
   refine zfA 6 ?_
   refine zfA 7 ?_
   refine zfA 8 ?_
   refine zzO 9 (fun K hK=>?_)
   go_simp
   refine (cT.out _ (HB0.out.trans (HUwb.out.mono HB0.out.size))).mono ?_
   rintro e wc ⟨rfl,hB⟩
   have HUwc:Hid (Below W0.heap.size W0 wc):=HUwb.out.trans (hB.mono HUwb.out.size)
   refine hK.out _ _ (fun _=>hC.out _ HUwc.out) ?_
   clear hK hB
   try simp only [rgPut]
   have hSwc:=hid (hC.out _ HUwc.out)
   refine zfA 10 ?_
   refine zfA 11 ?_
   cases tR
   ·have HX:Hid (R=false):=by show _ = _; rw [Main.out Hun.out]; rfl
    refine zfS 12 ?_
    refine zfS 13 ?_
    refine zfS 14 ?_
    refine zfS 15 ?_
    refine zfS 16 ?_
    refine zfS 17 ?_
    refine zfS 18 ?_
    refine zfS 19 ?_
    refine zfA 20 ?_
    refine zfA 21 ?_
    refine OrdF.done (by kernel_rfl) ?_ _
    have HBf:=hid (HB0.out.trans (HUwc.out.mono HB0.out.size))
    go_wp2
    go_ret
    exact ⟨by rw [HX.out] <;> rfl,HBf.out⟩
   have HX:Hid (R=oR):=by show _ = _; rw [Main.out Hun.out]; cases oR <;> rfl
   refine zfA 12 ?_
   refine zfA 13 ?_
   refine zfA 14 ?_
   refine zfA 15 ?_
   refine zfA 16 ?_
   refine zfA 17 ?_
   refine zfA 18 ?_
   refine zzO 19 (fun K hK=>?_)
   go_simp
   refine (cO'.out _).mono ?_
   rintro e w' ⟨rfl,rfl⟩
   refine hK.out _ _ (fun _=>hC.out _ HUwc.out) ?_
   clear hK
   try simp only [rgPut]
   refine zfA 20 ?_
   refine zfA 21 ?_
   refine OrdF.done (by kernel_rfl) ?_ _
   have HBf:=hid (HB0.out.trans (HUwc.out.mono HB0.out.size))
   go_wp2
   go_ret
   exact ⟨by rw [HX.out] <;> rfl,HBf.out⟩
  ·have HX:Hid (R=false):=HM3.out hu h2
   have q2:r.un < t:=by omega
   have q1:(r.un == -1)=false:=by simpa using hu
   have q3:(r.un != -1)=true:=by simpa using hu
   have q4:(t < r.st)=False:=by simpa using h1
   clear h2
   go_wp2
   go_ret
   exact ⟨by rw [HX.out] <;> rfl,HB0.out⟩
end
section
open Go.RowKit Go.Maps
attribute [local irreducible] secL
attribute [local go_sem ↓] ydL
theorem ydV (r:Ru) (w:World) (hr:RuS w r) (hm:r.Sm 281474976710656) (hn:r.Num) (hT:Tab w):Calls Tryz.prog 4 #[ruv r] w fun e w'=>e= .returned (.bool true)∧Below w.heap.size w w':=by
 have hB0:Below w.heap.size w (w.alloc (.cells (yai r).toArray 25)):=yaa (Below.refl _ _) (zG _)
 have hR0:=yaJ w r 25
 have s0:w.heap.size < (w.alloc (.cells (yai r).toArray 25)).heap.size:=by simp
 obtain ⟨W0,hW0⟩:∃W,w.alloc (.cells (yai r).toArray 25)=W:=⟨_,rfl⟩
 rw [hW0] at hB0 hR0 s0
 obtain ⟨b1,eb1⟩:∃b,w.heap.size=b:=⟨_,rfl⟩
 rw [eb1] at hR0 s0
 have HC:Hid (∀W,Below W0.heap.size W0 W→Hid (RuB W b1 r)):=fun W hB=>hR0.below hB s0
 have HB:Hid (∀W,Below W0.heap.size W0 W→Below w.heap.size w W):=fun W hB=>hB0.trans (hB.mono hB0.size)
 have E1:=hid eb1
 have HW0:=hid hW0
 have cG:=hid (fun W=>yiu r W hm)
 have cL:=hid (fun W (hB:Below w.heap.size w W)=>yiv W (hT.later hB))
 clear hB0 hR0 s0 hW0 eb1
 by_cases hg:yfd r=true
 ·rw [hg] at cG
  clear hg hr hm hn hT
  go_enter Tryz.func4,Tryz.ntmps4
  go_upto_region 1 with fail
  rw [HW0.out,E1.out]
  have ld:=(HC.out _ (Below.refl _ _)).out.ldw
  go_wp2_with fail
  refine (cG.out _).mono ?_
  rintro e w1 ⟨rfl,hB⟩
  have HU1:=hid hB
  clear hB ld
  go_wp2_with fail
  refine (cL.out _ (HB.out _ HU1.out)).mono ?_
  rintro e w2 ⟨rfl,hB⟩
  have HF:=hid (HB.out _ (HU1.out.trans (hB.mono HU1.out.size)))
  clear hB
  go_wp2
  go_ret
  exact ⟨rfl,HF.out⟩
 have hg0:yfd r=false:=by simpa using hg
 rw [hg0] at cG
 have m0:=great_sm hg0
 have sm:r.Sm 1000000:=⟨by have:=m0.n5; omega,by have:=m0.n6; omega,by have:=m0.n7; omega,by have:=m0.n8; omega,by have:=m0.n9; omega,by have:=m0.nx; omega⟩
 have cF:=hid (fun W (hB:Below w.heap.size w W)=>yhJ r W (hr.below hB) sm)
 clear hg hg0 m0
 by_cases hE:lowE r=0
 rotate_left
 ·obtain ⟨c,hc⟩:∃c,lowE r=c:=⟨_,rfl⟩
  rw [hc] at hE cF
  have q1:(c == 0)=false:=by simpa using hE
  have q2:(c != 0)=true:=by simpa using hE
  clear hE hc hr hm hn hT sm
  go_enter Tryz.func4,Tryz.ntmps4
  go_upto_region 1 with fail
  rw [HW0.out,E1.out]
  have ld:=(HC.out _ (Below.refl _ _)).out.ldw
  go_wp2_with fail
  refine (cG.out _).mono ?_
  rintro e w1 ⟨rfl,hB⟩
  have HU1:=hid hB
  clear hB ld
  have ld:=(HC.out _ HU1.out).out.ldw
  go_wp2_with fail
  refine (cF.out _ (HB.out _ HU1.out)).mono ?_
  rintro e w2 ⟨rfl,hB⟩
  have HU2:=hid (HU1.out.trans (hB.mono HU1.out.size))
  clear hB ld
  go_wp2_with fail
  refine (cL.out _ (HB.out _ HU2.out)).mono ?_
  rintro e w3 ⟨rfl,hB⟩
  have HF:=hid (HB.out _ (HU2.out.trans (hB.mono HU2.out.size)))
  clear hB
  go_wp2
  go_ret
  exact ⟨rfl,HF.out⟩
 have hck:=low_check hE
 have hst:=(ybE (yaC hck).h).1
 have hok:∀c∈ [lowF r],c.Ok:=by simpa using lowF_ok hn hck
 have cW:Hid (∀W,Below w.heap.size w W→Calls Tryz.prog 10 #[ruv r] W fun e w'=>(∃g,e= .returned (.tuple #[.slice (some ⟨g,0,none⟩) 1 1, .int .i64 0])∧Sl w' (some ⟨g,0,none⟩) (cls [lowF r]))∧Below W.heap.size W w'):=fun W hB=>(yfn r W (hr.below hB) sm hn (hT.later hB)).mono fun e w' h=>⟨by
  rcases h.1 with ⟨h1,-⟩ | ⟨-,g,h1,-,h2⟩
  ·exact absurd hE h1
  ·exact ⟨g,h1,h2⟩,h.2⟩
 have cA:Hid (∀g W,Sl W (some ⟨g,0,none⟩) (cls [lowF r])→Below w.heap.size w W→Calls Tryz.prog 15 #[.slice (some ⟨g,0,none⟩) 1 1] W fun e w'=>e= .returned (.tuple #[.int .i64 (ycv [lowF r] (-1)).1, .int .i64 (ycv [lowF r] (-1)).2])∧Below W.heap.size W w'):=fun g W hs hB=>yir (some ⟨g,0,none⟩) 1 [lowF r] W (by simp) (by simp) hs (fun h=>by cases h) hok (hT.later hB)
 have cZ:Hid (∀g W,Sl W (some ⟨g,0,none⟩) (cls [lowF r])→Below w.heap.size w W→Calls Tryz.prog 16 #[.slice (some ⟨g,0,none⟩) 1 1] W fun e w'=>e= .returned (.tuple #[.int .i64 (ydd [lowF r] 12622780800).1, .int .i64 (ydd [lowF r] 12622780800).2])∧Below W.heap.size W w'):=fun g W hs hB=>yky (some ⟨g,0,none⟩) 1 [lowF r] W (by simp) (by simp) hs (fun h=>by cases h) hok (hT.later hB)
 rw [hE] at cF
 have hS:=yjR hck
 obtain ⟨l,hl⟩:∃l,cls [lowF r]=l:=⟨_,rfl⟩
 rw [hl] at cW cA cZ
 have hO:=hid (fun a t W=>ygL r.fq r.iv a t W hn.iv)
 have cM:=hid (fun t W (hB:Below w.heap.size w W)=>yiB r t W (hr.below hB) sm hst hn)
 obtain ⟨N,hN⟩:∃N,ycv [lowF r] (-1)=N:=⟨_,rfl⟩
 obtain ⟨P,hP⟩:∃P,ydd [lowF r] 12622780800=P:=⟨_,rfl⟩
 rw [hN] at cA
 rw [hP] at cZ
 rw [hN,hP] at hS
 clear hN hP hl hE hck hst hok hr hm hn hT sm
 have HS:=hid hS
 clear hS
 go_enter Tryz.func4,Tryz.ntmps4
 go_upto_region 1 with fail
 rw [HW0.out,E1.out]
 have ld:=(HC.out _ (Below.refl _ _)).out.ldw
 go_wp2_with fail
 refine (cG.out _).mono ?_
 rintro e w1 ⟨rfl,hB⟩
 have HU1:=hid hB
 clear hB ld
 have ld:=(HC.out _ HU1.out).out.ldw
 go_wp2_with fail
 refine (cF.out _ (HB.out _ HU1.out)).mono ?_
 rintro e w2 ⟨rfl,hB⟩
 have HU2:=hid (HU1.out.trans (hB.mono HU1.out.size))
 clear hB ld
 have ld:=(HC.out _ HU2.out).out.ldw
 go_wp2_with fail
 refine (cW.out _ (HB.out _ HU2.out)).mono ?_
 rintro e w3 ⟨⟨g,rfl,hs⟩,hB⟩
 have HU3:=hid (HU2.out.trans (hB.mono HU2.out.size))
 have Hs:=hid hs
 clear hB ld hs
 go_wp2_with fail
 refine (cA.out _ _ Hs.out (HB.out _ HU3.out)).mono ?_
 rintro e w4 ⟨rfl,hB⟩
 have HU4:=hid (HU3.out.trans (hB.mono HU3.out.size))
 have Hs4:=hid (Hs.out.below hB)
 clear hB
 go_wp2_with fail
 refine (cZ.out _ _ Hs4.out (HB.out _ HU4.out)).mono ?_
 rintro e w5 ⟨rfl,hB⟩
 have HU5:=hid (HU4.out.trans (hB.mono HU4.out.size))
 clear hB
 rcases HS.out with ⟨rfl,rfl⟩ | ⟨a,b,rfl,rfl,h1,h2,h3,h4,h5⟩
 ·clear HS
  go_wp2_with fail
  refine (cL.out _ (HB.out _ HU5.out)).mono ?_
  rintro e w6 ⟨rfl,hB⟩
  have HF:=hid (HB.out _ (HU5.out.trans (hB.mono HU5.out.size)))
  clear hB
  go_wp2
  go_ret
  exact ⟨rfl,HF.out⟩
 clear HS
 have hO1:=hid (hO.out r.st a)
 have hO2:=hid (hO.out a b)
 have cM1:=hid (cM.out a)
 rw [h3] at hO1
 rw [h4] at hO2
 rw [h5] at cM1
 clear h3 h4 h5 hO cM
 obtain ⟨⟨k0,k1,k2,k3,k4⟩,-⟩:=(HC.out _ HU5.out).out.all
 clear k3
 have HK:Hid (∀W,Below w5.heap.size w5 W→Hid ((ydu (.pointer (some ⟨b1,0,none⟩))).run Tryz.prog W= .ok (ruv r) W)):=fun W hB=>(HC.out _ (HU5.out.trans (hB.mono HU5.out.size))).out.ldw
 by_cases hun:r.un= -1
 ·rw [hun] at k4
  clear h2
  go_wp2_with fail
  refine (hO1.out _).mono ?_
  rintro e w6 ⟨rfl,rfl⟩
  go_wp2_with fail
  refine (hO2.out _).mono ?_
  rintro e w6 ⟨rfl,rfl⟩
  have ld:=(HC.out _ HU5.out).out.ldw
  go_wp2_with fail
  refine (cM1.out _ (HB.out _ HU5.out)).mono ?_
  rintro e w6 ⟨rfl,hB⟩
  have HU6:=hid (HU5.out.trans (hB.mono HU5.out.size))
  clear hB ld k0 k1 k2 k4
  go_wp2_with fail
  refine (cL.out _ (HB.out _ HU6.out)).mono ?_
  rintro e w7 ⟨rfl,hB⟩
  have HF:=hid (HB.out _ (HU6.out.trans (hB.mono HU6.out.size)))
  clear hB
  go_wp2
  go_ret
  exact ⟨rfl,HF.out⟩
 ·have h2':b≤r.un:=by rcases h2 with h | h; exact absurd h hun; exact h
  have q1:(r.un == -1)=false:=by simpa using hun
  clear hun h2
  go_wp2_with fail
  refine (hO1.out _).mono ?_
  rintro e w6 ⟨rfl,rfl⟩
  go_wp2_with fail
  refine (hO2.out _).mono ?_
  rintro e w6 ⟨rfl,rfl⟩
  have ld:=(HC.out _ HU5.out).out.ldw
  go_wp2_with fail
  refine (cM1.out _ (HB.out _ HU5.out)).mono ?_
  rintro e w6 ⟨rfl,hB⟩
  have HU6:=hid (HU5.out.trans (hB.mono HU5.out.size))
  clear hB ld k0 k1 k2 k4
  go_wp2_with fail
  refine (cL.out _ (HB.out _ HU6.out)).mono ?_
  rintro e w7 ⟨rfl,hB⟩
  have HF:=hid (HB.out _ (HU6.out.trans (hB.mono HU6.out.size)))
  clear hB
  go_wp2
  go_ret
  exact ⟨rfl,HF.out⟩
end
section
open Go.ChangeShapes Go.WideShapes Go.ChangeAt Go.RowKit
theorem yh2:ownKnob Tryz.prog.godebug=none:=by kernel_rfl
theorem laidOut:laidOutB Tryz.prog=true:=by kernel_rfl
theorem gTab:Tryz.prog.globalNamed "math/bits.deBruijn64tab" =some 0:=by kernel_rfl
theorem gTabType:(Tryz.prog.globals[0]?).map (·.type)=some 234:=by kernel_rfl
theorem cellsTab:Tryz.prog.cellsOf 234=64:=by kernel_rfl
theorem cellsU8:Tryz.prog.cellsOf 5=1:=by kernel_rfl
def tabInts:List Int:=Lib.deBruijn64tab.map fun (n:Nat)=>(n:Int)
theorem yhW:∀i,i < 64→tabInts.getD i 0= ((Lib.deBruijn64tab.getD i 0:Nat):Int):=by decide
theorem tab_of {W:World} (h:laidMetH Tryz.prog [("math/bits.deBruijn64tab",Rows.laid_math_bits_deBruijn64tab)] W):Tab W:=by
 have ht:Lib.TabIs Tryz.prog W "math/bits.deBruijn64tab" .u8 tabInts:=Lib.tabIs_of_head (rest:= []) gTab gTabType Tryz.underlying234 Tryz.underlying5 cellsU8 cellsTab h
 have hc:∀i,i < 64→W.cell? ⟨0,i,none⟩=some (.int .u8 (tabInts.getD i 0)):=fun i hi=>ht.cell gTab i hi
 exact ⟨Nat.lt_of_le_of_lt (Nat.zero_le _) (World.block_lt_of_cell? W _ (hc 0 (by omega))),fun i hi=>by rw [hc i hi,yhW i hi]⟩
noncomputable def ye3 (os:Os):World:=
 {World.holding Tryz.prog os ⟨#[],#[],[]⟩ with heap:=(World.holding Tryz.prog os ⟨#[],#[],[]⟩).heap.modify 0 fun
   | .cells _ t frozen=> .cells (tabInts.map (Value.int .u8)).toArray t frozen
   | o=>o}
end
end Go.Proofs.YtjahgimnfliooaaGreatDoor
