/-
  ferialaw35.lives answers true; the first and the last instant of a rule's set (plain).
  ferialaw35.Means: what a rule means, but for its count.
  feriaref35.or: the mask of a list, of one number, or a given one.
  Rows of numbers in a heap that grow: forty of them (those that are not used are empty).
-/
import Derived.Test.YtjahgimnfliooaaGreatDoorQf0eeb8
import Derived.Test.YtjahgimnfliooaaGreatDoorQ0c6bd3
import Derived.Test.YtjahgimnfliooaaGreatDoorQdc96ce
import Derived.Test.YtjahgimnfliooaaGreatDoorQ0deb77
import Derived.Test.YtjahgimnfliooaaGreatDoorQ76a5b0
import Derived.Test.YtjahgimnfliooaaGreatDoorQbd5244
import Derived.Test.YtjahgimnfliooaaGreatDoorQ903a1a
import Derived.Test.YtjahgimnfliooaaGreatDoorQ155bda
set_option maxRecDepth 100000
set_option maxHeartbeats 25600000
namespace Go.Proofs.YtjahgimnfliooaaGreatDoor
set_option linter.unusedVariables false
section
open Go.RowKit Go.Maps
attribute [local irreducible] secL
theorem ru0_s (W:World):RuS W ru0:=⟨.inl rfl, .inl rfl, .inl rfl, .inl rfl, .inl rfl, .inl rfl⟩
theorem ru0_m:ru0.Sm 1000000:=⟨by simp [ru0],by simp [ru0],by simp [ru0],by simp [ru0],by simp [ru0],by simp [ru0]⟩
theorem ru0_n:ru0.Num:=⟨by show i64B 0; unfold i64B; omega,by show i64B 3; unfold i64B; omega,by show i64B 1; unfold i64B; omega,by show i64B 3; unfold i64B; omega,by show i64B (-1); unfold i64B; omega⟩
theorem ru0_v:ruv ru0= .agg #[.int .i64 0, .int .i64 3, .int .i64 1, .int .i64 3, .int .i64 (-1), .slice none 0 0, .slice none 0 0, .slice none 0 0, .slice none 0 0, .slice none 0 0, .slice none 0 0]:=rfl
theorem yip (w:World) (hT:Tab w):Calls Tryz.prog 7 #[] w fun e w'=>e= .returned (.bool true)∧Below w.heap.size w w':=by
 have cL:=yfq ru0 w (ru0_s w) ru0_m ru0_n hT
 rw [ru0_v] at cL
 have CL:=hid cL
 have hok:∀c∈ [lowF ru0],c.Ok:=by simpa using lowF_ok ru0_n ygW
 have cH:Hid (∀(g:Nat) (w1:World),Sl w1 (some ⟨g,0,none⟩) (cls [lowF ru0])→∀t W,Below w1.heap.size w1 W→Calls Tryz.prog 20 #[.slice (some ⟨g,0,none⟩) 1 1, .int .i64 t] W fun e w'=>e= .returned (.bool ((winB t && decide (t % 86400=0)) && decide (t≤172800)))∧Below W.heap.size W w'):=
  fun g w1 hs t W hB=>by
   rw [←ru0_life]
   exact IHas_any (some ⟨g,0,none⟩) 1 [lowF ru0] t W (by simp) (hs.below hB) hok
 clear cL hok hT
 go_enter Tryz.func7,Tryz.ntmps7
 go_wp2_with fail
 refine CL.out.mono ?_
 rintro e w1 ⟨⟨h,-⟩ | ⟨-,g,rfl,hg,hs⟩,hB1⟩
 ·exact absurd ru0_low h
 have HB1:=hid hB1
 have K:=hid (cH.out g w1 hs)
 clear hB1 hs CL cH
 go_wp2_with fail
 refine (K.out _ _ (Below.refl _ _)).mono ?_
 rintro e w2 ⟨rfl,hB⟩
 have HB2:=hid hB
 rw [show ((winB 0 && decide ((0:Int) % 86400=0)) && decide ((0:Int)≤172800))=true by decide]
 clear hB
 go_wp2_with fail
 refine (K.out _ _ HB2.out).mono ?_
 rintro e w3 ⟨rfl,hB⟩
 have HB3:=hid (HB2.out.trans (hB.mono HB2.out.size))
 rw [show ((winB 172800 && decide ((172800:Int) % 86400=0)) && decide ((172800:Int)≤172800))=true by decide]
 clear hB
 go_wp2_with fail
 refine (K.out _ _ HB3.out).mono ?_
 rintro e w4 ⟨rfl,hB⟩
 have HB4:=hid (HB1.out.trans ((HB3.out.trans (hB.mono HB3.out.size)).mono HB1.out.size))
 rw [show ((winB 259200 && decide ((259200:Int) % 86400=0)) && decide ((259200:Int)≤172800))=false by decide]
 clear hB
 go_wp2
 go_ret
 exact ⟨rfl,HB4.out⟩
end
section
open Go.RowKit Go.Maps
attribute [local irreducible] secL
attribute [local go_sem ↓] ycK
theorem yiw (r:Ru) (t:Int) (w:World) (hr:RuS w r) (hm:r.Sm 1000000) (hst:winB r.st=true) (hn:r.Num):Calls Tryz.prog 14 #[ruv r, .int .i64 t] w fun e w'=>e= .returned (.bool (ye6 r t))∧Below w.heap.size w w':=by
 have hB0:Below w.heap.size w (w.alloc (.cells (yai r).toArray 25)):=yaa (Below.refl _ _) (zG _)
 have hR0:=yaJ w r 25
 have s0:w.heap.size < (w.alloc (.cells (yai r).toArray 25)).heap.size:=by simp
 obtain ⟨W0,hW0⟩:∃W,w.alloc (.cells (yai r).toArray 25)=W:=⟨_,rfl⟩
 rw [hW0] at hB0 hR0 s0
 obtain ⟨b1,eb1⟩:∃b,w.heap.size=b:=⟨_,rfl⟩
 rw [eb1] at hR0 s0
 have HB0:=hid hB0
 have HR0:=hid hR0
 have S0:=hid s0
 have E1:=hid eb1
 have HW0:=hid hW0
 have Hr:=hid hr
 have cI:=hid (ydS t W0)
 have HM:Hid (ye6 r t= (winB t && ((decide (r.st≤t) && (decide (r.un= -1) || decide (t≤r.un))) && (yfD r (shF (t / 86400)) && (yeP r (t % 86400) && onB r.fq r.iv r.st t))))):=rfl
 obtain ⟨R,hR⟩:∃R,ye6 r t=R:=⟨_,rfl⟩
 rw [hR] at HM⊢
 clear hW0 hB0 hR0 s0 eb1 hr hR
 go_enter Tryz.func14,Tryz.ntmps14
 go_upto_region 1 with fail
 rw [HW0.out,E1.out]
 have k0:=HR0.out.at 0 (v:= .int .i64 r.st) rfl
 have k4:=HR0.out.at 4 (v:= .int .i64 r.un) rfl
 go_wp2_with fail
 refine cI.out.mono ?_
 rintro e w' ⟨rfl,rfl⟩
 clear cI
 rcases ya4 t with ⟨hw,t0,t1⟩ | ⟨hw,-⟩
 rotate_left
 ·rw [hw]
  have HX:Hid (R=false):=by show _ = _; rw [HM.out,hw]; rfl
  clear hw
  go_wp2
  go_ret
  exact ⟨by rw [HX.out] <;> rfl,HB0.out⟩
 rw [hw]
 have Hw:=hid hw
 clear hw
 by_cases h1:t < r.st
 ·have HX:Hid (R=false):=by show _ = _; rw [HM.out,Hw.out,zzd (show¬r.st≤t by omega)]; rfl
  go_wp2
  go_ret
  exact ⟨by rw [HX.out] <;> rfl,HB0.out⟩
 have HM2:Hid ((r.un= -1∨t≤r.un)→R= (yfD r (shF (t / 86400)) && (yeP r (t % 86400) && onB r.fq r.iv r.st t))):=fun h=>by
  rw [HM.out,Hw.out,zzZ (show r.st≤t by omega)]
  have e:(decide (r.un= -1) || decide (t≤r.un))=true:=by rw [Bool.or_eq_true,zzY,zzY]; exact h
  rw [e]; rfl
 have HM3:Hid (r.un≠-1→¬t≤r.un→R=false):=fun h h2=>by
  rw [HM.out,Hw.out,zzd h,zzd h2,Bool.false_or,Bool.and_false]; rfl
 have cO:=hid (yjo r.fq r.iv r.st t)
 have cO':=hid (fun W=>yjo r.fq r.iv r.st t W hn.iv)
 obtain ⟨D,hD⟩:∃D,t / 86400=D:=⟨_,rfl⟩
 obtain ⟨n,hn0⟩:∃n,t % 86400=n:=⟨_,rfl⟩
 have hDr:0≤D∧D < 146097:=by omega
 have hnr:0≤n∧n < 86400:=by omega
 have hbd:=shF_bd hDr.1 hDr.2
 have cS:=hid (fun W=>yks D W hDr.1 hDr.2)
 have cD:=hid (fun W (hB:Below w.heap.size w W)=>yiu r (shF D) W (Hr.out.below hB) hm hst hbd.1)
 have cT:=hid (fun W (hB:Below w.heap.size w W)=>RTime_any r n W (Hr.out.below hB) hm hst hnr.1 hnr.2)
 rw [hD,hn0] at HM2
 rw [←ybg] at cS
 obtain ⟨sh,hsh⟩:∃s,shF D=s:=⟨_,rfl⟩
 rw [hsh] at cS cD HM2
 obtain ⟨dR,hdR⟩:∃b,yfD r sh=b:=⟨_,rfl⟩
 obtain ⟨tR,htR⟩:∃b,yeP r n=b:=⟨_,rfl⟩
 obtain ⟨oR,hoR⟩:∃b,onB r.fq r.iv r.st t=b:=⟨_,rfl⟩
 rw [hdR] at cD HM2
 rw [htR] at cT HM2
 rw [hoR] at cO' HM2
 have hq1:t.tdiv 86400=D:=by rw [Int.tdiv_eq_ediv_of_nonneg t0]; exact hD
 have hq2:IntKind.i64.wrap D=D:=IntWalk.i64_in _ (by omega)
 have hr1:t.tmod 86400=n:=by rw [Int.tmod_eq_emod_of_nonneg t0]; exact hn0
 have hr2:IntKind.i64.wrap n=n:=IntWalk.i64_in _ (by omega)
 have hC:Hid (∀W,Below W0.heap.size W0 W→Hid ((ycJ (.pointer (some ⟨b1,0,none⟩))).run Tryz.prog W= .ok (ruv r) W∧W.cell? ⟨b1,0,none⟩=some (.int .i64 r.st)∧W.cell? ⟨b1,1,none⟩=some (.int .i64 r.fq)∧W.cell? ⟨b1,2,none⟩=some (.int .i64 r.iv))):=fun W hB=>
  have h:=HR0.out.below hB S0.out
  ⟨h.ldw,h.all.1.1,h.all.1.2.1,h.all.1.2.2.1⟩
 have HU:Hid (Below W0.heap.size W0 W0.drew):=(Below.refl _ _).drew
 clear cO hdR htR hoR hsh hbd hDr hnr HM
 have main:∀(hun:r.un= -1∨t≤r.un),R= (dR && (tR && oR)):=HM2.out
 have Main:=hid main
 clear main HM2
 by_cases hu:r.un= -1
 ·have hun:r.un= -1∨t≤r.un:= .inl hu
  have Hun:=hid hun
  rw [hu] at k4
  clear hu hun
  go_upto_region 3 with fail
  refine regF [] (S:=fun W=>Hid ((ycJ (.pointer (some ⟨b1,0,none⟩))).run Tryz.prog W= .ok (ruv r) W∧W.cell? ⟨b1,0,none⟩=some (.int .i64 r.st)∧W.cell? ⟨b1,1,none⟩=some (.int .i64 r.fq)∧W.cell? ⟨b1,2,none⟩=some (.int .i64 r.iv))) (by kernel_rfl) (hC.out _ HU.out) (fun hHeld=>?_)
  refine zfA 0 ?_
  refine zfA 1 ?_
  refine zfA 2 ?_
  refine zzO 3 (fun K hK=>?_)
  go_simp
  refine (cS.out _).mono ?_
  rintro e wa ⟨rfl,hB⟩
  have HUwa:Hid (Below W0.heap.size W0 wa):=HU.out.trans (hB.mono HU.out.size)
  refine hK.out _ _ (fun _=>hC.out _ HUwa.out) ?_
  clear hK hB
  try simp only [rgPut]
  have hSwa:=hid (hC.out _ HUwa.out)
  refine zzO 4 (fun K hK=>?_)
  go_simp
  refine (cD.out _ (HB0.out.trans (HUwa.out.mono HB0.out.size))).mono ?_
  rintro e wb ⟨rfl,hB⟩
  have HUwb:Hid (Below W0.heap.size W0 wb):=HUwa.out.trans (hB.mono HUwa.out.size)
  refine hK.out _ _ (fun _=>hC.out _ HUwb.out) ?_
  clear hK hB
  try simp only [rgPut]
  have hSwb:=hid (hC.out _ HUwb.out)
  refine zfA 5 ?_
  cases dR
  ·have HX:Hid (R=false):=by show _ = _; rw [Main.out Hun.out]; rfl
   refine zfS 6 ?_
   refine zfS 7 ?_
   refine zfS 8 ?_
   refine zfS 9 ?_
   refine zfA 10 ?_
   refine zfA 11 ?_
   refine zfS 12 ?_
   refine zfS 13 ?_
   refine zfS 14 ?_
   refine zfS 15 ?_
   refine zfS 16 ?_
   refine zfS 17 ?_
   refine zfS 18 ?_
   refine zfS 19 ?_
   refine zfA 20 ?_
   refine zfA 21 ?_
   refine OrdF.done (by kernel_rfl) ?_ _
   have HBf:=hid (HB0.out.trans (HUwb.out.mono HB0.out.size))
   go_wp2
   go_ret
   exact ⟨by rw [HX.out] <;> rfl,HBf.out⟩
  refine zfA 6 ?_
  refine zfA 7 ?_
  refine zfA 8 ?_
  refine zzO 9 (fun K hK=>?_)
  go_simp
  refine (cT.out _ (HB0.out.trans (HUwb.out.mono HB0.out.size))).mono ?_
  rintro e wc ⟨rfl,hB⟩
  have HUwc:Hid (Below W0.heap.size W0 wc):=HUwb.out.trans (hB.mono HUwb.out.size)
  refine hK.out _ _ (fun _=>hC.out _ HUwc.out) ?_
  clear hK hB
  try simp only [rgPut]
  have hSwc:=hid (hC.out _ HUwc.out)
  refine zfA 10 ?_
  refine zfA 11 ?_
  cases tR
  ·have HX:Hid (R=false):=by show _ = _; rw [Main.out Hun.out]; rfl
   refine zfS 12 ?_
   refine zfS 13 ?_
   refine zfS 14 ?_
   refine zfS 15 ?_
   refine zfS 16 ?_
   refine zfS 17 ?_
   refine zfS 18 ?_
   refine zfS 19 ?_
   refine zfA 20 ?_
   refine zfA 21 ?_
   refine OrdF.done (by kernel_rfl) ?_ _
   have HBf:=hid (HB0.out.trans (HUwc.out.mono HB0.out.size))
   go_wp2
   go_ret
   exact ⟨by rw [HX.out] <;> rfl,HBf.out⟩
  have HX:Hid (R=oR):=by show _ = _; rw [Main.out Hun.out]; cases oR <;> rfl
  refine zfA 12 ?_
  refine zfA 13 ?_
  refine zfA 14 ?_
  refine zfA 15 ?_
  refine zfA 16 ?_
  refine zfA 17 ?_
  refine zfA 18 ?_
  refine zzO 19 (fun K hK=>?_)
  go_simp
  refine (cO'.out _).mono ?_
  rintro e w' ⟨rfl,rfl⟩
  refine hK.out _ _ (fun _=>hC.out _ HUwc.out) ?_
  clear hK
  try simp only [rgPut]
  refine zfA 20 ?_
  refine zfA 21 ?_
  refine OrdF.done (by kernel_rfl) ?_ _
  have HBf:=hid (HB0.out.trans (HUwc.out.mono HB0.out.size))
  go_wp2
  go_ret
  exact ⟨by rw [HX.out] <;> rfl,HBf.out⟩
 ·have q1:(r.un == -1)=false:=by simpa using hu
  by_cases h2:t≤r.un
  ·have hun:r.un= -1∨t≤r.un:= .inr h2
   have Hun:=hid hun
   have q2:¬r.un < t:=by omega
   clear hu hun
   go_upto_region 3 with fail
   refine regF [] (S:=fun W=>Hid ((ycJ (.pointer (some ⟨b1,0,none⟩))).run Tryz.prog W= .ok (ruv r) W∧W.cell? ⟨b1,0,none⟩=some (.int .i64 r.st)∧W.cell? ⟨b1,1,none⟩=some (.int .i64 r.fq)∧W.cell? ⟨b1,2,none⟩=some (.int .i64 r.iv))) (by kernel_rfl) (hC.out _ HU.out) (fun hHeld=>?_)
   refine zfA 0 ?_
   refine zfA 1 ?_
   refine zfA 2 ?_
   refine zzO 3 (fun K hK=>?_)
   go_simp
   refine (cS.out _).mono ?_
   rintro e wa ⟨rfl,hB⟩
   have HUwa:Hid (Below W0.heap.size W0 wa):=HU.out.trans (hB.mono HU.out.size)
   refine hK.out _ _ (fun _=>hC.out _ HUwa.out) ?_
   clear hK hB
   try simp only [rgPut]
   have hSwa:=hid (hC.out _ HUwa.out)
   refine zzO 4 (fun K hK=>?_)
   go_simp
   refine (cD.out _ (HB0.out.trans (HUwa.out.mono HB0.out.size))).mono ?_
   rintro e wb ⟨rfl,hB⟩
   have HUwb:Hid (Below W0.heap.size W0 wb):=HUwa.out.trans (hB.mono HUwa.out.size)
   refine hK.out _ _ (fun _=>hC.out _ HUwb.out) ?_
   clear hK hB
   try simp only [rgPut]
   have hSwb:=hid (hC.out _ HUwb.out)
   refine zfA 5 ?_
   cases dR
   ·have HX:Hid (R=false):=by show _ = _; rw [Main.out Hun.out]; rfl
    refine zfS 6 ?_
    refine zfS 7 ?_
    refine zfS 8 ?_
    refine zfS 9 ?_
    refine zfA 10 ?_
    refine zfA 11 ?_
    refine zfS 12 ?_
    refine zfS 13 ?_
    refine zfS 14 ?_
    refine zfS 15 ?_
    refine zfS 16 ?_
    refine zfS 17 ?_
    refine zfS 18 ?_
    refine zfS 19 ?_
    refine zfA 20 ?_
    refine zfA 21 ?_
    refine OrdF.done (by kernel_rfl) ?_ _
    have HBf:=hid (HB0.out.trans (HUwb.out.mono HB0.out.size))
    go_wp2
    go_ret
    exact ⟨by rw [HX.out] <;> rfl,HBf.out⟩
   refine zfA 6 ?_
   refine zfA 7 ?_
   refine zfA 8 ?_
   refine zzO 9 (fun K hK=>?_)
   go_simp
   refine (cT.out _ (HB0.out.trans (HUwb.out.mono HB0.out.size))).mono ?_
   rintro e wc ⟨rfl,hB⟩
   have HUwc:Hid (Below W0.heap.size W0 wc):=HUwb.out.trans (hB.mono HUwb.out.size)
   refine hK.out _ _ (fun _=>hC.out _ HUwc.out) ?_
   clear hK hB
   try simp only [rgPut]
   have hSwc:=hid (hC.out _ HUwc.out)
   refine zfA 10 ?_
   refine zfA 11 ?_
   cases tR
   ·have HX:Hid (R=false):=by show _ = _; rw [Main.out Hun.out]; rfl
    refine zfS 12 ?_
    refine zfS 13 ?_
    refine zfS 14 ?_
    refine zfS 15 ?_
    refine zfS 16 ?_
    refine zfS 17 ?_
    refine zfS 18 ?_
    refine zfS 19 ?_
    refine zfA 20 ?_
    refine zfA 21 ?_
    refine OrdF.done (by kernel_rfl) ?_ _
    have HBf:=hid (HB0.out.trans (HUwc.out.mono HB0.out.size))
    go_wp2
    go_ret
    exact ⟨by rw [HX.out] <;> rfl,HBf.out⟩
   have HX:Hid (R=oR):=by show _ = _; rw [Main.out Hun.out]; cases oR <;> rfl
   refine zfA 12 ?_
   refine zfA 13 ?_
   refine zfA 14 ?_
   refine zfA 15 ?_
   refine zfA 16 ?_
   refine zfA 17 ?_
   refine zfA 18 ?_
   refine zzO 19 (fun K hK=>?_)
   go_simp
   refine (cO'.out _).mono ?_
   rintro e w' ⟨rfl,rfl⟩
   refine hK.out _ _ (fun _=>hC.out _ HUwc.out) ?_
   clear hK
   try simp only [rgPut]
   refine zfA 20 ?_
   refine zfA 21 ?_
   refine OrdF.done (by kernel_rfl) ?_ _
   have HBf:=hid (HB0.out.trans (HUwc.out.mono HB0.out.size))
   go_wp2
   go_ret
   exact ⟨by rw [HX.out] <;> rfl,HBf.out⟩
  ·have HX:Hid (R=false):=HM3.out hu h2
   have q2:r.un < t:=by omega
   have q1:(r.un == -1)=false:=by simpa using hu
   have q3:(r.un != -1)=true:=by simpa using hu
   have q4:(t < r.st)=False:=by simpa using h1
   clear h2
   go_wp2
   go_ret
   exact ⟨by rw [HX.out] <;> rfl,HB0.out⟩
end
section
open Go.RowKit Go.Maps
attribute [local irreducible] secL
theorem yck (a:Option Addr) (cap:Nat) (l:List Int) (bare:Bool) (one:Int) (full:Nat) (w:World) (hl:l.length≤9223372036854775807) (hs:Sl w a (ints l)) :
  Calls Tryz.prog 31 #[.slice a l.length cap, .bool bare, .int .i64 one, .int .u64 (full:Nat)] w fun e w'=>e= .returned (.int .u64 (orM l bare one full:Nat))∧Below w.heap.size w w':=by
 have c1:=hid (ygC a cap l w hl hs)
 have c2:Hid (∀g W,Sl W (some ⟨g,0,none⟩) (ints [one])→Calls Tryz.prog 32 #[.slice (some ⟨g,0,none⟩) 1 1] W fun e w'=>e= .returned (.int .u64 (ofM [one]:Nat))∧Below W.heap.size W w'):=fun g W hs=>ygC (some ⟨g,0,none⟩) 1 [one] W (by simp) hs
 have HM:Hid (orM l bare one full=if 0 < l.length then ofM l else if bare=true then ofM [one] else full):=rfl
 obtain ⟨R,hR⟩:∃R,orM l bare one full=R:=⟨_,rfl⟩
 rw [hR] at HM⊢
 by_cases h0:0 < l.length
 ·have HX:Hid (R=ofM l):=by show _ = _; rw [HM.out,if_pos h0]
  have q:(0:Int) < (l.length:Int):=by omega
  clear hR HM hl hs h0
  go_enter Tryz.func31,Tryz.ntmps31
  go_wp2_with fail
  refine c1.out.mono ?_
  rintro e w1 ⟨rfl,hB⟩
  have HB:=hid hB
  clear hB
  go_wp2
  go_ret
  exact ⟨by rw [HX.out] <;> rfl,HB.out⟩
 have hn:l.length=0:=by omega
 rw [hn] at c1⊢
 cases bare with
 | true=>
   have HX:Hid (R=ofM [one]):=by show _ = _; rw [HM.out,if_neg h0,if_pos rfl]
   have HS:=hid (ybZ (yau w (ints [one]) 3) (by simp))
   have hb:=yaa (o:= .cells (ints [one]).toArray 3) (Below.refl w.heap.size w) (zG _)
   obtain ⟨w1,hw1⟩:∃W,w.alloc (.cells (ints [one]).toArray 3)=W:=⟨_,rfl⟩
   rw [hw1] at HS hb
   have HB1:=hid hb
   have HW1:Hid (w.alloc (.cells #[.int .i64 one] 3)=w1):=hw1
   clear hR HM hl hs h0 hn hb hw1 c1
   go_enter Tryz.func31,Tryz.ntmps31
   go_wp2_with (rw [HW1.out])
   refine (c2.out _ _ HS.out).mono ?_
   rintro e w2 ⟨rfl,hB⟩
   have HB:=hid (HB1.out.trans (hB.mono HB1.out.size))
   clear hB
   go_wp2
   go_ret
   exact ⟨by rw [HX.out] <;> rfl,HB.out⟩
 | false=>
   have HX:Hid (R=full):=by show _ = _; rw [HM.out,if_neg h0,if_neg (by decide)]
   have HB:=hid (Below.refl w.heap.size w)
   clear hR HM hl hs h0 hn c1
   go_enter Tryz.func31,Tryz.ntmps31
   go_wp2
   go_ret
   exact ⟨by rw [HX.out] <;> rfl,HB.out⟩
end
section
open Go.RowKit Go.Maps
def updV {α:Type} (V:Nat→α) (i:Nat) (v:α):Nat→α:=fun j=>if j=i then v else V j
theorem ya5 {α:Type} (V:Nat→α) (i:Nat) (v:α):updV V i v i=v:=if_pos rfl
theorem ybu {α:Type} (V:Nat→α) {i j:Nat} (v:α) (h:j≠i):updV V i v j=V j:=if_neg h
structure RwS (B:Nat) (V:Nat→Value) (L:Nat→List Int) (W:World):Prop where
 own:∀i,i < 40→W.ownsRow B 3 1 (V i) (L i).length (ints (L i))
 ne:∀i j,i < 40→j < 40→i≠j→∀k,(V i).ownBlock=some k→(V j).ownBlock≠some k
 b:B≤W.heap.size
structure GrS (O:Nat→Prop) (V:Nat→Value) (W:World) (V':Nat→Value) (W':World):Prop where
 size:W.heap.size≤W'.heap.size
 keep:∀b,b < W.heap.size→¬O b→(∀i,i < 40→(V i).ownBlock≠some b)→W'.heap[b]? =W.heap[b]?
 row:∀i,i < 40→∀k,(V' i).ownBlock=some k→(∃j,j < 40∧(V j).ownBlock=some k)∨W.heap.size≤k
section
variable {B:Nat} {V V' V'':Nat→Value} {L:Nat→List Int} {W W' W'':World} {O:Nat→Prop}
theorem GrS.refl (O:Nat→Prop) (V:Nat→Value) (W:World):GrS O V W V W:=⟨zG _,fun _ _ _ _=>rfl,fun i hi k hk=> .inl ⟨i,hi,hk⟩⟩
theorem GrS.trans (h:GrS O V W V' W') (k:GrS O V' W' V'' W''):GrS O V W V'' W'':=by
 refine ⟨zI h.size k.size,fun b hb hO hV=>?_,fun i hi j hj=>?_⟩
 ·refine (k.keep b (zH hb h.size) hO fun i hi e=>?_).trans (h.keep b hb hO hV)
  rcases h.row i hi b e with ⟨j,hj,e⟩ | e
  ·exact hV j hj e
  ·omega
 ·rcases k.row i hi j hj with ⟨m,hm,e⟩ | e
  ·exact h.row m hm j e
  ·have:=h.size; exact .inr (by omega)
theorem RwS.call (h:RwS B V L W) (hB:Below W.heap.size W W'):RwS B V L W':=⟨fun i hi=>yjN (h.own i hi) hB (zG _),h.ne,zI h.b hB.size⟩
theorem RwS.eff (h:RwS B V L W) (hE:Eff O W W') (hO:∀b,O b→b < B):RwS B V L W':=by
 refine ⟨fun i hi=>yaI (h.own i hi) fun b hb=>?_,h.ne,zI h.b hE.size⟩
 have hl:=yaX (h.own i hi) hb
 exact hE.block b hl.2 fun e=>by have:=hO b e; omega
theorem RwS.as {L':Nat→List Int} (h:RwS B V L W) (e:∀i,i < 40→L' i=L i):RwS B V L' W:=⟨fun i hi=>by rw [e i hi]; exact h.own i hi,h.ne,h.b⟩
theorem RwS.off (h:RwS B V L W) {b:Nat} (hb:W.heap.size≤b):∀i,i < 40→(V i).ownBlock≠some b:=fun i hi e=>by
 have:=yaX (h.own i hi) e; omega
theorem RwS.app (h:RwS B V L W) {i:Nat} (hi:i < 40) {v:Value} {n:Nat} {news:List Int} (hn:n= (L i).length+news.length) (ho:W'.ownsRow B 3 1 v n (ints (L i) ++ ints news)) (hg:W.grownBy W' (V i).ownBlock)
  (hf:∀k,v.ownBlock=some k→(V i).ownBlock=some k∨W.heap.size≤k):RwS B (updV V i v) (updV L i (L i ++ news)) W'∧GrS O V W (updV V i v) W':=by
 refine ⟨⟨fun j hj=>?_,fun j m hj hm hne k hk=>?_,zI h.b hg.size⟩,hg.size,fun b hb _ hV=>hg.block b hb fun e=>hV i hi e.symm,fun j hj k hk=>?_⟩
 ·by_cases e:j=i
  ·subst e
   rw [ya5,ya5,List.length_append,←hn,ydq]; exact ho
  ·rw [ybu _ _ e,ybu _ _ e]
   refine (h.own j hj).kept hg ?_
   cases hv:(V j).ownBlock with
   | none=>exact .inl rfl
   | some k=>exact .inr fun e2=>h.ne j i hj hi e k hv e2.symm
 ·by_cases e:j=i
  ·subst e
   rw [ya5] at hk
   rw [ybu _ _ (Ne.symm hne)]
   rcases hf k hk with h1 | h1
   ·exact h.ne j m hj hm hne k h1
   ·exact h.off h1 m hm
  ·rw [ybu _ _ e] at hk
   by_cases e2:m=i
   ·subst e2
    rw [ya5]
    intro e3
    rcases hf k e3 with h1 | h1
    ·exact h.ne j m hj hm hne k hk h1
    ·exact h.off h1 j hj hk
   ·rw [ybu _ _ e2]; exact h.ne j m hj hm hne k hk
 ·by_cases e:j=i
  ·subst e
   rw [ya5] at hk
   rcases hf k hk with h1 | h1
   ·exact .inl ⟨j,hj,h1⟩
   ·exact .inr h1
  ·rw [ybu _ _ e] at hk
   exact .inl ⟨j,hj,hk⟩
end
end
end Go.Proofs.YtjahgimnfliooaaGreatDoor
