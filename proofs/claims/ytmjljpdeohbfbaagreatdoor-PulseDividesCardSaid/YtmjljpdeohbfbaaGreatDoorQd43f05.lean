/-
  ferialaw17.Has: the document's answer for sets.
  ferialaw23.PulseDivides answers true for every clauses, two instants, unit and step.
  The table of math/bits that this seat's rows list: what a row's premise gives of it, and a world that holds it.
  feriaref01: Size, both, Gcd.
  The least second that two rising lists tell of (plain).
  ferialaw23.PulseSeconds answers true for every list of seconds.
-/
import Derived.Test.YtmjljpdeohbfbaaGreatDoorQc78c00
import Derived.Test.YtmjljpdeohbfbaaGreatDoorQ2102cd
import Derived.Test.YtmjljpdeohbfbaaGreatDoorQb5971e
import Derived.BigQuiet
import Derived.BigRegion
import Derived.Test.YtmjljpdeohbfbaaGreatDoorCards
import Derived.Test.YtmjljpdeohbfbaaGreatDoorTie
import Derived.Test.YtmjljpdeohbfbaaGreatDoorQf391ed
import Derived.Test.YtmjljpdeohbfbaaGreatDoorQ14240f
import Derived.Deep.DeepHandedRow
import Derived.Lib.LaidTab
import Derived.Deep.CutRange
import Derived.Test.YtmjljpdeohbfbaaGreatDoorQ0be6ef
import Derived.Test.YtmjljpdeohbfbaaGreatDoorQc1eb98
import Derived.Test.YtmjljpdeohbfbaaGreatDoorQ24c4d6
import Derived.Deep.RegionHeld3
namespace Go.Proofs.YtmjljpdeohbfbaaGreatDoor
set_option linter.unusedVariables false
section
open Go.RowKit
attribute [local go_sem ↓] loadAt_cl
set_option maxRecDepth 100000 in
set_option maxHeartbeats 3200000 in
theorem RHas17_any (a:Option Addr) (cap:Nat) (l:List Cl) (t:Int) (w:World) (hl:l.length≤1000) (hs:Sl w a (cls l)) (hok:∀c∈l,c.Ok) :
  Calls Tryz.prog 38 #[.slice a l.length cap, .int .i64 t] w fun e w'=>e= .returned (.bool (hasL l t))∧Below w.heap.size w w':=by
 have cM:=hid (fun W (h:Sl W a (cls l))=>RMay17_any a cap l W hl h hok)
 have Hs:=hid hs
 have Hok:=hid hok
 have hhas:hasL l t= (mayL l && l.any (fun c=>hasC c t)):=rfl
 rw [hhas]
 obtain ⟨m,hm⟩:∃m,mayL l=m:=⟨_,rfl⟩
 rw [hm] at cM⊢
 clear hs hok hm hhas
 go_enter Tryz.func38,Tryz.ntmps38
 go_wp2_with fail
 go_loopw [5,6] (fun v i wr=>∃k:Nat,i= .int .i64 k∧k≤l.length∧v= .bool ((l.take k).any (fun c=>hasC c t))∧Hid (m=false→k=0)∧Hid (Below w.heap.size w wr)) (fun _ i _=>l.length - (intOf i).toNat)
 case atStart=>exact ⟨0,rfl,by omega,rfl,fun _=>rfl,Below.refl _ _⟩
 case round=>
  obtain ⟨k,rfl,hk,rfl,hm0,HB⟩:=hrel
  obtain ⟨v,hv⟩:∃v,(l.take k).any (fun c=>hasC c t)=v:=⟨_,rfl⟩
  have Hv:=hid hv
  rw [hv]
  by_cases hlt:k < l.length
  ·have hltI:(k:Int) < l.length:=by omega
   have cM1:=hid (cM.out wr (Hs.out.below HB.out))
   cases m
   ·have hz:Hid (k=0):=hm0.out rfl
    have hvf:v=false:=by rw [←hv,hz.out]; rfl
    clear hv
    go_wp2_with fail
    refine cM1.out.mono ?_
    rintro e w1 ⟨rfl,hB1⟩
    have HB1:=hid (HB.out.trans (hB1.mono HB.out.size))
    have Hvf:=hid hvf
    clear hB1 hvf
    go_wp2
    go_ret
    exact ⟨ret_bool rfl,HB1.out⟩
   ·obtain ⟨b,off,rfl,hbk,hr⟩:=Hs.out.atCl hlt
    have hr':=range_below hr HB.out hbk
    have hbw:b < wr.heap.size:=zH hbk HB.out.size
    have hcOk:=hid (Hok.out _ (List.getElem_mem hlt))
    have ts:=hid (take_snoc l k hlt)
    obtain ⟨c,hc⟩:∃c,l[k]=c:=⟨_,rfl⟩
    rw [hc] at hr' hcOk ts
    have cH:=hid (fun W=>RHas13_any c t W hcOk.out)
    obtain ⟨x,hx⟩:∃x,hasC c t=x:=⟨_,rfl⟩
    rw [hx] at cH
    have hnx:Hid ((l.take (k+1)).any (fun c=>hasC c t)= (v || x)):=by show _ = _; rw [ts.out,List.any_append,Hv.out,List.any_cons,hx]; simp
    clear hr hc hx hv
    have Hr':=hid hr'
    go_wp2_with fail
    refine cM1.out.mono ?_
    rintro e w1 ⟨rfl,hB1⟩
    have HB1:=hid (HB.out.trans (hB1.mono HB.out.size))
    have le:=ld_at (range_below Hr'.out hB1 hbw)
    clear hB1 hr'
    cases v
    ·go_wp2_with fail
     refine (cH.out _).mono ?_
     rintro e w2 ⟨rfl,hB2⟩
     have HB2:=hid (HB1.out.trans (hB2.mono HB1.out.size))
     clear hB2 le
     go_wp2
     exact ⟨⟨k+1,by go_num,by omega,by rw [hnx.out,Bool.false_or],hid (fun h=>(by cases h)),HB2⟩,by simp [intOf]; omega⟩
    ·go_wp2
     exact ⟨⟨k+1,by go_num,by omega,by rw [hnx.out,Bool.true_or],hid (fun h=>(by cases h)),HB1⟩,by simp [intOf]; omega⟩
  ·have hltI:¬(k:Int) < l.length:=by omega
   have hres:Hid (v= (m && l.any (fun c=>hasC c t))):=by
    show _ = _
    rw [←hv,List.take_of_length_le (by omega)]
    cases m
    ·have h0:=hm0.out rfl
     have hn:l= []:=List.eq_nil_of_length_eq_zero (by omega)
     rw [hn]; rfl
    ·rw [Bool.true_and]
   clear hv
   go_wp2
   go_ret
   exact ⟨ret_bool hres.out,HB.out⟩
end
section
open Go.RowKit Go.Maps
attribute [local irreducible] secL
attribute [local go_sem ↓] loadAt_7i storeAt_7i
theorem unT_wh {u:Nat} (hu:u < 7) (s t:Int):whU (u:Int) t - whU (u:Int) s=unT u t - unT u s:=by
 have h7:u=0∨u=1∨u=2∨u=3∨u=4∨u=5∨u=6:=by omega
 have key:∀t:Int,86400 * (t / 86400)+(((t % 86400).toNat:Nat):Int)=t:=fun t=>by omega
 rcases h7 with rfl | rfl | rfl | rfl | rfl | rfl | rfl
 ·show t - s= (86400 * (t / 86400)+(((t % 86400).toNat:Nat):Int)) / 1 - (86400 * (s / 86400)+(((s % 86400).toNat:Nat):Int)) / 1; rw [key,key]; omega
 ·show t / 60 - s / 60= (86400 * (t / 86400)+(((t % 86400).toNat:Nat):Int)) / 60 - (86400 * (s / 86400)+(((s % 86400).toNat:Nat):Int)) / 60; rw [key,key]
 ·show t / 3600 - s / 3600= (86400 * (t / 86400)+(((t % 86400).toNat:Nat):Int)) / 3600 - (86400 * (s / 86400)+(((s % 86400).toNat:Nat):Int)) / 3600; rw [key,key]
 ·rfl
 ·rfl
 ·show 12 * fY (t / 86400)+fMo (t / 86400) - 1 - (12 * fY (s / 86400)+fMo (s / 86400) - 1)=12 * fY (t / 86400)+fMo (t / 86400) - (12 * fY (s / 86400)+fMo (s / 86400)); omega
 ·rfl
theorem fault_no {l:List Cl} (h8:l.length≤8) (hm:mayL l=false):faultL l=1:=by
 rw [faultL,if_neg (by omega),if_neg]
 intro h
 rw [mayL,h,decide_eq_true h8] at hm
 cases hm
theorem fault_may' {l:List Cl} (h:mayL l=true):faultL l=0:=by rw [may_fault,decide_eq_true_eq] at h; exact h
theorem pulse_dvd {l:List Cl} {u:Nat} (hu:u < 7) {y:Bool} {f g s t:Int} (h:BeatP (PuU l u) y f g) (hs:instB l s=true) (ht:instB l t=true):g ∣ whU (u:Int) t - whU (u:Int) s:=by
 rw [unT_wh hu]
 exact (h.dvd g).1 (Int.dvd_refl g) _ _ ⟨t,ht,rfl⟩ ⟨s,hs,rfl⟩
theorem on_dvd {u:Nat} (hu:u < 7) {step s t:Int} (h1:1≤step) (hs:winB s=true) (ht:winB t=true) (h:step ∣ whU (u:Int) t - whU (u:Int) s):onB (u:Int) step s t=true:=by
 have hu2:unB (u:Int)=true:=by rw [unB,decide_eq_true_eq]; omega
 rw [onB,(which_yes hu2 hs).1,(which_yes hu2 ht).1,(which_yes hu2 hs).2,(which_yes hu2 ht).2,stepB,decide_eq_true h1,Bool.true_and,Bool.true_and,Bool.true_and,decide_eq_true_eq]
 exact Int.emod_eq_zero_of_dvd h
structure Two64 (W:World) (b:Nat) (x y:Int):Prop where
 c0:W.cell? ⟨b,0,none⟩=some (.int .i64 x)
 c1:W.cell? ⟨b,1,none⟩=some (.int .i64 y)
 lt:b < W.heap.size
theorem Two64.below {W W':World} {b:Nat} {x y:Int} (h:Two64 W b x y) (hB:Below W.heap.size W W'):Two64 W' b x y:=
 ⟨(hB.cell (p:=⟨b,0,none⟩) h.lt).trans h.c0,(hB.cell (p:=⟨b,1,none⟩) h.lt).trans h.c1,zH h.lt hB.size⟩
set_option maxRecDepth 100000 in
set_option maxHeartbeats 12800000 in
theorem PulseDivides_walk (a:Option Addr) (cap:Nat) (l:List Cl) (x y u step:Int) (w:World) (hl:l.length≤9223372036854775807) (hlc:l.length≤cap) (hs:Sl w a (cls l)) (hno:a=none→cap=0) (hok:∀c∈l,c.Ok)
  (hx:-9223372036854775808≤x∧x≤9223372036854775807) (hy:-9223372036854775808≤y∧y≤9223372036854775807) (hu:-9223372036854775808≤u∧u≤9223372036854775807) (hst:-9223372036854775808≤step∧step≤9223372036854775807) (hT:Tab w) :
  Calls Tryz.prog 9 #[.slice a l.length cap, .agg #[.int .i64 x, .int .i64 y], .agg #[.int .i64 u, .int .i64 step]] w fun e w'=>e= .returned (.bool true)∧Below w.heap.size w w':=by
 obtain ⟨w1,hw1⟩:∃w1,(w.alloc (.cells #[.int .i64 x, .int .i64 y] 66)).alloc (.cells #[.int .i64 u, .int .i64 step] 68)=w1:=⟨_,rfl⟩
 have hB1:Below w.heap.size w w1:=by rw [←hw1]; exact below_new (below_new (Below.refl _ _) (zG _)) (by simp)
 have hX1:Two64 w1 w.heap.size x y:=by rw [←hw1]; exact ⟨by simp [go_sem],by simp [go_sem],by simp; omega⟩
 have hU1:Two64 w1 (w.heap.size+1) u step:=by rw [←hw1]; exact ⟨by simp [go_sem],by simp [go_sem],by simp⟩
 have cL:=hid (fun W (hB:Below w.heap.size w W)=>Lives23_any W (hT.later hB))
 have cP:=hid (fun W (hB:Below w.heap.size w W)=>POf_any a cap l W hl hlc (hs.below hB) hno hok (hT.later hB))
 have cFt:=hid (fun W (hB:Below w.heap.size w W)=>PFits_any a cap l u step W hl hlc (hs.below hB) hno hok (hT.later hB) hu.1 hu.2 hst.1 hst.2)
 have cFi:=hid (fun W (hB:Below w.heap.size w W)=>SkFirst_any a cap l W hl hlc (hs.below hB) hno hok (hT.later hB))
 have cM:=hid (fun (h:l.length≤1000) W (hB:Below w.heap.size w W)=>RMay17_any a cap l W h (hs.below hB) hok)
 have cH:=hid (fun (h:l.length≤1000) (t:Int) W (hB:Below w.heap.size w W)=>RHas17_any a cap l t W h (hs.below hB) hok)
 have cU:=hid (fun W=>RUMay_any u W)
 have cI:=hid (fun t W=>RMIn_any t W)
 have cOn:=hid (fun s t W=>RUOn_any u step s t W hst)
 have HB1:=hid hB1
 have K1:=hid hX1
 have Hw1:=hid hw1
 have Hst:=hid hst
 obtain ⟨s0,s1,-⟩:=hU1
 clear hs hno hok hT hB1 hX1 hw1 hx hy hu hst
 by_cases h8:8 < l.length
 ·clear cP cFt cFi cM cH cU cI cOn
  go_enter Tryz.func9,Tryz.ntmps9
  go_upto_region 1 with fail
  rw [Hw1.out]
  go_quiet (fail)
  go_wp2_with fail
  refine (cL.out _ (below_drewN HB1.out _)).mono ?_
  rintro e w2 ⟨rfl,hB⟩
  have HB2:=hid ((below_drewN HB1.out _).trans (hB.mono (below_drewN HB1.out _).size))
  clear hB
  go_wp2
  go_ret
  exact ⟨rfl,HB2.out⟩
 have hl1:l.length≤1000:=by omega
 have hl8:l.length≤8:=by omega
 have CM:=hid (fun W hB=>cM.out hl1 W hB)
 have CH:=hid (fun t W hB=>cH.out hl1 t W hB)
 clear cM cH
 go_enter Tryz.func9,Tryz.ntmps9
 go_upto_region 1 with fail
 rw [Hw1.out]
 go_quiet (fail)
 clear s0 s1
 go_wp2_with fail
 refine (cP.out _ (below_drewN HB1.out _)).mono ?_
 rintro e w2 ⟨⟨g,rfl,hg0,hg⟩,hB⟩
 have HB2:=hid ((below_drewN HB1.out _).trans (hB.mono (below_drewN HB1.out _).size))
 have K2:=hid (K1.out.below ((below_drewN (Below.refl _ _) _).trans hB))
 have e8:Ar7 w2.heap.size (fun _=>0) (w2.alloc (.cells #[.int .i64 0, .int .i64 0, .int .i64 0, .int .i64 0, .int .i64 0, .int .i64 0, .int .i64 0] 50)):=ar7_new w2 50
 have hst8:=e8.st g
 have H8:=e8.put g
 have HB8:Hid (Below w2.heap.size w2 ((w2.alloc (.cells #[.int .i64 0, .int .i64 0, .int .i64 0, .int .i64 0, .int .i64 0, .int .i64 0, .int .i64 0] 50)).setCells w2.heap.size 0 (L7 g))):=(below_new (Below.refl _ _) (zG _)).trans ((Eff.setCells (O:=fun x=>x=w2.heap.size) rfl (L7 g) 0 _ (Eff.refl _ _)).below (by rintro b rfl; exact zG _) (by simp))
 obtain ⟨w3,hw3⟩:∃w3,(w2.alloc (.cells #[.int .i64 0, .int .i64 0, .int .i64 0, .int .i64 0, .int .i64 0, .int .i64 0, .int .i64 0] 50)).setCells w2.heap.size 0 (L7 g)=w3:=⟨_,rfl⟩
 rw [hw3] at H8 HB8 hst8
 have HB3:=hid (HB2.out.trans (HB8.out.mono HB2.out.size))
 have K_3:=hid (K2.out.below HB8.out)
 have A_3:=hid H8
 have Hg:=hid (And.intro hg0 hg)
 clear hB e8 hw3 H8 cP hg0 hg
 cases hm:mayL l
 ·have hf:=fault_no hl8 hm
  rw [hm] at CM
  rw [hf]
  clear hm
  have q:=hid ((cFt.out w3 HB3.out).mono fun e w' h=>(show e= .returned (.tuple #[.bool false, .int .i64 1])∧Below w3.heap.size w3 w' from ⟨(by
   rcases h.1 with ⟨_,h⟩ | ⟨h,_⟩ | ⟨h,_⟩
   ·rw [h,hf]
   ·rw [hf] at h; cases h
   ·rw [hf] at h; cases h),h.2⟩))
  clear hf
  go_wp2_with fail
  refine q.out.mono ?_
  rintro e w4 ⟨rfl,hB⟩
  have HB4:=hid (HB3.out.trans (hB.mono HB3.out.size))
  clear hB q
  have q:=hid (CM.out w4 HB4.out)
  go_wp2_with fail
  refine q.out.mono ?_
  rintro e w5 ⟨rfl,hB⟩
  have HB5:=hid (HB4.out.trans (hB.mono HB4.out.size))
  clear hB q 
  have q:=hid (cL.out w5 HB5.out)
  go_wp2_with fail
  refine q.out.mono ?_
  rintro e w6 ⟨rfl,hB⟩
  have HB6:=hid (HB5.out.trans (hB.mono HB5.out.size))
  clear hB q 
  go_wp2
  go_ret
  exact ⟨rfl,HB6.out⟩
 have hf:=fault_may' hm
 have HM:=hid hm
 rw [hm] at CM
 rw [hf]
 by_cases hok:unB u=true∧1≤step
 rotate_left
 ·have q:=hid ((cFt.out w3 HB3.out).mono fun e w' h=>(show e= .returned (.tuple #[.bool false, .int .i64 1])∧Below w3.heap.size w3 w' from ⟨(by
   rcases h.1 with ⟨h,_⟩ | ⟨_,_,h⟩ | ⟨_,h1,h2,_⟩
   ·exact absurd hf h
   ·exact h
   ·exact absurd ⟨h1,h2⟩ hok),h.2⟩))
  go_wp2_with fail
  refine q.out.mono ?_
  rintro e w4 ⟨rfl,hB⟩
  have HB4:=hid (HB3.out.trans (hB.mono HB3.out.size))
  clear hB q
  have q:=hid (CM.out w4 HB4.out)
  go_wp2_with fail
  refine q.out.mono ?_
  rintro e w5 ⟨rfl,hB⟩
  have HB5:=hid (HB4.out.trans (hB.mono HB4.out.size))
  clear hB q 
  cases hub:unB u
  ·rw [hub] at cU
   have q:=hid (cU.out w5)
   go_wp2_with fail
   refine q.out.mono ?_
   rintro e wx ⟨rfl,rfl⟩
   clear q 
   have q:=hid (cL.out w5 HB5.out)
   go_wp2_with fail
   refine q.out.mono ?_
   rintro e w6 ⟨rfl,hB⟩
   have HB6:=hid (HB5.out.trans (hB.mono HB5.out.size))
   clear hB q 
   go_wp2
   go_ret
   exact ⟨rfl,HB6.out⟩
  ·rw [hub] at cU
   have hd1:decide (step < 1)=true:=by
    have:¬1≤step:=fun h=>hok ⟨hub,h⟩
    simp; omega
   have q:=hid (cU.out w5)
   go_wp2_with fail
   refine q.out.mono ?_
   rintro e wx ⟨rfl,rfl⟩
   clear q 
   have q:=hid (cL.out w5 HB5.out)
   go_wp2_with fail
   refine q.out.mono ?_
   rintro e w6 ⟨rfl,hB⟩
   have HB6:=hid (HB5.out.trans (hB.mono HB5.out.size))
   clear hB q 
   go_wp2
   go_ret
   exact ⟨rfl,HB6.out⟩
 obtain ⟨hub,hst1⟩:=hok
 rw [hub] at cU
 obtain ⟨n,hn⟩:∃n:Nat,u= (n:Int):=⟨u.toNat,by rcases unB_cases u with ⟨_,h,_⟩ | ⟨h,_⟩; omega; rw [hub] at h; cases h⟩
 have hn7:n < 7:=by rcases unB_cases u with ⟨_,_,h⟩ | ⟨h,_⟩; omega; rw [hub] at h; cases h
 obtain ⟨Y,F,hbt⟩:=Hg.out.2 hf n hn7
 have hd1:decide (step < 1)=false:=by simp; omega
 have hs9:step≠0:=by omega
 obtain ⟨pr,hpr⟩:∃x,nextP l (-1)=x:=⟨_,rfl⟩
 have hnone:pr.2≠0→∀t,instB l t=false:=fun h t=>by
  rcases next_cases (t:=-1) hf with ⟨z,e,-⟩ | ⟨e,hno⟩
  ·rw [hpr] at e; rw [e] at h; exact absurd rfl h
  ·cases hi:instB l t
   ·rfl
   ·have:=(inst_win hi).1; rw [hno t (by omega)] at hi; cases hi
 rw [hpr] at cFi
 have Hf:=hid hf
 have hft:=hid (fun e (h:FitR l u step e)=>(show∃b,e= .returned (.tuple #[.bool b, .int .i64 0])∧((pr.2≠0∧b=true)∨(pr.2=0∧b=decide (g n % step=0))) from by
  rcases h with ⟨h,_⟩ | ⟨_,h,_⟩ | ⟨_,_,_,b,rfl,h⟩
  ·exact absurd hf h
  ·exact absurd ⟨hub,hst1⟩ h
  ·refine ⟨b,rfl,?_⟩
   rw [hpr] at h
   rcases h with h | ⟨h1,G',y',f',hb',rfl⟩
   ·exact .inl h
   ·rw [hn,Int.toNat_natCast] at hb'
    rw [BeatP.unique hb' hbt (fun _=>Iff.rfl)]
    exact .inr ⟨h1,rfl⟩))
 have hgb:=BeatP.bd (M:=12622780799) hbt (by omega) fun x hx=>hx.rng
 have hmod:=tmod_zero (g n) step
 have hmb:-9223372036854775808≤(g n).tmod step∧(g n).tmod step≤9223372036854775807:=by
  rw [Int.tmod_eq_emod_of_nonneg hgb.2.2.1]
  have h1:=Int.emod_nonneg (g n) hs9
  have h2:=Int.emod_lt_of_pos (g n) (show 0 < step by omega)
  have:=Hst.out
  omega
 have hmw:IntKind.i64.wrap ((g n).tmod step)= (g n).tmod step:=IntWalk.i64_in _ (by omega)
 have Hbt:=hid hbt
 have Hgb:=hid hgb
 have Hn7:=hid hn7
 have Hst1:=hid hst1
 have Hub:=hid hub
 have Hno:=hid hnone
 obtain ⟨G,hG⟩:∃G,g n=G:=⟨_,rfl⟩
 rw [hG] at hft hmod hmw Hgb Hbt
 have HG:=hid hG
 subst hn
 have hni:(n:Int) < 7:=by omega
 have hn0:(0:Int)≤(n:Int):=by omega
 have cWh:=hid (fun t W (h0:0≤t) (h1:t < 12622780800)=>RUWhich_yes (n:Int) t W (by omega) (by omega) h0 h1)
 clear hf hm hpr hnone hbt hgb hmb hG hub hst1
 obtain ⟨p1,p2⟩:=pr
 simp only at hft
 have q:=hid (cFt.out w3 HB3.out)
 go_wp2_with fail
 refine q.out.mono ?_
 rintro e w4 ⟨hR,hB⟩
 obtain ⟨b,rfl,hb⟩:=hft.out e hR
 have HB4:=hid (HB3.out.trans (hB.mono HB3.out.size))
 have K_4:=hid (K_3.out.below hB)
 have A_4:=hid (A_3.out.block (hB).size ((hB).block _ A_3.out.lt))
 have Hb:=hid hb
 clear hB q hR hb hft cFt
 have q:=hid (CM.out w4 HB4.out)
 go_wp2_with fail
 refine q.out.mono ?_
 rintro e w5 ⟨rfl,hB⟩
 have HB5:=hid (HB4.out.trans (hB.mono HB4.out.size))
 have K_5:=hid (K_4.out.below hB)
 have A_5:=hid (A_4.out.block (hB).size ((hB).block _ A_4.out.lt))
 clear hB q 
 have q:=hid (cU.out w5)
 go_wp2_with fail
 refine q.out.mono ?_
 rintro e wx ⟨rfl,rfl⟩
 clear q 
 have q:=hid (cFi.out w5 HB5.out)
 go_wp2_with fail
 refine q.out.mono ?_
 rintro e w6 ⟨rfl,hB⟩
 have HB6:=hid (HB5.out.trans (hB.mono HB5.out.size))
 have K_6:=hid (K_5.out.below hB)
 have A_6:=hid (A_5.out.block (hB).size ((hB).block _ A_5.out.lt))
 clear hB q 
 have hG1:=A_6.out.c n Hn7.out
 rw [HG.out] at hG1
 obtain ⟨x0,x1,-⟩:=K_6.out
 have hcut1:((p2 != 0)=true∧b=true)∨((p2 != 0)=false∧b=decide (G % step=0)):=by
  rcases Hb.out with ⟨h,h2⟩ | ⟨h,h2⟩
  ·exact .inl ⟨by simpa using h,h2⟩
  ·exact .inr ⟨by simpa using h,h2⟩
 go_upto_region 11 with fail
 go_cut [93] from 94 (fun bv wx=>bv= .bool false∧w6=wx)
 case first=>
  rcases hcut1 with ⟨e1,rfl⟩ | ⟨e1,hbe⟩
  ·go_wp2_with fail
   go_meet
   exact ⟨rfl,rfl⟩
  ·rw [←hbe] at hmod
   clear hbe
   cases b
   all_goals
    go_wp2_with fail
    go_meet
    exact ⟨rfl,rfl⟩
 case rest=>
  obtain ⟨rfl,rfl⟩:=hcut
  clear hcut1 hmod hmw
  clear hG1 x0 x1
  obtain ⟨x0,x1,-⟩:=K_6.out
  have hG1:=A_6.out.c n Hn7.out
  rw [HG.out] at hG1
  have HKA:=hid (And.intro K_6.out A_6.out)
  cases hwx:winB x
  ·have qx:=hid (cI.out x)
   rw [hwx] at qx
   have q:=hid (qx.out w6)
   go_wp2_with fail
   refine q.out.mono ?_
   rintro e wx ⟨rfl,rfl⟩
   clear q 
   clear x0 x1 hG1
   have q:=hid (cL.out w6 HB6.out)
   go_wp2_with fail
   refine q.out.mono ?_
   rintro e w7 ⟨rfl,hB⟩
   have HB7:=hid (HB6.out.trans (hB.mono HB6.out.size))
   clear hB q 
   go_wp2
   go_ret
   exact ⟨rfl,HB7.out⟩
  cases hwy:winB y
  ·have qx:=hid (cI.out x)
   rw [hwx] at qx
   have qy:=hid (cI.out y)
   rw [hwy] at qy
   have q:=hid (qx.out w6)
   go_wp2_with fail
   refine q.out.mono ?_
   rintro e wx ⟨rfl,rfl⟩
   clear q 
   have q:=hid (qy.out w6)
   go_wp2_with fail
   refine q.out.mono ?_
   rintro e wx ⟨rfl,rfl⟩
   clear q 
   clear x0 x1 hG1
   have q:=hid (cL.out w6 HB6.out)
   go_wp2_with fail
   refine q.out.mono ?_
   rintro e w7 ⟨rfl,hB⟩
   have HB7:=hid (HB6.out.trans (hB.mono HB6.out.size))
   clear hB q 
   go_wp2
   go_ret
   exact ⟨rfl,HB7.out⟩
  have qx:=hid (cI.out x)
  rw [hwx] at qx
  have qy:=hid (cI.out y)
  rw [hwy] at qy
  have hwx2:0≤x∧x < 12622780800:=by simpa [winB] using hwx
  have hwy2:0≤y∧y < 12622780800:=by simpa [winB] using hwy
  cases hhx:hasL l x
  ·have q:=hid (qx.out w6)
   go_wp2_with fail
   refine q.out.mono ?_
   rintro e wx ⟨rfl,rfl⟩
   clear q 
   have q:=hid (qy.out w6)
   go_wp2_with fail
   refine q.out.mono ?_
   rintro e wx ⟨rfl,rfl⟩
   clear q 
   have qh:=hid (CH.out x w6 HB6.out)
   rw [hhx] at qh
   have q:=hid (qh.out)
   go_wp2_with fail
   refine q.out.mono ?_
   rintro e w7 ⟨rfl,hB⟩
   have HB7:=hid (HB6.out.trans (hB.mono HB6.out.size))
   clear hB q 
   clear x0 x1 hG1
   have q:=hid (cL.out w7 HB7.out)
   go_wp2_with fail
   refine q.out.mono ?_
   rintro e w8 ⟨rfl,hB⟩
   have HB8:=hid (HB7.out.trans (hB.mono HB7.out.size))
   clear hB q 
   go_wp2
   go_ret
   exact ⟨rfl,HB8.out⟩
  cases hhy:hasL l y
  ·have K9_6:=hid HKA.out.1
   have q:=hid (qx.out w6)
   go_wp2_with fail
   refine q.out.mono ?_
   rintro e wx ⟨rfl,rfl⟩
   clear q 
   have q:=hid (qy.out w6)
   go_wp2_with fail
   refine q.out.mono ?_
   rintro e wx ⟨rfl,rfl⟩
   clear q 
   have qh:=hid (CH.out x w6 HB6.out)
   rw [hhx] at qh
   have q:=hid (qh.out)
   go_wp2_with fail
   refine q.out.mono ?_
   rintro e w7 ⟨rfl,hB⟩
   have HB7:=hid (HB6.out.trans (hB.mono HB6.out.size))
   have K9_7:=hid (K9_6.out.below hB)
   clear hB q 
   clear x0 x1
   obtain ⟨x0,x1,-⟩:=K9_7.out
   have qh:=hid (CH.out y w7 HB7.out)
   rw [hhy] at qh
   have q:=hid (qh.out)
   go_wp2_with fail
   refine q.out.mono ?_
   rintro e w8 ⟨rfl,hB⟩
   have HB8:=hid (HB7.out.trans (hB.mono HB7.out.size))
   clear hB q 
   clear x0 x1 hG1
   have q:=hid (cL.out w8 HB8.out)
   go_wp2_with fail
   refine q.out.mono ?_
   rintro e w9 ⟨rfl,hB⟩
   have HB9:=hid (HB8.out.trans (hB.mono HB8.out.size))
   clear hB q 
   go_wp2
   go_ret
   exact ⟨rfl,HB9.out⟩
  have hix:instB l x=true:=by rw [hasL,HM.out,Bool.true_and] at hhx; exact hhx
  have hiy:instB l y=true:=by rw [hasL,HM.out,Bool.true_and] at hhy; exact hhy
  have hdv:G ∣ whU (n:Int) x - whU (n:Int) y:=pulse_dvd Hn7.out Hbt.out hiy hix
  have hbd1:=whU_bd (u:=(n:Int)) hwx2.1 hwx2.2
  have hbd2:=whU_bd (u:=(n:Int)) hwy2.1 hwy2.2
  have HOn:Hid (b=true→onB (n:Int) step x y=true):=fun hb=>by
   rcases Hb.out with ⟨h,-⟩ | ⟨-,h⟩
   ·have:=Hno.out h x; rw [hix] at this; cases this
   ·rw [hb] at h
    have h1:step ∣ G:=Int.dvd_of_emod_eq_zero (of_decide_eq_true h.symm)
    have h2:=pulse_dvd Hn7.out Hbt.out hix hiy
    exact on_dvd Hn7.out Hst1.out hwx hwy (Int.dvd_trans h1 h2)
  obtain ⟨dx,hdx⟩:∃d,whU (n:Int) x=d:=⟨_,rfl⟩
  obtain ⟨dy,hdy⟩:∃d,whU (n:Int) y=d:=⟨_,rfl⟩
  rw [hdx] at hbd1 hdv
  rw [hdy] at hbd2 hdv
  have hdw:IntKind.i64.wrap (dx - dy)=dx - dy:=IntWalk.i64_in _ (by omega)
  have qwx:=hid (fun W=>(hdx ▸ cWh.out x W hwx2.1 hwx2.2))
  have qwy:=hid (fun W=>(hdy ▸ cWh.out y W hwy2.1 hwy2.2))
  have hGge:decide (G < 0)=false:=by have:=Hgb.out; simp; omega
  have HDV:=hid hdv
  clear hix hiy hdx hdy hbd1 hbd2 hdv hwx2 hwy2
  have K9_6:=hid HKA.out.1
  have A9_6:=hid HKA.out.2
  have q:=hid (qx.out w6)
  go_wp2_with fail
  refine q.out.mono ?_
  rintro e wx ⟨rfl,rfl⟩
  clear q 
  have q:=hid (qy.out w6)
  go_wp2_with fail
  refine q.out.mono ?_
  rintro e wx ⟨rfl,rfl⟩
  clear q 
  have qh:=hid (CH.out x w6 HB6.out)
  rw [hhx] at qh
  have q:=hid (qh.out)
  go_wp2_with fail
  refine q.out.mono ?_
  rintro e w7 ⟨rfl,hB⟩
  have HB7:=hid (HB6.out.trans (hB.mono HB6.out.size))
  have K9_7:=hid (K9_6.out.below hB)
  have A9_7:=hid (A9_6.out.block (hB).size ((hB).block _ A9_6.out.lt))
  clear hB q 
  clear x0 x1
  obtain ⟨x0,x1,-⟩:=K9_7.out
  have qh:=hid (CH.out y w7 HB7.out)
  rw [hhy] at qh
  have q:=hid (qh.out)
  go_wp2_with fail
  refine q.out.mono ?_
  rintro e w8 ⟨rfl,hB⟩
  have HB8:=hid (HB7.out.trans (hB.mono HB7.out.size))
  have K9_8:=hid (K9_7.out.below hB)
  have A9_8:=hid (A9_7.out.block (hB).size ((hB).block _ A9_7.out.lt))
  clear hB q 
  clear x0 x1 hG1
  obtain ⟨x0,x1,-⟩:=K9_8.out
  have hG1:=A9_8.out.c n Hn7.out
  rw [HG.out] at hG1
  clear hhx hhy hwx hwy
  go_upto_region 15 with fail
  go_quiet (first
   | (go_at_call 30; with_reducible refine (qwx.out _).mono ?_; exact fun _ _ h=>⟨h.1,_,h.2.symm⟩)
   | (go_at_call 30; with_reducible refine (qwy.out _).mono ?_; exact fun _ _ h=>⟨h.1,_,h.2.symm⟩))
  obtain ⟨d,hd⟩:∃d,dx - dy=d:=⟨_,rfl⟩
  have HDV2:Hid (G ∣ d):=by show _ ∣ _; rw [←hd]; exact HDV.out
  rw [hd]
  clear hd hdw qwx qwy
  have Hdn:Hid (∀m:Nat,Below w.heap.size w ((w8).drewN m)):=fun m=>below_drewN HB8.out m
  have qOn:=hid (cOn.out x y)
  by_cases hG0:G=0
  ·obtain rfl:d=0:=by have:=HDV2.out; rw [hG0,Int.zero_dvd] at this; exact this
   have e1:(G == 0)=true:=by simpa using hG0
   have e2:decide (0 < G)=false:=by simp; omega
   clear hG0
   cases b
   ·go_wp2_with fail
    refine (cL.out _ (Hdn.out _)).mono ?_
    rintro e wl ⟨rfl,hB⟩
    have HBl:=hid ((Hdn.out _).trans (hB.mono (Hdn.out _).size))
    clear hB
    go_wp2
    go_ret
    exact ⟨rfl,HBl.out⟩
   ·rw [HOn.out rfl] at qOn
    go_wp2_with fail
    refine (qOn.out _).mono ?_
    rintro e wx ⟨rfl,rfl⟩
    go_wp2_with fail
    refine (cL.out _ (Hdn.out _)).mono ?_
    rintro e wl ⟨rfl,hB⟩
    have HBl:=hid ((Hdn.out _).trans (hB.mono (Hdn.out _).size))
    clear hB
    go_wp2
    go_ret
    exact ⟨rfl,HBl.out⟩
  ·have e1:(G == 0)=false:=by simpa using hG0
   have e2:decide (0 < G)=true:=by have:=Hgb.out; simp; omega
   have e3:(d.tmod G == 0)=true:=by rw [tmod_zero,decide_eq_true_eq]; exact Int.emod_eq_zero_of_dvd HDV2.out
   have e4:IntKind.i64.wrap (d.tmod G)=d.tmod G:=by rw [beq_iff_eq] at e3; rw [e3]; decide
   have hGn:G≠0:=hG0
   clear hG0
   cases b
   ·go_wp2_with fail
    refine (cL.out _ (Hdn.out _)).mono ?_
    rintro e wl ⟨rfl,hB⟩
    have HBl:=hid ((Hdn.out _).trans (hB.mono (Hdn.out _).size))
    clear hB
    go_wp2
    go_ret
    exact ⟨rfl,HBl.out⟩
   ·rw [HOn.out rfl] at qOn
    go_wp2_with fail
    refine (qOn.out _).mono ?_
    rintro e wx ⟨rfl,rfl⟩
    go_wp2_with fail
    refine (cL.out _ (Hdn.out _)).mono ?_
    rintro e wl ⟨rfl,hB⟩
    have HBl:=hid ((Hdn.out _).trans (hB.mono (Hdn.out _).size))
    clear hB
    go_wp2
    go_ret
    exact ⟨rfl,HBl.out⟩
end
section
open Go.ChangeShapes Go.WideShapes Go.ChangeAt Go.RowKit
theorem ownKnobNone:ownKnob Tryz.prog.godebug=none:=by kernel_rfl
theorem laidOut:laidOutB Tryz.prog=true:=by kernel_rfl
theorem gTab:Tryz.prog.globalNamed "math/bits.deBruijn64tab" =some 0:=by kernel_rfl
theorem gTabType:(Tryz.prog.globals[0]?).map (·.type)=some 279:=by kernel_rfl
theorem cellsTab:Tryz.prog.cellsOf 279=64:=by kernel_rfl
theorem cellsU8:Tryz.prog.cellsOf 5=1:=by kernel_rfl
theorem leafInt:leaves Tryz.prog 4 3=some [.int .i64]:=by kernel_rfl
theorem cellsInt:Tryz.prog.cellsOf 3=1:=by kernel_rfl
def tabInts:List Int:=Lib.deBruijn64tab.map fun (n:Nat)=>(n:Int)
theorem tabInts_get:∀i,i < 64→tabInts.getD i 0= ((Lib.deBruijn64tab.getD i 0:Nat):Int):=by decide
theorem tab_of {W:World} (h:laidMetH Tryz.prog [("math/bits.deBruijn64tab",Rows.laid_math_bits_deBruijn64tab)] W):Tab W:=by
 have ht:Lib.TabIs Tryz.prog W "math/bits.deBruijn64tab" .u8 tabInts:=Lib.tabIs_of_head (rest:= []) gTab gTabType Tryz.underlying279 Tryz.underlying5 cellsU8 cellsTab h
 have hc:∀i,i < 64→W.cell? ⟨0,i,none⟩=some (.int .u8 (tabInts.getD i 0)):=fun i hi=>ht.cell gTab i hi
 exact ⟨Nat.lt_of_le_of_lt (Nat.zero_le _) (World.block_lt_of_cell? W _ (hc 0 (by omega))),fun i hi=>by rw [hc i hi,tabInts_get i hi]⟩
noncomputable def laidWorld (os:Os):World:=
 {World.holding Tryz.prog os ⟨#[],#[],[]⟩ with heap:=(World.holding Tryz.prog os ⟨#[],#[],[]⟩).heap.modify 0 fun
   | .cells _ t frozen=> .cells (tabInts.map (Value.int .u8)).toArray t frozen
   | o=>o}
theorem open_ints' {H:Type} {enc:TypeId × Value→H} {W:World} {a:Option Addr} {len cap:Nat} {d:DataW H} {p:List MemPlace} (h:DataW.Trod enc Tryz.prog W 0 (fun _=>true) true 57 (.slice a len cap) d p) :
  ∃l:List Int,len=l.length∧l.length≤cap∧cap≤maxLen∧Sl W a (ints l)∧(a=none→cap=0)∧∀x∈l,-9223372036854775808≤x∧x≤9223372036854775807:=by
 obtain ⟨fuel,hf⟩:=h
 obtain ⟨a',n,cap',cells,e,h1,h2,h3,h4,h6,h5⟩:=open_flat Tryz.underlying57 leafInt cellsInt.symm (by decide) (v:= .slice a len cap) (by simpa [Value.cells] using hf)
 cases e
 obtain ⟨l,rfl,hll,hw⟩:=oks_ints h3 h5
 subst hll
 exact ⟨l,rfl,h1,h2,h4,h6,hw⟩
end
section
open Go.RowKit Go.Maps
set_option maxHeartbeats 1600000 in
theorem RSize01_any (n:Int) (w:World) (h:i64B n):Calls Tryz.prog 71 #[.int .i64 n] w fun e w'=>e= .returned (.int .u64 (n.natAbs:Nat))∧w=w':=by
 unfold i64B at h
 obtain ⟨m,hm⟩:∃m,n.natAbs=m:=⟨_,rfl⟩
 rw [hm]
 by_cases h0:n < 0
 ·have h1:IntKind.i64.wrap (n+1)=n+1:=IntWalk.i64_in _ (by omega)
  have h2:IntKind.i64.wrap (-(n+1))= -(n+1):=IntWalk.i64_in _ (by omega)
  have h3:IntKind.u64.wrap (-(n+1))= -(n+1):=by rw [IntKind.wrap_u64]; omega
  have h4:IntKind.u64.wrap (-(n+1)+1)= (m:Int):=by rw [IntKind.wrap_u64]; omega
  clear hm h
  go_enter Tryz.func71,Tryz.ntmps71
  go_wp2
  go_ret
  exact ⟨rfl,rfl⟩
 ·have h3:IntKind.u64.wrap n= (m:Int):=by rw [IntKind.wrap_u64]; omega
  clear hm h
  go_enter Tryz.func71,Tryz.ntmps71
  go_wp2
  go_ret
  exact ⟨rfl,rfl⟩
set_option maxHeartbeats 1600000 in
theorem RBoth01_any (g m:Nat) (w:World) (hg:g < 18446744073709551616) (hm:m < 18446744073709551616):Calls Tryz.prog 70 #[.int .u64 (g:Nat), .int .u64 (m:Nat)] w fun e w'=>e= .returned (.int .u64 (Nat.gcd g m:Nat))∧w=w':=by
 obtain ⟨G,hG⟩:∃G,Nat.gcd g m=G:=⟨_,rfl⟩
 have HG:=hid hG
 rw [hG]
 clear hG
 go_enter Tryz.func70,Tryz.ntmps70
 go_wp2_with fail
 go_loopw [0,1] (fun g' a' wq=>∃p q:Nat,g' = .int .u64 p∧a' = .int .u64 q∧p < 18446744073709551616∧q < 18446744073709551616∧w=wq∧Hid (Nat.gcd p q=G)) (fun _ a' _=>(intOf a').toNat)
 case atStart=>exact ⟨g,m,rfl,rfl,hg,hm,rfl,HG.out⟩
 case round=>
  obtain ⟨p,q,rfl,rfl,hp,hq,rfl,HP⟩:=hrel
  by_cases h0:q=0
  ·subst h0
   have hgm:p=G:=by rw [←HP.out,Nat.gcd_zero_right]
   subst hgm
   go_wp2
   go_ret
   exact ⟨rfl,rfl⟩
  ·have hqb:((q:Int) == 0)=false:=by simp; omega
   have hqn:¬(q:Int)=0:=by omega
   have hlt2:p % q < q:=Nat.mod_lt _ (by omega)
   have hw:IntKind.u64.wrap (Int.tmod (p:Int) (q:Int))= ((p % q:Nat):Int):=by
    rw [Int.tmod_eq_emod_of_nonneg (by omega),IntKind.wrap_u64]; omega
   have HN:Hid (Nat.gcd q (p % q)=G):=by show _ = _; rw [gcd_step,HP.out]
   obtain ⟨r,hr⟩:∃r,p % q=r:=⟨_,rfl⟩
   have hmod:(p:Int) % (q:Int)= (r:Int):=by rw [←hr]; simp
   rw [hr] at hlt2 hw HN
   clear hr
   go_wp2
   refine ⟨⟨q,r,rfl,by first | rfl | (rw [hmod]),by omega,by omega,by first | rfl | trivial,HN.out⟩,by simp [intOf,hmod]; omega⟩
set_option maxHeartbeats 1600000 in
theorem RGcd01_any (a:Option Addr) (cap:Nat) (l:List Int) (w:World) (hl:l.length≤1000000) (hs:Sl w a (ints l)) (hb:∀n∈l,i64B n) :
  Calls Tryz.prog 31 #[.slice a l.length cap] w fun e w'=>e= .returned (.int .u64 (gcdL l:Nat))∧w=w':=by
 have Hs:=hid hs
 have Hb:=hid hb
 have HL:=hid (gcdL_le l hb)
 have cB:=hid (fun g m W h1 h2=>RBoth01_any g m W h1 h2)
 clear hs hb
 go_enter Tryz.func31,Tryz.ntmps31
 go_wp2_with fail
 go_loopw [3,4] (fun g i wr=>∃k:Nat,i= .int .i64 k∧g= .int .u64 (gcdL (l.take k):Nat)∧k≤l.length∧w=wr) (fun _ i _=>l.length - (intOf i).toNat)
 case atStart=>exact ⟨0,rfl,rfl,by omega,rfl⟩
 case round=>
  obtain ⟨k,rfl,rfl,hk,rfl⟩:=hrel
  by_cases hlt:k < l.length
  ·have hdj:decide ((k:Int) < (l.length:Int))=true:=by simp; omega
   obtain ⟨b,off,rfl,hbk,hc⟩:=Hs.out.atInt hlt
   have e1:=hc k hlt
   have hn:=Hb.out _ (List.getElem_mem hlt)
   have htk:=hid (take_snoc l k hlt)
   have hgb:=HL.out k (by omega)
   obtain ⟨n,hnn⟩:∃n,l[k]=n:=⟨_,rfl⟩
   rw [hnn] at e1 hn htk
   obtain ⟨g,hg⟩:∃g,gcdL (l.take k)=g:=⟨_,rfl⟩
   have Hg:=hid hg
   rw [hg] at hgb⊢
   have cS:=hid (RSize01_any n w hn)
   have hab:n.natAbs≤9223372036854775808:=by unfold i64B at hn; omega
   have cG:=hid (cB.out g n.natAbs w (by omega) (by omega))
   have HN:Hid (gcdL (l.take (k+1))=Nat.gcd g n.natAbs):=by show _ = _; rw [htk.out,gcdL_snoc,hg]
   obtain ⟨m,hm⟩:∃m,n.natAbs=m:=⟨_,rfl⟩
   rw [hm] at cS cG HN
   clear hc hnn hg hm hab hgb hn
   go_wp2_with fail
   refine cS.out.mono ?_
   rintro e w' ⟨rfl,rfl⟩
   go_wp2_with fail
   refine cG.out.mono ?_
   rintro e w' ⟨rfl,rfl⟩
   go_wp2
   exact ⟨⟨k+1,by go_num,by rw [HN.out],by omega,by first | rfl | trivial⟩,by simp [intOf]; omega⟩
  ·obtain rfl:k=l.length:=by omega
   have hdj:decide ((l.length:Int) < (l.length:Int))=false:=by simp
   rw [List.take_length]
   clear HL
   go_wp2
   go_ret
   exact ⟨rfl,by first | rfl | trivial⟩
theorem dvd_gcdL {d:Int} (l:List Int):d ∣ ((gcdL l:Nat):Int)↔∀x∈l,d ∣ x:=by
 have key:∀(l:List Int) (g:Nat),d ∣ ((l.foldl (fun g n=>Nat.gcd g n.natAbs) g:Nat):Int)↔d ∣ (g:Int)∧∀x∈l,d ∣ x:=by
  intro l
  induction l with
  | nil=>intro g; simp
  | cons x l ih=>
    intro g
    rw [List.foldl_cons,ih]
    have e:((Nat.gcd g x.natAbs:Nat):Int)= ((Int.gcd (g:Int) x:Nat):Int):=by simp [Int.gcd]
    rw [e,Int.dvd_coe_gcd_iff]
    simp only [List.mem_cons,forall_eq_or_imp]
    exact and_assoc
 rw [gcdL,key]
 exact ⟨fun h=>h.2,fun h=>⟨Int.dvd_zero d,h⟩⟩
end
section
open Go.RowKit
attribute [local irreducible] secL
def WantN (r:Nat→Bool) (n:Int):Prop:=∃m ok,FirstOf r m ok∧n=if ok then m else -1
theorem WantN.some {r:Nat→Bool} {k:Nat} (hk:k < 86400) (h:r k=true) (hn:∀j,j < k→r j=false):WantN r (k:Int):=⟨k,true, .inl ⟨rfl,k,rfl,hk,h,hn⟩,rfl⟩
theorem WantN.none {r:Nat→Bool} (h:∀j,j < 86400→r j=false):WantN r (-1):=⟨0,false, .inr ⟨rfl,rfl,h⟩,rfl⟩
end
section
open Go.RowKit Go.Maps
attribute [local irreducible] secL
theorem eI64':El Tryz.prog 61 2 (.int .i64 0) 1 8:=⟨Tryz.underlying61,by kernel_rfl,by kernel_rfl,by decide⟩
def dfL (X:List Int) (k:Nat):List Int:=(X.take k).map fun x=>x - X.headD 0
theorem dfL_snoc {X:List Int} {k:Nat} (hk:k < X.length):dfL X (k+1)=dfL X k ++ [X[k] - X.headD 0]:=by
 rw [dfL,dfL,take_snoc X k hk,List.map_append]; rfl
theorem secs_gcd (q:Nat→Bool):((gcdL (dfL (secL q) (secL q).length):Nat):Int)= (nrB (secL q) 0).2.2:=by
 have h:=nrB_q (secL q) 0 _ (zG _)
 rw [List.take_length] at h
 have hg:=h.ge
 have key:∀d:Int,d ∣ ((gcdL (dfL (secL q) (secL q).length):Nat):Int)↔d ∣ (nrB (secL q) 0).2.2:=fun d=>by
  rw [dvd_gcdL,h.dvd,dfL,List.take_length]
  have e1:∀x:Int,x / szI 0=x:=fun x=>by rw [show szI 0=1 from rfl,Int.ediv_one]
  constructor
  ·intro hd
   cases hX:secL q with
   | nil=>
     rintro x y ⟨v,hv,-⟩
     cases hv
   | cons x0 X=>
     rw [hX] at hd
     refine pair_from (a:=x0) ?_
     rintro x ⟨v,hv,rfl⟩
     rw [e1]
     exact hd _ (List.mem_map.2 ⟨v,hv,rfl⟩)
  ·intro hd y hy
   obtain ⟨x,hx,rfl⟩:=List.mem_map.1 hy
   cases hX:secL q with
   | nil=>rw [hX] at hx; cases hx
   | cons x0 X=>
     have h0:x0∈secL q:=by rw [hX]; simp
     exact hd x x0 ⟨x,hx,(e1 x).symm⟩ ⟨x0,h0,(e1 x0).symm⟩
 exact Int.dvd_antisymm (by omega) hg ((key _).1 (Int.dvd_refl _)) ((key _).2 (Int.dvd_refl _))
set_option maxRecDepth 100000 in
set_option maxHeartbeats 6400000 in
theorem PulseSeconds_walk (a:Option Addr) (cap:Nat) (l:List Int) (w:World) (hl:l.length≤9223372036854775807) (hs:Sl w a (ints l)) (hT:Tab w) :
  Calls Tryz.prog 8 #[.slice a l.length cap] w fun e w'=>e= .returned (.bool true)∧Below w.heap.size w w':=by
 have cL:=hid (fun W (hB:Below w.heap.size w W)=>Lives23_any W (hT.later hB))
 by_cases h3:300 < l.length
 ·clear hs hT
  have q:=hid (cL.out w (Below.refl _ _))
  go_enter Tryz.func8,Tryz.ntmps8
  go_wp2_with fail
  refine q.out.mono ?_
  rintro e w1 ⟨rfl,hB⟩
  have HB:=hid hB
  clear hB q
  go_wp2
  go_ret
  exact ⟨rfl,HB.out⟩
 have cO:=hid (own_ret (ROf15_any a cap l w hl hs))
 have cS:=hid (fun W (hB:Below w.heap.size w W)=>PSeconds_any a cap l W hl (hs.below hB) (hT.later hB))
 obtain ⟨q,hq⟩:∃q,memD l=q:=⟨_,rfl⟩
 rw [hq] at cO cS
 have hgc:=secs_gcd q
 have hbd:=nrB_bd (nsec_rng q) 0 _ (zG _)
 rw [List.take_length] at hbd
 have hmem:Hid (∀x∈secL q,0≤x∧x < 86400):=nsec_rng q
 have hlen:=secL_len q
 obtain ⟨X,hX⟩:∃X,secL q=X:=⟨_,rfl⟩
 rw [hX] at cO cS hgc hbd hmem hlen
 obtain ⟨G,hG⟩:∃G,(nrB X 0).2.2=G:=⟨_,rfl⟩
 rw [hG] at cS hgc hbd
 have Hgc:=hid hgc
 clear hs hT hq hX hG hgc
 go_enter Tryz.func8,Tryz.ntmps8
 go_wp2_with fail
 refine cO.out.mono ?_
 rintro e w1 ⟨xa,nx,cx,rfl,hnx,hsx,-,hB⟩
 cases hnx.out
 have HB1:=hid hB
 have HS1:=hid hsx
 clear hB hsx hnx cO
 go_wp2_with fail
 go_loopw [4,5] (fun dv iv wr=>∃(k cq:Nat) (aq:Option Addr),iv= .int .i64 k∧dv= .slice aq k cq∧k≤X.length∧Hid (wr.ownsRow w1.heap.size 2 1 (.slice aq k cq) k (ints (dfL X k))∧Below w1.heap.size w1 wr)) (fun _ iv _=>X.length - (intOf iv).toNat)
 case atStart=>exact ⟨0,0,none,rfl,rfl,by omega,World.ownsRow_nil _ w1.heap.size _ _,Below.refl _ _⟩
 case round=>
  obtain ⟨k,cq,aq,rfl,rfl,hk,HI⟩:=hrel
  by_cases hlt:k < X.length
  ·have hdj:decide ((k:Int) < (X.length:Int))=true:=by simp; omega
   have hx0l:0 < X.length:=by omega
   have hki:(k:Int) < (X.length:Int):=by omega
   have h0i:(0:Int) < (X.length:Int):=by omega
   obtain ⟨b,off,rfl,hbk,hc⟩:=HS1.out.atInt hlt
   have e1:wr.cell? ⟨b,off+k,none⟩=some (.int .i64 X[k]):=(HI.out.2.cell (p:=⟨b,off+k,none⟩) hbk).trans (hc k hlt)
   have e0:wr.cell? ⟨b,off,none⟩=some (.int .i64 X[0]):=(HI.out.2.cell (p:=⟨b,off,none⟩) hbk).trans (hc 0 hx0l)
   have b1:=hmem.out _ (List.getElem_mem hlt)
   have b0:=hmem.out _ (List.getElem_mem hx0l)
   have hsn:=dfL_snoc hlt
   have hhd:X.headD 0=X[0]:=by cases X with | nil=>cases hx0l | cons x X=>rfl
   rw [hhd] at hsn
   obtain ⟨x,hx⟩:∃x,X[k]=x:=⟨_,rfl⟩
   obtain ⟨z,hz⟩:∃x,X[0]=x:=⟨_,rfl⟩
   rw [hx] at e1 b1 hsn
   rw [hz] at e0 b0 hsn
   have hw:IntKind.i64.wrap (x - z)=x - z:=IntWalk.i64_in _ (by omega)
   obtain ⟨i0,hi0,hz0,hz1,hz2⟩:=info_parts eI64'.hi
   have Hown:=hid HI.out.1
   have ag:(Value.slice aq k cq).ownBlock≠some b:=fun e=>by have:=(owns_lt Hown.out e).1; omega
   have hszr:=HI.out.2.size
   have Hsn:=hid hsn
   have HBr:=hid HI.out.2
   clear hc hx hz hsn hhd HI
   go_wp2_with fail
   go_region_held3 (fun w'=>w'.cell? ⟨b,off+k,none⟩=some (.int .i64 x)∧w'.cell? ⟨b,off,none⟩=some (.int .i64 z))
    (first
      | go_keep
      | (go_split_ands
         refine ⟨?_,?_⟩
         ·(rw [hgrow.cell_far _ (by simp; omega) (Ne.symm ag)]; assumption)
         ·(rw [hgrow.cell_far _ (by simp; omega) (Ne.symm ag)]; assumption)))
    ((refine step_append_lies _ (by rfl) _ _ _ (by rfl) w1.heap.size 2 i0 _ 1 8 eI64'.ht hi0 hz0 hz1 hz2 rfl (by omega) (.slice aq k cq) k _ (by rfl) ((Hown.out.alloc _).drew)
       ⟨wr.heap.size,0,none⟩ 1 1 [.int .i64 (x - z)] (by rfl) (by rfl) (World.news_of_block (cs:=#[.int .i64 (x - z)]) (t:=2) (fr:=(0,0)) (heap_alloc_new wr _)) (by simp [Value.oneCell'])
       (by omega) (by unfold maxLen; omega) (by omega) (by simp; omega) (wr.heap.size+1) (by simp) ?_; intro gg cap' w2 hown1 hgrow hat hgl))
   have htr:ints (dfL X (k+1))=ints (dfL X k) ++ [.int .i64 (x - z)]:=by rw [Hsn.out]; simp [ints]
   rw [←htr] at hown1
   have hb1':Below w1.heap.size w1 w2:=(below_new HBr.out (by omega)).drew.trans (Below.of_grown hgrow (by simp; omega) (fun k hk=>(owns_lt Hown.out hk).1))
   have HOwn1:=hid hown1
   have HB2:=hid hb1'
   clear htr hown1 hb1' hgrow hat ag
   go_wp2
   exact ⟨⟨k+1,cap',some ⟨gg,0,none⟩,by go_num,rfl,by omega,HOwn1.out,HB2.out⟩,by simp [intOf]; omega⟩
  ·obtain rfl:k=X.length:=by omega
   have hdj:decide ((X.length:Int) < (X.length:Int))=false:=by simp
   have hsl:=owns_sl HI.out.1
   have HBr:=hid (HB1.out.trans (HI.out.2.mono HB1.out.size))
   have hdl:(dfL X X.length).length=X.length:=by rw [dfL,List.take_length,List.length_map]
   have cG:=hid (fun W (hB:Below wr.heap.size wr W)=>RGcd01_any aq cq (dfL X X.length) W (by rw [hdl]; omega) (hsl.below hB) (fun n hn=>by
    rw [dfL,List.mem_map] at hn
    obtain ⟨x,hx,rfl⟩:=hn
    have h1:=hmem.out x (List.mem_of_mem_take hx)
    have h2:0≤X.headD 0∧X.headD 0 < 86400:=by
     cases X with
     | nil=>simp
     | cons y Y=>exact hmem.out y (by simp)
    exact ⟨by omega,by omega⟩))
   rw [hdl] at cG
   obtain ⟨g,hg⟩:∃g,gcdL (dfL X X.length)=g:=⟨_,rfl⟩
   have hgc:=Hgc.out
   rw [hg] at cG hgc
   subst hgc
   have hm1:IntKind.u64.wrap (max 0 (g:Int))= (g:Int):=by rw [IntKind.wrap_u64]; have:=hbd.2; simp only [M62] at this; omega
   have hm2:IntKind.u64.wrap (g:Int)= (g:Int):=by rw [IntKind.wrap_u64]; have:=hbd.2; simp only [M62] at this; omega
   have hg0:(0:Int)≤(g:Int):=by omega
   have cS1:=hid (cS.out wr HBr.out)
   clear hsl hdl hg HI hk hlt
   go_wp2_with fail
   refine cS1.out.mono ?_
   rintro e w3 ⟨rfl,hB3⟩
   have HB3:=hid (HBr.out.trans (hB3.mono HBr.out.size))
   have cG3:=hid (cG.out w3 hB3)
   clear hB3 cS1 cG
   go_wp2_with fail
   refine cG3.out.mono ?_
   rintro e w4 ⟨rfl,rfl⟩
   have cS3:=hid (cS.out w3 HB3.out)
   clear cG3
   go_wp2_with fail
   refine cS3.out.mono ?_
   rintro e w5 ⟨rfl,hB5⟩
   have HB5:=hid (HB3.out.trans (hB5.mono HB3.out.size))
   have cL5:=hid (cL.out w5 HB5.out)
   clear hB5 cS3
   go_wp2_with fail
   refine cL5.out.mono ?_
   rintro e w6 ⟨rfl,hB6⟩
   have HB6:=hid (HB5.out.trans (hB6.mono HB5.out.size))
   clear hB6 cL5
   go_wp2
   go_ret
   exact ⟨rfl,HB6.out⟩
end
end Go.Proofs.YtmjljpdeohbfbaaGreatDoor
