/-
  feriaref32.Date: has a day the months, days and weekdays of a rule?
  rule.Days, where no day is counted from the month's end.
-/
import Derived.Test.YtjahgimnfliooaaGreatDoorQ8307da
import Derived.Deep.CutRange
import Derived.Test.YtjahgimnfliooaaGreatDoorQaeb5bd
set_option maxRecDepth 100000
set_option maxHeartbeats 25600000
namespace Go.Proofs.YtjahgimnfliooaaGreatDoor
set_option linter.unusedVariables false
section
open Go.RowKit
def yfD (r:Ru) (s:Nat→Int):Bool:=yi0 r (s 2) && (dayVB r (s 3) (s 4) && yjB r s)
theorem yiu (r:Ru) (s:Nat→Int) (w:World) (hr:RuS w r) (hm:r.Sm 1000000) (hst:winB r.st=true) (hs:∀i,0≤s i∧s i≤1000000):Calls Tryz.prog 47 #[ruv r,shq s] w fun e w'=>e= .returned (.bool (yfD r s))∧Below w.heap.size w w':=by
 obtain ⟨W0,hW0⟩:∃W0,(w.alloc (.cells (yai r).toArray 25)).alloc (.cells (yaV s).toArray 88)=W0:=⟨_,rfl⟩
 have HF:Hid (RkF w r s W0):=by rw [←hW0]; exact rkF_new w r s _ _
 have HW0:=hid hW0
 clear hW0
 have cS:=hid (fun W=>yeg r.st W hst)
 rw [ya1 hst] at cS
 have k5':=hid (fun W (h:RuS W r)=>ybQ r.a5 r.c5 r.l5 (s 2) W (by have:=hm.n5; omega) h.s5)
 have k6':=hid (fun W (h:RuS W r)=>ybQ r.a6 r.c6 r.l6 (s 3) W (by have:=hm.n6; omega) h.s6)
 have k6n:=hid (fun W (h:RuS W r)=>ybQ r.a6 r.c6 r.l6 (-s 4) W (by have:=hm.n6; omega) h.s6)
 have kW:=hid (fun W (h:RuS W r)=>RWeek_any r s W h hm hst hs)
 have hn4:=hid (IntWalk.i64_in (-s 4) (by have:=hs 4; omega))
 rw [yfD,yi0,dayVB,shq]
 rw [shq] at kW
 obtain ⟨y,hy⟩:∃y,fY (r.st / 86400)=y:=⟨_,rfl⟩
 obtain ⟨mo,hmo⟩:∃y,fMo (r.st / 86400)=y:=⟨_,rfl⟩
 obtain ⟨d,hd⟩:∃y,fD (r.st / 86400)=y:=⟨_,rfl⟩
 obtain ⟨h,hh⟩:∃y,r.st % 86400 / 3600=y:=⟨_,rfl⟩
 obtain ⟨m,hmm⟩:∃y,r.st % 86400 / 60 % 60=y:=⟨_,rfl⟩
 obtain ⟨sc,hss⟩:∃y,r.st % 86400 % 60=y:=⟨_,rfl⟩
 rw [hy,hmo,hd,hh,hmm,hss] at cS
 rw [hmo,hd]
 obtain ⟨bb,hbb⟩:∃b,yb8 r=b:=⟨_,rfl⟩
 rw [hbb]
 obtain ⟨b5,hb5⟩:∃b,decide (s 2∈r.l5)=b:=⟨_,rfl⟩
 obtain ⟨u6,hu6⟩:∃b,decide (s 3∈r.l6)=b:=⟨_,rfl⟩
 obtain ⟨u6n,hu6n⟩:∃b,decide (-s 4∈r.l6)=b:=⟨_,rfl⟩
 rw [hb5] at k5'⊢
 rw [hu6] at k6'⊢
 rw [hu6n] at k6n⊢
 obtain ⟨wk,hwk⟩:∃b,yjB r s=b:=⟨_,rfl⟩
 rw [hwk] at kW⊢
 obtain ⟨pm,em⟩:∃p,((decide (r.l5.length=0) && (decide (r.fq≠6) || (!bb || decide (s 2=mo)))) || b5)=p:=⟨_,rfl⟩
 obtain ⟨pd,ed⟩:∃p,((decide (r.l6.length=0) && (decide (r.fq < 5) || (!bb || decide (s 3=d)))) || (u6 || u6n))=p:=⟨_,rfl⟩
 rw [em,ed]
 have Em:=hid em
 have Ed:=hid ed
 have Hbb:=hid hbb
 rw [yb8] at Hbb
 have HR:=hid hr
 clear hr hm hst hs hy hmo hd hh hmm hss hbb hb5 hu6 hu6n hwk em ed
 go_enter Tryz.func47,Tryz.ntmps47
 go_upto_region 1 with fail
 rw [HW0.out]
 obtain ⟨⟨⟨k0,k1,k2,k3,k4⟩,k5,k6,k7,k8,k9,kx⟩,⟨s0,s1,s2,s3,s4,s5,s6,s7,s8,s9⟩,-⟩:=HF.out.sas
 go_wp2_with fail
 refine (cS.out _).mono ?_
 rintro e w1 ⟨rfl,hB1⟩
 have hn:=yaa (o:= .cells #[.int .i64 y, .int .i64 mo, .int .i64 d, .int .i64 h, .int .i64 m, .int .i64 sc] 66) (Below.refl w1.heap.size w1) (zG _)
 have HF1:=hid ((HF.out.keep hB1).keep hn)
 have hX1:=ya3 w1 (.int .i64 y) (.int .i64 mo) (.int .i64 d) (.int .i64 h) (.int .i64 m) (.int .i64 sc) 66
 obtain ⟨W1,hW1⟩:∃W1,w1.alloc (.cells #[.int .i64 y, .int .i64 mo, .int .i64 d, .int .i64 h, .int .i64 m, .int .i64 sc] 66)=W1:=⟨_,rfl⟩
 obtain ⟨b9,hb9⟩:∃b,w1.heap.size=b:=⟨_,rfl⟩
 rw [hW1] at HF1 hX1
 rw [hb9] at hX1
 have HW:=hid hW1
 have Hb:=hid hb9
 have HS1:=hid (HR.out.below HF1.out.be)
 obtain ⟨⟨t0,t1,t2,t3,t4,t5⟩,-⟩:=hX1
 clear k0 k1 k2 k3 k4 k5 k6 k7 k8 k9 kx s0 s1 s2 s3 s4 s5 s6 s7 s8 s9
 obtain ⟨⟨⟨k0,k1,k2,k3,k4⟩,k5,k6,k7,k8,k9,kx⟩,⟨s0,s1,s2,s3,s4,s5,s6,s7,s8,s9⟩,-⟩:=HF1.out.sas
 clear hB1 hn hW1 hb9
 go_upto_region 2 with fail
 rw [HW.out,Hb.out]
 go_cut [6] from 12 to 21 (fun x6 wx=>x6= .bool bb∧W1=wx)
 case first=>
  by_cases c6:r.l6.length=0
  ·have cb:((r.l6.length:Int) == 0)=true:=by simpa using c6
   by_cases c7:r.l7.length=0
   ·have cb7:((r.l7.length:Int) == 0)=true:=by simpa using c7
    have hf:Hid (bb=true):=by show _ = _; rw [←Hbb.out,zzZ c6,zzZ c7]; rfl
    clear c6 c7
    go_wp2
    go_meet
    exact ⟨by rw [hf.out],by trivial⟩
   ·have cb7:((r.l7.length:Int) == 0)=false:=by simpa using c7
    have hf:Hid (bb=false):=by show _ = _; rw [←Hbb.out,zzd c7,Bool.and_false]
    clear c6 c7
    go_wp2
    go_meet
    exact ⟨by rw [hf.out],by trivial⟩
  ·have cb:((r.l6.length:Int) == 0)=false:=by simpa using c6
   have hf:Hid (bb=false):=by show _ = _; rw [←Hbb.out,zzd c6,Bool.false_and]
   clear c6
   go_wp2
   go_meet
   exact ⟨by rw [hf.out],by trivial⟩
 case rest=>
  obtain ⟨rfl,rfl⟩:=hcut
  go_upto_region 3 with fail
  go_cut [7] from 22 to 48 (fun x7 wx=>x7= .bool pm∧W1=wx)
  case first=>
   by_cases c5:r.l5.length=0
   ·have cb:((r.l5.length:Int) == 0)=true:=by simpa using c5
    by_cases c6:r.fq=6
    ·have cb6:(r.fq != 6)=false:=by simpa using c6
     cases bb
     ·have hf:Hid (pm=true):=by show _ = _; rw [←Em.out,zzZ c5]; simp
      clear c5 c6
      go_wp2
      go_meet
      exact ⟨by rw [hf.out],by trivial⟩
     ·by_cases c2:s 2=mo
      ·have hf:Hid (pm=true):=by show _ = _; rw [←Em.out,zzZ c5,zzZ c2]; simp
       have cb2:(s 2 == mo)=true:=by simpa using c2
       clear c5 c6 c2
       go_wp2
       go_meet
       exact ⟨by rw [hf.out],by trivial⟩
      ·have hf:Hid (pm=b5):=by show _ = _; rw [←Em.out,zzd c2,zzd (fun e=>e c6:¬r.fq≠6)]; simp
       have cb2:(s 2 == mo)=false:=by simpa using c2
       clear c5 c6 c2
       go_wp2_with fail
       refine (k5'.out _ HS1.out).mono ?_
       rintro e w3 ⟨rfl,rfl⟩
       go_wp2
       go_meet
       exact ⟨by rw [hf.out],by trivial⟩
    ·have cb6:(r.fq != 6)=true:=by simpa using c6
     have hf:Hid (pm=true):=by show _ = _; rw [←Em.out,zzZ c5,zzZ (show r.fq≠6 from c6)]; simp
     clear c5 c6
     go_wp2
     go_meet
     exact ⟨by rw [hf.out],by trivial⟩
   ·have cb:((r.l5.length:Int) == 0)=false:=by simpa using c5
    have hf:Hid (pm=b5):=by show _ = _; rw [←Em.out,zzd c5,Bool.false_and,Bool.false_or]
    clear c5
    go_wp2_with fail
    refine (k5'.out _ HS1.out).mono ?_
    rintro e w3 ⟨rfl,rfl⟩
    go_wp2
    go_meet
    exact ⟨by rw [hf.out],by trivial⟩
  case rest=>
   obtain ⟨rfl,rfl⟩:=hcut
   go_upto_region 4 with fail
   go_cut [8] from 49 to 83 (fun x8 wx=>x8= .bool pd∧W1=wx)
   case first=>
    have hn4':=hn4.out
    by_cases c5:r.l6.length=0
    ·have cb:((r.l6.length:Int) == 0)=true:=by simpa using c5
     by_cases c6:r.fq < 5
     ·have hf:Hid (pd=true):=by show _ = _; rw [←Ed.out,zzZ c5,zzZ c6]; simp
      clear c5
      go_wp2
      go_meet
      exact ⟨by rw [hf.out],by trivial⟩
     ·cases bb
      ·have hf:Hid (pd=true):=by show _ = _; rw [←Ed.out,zzZ c5]; simp
       clear c5
       go_wp2
       go_meet
       exact ⟨by rw [hf.out],by trivial⟩
      ·by_cases c2:s 3=d
       ·have hf:Hid (pd=true):=by show _ = _; rw [←Ed.out,zzZ c5,zzZ c2]; simp
        have cb2:(s 3 == d)=true:=by simpa using c2
        clear c5 c2
        go_wp2
        go_meet
        exact ⟨by rw [hf.out],by trivial⟩
       ·have hf:Hid (pd= (u6 || u6n)):=by show _ = _; rw [←Ed.out,zzd c2,zzd c6]; simp
        have cb2:(s 3 == d)=false:=by simpa using c2
        clear c5 c2
        cases u6
        ·go_wp2_with fail
         refine (k6'.out _ HS1.out).mono ?_
         rintro e w3 ⟨rfl,rfl⟩
         go_wp2_with fail
         refine (k6n.out _ HS1.out).mono ?_
         rintro e w4 ⟨rfl,rfl⟩
         go_wp2
         go_meet
         exact ⟨by rw [hf.out]; rfl,by trivial⟩
        ·go_wp2_with fail
         refine (k6'.out _ HS1.out).mono ?_
         rintro e w3 ⟨rfl,rfl⟩
         go_wp2
         go_meet
         exact ⟨by rw [hf.out]; rfl,by trivial⟩
    ·have cb:((r.l6.length:Int) == 0)=false:=by simpa using c5
     have hf:Hid (pd= (u6 || u6n)):=by show _ = _; rw [←Ed.out,zzd c5,Bool.false_and,Bool.false_or]
     clear c5
     cases u6
     ·go_wp2_with fail
      refine (k6'.out _ HS1.out).mono ?_
      rintro e w3 ⟨rfl,rfl⟩
      go_wp2_with fail
      refine (k6n.out _ HS1.out).mono ?_
      rintro e w4 ⟨rfl,rfl⟩
      go_wp2
      go_meet
      exact ⟨by rw [hf.out]; rfl,by trivial⟩
     ·go_wp2_with fail
      refine (k6'.out _ HS1.out).mono ?_
      rintro e w3 ⟨rfl,rfl⟩
      go_wp2
      go_meet
      exact ⟨by rw [hf.out]; rfl,by trivial⟩
   case rest=>
    obtain ⟨rfl,rfl⟩:=hcut
    clear hn4
    cases pm
    ·go_wp2
     go_ret
     exact ⟨rfl,HF1.out.be⟩
    cases pd
    ·go_wp2
     go_ret
     exact ⟨rfl,HF1.out.be⟩
    go_wp2_with fail
    refine (kW.out _ HS1.out).mono ?_
    rintro e w3 ⟨rfl,hB3⟩
    have HF3:=hid (HF1.out.keep hB3)
    clear hB3 k0 k1 k2 k3 k4 k5 k6 k7 k8 k9 kx s0 s1 s2 s3 s4 s5 s6 s7 s8 s9 t0 t1 t2 t3 t4 t5
    go_wp2
    go_ret
    exact ⟨rfl,HF3.out.be⟩
end
section
open Go.RowKit
attribute [local go_sem ↓] yaK
attribute [local go_sem] yaA
abbrev DvS (w:World) (r:Ru) (b5 b8:Nat) (y mo d h m s:Int) (F:Cl) (W:World):Prop:=
 RuC W w.heap.size r∧Six W b5 (.int .i64 y) (.int .i64 mo) (.int .i64 d) (.int .i64 h) (.int .i64 m) (.int .i64 s)∧(W.cell? ⟨b8,4,none⟩=some (.int .u64 (F.m 4:Nat))∧W.cell? ⟨b8,5,none⟩=some (.int .u64 (F.m 5:Nat)))∧TmF w r b5 b8 y mo d h m s F W
theorem TmF.dvs {w W:World} {r:Ru} {b5 b8:Nat} {y mo d h m s:Int} {F:Cl} (k:TmF w r b5 b8 y mo d h m s F W):DvS w r b5 b8 y mo d h m s F W:=⟨k.rb.all,k.six,⟨k.cl.at 4 rfl,k.cl.at 5 rfl⟩,k⟩
theorem DvS.keep {w W W':World} {r:Ru} {b5 b8:Nat} {y mo d h m s:Int} {F:Cl} (k:DvS w r b5 b8 y mo d h m s F W) (hb:Below W.heap.size W W'):DvS w r b5 b8 y mo d h m s F W':=(k.2.2.2.keep hb).dvs
theorem DaysV_no (r:Ru) (w:World) (hr:RuS w r) (hm:r.Sm 1000000) (hc:¬yaf r=0):Calls Tryz.prog 24 #[ruv r] w fun e w'=>e= .returned (.tuple #[.int .u64 (domV r:Nat), .int .u64 (endV r:Nat)])∧Below w.heap.size w w':=by
 have hB0:Below w.heap.size w (w.alloc (.cells (yai r).toArray 25)):=yaa (Below.refl _ _) (zG _)
 have cB:=hid (ybe r _ (hr.below hB0) hm)
 have HB0:=hid hB0
 rw [show domV r=0 by rw [domV,if_neg hc],show endV r=0 by rw [endV,if_neg hc]]
 have hb:(yaf r == 0)=false:=by simpa using hc
 rw [hb] at cB
 obtain ⟨y,mo,d,h,m,s,hst⟩:=ybv r.st
 rw [hst] at cB
 clear hc hb hst hr hm hB0
 go_enter Tryz.func24,Tryz.ntmps24
 go_wp2_with fail
 refine cB.out.mono ?_
 rintro e w1 ⟨rfl,hB1⟩
 have HB1:=hid ((HB0.out.trans (hB1.mono (by simp only [zzN]; omega))).trans ((yaa (o:= .cells #[.int .i64 y, .int .i64 mo, .int .i64 d, .int .i64 h, .int .i64 m, .int .i64 s] 66) (Below.refl w1.heap.size w1) (zG _)).mono (by have:=hB1.size; simp only [zzN] at this; omega)))
 clear hB1
 go_wp2
 go_ret2
 exact ⟨rfl,HB1.out⟩
end
end Go.Proofs.YtjahgimnfliooaaGreatDoor
