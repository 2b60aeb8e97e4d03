/-
  feriaref32.Time, and what it has to do with rule.Times' masks.
  The months and the days of a rule: the masks, and the document's.
  A day's shape, number by number; what an Ord says of it.
  The weekdays of a rule: the mask and the Ord, and the document's.
-/
import Derived.Test.YtjahgimnfliooaaGreatDoorQ957032
import Derived.Deep.CutRange
import Derived.Test.YtjahgimnfliooaaGreatDoorQ3bc6b4
import Derived.Test.YtjahgimnfliooaaGreatDoorQbd5244
set_option maxRecDepth 100000
set_option maxHeartbeats 25600000
namespace Go.Proofs.YtjahgimnfliooaaGreatDoor
set_option linter.unusedVariables false
section
open Go.RowKit
def ycz (l:List Int) (at' freq fq x:Int):Bool:=(decide (l.length=0) && (decide (fq < freq) || decide (x=at'))) || decide (x∈l)
theorem ybw {l:List Int} {x:Int} (h0:0≤x) (h1:x < 64):hasB (ofM l) x=decide (x∈l):=by
 rw [hasB,zzZ h0,zzo,ofM,ybh,zzZ (by omega:x.toNat < 64),zzo,inB,decide_eq_decide]
 rw [Int.toNat_of_nonneg h0]
theorem ygf {l:List Int} {at' freq fq x:Int} {full:Nat} (h0:0≤x) (h1:x < 64) (hf:hasB full x=true):hasB (oneE l at' freq full fq) x=ycz l at' freq fq x:=by
 rw [oneE,ycz]
 by_cases h:0 < l.length
 ·rw [if_pos h,ybw h0 h1,zzd (by omega:¬l.length=0),Bool.false_and,Bool.false_or]
 ·have hl:l= []:=List.eq_nil_of_length_eq_zero (by omega)
  subst hl
  rw [if_neg h]
  by_cases h2:freq≤fq
  ·rw [if_pos h2,ybw h0 h1,zzd (by omega:¬fq < freq)]
   simp
  ·rw [if_neg h2,hf,zzZ (by omega:fq < freq)]
   simp
theorem ygs:(∀n:Nat,n < 24→(fullCl.m 2).testBit n=true)∧(∀n:Nat,n < 60→(fullCl.m 1).testBit n=true)∧(∀n:Nat,n < 60→(fullCl.m 0).testBit n=true):=by
 refine ⟨?_,?_,?_⟩ <;> decide +kernel
theorem yfh {m:Nat} {x:Int} {k:Nat} (h:∀n:Nat,n < k→m.testBit n=true) (h0:0≤x) (h1:x < k):hasB m x=true:=by
 rw [hasB,zzZ h0,zzo]; exact h _ (by omega)
def yeP (r:Ru) (n:Int):Bool:=ycz r.l8 (r.st % 86400 / 3600) 3 r.fq (n / 3600) && (ycz r.l9 (r.st % 86400 / 60 % 60) 2 r.fq (n % 3600 / 60) && ycz r.lx (r.st % 86400 % 60) 1 r.fq (n % 60))
theorem time_law {r:Ru} {n:Int} (hc:yaf r=0) (h0:0≤n) (h1:n < 86400):(hasB (tmH r) (n / 3600) && (hasB (tmM r) (n % 3600 / 60) && hasB (tmS r) (n % 60)))=yeP r n:=by
 rw [tmH,tmM,tmS,if_pos hc,if_pos hc,if_pos hc,yeP,
  ygf (by omega) (by omega) (yfh ygs.1 (by omega) (by omega)),
  ygf (by omega) (by omega) (yfh ygs.2.1 (by omega) (by omega)),
  ygf (by omega) (by omega) (yfh ygs.2.2 (by omega) (by omega))]
theorem RTime_any (r:Ru) (n:Int) (w:World) (hr:RuS w r) (hm:r.Sm 1000000) (hw:winB r.st=true) (h0:0≤n) (h1:n < 86400):Calls Tryz.prog 49 #[ruv r, .int .i64 n] w fun e w'=>e= .returned (.bool (yeP r n))∧Below w.heap.size w w':=by
 have hB0:Below w.heap.size w (w.alloc (.cells (yai r).toArray 25)):=yaa (Below.refl _ _) (zG _)
 have cS:=hid (yeg r.st (w.alloc (.cells (yai r).toArray 25)) hw)
 rw [ya1 hw] at cS
 have HB0:=hid hB0
 have HRB:=hid (yaJ w r 25)
 rw [yeP]
 have k8:=hid (fun W (h:RuS W r)=>ybQ r.a8 r.c8 r.l8 (n / 3600) W (by have:=hm.n8; omega) h.s8)
 have k9:=hid (fun W (h:RuS W r)=>ybQ r.a9 r.c9 r.l9 (n % 3600 / 60) W (by have:=hm.n9; omega) h.s9)
 have kx:=hid (fun W (h:RuS W r)=>ybQ r.ax r.cx r.lx (n % 60) W (by have:=hm.nx; omega) h.sx)
 obtain ⟨y,hy⟩:∃y,fY (r.st / 86400)=y:=⟨_,rfl⟩
 obtain ⟨mo,hmo⟩:∃y,fMo (r.st / 86400)=y:=⟨_,rfl⟩
 obtain ⟨d,hd⟩:∃y,fD (r.st / 86400)=y:=⟨_,rfl⟩
 obtain ⟨h,hh⟩:∃y,r.st % 86400 / 3600=y:=⟨_,rfl⟩
 obtain ⟨m,hmm⟩:∃y,r.st % 86400 / 60 % 60=y:=⟨_,rfl⟩
 obtain ⟨s,hss⟩:∃y,r.st % 86400 % 60=y:=⟨_,rfl⟩
 rw [hy,hmo,hd,hh,hmm,hss] at cS
 rw [hh,hmm,hss]
 have P8:=hid (rfl:ycz r.l8 h 3 r.fq (n / 3600)=ycz r.l8 h 3 r.fq (n / 3600))
 have P9:=hid (rfl:ycz r.l9 m 2 r.fq (n % 3600 / 60)=ycz r.l9 m 2 r.fq (n % 3600 / 60))
 have Px:=hid (rfl:ycz r.lx s 1 r.fq (n % 60)=ycz r.lx s 1 r.fq (n % 60))
 obtain ⟨p8,e8⟩:∃p,ycz r.l8 h 3 r.fq (n / 3600)=p:=⟨_,rfl⟩
 obtain ⟨p9,e9⟩:∃p,ycz r.l9 m 2 r.fq (n % 3600 / 60)=p:=⟨_,rfl⟩
 obtain ⟨px,ex⟩:∃p,ycz r.lx s 1 r.fq (n % 60)=p:=⟨_,rfl⟩
 have E8:=hid e8
 have E9:=hid e9
 have Ex:=hid ex
 rw [e8,e9,ex]
 rw [ycz] at E8 E9 Ex
 have HR:=hid hr
 clear hr hm hw hB0 hy hmo hd hh hmm hss e8 e9 ex P8 P9 Px
 go_enter Tryz.func49,Tryz.ntmps49
 go_wp2_with fail
 refine cS.out.mono ?_
 rintro e w1 ⟨rfl,hB1⟩
 have hz1:=hB1.size
 rw [zzN] at hz1
 have hn:=yaa (o:= .cells #[.int .i64 y, .int .i64 mo, .int .i64 d, .int .i64 h, .int .i64 m, .int .i64 s] 66) (Below.refl w1.heap.size w1) (zG _)
 have HB1:=hid ((HB0.out.trans (hB1.mono (by rw [zzN]; omega))).trans (hn.mono (by omega)))
 have HR1:=hid ((HRB.out.below hB1 (by rw [zzN]; omega)).below hn (by omega))
 have hX1:=ya3 w1 (.int .i64 y) (.int .i64 mo) (.int .i64 d) (.int .i64 h) (.int .i64 m) (.int .i64 s) 66
 obtain ⟨W1,hW1⟩:∃W1,w1.alloc (.cells #[.int .i64 y, .int .i64 mo, .int .i64 d, .int .i64 h, .int .i64 m, .int .i64 s] 66)=W1:=⟨_,rfl⟩
 obtain ⟨b5,hb5⟩:∃b,w1.heap.size=b:=⟨_,rfl⟩
 rw [hW1] at HB1 HR1 hX1
 rw [hb5] at hX1
 have HW:=hid hW1
 have Hb:=hid hb5
 have HS1:=hid (HR.out.below HB1.out)
 obtain ⟨⟨s0,s1,s2,s3,s4,s5⟩,-⟩:=hX1
 obtain ⟨⟨k0,k1,k2,k3,k4⟩,q5,q6,q7,q8,q9,qx⟩:=HR1.out.all
 clear hB1 hn hz1 HRB HB0 hW1 hb5
 go_upto_region 2 with fail
 rw [HW.out,Hb.out]
 go_upto_region 3 with fail
 go_cut [9] from 21 to 41 (fun x9 wx=>x9= .bool p8∧W1=wx)
 case first=>
  by_cases c0:r.l8.length=0
  ·have cb:((r.l8.length:Int) == 0)=true:=by simpa using c0
   have hl0:r.l8= []:=List.eq_nil_of_length_eq_zero c0
   by_cases c1:r.fq < 3
   ·have hf:Hid (p8=true):=by show _ = _; rw [←E8.out,zzZ c0,zzZ c1]; rfl
    clear c0 hl0
    go_wp2
    go_meet
    exact ⟨by rw [hf.out],by trivial⟩
   ·by_cases c2:n / 3600=h
    ·have hf:Hid (p8=true):=by show _ = _; rw [←E8.out,zzZ c0,zzZ c2,Bool.or_true]; rfl
     have cb2:(n / 3600 == h)=true:=by simpa using c2
     clear c0 hl0 c2
     go_wp2
     go_meet
     exact ⟨by rw [hf.out],by trivial⟩
    ·have hf:Hid (p8=decide (n / 3600∈r.l8)):=by show _ = _; rw [←E8.out,zzd c1,zzd c2,Bool.or_false,Bool.and_false,Bool.false_or]
     have cb2:(n / 3600 == h)=false:=by simpa using c2
     clear c0 hl0 c2
     go_wp2_with fail
     refine (k8.out _ HS1.out).mono ?_
     rintro e w3 ⟨rfl,rfl⟩
     go_wp2
     go_meet
     exact ⟨by rw [hf.out],by trivial⟩
  ·have cb:((r.l8.length:Int) == 0)=false:=by simpa using c0
   have hf:Hid (p8=decide (n / 3600∈r.l8)):=by show _ = _; rw [←E8.out,zzd c0,Bool.false_and,Bool.false_or]
   clear c0
   go_wp2_with fail
   refine (k8.out _ HS1.out).mono ?_
   rintro e w3 ⟨rfl,rfl⟩
   go_wp2
   go_meet
   exact ⟨by rw [hf.out],by trivial⟩
 case rest=>
  obtain ⟨rfl,rfl⟩:=hcut
  go_upto_region 4 with fail
  go_cut [10] from 42 to 62 (fun x10 wx=>x10= .bool p9∧W1=wx)
  case first=>
   by_cases c0:r.l9.length=0
   ·have cb:((r.l9.length:Int) == 0)=true:=by simpa using c0
    have hl0:r.l9= []:=List.eq_nil_of_length_eq_zero c0
    by_cases c1:r.fq < 2
    ·have hf:Hid (p9=true):=by show _ = _; rw [←E9.out,zzZ c0,zzZ c1]; rfl
     clear c0 hl0
     go_wp2
     go_meet
     exact ⟨by rw [hf.out],by trivial⟩
    ·by_cases c2:n % 3600 / 60=m
     ·have hf:Hid (p9=true):=by show _ = _; rw [←E9.out,zzZ c0,zzZ c2,Bool.or_true]; rfl
      have cb2:(n % 3600 / 60 == m)=true:=by simpa using c2
      clear c0 hl0 c2
      go_wp2
      go_meet
      exact ⟨by rw [hf.out],by trivial⟩
     ·have hf:Hid (p9=decide (n % 3600 / 60∈r.l9)):=by show _ = _; rw [←E9.out,zzd c1,zzd c2,Bool.or_false,Bool.and_false,Bool.false_or]
      have cb2:(n % 3600 / 60 == m)=false:=by simpa using c2
      clear c0 hl0 c2
      go_wp2_with fail
      refine (k9.out _ HS1.out).mono ?_
      rintro e w3 ⟨rfl,rfl⟩
      go_wp2
      go_meet
      exact ⟨by rw [hf.out],by trivial⟩
   ·have cb:((r.l9.length:Int) == 0)=false:=by simpa using c0
    have hf:Hid (p9=decide (n % 3600 / 60∈r.l9)):=by show _ = _; rw [←E9.out,zzd c0,Bool.false_and,Bool.false_or]
    clear c0
    go_wp2_with fail
    refine (k9.out _ HS1.out).mono ?_
    rintro e w3 ⟨rfl,rfl⟩
    go_wp2
    go_meet
    exact ⟨by rw [hf.out],by trivial⟩
  case rest=>
   obtain ⟨rfl,rfl⟩:=hcut
   cases p8
   ·go_wp2
    go_ret
    exact ⟨rfl,HB1.out⟩
   cases p9
   ·go_wp2
    go_ret
    exact ⟨rfl,HB1.out⟩
   by_cases c0:r.lx.length=0
   ·have cb:((r.lx.length:Int) == 0)=true:=by simpa using c0
    have hl0:r.lx= []:=List.eq_nil_of_length_eq_zero c0
    by_cases c1:r.fq < 1
    ·have hf:Hid (px=true):=by show _ = _; rw [←Ex.out,zzZ c0,zzZ c1]; rfl
     clear c0 hl0
     go_wp2
     go_ret
     exact ⟨by rw [hf.out]; rfl,HB1.out⟩
    ·by_cases c2:n % 60=s
     ·have hf:Hid (px=true):=by show _ = _; rw [←Ex.out,zzZ c0,zzZ c2,Bool.or_true]; rfl
      have cb2:(n % 60 == s)=true:=by simpa using c2
      clear c0 hl0 c2
      go_wp2
      go_ret
      exact ⟨by rw [hf.out]; rfl,HB1.out⟩
     ·have hf:Hid (px=decide (n % 60∈r.lx)):=by show _ = _; rw [←Ex.out,zzd c1,zzd c2,Bool.or_false,Bool.and_false,Bool.false_or]
      have cb2:(n % 60 == s)=false:=by simpa using c2
      clear c0 hl0 c2
      go_wp2_with fail
      refine (kx.out _ HS1.out).mono ?_
      rintro e w3 ⟨rfl,rfl⟩
      go_wp2
      go_ret
      exact ⟨by rw [hf.out]; rfl,HB1.out⟩
   ·have cb:((r.lx.length:Int) == 0)=false:=by simpa using c0
    have hf:Hid (px=decide (n % 60∈r.lx)):=by show _ = _; rw [←Ex.out,zzd c0,Bool.false_and,Bool.false_or]
    clear c0
    go_wp2_with fail
    refine (kx.out _ HS1.out).mono ?_
    rintro e w3 ⟨rfl,rfl⟩
    go_wp2
    go_ret
    exact ⟨by rw [hf.out]; rfl,HB1.out⟩
end
section
open Go.RowKit
def yb8 (r:Ru):Bool:=decide (r.l6.length=0) && decide (r.l7.length=0)
def yi0 (r:Ru) (x:Int):Bool:=(decide (r.l5.length=0) && (decide (r.fq≠6) || (!yb8 r || decide (x=fMo (r.st / 86400))))) || decide (x∈r.l5)
theorem ydK:(∀n:Nat,n < 13→1≤n→(fullCl.m 3).testBit n=true)∧(∀n:Nat,n < 32→1≤n→(fullCl.m 4).testBit n=true)∧(∀n:Nat,n < 32→1≤n→(fullCl.m 5).testBit n=true):=by
 refine ⟨?_,?_,?_⟩ <;> decide +kernel
theorem ybP {m:Nat} {x:Int} {k:Nat} (h:∀n:Nat,n < k→1≤n→m.testBit n=true) (h0:1≤x) (h1:x < k):hasB m x=true:=by
 rw [hasB,zzZ (by omega:0≤x),zzo]; exact h _ (by omega) (by omega)
theorem month_law {r:Ru} {x:Int} (hc:yaf r=0) (h0:1≤x) (h1:x≤12):hasB (ya7 r) x=yi0 r x:=by
 rw [ya7,if_pos hc,yi0]
 by_cases h:0 < r.l5.length
 ·rw [if_pos h,ybw (by omega) (by omega),zzd (by omega:¬r.l5.length=0),Bool.false_and,Bool.false_or]
 ·have hl:r.l5= []:=List.eq_nil_of_length_eq_zero (by omega)
  rw [if_neg h,hl]
  by_cases h2:r.fq=6∧r.l6.length=0∧r.l7.length=0
  ·rw [if_pos h2,ybw (by omega) (by omega),yb8,zzZ h2.2.1,zzZ h2.2.2,show decide (r.fq≠6)=false from zzd (fun c=>c h2.1)]
   simp
  ·rw [if_neg h2,ybP ydK.1 h0 (by omega)]
   have e:(decide (r.fq≠6) || (!yb8 r || decide (x=fMo (r.st / 86400))))=true:=by
    by_cases a:r.fq=6
    ·have:yb8 r=false:=by
      rw [yb8]
      by_cases b:r.l6.length=0
      ·rw [zzd (fun c=>h2 ⟨a,b,c⟩),Bool.and_false]
      ·rw [zzd b,Bool.false_and]
     rw [this]; simp
    ·rw [zzZ a]; rfl
   rw [e]; simp
def negM (l:List Int):Nat:=l.foldl (fun m n=>m ||| ofM [-n]) 0
def domV (r:Ru):Nat:=if yaf r=0 then (if r.l6.headD 0 < 0 then fullCl.m 4 else if 0 < r.l6.length then ofM r.l6 else if r.l7.length=0∧(r.fq=5∨r.fq=6) then ofM [fD (r.st / 86400)] else fullCl.m 4) else 0
def endV (r:Ru):Nat:=if yaf r=0 then (if r.l6.headD 0 < 0 then negM r.l6 else fullCl.m 5) else 0
theorem yiZ (x:Int) (h0:0≤x) (h1:x < 64):∀(l:List Int) (m:Nat),(l.foldl (fun m n=>m ||| ofM [-n]) m).testBit x.toNat= (m.testBit x.toNat || decide (-x∈l))
 | [],m=>by simp
 | n :: l,m=>by
   rw [List.foldl_cons,yiZ x h0 h1 l]
   have e:(ofM [-n]).testBit x.toNat=decide (x= -n):=by
    have:=ybw (l:= [-n]) h0 h1
    rw [hasB,zzZ h0,zzo] at this
    rw [this]; simp
   rw [Nat.testBit_or,e,Bool.or_assoc]
   congr 1
   rw [zze]
   simp only [Bool.or_eq_true,zzY,List.mem_cons]
   constructor
   ·rintro (h | h)
    ·exact .inl (by omega)
    ·exact .inr h
   ·rintro (h | h)
    ·exact .inl (by omega)
    ·exact .inr h
theorem yh4 {l:List Int} {x:Int} (h0:0≤x) (h1:x < 64):hasB (negM l) x=decide (-x∈l):=by
 rw [hasB,zzZ h0,zzo,negM,yiZ x h0 h1,Nat.zero_testBit,Bool.false_or]
theorem yea {r:Ru} (h:yeb r=0):(r.l6.length≤64∧∀x∈r.l6,(-31≤x∧x≤31)∧x≠0)∧mixB r.l6=false∧(0 < r.l6.length→r.fq≠4):=by
 unfold yeb at h
 split at h
 ·rename_i hl
  obtain ⟨n,hx⟩:=ye8 hl
  split at h
  ·cases h
  ·rename_i hz
   split at h
   ·cases h
   ·rename_i h4
    split at h
    ·cases h
    ·rename_i hm
     refine ⟨⟨n,fun x hxm=>⟨hx x hxm,fun e=>hz (List.any_eq_true.2 ⟨x,hxm,by simp [e]⟩)⟩⟩,by simpa using hm,fun a b=>h4 ⟨a,b⟩⟩
 ·rename_i hl
  exact absurd h hl
theorem yiU {l:List Int} (hz:∀x∈l,x≠0) (hm:mixB l=false):(l.headD 0 < 0→∀x∈l,x < 0)∧(¬l.headD 0 < 0→∀x∈l,0 < x):=by
 rw [←yhR] at hm
 have key:∀x∈l,sgP (l.headD 0) x=false:=fun x hx=>by
  rw [←Bool.not_eq_true]; intro e
  have:l.any (sgP (l.headD 0))=true:=List.any_eq_true.2 ⟨x,hx,e⟩
  rw [hm] at this; cases this
 have two:∀x∈l,(x < 0↔l.headD 0 < 0):=fun x hx=>by
  have:=key x hx
  rw [sgP,Bool.or_eq_false_iff,bne_eq_false_iff_eq] at this
  exact decide_eq_decide.1 this.1
 exact ⟨fun h x hx=>(two x hx).2 h,fun h x hx=>by
  have h1:=hz x hx
  have h2:¬x < 0:=fun e=>h ((two x hx).1 e)
  omega⟩
def dayVB (r:Ru) (x b:Int):Bool:=(decide (r.l6.length=0) && (decide (r.fq < 5) || (!yb8 r || decide (x=fD (r.st / 86400))))) || (decide (x∈r.l6) || decide (-b∈r.l6))
theorem day_law {r:Ru} {x b:Int} (hc:yaf r=0) (h0:1≤x) (h1:x≤31) (h2:1≤b) (h3:b≤31):(hasB (domV r) x && hasB (endV r) b)=dayVB r x b:=by
 obtain ⟨⟨-,hx⟩,hm,-⟩:=yea (yaw hc).e6
 obtain ⟨sn,sp⟩:=yiU (fun y hy=>(hx y hy).2) hm
 have hu:0≤r.fq∧r.fq≤6:=by simpa only [unB,zzY] using (ybo (yaw hc).h).2
 rw [domV,endV,if_pos hc,if_pos hc,dayVB]
 by_cases hn:r.l6.headD 0 < 0
 ·have hne:r.l6.length≠0:=fun e=>by rw [List.eq_nil_of_length_eq_zero e] at hn; exact absurd hn (by simp)
  rw [if_pos hn,if_pos hn,ybP ydK.2.1 h0 (by omega),zzo,yh4 (by omega) (by omega),zzd hne,Bool.false_and,Bool.false_or,
   zzd (fun e=>by have:=sn hn x e; omega:¬x∈r.l6),Bool.false_or]
 ·rw [if_neg hn,if_neg hn,ybP ydK.2.2 h2 (by omega),Bool.and_true]
  have hb:decide (-b∈r.l6)=false:=zzd (fun e=>by have:=sp hn (-b) e; omega)
  rw [hb,Bool.or_false]
  by_cases h:0 < r.l6.length
  ·rw [if_pos h,ybw (by omega) (by omega),zzd (by omega:¬r.l6.length=0),Bool.false_and,Bool.false_or]
  ·have hl:r.l6= []:=List.eq_nil_of_length_eq_zero (by omega)
   have hl0:r.l6.length=0:=by omega
   rw [if_neg h,zzZ hl0,zzo,zzd (by rw [hl]; simp:¬x∈r.l6),Bool.or_false,yb8,zzZ hl0,zzo]
   by_cases h7:r.l7.length=0∧(r.fq=5∨r.fq=6)
   ·rw [if_pos h7,ybw (by omega) (by omega),zzZ h7.1,zzd (by omega:¬r.fq < 5)]
    simp
   ·rw [if_neg h7,ybP ydK.2.1 h0 (by omega)]
    by_cases a:r.l7.length=0
    ·rw [zzZ (by omega:r.fq < 5)]; rfl
    ·rw [zzd a]; simp
end
section
open Go.RowKit
def shq (s:Nat→Int):Value:= .agg #[.int .i64 (s 0), .int .i64 (s 1), .int .i64 (s 2), .int .i64 (s 3), .int .i64 (s 4), .int .i64 (s 5), .int .i64 (s 6), .int .i64 (s 7), .int .i64 (s 8), .int .i64 (s 9)]
def nthN (oin:Int) (oback:Bool) (s:Nat→Int):Int:=if oin=1 then (if oback then s 7 else s 6) else (if oback then s 9 else s 8)
def nthB (oin:Int) (oback:Bool) (od:Nat→Nat) (s:Nat→Int):Bool:=if oin=0 then true else hasB (od (s 5).toNat) (nthN oin oback s)
abbrev ShS (W:World) (b:Nat) (s:Nat→Int):Prop:=ShC W b (s 0) (s 1) (s 2) (s 3) (s 4) (s 5) (s 6) (s 7) (s 8) (s 9)
abbrev yaV (s:Nat→Int):List Value:= [.int .i64 (s 0), .int .i64 (s 1), .int .i64 (s 2), .int .i64 (s 3), .int .i64 (s 4), .int .i64 (s 5), .int .i64 (s 6), .int .i64 (s 7), .int .i64 (s 8), .int .i64 (s 9)]
def shF (n:Int) (i:Nat):Int:=match i with
 | 0=>n | 1=>fY n | 2=>fMo n | 3=>fD n | 4=>lenI (fY n) (fMo n) - fD n+1 | 5=>(n % 7+3) % 7+1 | 6=>(fD n - 1) / 7+1 | 7=>(lenI (fY n) (fMo n) - fD n) / 7+1 | 8=>(fOr n - 1) / 7+1 | _=>(365+yaO (fY n) - fOr n) / 7+1
theorem ybg (n:Int):shq (shF n)=shN n:=rfl
theorem shF_wk (n:Int):1≤shF n 5∧shF n 5≤7:=by show 1≤(n % 7+3) % 7+1∧(n % 7+3) % 7+1≤7; omega
theorem shF_yr {n:Int} (h0:0≤n) (h1:n < 146097):0≤shF n 1∧shF n 1 < 100000:=by
 have:=yaL h0 h1
 show 0≤fY n∧fY n < 100000
 omega
end
section
open Go.RowKit
theorem yiF (x:Int) (h0:0≤x) (h1:x < 64):∀(l:List (Int × Int)) (m:Nat),(l.foldl (fun m n=>m ||| ofM [n.2]) m).testBit x.toNat= (m.testBit x.toNat || l.any fun n=>decide (n.2=x))
 | [],m=>by simp
 | n :: l,m=>by
   rw [List.foldl_cons,yiF x h0 h1 l]
   have e:(ofM [n.2]).testBit x.toNat=decide (n.2=x):=by
    have:=ybw (l:= [n.2]) h0 h1
    rw [hasB,zzZ h0,zzo] at this
    rw [this]; simp [eq_comm]
   rw [Nat.testBit_or,e,List.any_cons,Bool.or_assoc]
theorem yhM {l:List (Int × Int)} {x:Int} (h0:0≤x) (h1:x < 64):hasB (wkM l) x=l.any fun n=>decide (n.2=x):=by
 rw [hasB,zzZ h0,zzo,wkM,yiF x h0 h1,Nat.zero_testBit,Bool.false_or]
theorem yiG (j:Nat) (x:Int) (h0:0≤x) (h1:x < 64):∀(l:List (Int × Int)) (m:Nat),(l.foldl (fun m n=>if n.2= (j:Int) then m ||| ofM [max n.1 (-n.1)] else m) m).testBit x.toNat= (m.testBit x.toNat || l.any fun n=>decide (n.2= (j:Int)) && decide (max n.1 (-n.1)=x))
 | [],m=>by simp
 | n :: l,m=>by
   rw [List.foldl_cons,yiG j x h0 h1 l,List.any_cons]
   by_cases hj:n.2= (j:Int)
   ·have e:(ofM [max n.1 (-n.1)]).testBit x.toNat=decide (max n.1 (-n.1)=x):=by
     have:=ybw (l:= [max n.1 (-n.1)]) h0 h1
     rw [hasB,zzZ h0,zzo] at this
     rw [this]; simp [eq_comm]
    rw [if_pos hj,Nat.testBit_or,e,zzZ hj,zzo,Bool.or_assoc]
   ·rw [if_neg hj,zzd hj,Bool.false_and,Bool.false_or]
theorem yf1 {l:List (Int × Int)} {j:Nat} {x:Int} (h0:0≤x) (h1:x < 64):hasB (wkD l j) x=l.any fun n=>decide (n.2= (j:Int)) && decide (max n.1 (-n.1)=x):=by
 rw [hasB,zzZ h0,zzo,wkD,yiG j x h0 h1,Nat.zero_testBit,Bool.false_or]
def atW (r:Ru) (s:Nat→Int) (n:Int):Int:=if 0 < n then (if r.fq=6∧r.l5.length=0 then s 8 else s 6) else if n < 0 then (if r.fq=6∧r.l5.length=0 then -s 9 else -s 7) else 0
def yjB (r:Ru) (s:Nat→Int):Bool:=if r.l7.length=0 then decide (r.fq≠4) || decide (s 5=wdI (r.st / 86400)) else r.l7.any fun x=>decide (x.2=s 5) && decide (x.1=atW r s x.1)
def woI (r:Ru):Int:=if yaf r=0∧outB 0 0 (nsL r)=true then yal r else 0
def woB (r:Ru):Bool:=if yaf r=0∧outB 0 0 (nsL r)=true then ybs r else false
def woD (r:Ru) (j:Nat):Nat:=if yaf r=0∧outB 0 0 (nsL r)=true then wkD r.l7 j else 0
theorem weekO_ord (r:Ru):yex r=ordv (woI r) (woB r) (woD r):=by
 unfold yex woI woB woD
 by_cases h:yaf r=0∧outB 0 0 (nsL r)=true
 ·simp only [if_pos h]
 ·simp only [if_neg h]; rfl
theorem yeQ {l:List Int} (hm:mixB l=false):(∀x∈l,x < 0)∨(∀x∈l,x=0)∨(∀x∈l,0 < x):=by
 rw [←yhR] at hm
 have key:∀x∈l,sgP (l.headD 0) x=false:=fun x hx=>by
  rw [←Bool.not_eq_true]; intro e
  have:l.any (sgP (l.headD 0))=true:=List.any_eq_true.2 ⟨x,hx,e⟩
  rw [hm] at this; cases this
 have two:∀x∈l,(x < 0↔l.headD 0 < 0)∧(x=0↔l.headD 0=0):=fun x hx=>by
  have:=key x hx
  rw [sgP,Bool.or_eq_false_iff,bne_eq_false_iff_eq,bne_eq_false_iff_eq] at this
  refine ⟨decide_eq_decide.1 this.1,?_⟩
  have h2:=this.2
  rw [zze] at h2
  simpa using h2
 rcases Int.lt_trichotomy (l.headD 0) 0 with h | h | h
 ·exact .inl fun x hx=>(two x hx).1.2 h
 ·exact .inr (.inl fun x hx=>(two x hx).2.2 h)
 ·refine .inr (.inr fun x hx=>?_)
  have:=two x hx
  have a:¬x < 0:=fun e=>by have:=this.1.1 e; omega
  have b:¬x=0:=fun e=>by have:=this.2.1 e; omega
  omega
theorem yhf:∀n:Nat,n < 8→1≤n→(fullCl.m 6).testBit n=true:=by decide +kernel
theorem yfS {α:Type} {l:List α} {p q:α→Bool} (h:∀x∈l,p x=q x):l.any p=l.any q:=by
 rw [zze,List.any_eq_true,List.any_eq_true]
 constructor
 ·rintro ⟨x,hx,e⟩; exact ⟨x,hx,by rw [←h x hx]; exact e⟩
 ·rintro ⟨x,hx,e⟩; exact ⟨x,hx,by rw [h x hx]; exact e⟩
theorem week_law {r:Ru} {s:Nat→Int} (hc:yaf r=0) (h5:1≤s 5∧s 5≤7) (h6:1≤s 6∧s 6 < 64) (h7:1≤s 7∧s 7 < 64) (h8:1≤s 8∧s 8 < 64) (h9:1≤s 9∧s 9 < 64) :
  (hasB (ybE r) (s 5) && nthB (woI r) (woB r) (woD r) s)=yjB r s:=by
 obtain ⟨-,hx,hm,-,-⟩:=ycn (yaw hc).e7
 rw [ybE,if_pos hc,yjB]
 by_cases hn:r.l7= []
 ·have hout:outB 0 0 (nsL r)=false:=by rw [nsL,hn]; rfl
  have hno:¬(yaf r=0∧outB 0 0 (nsL r)=true):=fun e=>by rw [hout] at e; cases e.2
  rw [if_pos hn,if_pos (show r.l7.length=0 by rw [hn]; rfl),nthB,woI,if_neg hno,if_pos rfl,Bool.and_true]
  by_cases h4:r.fq=4
  ·rw [if_pos h4,ybw (by omega) (by omega),zzd (fun e=>e h4:¬r.fq≠4),Bool.false_or]
   simp
  ·rw [if_neg h4,ybP yhf h5.1 (by omega),zzZ (show r.fq≠4 from h4),Bool.true_or]
 ·have hl:¬r.l7.length=0:=fun e=>hn (List.eq_nil_of_length_eq_zero e)
  rw [if_neg hn,if_neg hl]
  cases ho:outB 0 0 (nsL r)
  ·have hno:¬(yaf r=0∧outB 0 0 (nsL r)=true):=fun e=>by rw [ho] at e; cases e.2
   rw [if_neg (by simp),yhM (by omega) (by omega),nthB,woI,if_neg hno,if_pos rfl,Bool.and_true]
   apply yfS
   intro x hxm
   have h0:x.1=0:=by
    have:¬outB 0 0 (nsL r)=true:=by rw [ho]; simp
    rw [outB,List.any_eq_true] at this
    have:¬outP 0 0 x.1=true:=fun e=>this ⟨x.1,List.mem_map_of_mem hxm,e⟩
    simp only [outP,Bool.or_eq_true,zzY] at this
    omega
   rw [h0,show atW r s 0=0 by simp [atW],zzZ (rfl:(0:Int)=0),Bool.and_true]
  ·have hyes:yaf r=0∧outB 0 0 (nsL r)=true:=⟨hc,ho⟩
   have hne:yal r≠0:=by unfold yal; split <;> simp
   have hD:∀x,0≤x→x < 64→hasB (woD r (s 5).toNat) x=r.l7.any fun n=>decide (n.2=s 5) && decide (max n.1 (-n.1)=x):=fun x a b=>by
    rw [woD,if_pos hyes,yf1 a b,Int.toNat_of_nonneg (by omega)]
   have hr:1≤nthN (yal r) (ybs r) s∧nthN (yal r) (ybs r) s < 64:=by
    unfold nthN; split <;> split <;> omega
   rw [if_pos rfl,ybP yhf h5.1 (by omega),zzo,nthB,woI,if_pos hyes,if_neg hne,woB,if_pos hyes,hD _ (by omega) hr.2]
   apply yfS
   intro x hxm
   have hmem:x.1∈nsL r:=List.mem_map_of_mem hxm
   have hhead:nsL r≠ []:=fun e=>by rw [e] at hmem; cases hmem
   congr 1
   rw [decide_eq_decide]
   have hhm:(nsL r).headD 0∈nsL r:=by
    cases h:nsL r with
    | nil=>exact absurd h hhead
    | cons a l=>simp
   rcases yeQ hm with hs | hs | hs
   ·have hb:ybs r=true:=by rw [ybs]; exact zzZ (hs _ hhm)
    have hx1:=hs _ hmem
    rw [hb,atW,if_neg (by omega),if_pos hx1]
    unfold nthN yal
    by_cases hf:r.fq=6∧r.l5.length=0
    ·rw [if_pos hf,if_pos hf]; simp only [if_neg (by decide:¬(2:Int)=1),if_true]; omega
    ·rw [if_neg hf,if_neg hf]; simp only [if_true]; omega
   ·exfalso
    have:outB 0 0 (nsL r)=false:=by
     rw [←Bool.not_eq_true]
     intro e
     rw [outB,List.any_eq_true] at e
     obtain ⟨y,hy,hp⟩:=e
     have:=hs y hy
     simp only [outP,Bool.or_eq_true,zzY] at hp
     omega
    rw [ho] at this; cases this
   ·have hb:ybs r=false:=by rw [ybs]; exact zzd (by have:=hs _ hhm; omega)
    have hx1:=hs _ hmem
    rw [hb,atW,if_pos hx1]
    unfold nthN yal
    by_cases hf:r.fq=6∧r.l5.length=0
    ·rw [if_pos hf,if_pos hf]; simp only [if_neg (by decide:¬(2:Int)=1)]; simp; omega
    ·rw [if_neg hf,if_neg hf]; simp; omega
end
end Go.Proofs.YtjahgimnfliooaaGreatDoor
