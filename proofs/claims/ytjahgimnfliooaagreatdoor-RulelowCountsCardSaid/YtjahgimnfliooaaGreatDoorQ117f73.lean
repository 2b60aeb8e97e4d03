/-
  The dates of the window's days, as plain arithmetic: by the program's formula, and by years and months one behind the other.
  What the small functions of num, civil, feriaref01 and feriaref05 compute, of the window's years.
  What civil.Date, civil.Ordinal, feriaref05.Date and feriaref05.Ordinal compute, of the window's days.
  What a day of the window is: week.Shape and feriaref06.Shape.
  Masks as natural numbers below 2^64 given by their bits, and what Go's bit operations on uint64 make of them.
  What mask.Has, mask.Of, feriaref02.Has and feriaref02.Of compute.
-/
import Derived.Test.YtjahgimnfliooaaGreatDoorQ69235a
import Derived.Scope
import Derived.Deep.MidRow
set_option maxRecDepth 100000
set_option maxHeartbeats 25600000
namespace Go.Proofs.YtjahgimnfliooaaGreatDoor
set_option linter.unusedVariables false
section
open Go.RowKit
/-! ### years of 400 years -/
def cg (o:Nat):Nat:=o - o / 1460+o / 36524 - o / 146096
def cst (k:Nat):Nat:=365 * k+k / 4 - k / 100
def cen (k:Nat):Nat:=if k=399 then 146097 else cst (k+1)
theorem cg_step (o:Nat):cg o≤cg (o+1):=by unfold cg; omega
theorem yit (a:Nat):∀d,cg a≤cg (a+d)
 | 0=>zG _
 | d+1=>zI (yit a d) (cg_step (a+d))
theorem cg_ends:∀k,k < 400→365 * k≤cg (cst k)∧cg (cen k - 1) < 365 * (k+1):=by decide +kernel
theorem cg_at (k o:Nat) (hk:k < 400) (h1:cst k≤o) (h2:o < cen k):cg o / 365=k:=by
 obtain ⟨e1,e2⟩:=cg_ends k hk
 have m1:=yit (cst k) (o - cst k)
 have m2:=yit o (cen k - 1 - o)
 rw [show cst k+(o - cst k)=o by omega] at m1
 rw [show o+(cen k - 1 - o)=cen k - 1 by omega] at m2
 omega
theorem yjB (o:Nat):∀m,m < 400→o < cen m→∃k,k < 400∧cst k≤o∧o < cen k
 | 0,_,h=>⟨0,by omega,by simp [cst],h⟩
 | m+1,hm,h=>by
   by_cases h0:cst (m+1)≤o
   ·exact ⟨m+1,hm,h0,h⟩
   ·refine yjB o m (by omega) ?_
    unfold cen
    rw [if_neg (by omega)]; omega
/-! ### months -/
def ya5 (y:Int):Int:=y / 4 - (y - 1) / 4 - (y / 100 - (y - 1) / 100)+(y / 400 - (y - 1) / 400)
theorem yb7 (y:Int):ya5 y=0∨ya5 y=1:=by unfold ya5; omega
theorem leapI_iff (y:Int):ya5 y=1↔y % 4=0∧(y % 100≠0∨y % 400=0):=by unfold ya5; omega
def yii (y:Int):Bool:=decide (y % 4=0∧(y % 100≠0∨y % 400=0))
theorem leapB_I (y:Int):(yii y=true∧ya5 y=1)∨(yii y=false∧ya5 y=0):=by
 have h:=leapI_iff y
 rcases yb7 y with h0 | h0
 ·refine .inr ⟨zzd fun hh=>?_,h0⟩
  have:=h.mpr hh; omega
 ·exact .inl ⟨zzZ (h.mp h0),h0⟩
def lenI (y m:Int):Int:=if m=2 then 28+ya5 y else if m=4∨m=6∨m=9∨m=11 then 30 else 31
def msI (y:Int):Nat→Int
 | 0=>0 | 1=>0 | 2=>31 | 3=>59+ya5 y | 4=>90+ya5 y | 5=>120+ya5 y | 6=>151+ya5 y | 7=>181+ya5 y | 8=>212+ya5 y | 9=>243+ya5 y | 10=>273+ya5 y | 11=>304+ya5 y | _=>334+ya5 y
def ysI (y:Int):Int:=365 * (y - 1970)+(y - 1) / 4 - (y - 1) / 100+(y - 1) / 400 - 477
theorem yf0 (y:Int):ysI (y+1)=ysI y+365+ya5 y:=by
 unfold ysI ya5; rw [show y+1 - 1=y by omega]; omega
theorem yeE (y:Int) (m:Nat) (h1:1≤m) (h2:m < 12):msI y (m+1)=msI y m+lenI y m:=by
 have:m=1∨m=2∨m=3∨m=4∨m=5∨m=6∨m=7∨m=8∨m=9∨m=10∨m=11:=by omega
 rcases this with rfl | rfl | rfl | rfl | rfl | rfl | rfl | rfl | rfl | rfl | rfl <;> simp [msI,lenI] <;> omega
theorem msI_last (y:Int):msI y 12+lenI y 12=365+ya5 y:=by simp [msI,lenI]; omega
theorem ycb (y m:Int):28≤lenI y m∧lenI y m≤31:=by
 have:=yb7 y
 unfold lenI
 split
 ·omega
 ·split <;> omega
structure IsDate (n y:Int) (m:Nat) (d:Int):Prop where
 y0:1970≤y
 y1:y≤2369
 m0:1≤m
 m1:m≤12
 d0:1≤d
 d1:d≤lenI y m
 sum:ysI y+msI y m+d - 1=n
theorem yjb {y:Int} {m:Nat} {d:Int} (h1:1≤m) (h2:m≤12) (d0:1≤d) (d1:d≤lenI y m):0≤msI y m+d - 1∧msI y m+d - 1 < 365+ya5 y:=by
 have hl:=yb7 y
 have:m=1∨m=2∨m=3∨m=4∨m=5∨m=6∨m=7∨m=8∨m=9∨m=10∨m=11∨m=12:=by omega
 rcases this with rfl | rfl | rfl | rfl | rfl | rfl | rfl | rfl | rfl | rfl | rfl | rfl <;> simp [msI,lenI] at d1⊢<;> omega
theorem yiR (y:Int) (d:Nat):ysI y+365 * d≤ysI (y+d):=by
 induction d with
 | zero=>simp
 | succ d ih=>
   have:=yf0 (y+d)
   have hl:=yb7 (y+d)
   rw [show y+((d+1:Nat):Int)=y+d+1 by omega]; omega
theorem ysI_lt {y z:Int} (h:y < z):ysI y+365+ya5 y≤ysI z:=by
 have:=yiR (y+1) (z - (y+1)).toNat
 have h2:=yf0 y
 rw [show y+1+((z - (y+1)).toNat:Int)=z by omega] at this
 omega
theorem msI_lt {y:Int} {m k:Nat} (h1:1≤m) (h:m < k) (h2:k≤12):msI y m+lenI y m≤msI y k:=by
 have hl:=yb7 y
 rw [←yeE y m h1 (by omega)]
 obtain ⟨d,rfl⟩:∃d,k=m+1+d:=⟨k - (m+1),by omega⟩
 induction d with
 | zero=>exact Int.le_refl _
 | succ d ih=>
   have:=ih (by omega) (by omega)
   have h3:=yeE y (m+1+d) (by omega) (by omega)
   have h4:=ycb y ((m+1+d:Nat):Int)
   rw [show m+1+(d+1)=m+1+d+1 by omega,h3]; omega
theorem IsDate.unique {n y z:Int} {m k:Nat} {d e:Int} (h:IsDate n y m d) (g:IsDate n z k e):y=z∧m=k∧d=e:=by
 obtain ⟨_,_,a1,a2,a3,a4,a5⟩:=h
 obtain ⟨_,_,b1,b2,b3,b4,b5⟩:=g
 have u:=yjb a1 a2 a3 a4
 have v:=yjb b1 b2 b3 b4
 have hyz:y=z:=by
  rcases Int.lt_trichotomy y z with h | h | h
  ·have:=ysI_lt h; omega
  ·exact h
  ·have:=ysI_lt h; omega
 subst hyz
 have hmk:m=k:=by
  rcases Nat.lt_trichotomy m k with h | h | h
  ·have:=msI_lt (y:=y) a1 h b2; omega
  ·exact h
  ·have:=msI_lt (y:=y) b1 h a2; omega
 subst hmk
 exact ⟨rfl,rfl,by omega⟩
/-! ### the program's formula -/
def fN (n:Int):Int:=n+719468
def fO (n:Int):Int:=fN n % 146097
def fK (n:Int):Int:=(fO n - fO n / 1460+fO n / 36524 - fO n / 146096) / 365
def fL (n:Int):Int:=fO n - (fK n * 365+fK n / 4 - fK n / 100)
def fM (n:Int):Int:=(5 * fL n+2) / 153
def fD (n:Int):Int:=fL n - (153 * fM n+2) / 5+1
def fMo (n:Int):Int:=(fM n+2) % 12+1
def fY (n:Int):Int:=fN n / 146097 * 400+fK n+(if fMo n≤2 then 1 else 0)
theorem fK_spec (n:Int):∃k:Nat,k < 400∧fK n=k∧(cst k:Int)≤fO n∧fO n < cen k:=by
 obtain ⟨o,ho⟩:∃o:Nat,fO n=o:=⟨(fO n).toNat,by unfold fO; omega⟩
 have hlt:o < 146097:=by unfold fO at ho; omega
 obtain ⟨k,hk,h1,h2⟩:=yjB o 399 (by omega) (by simpa [cen] using hlt)
 refine ⟨k,hk,?_,by rw [ho]; omega,by rw [ho]; omega⟩
 have:=cg_at k o hk h1 h2
 unfold fK
 rw [ho]
 unfold cg at this
 omega
theorem fDate (n:Int) (h0:0≤n) (h1:n < 146097):∃m:Nat,fMo n=m∧IsDate n (fY n) m (fD n)∧0≤fK n∧fK n < 400∧0≤fL n∧fL n < 366:=by
 obtain ⟨k,hk,eK,c1,c2⟩:=fK_spec n
 have hera:(fN n / 146097=4∧fO n=n+135080)∨(fN n / 146097=5∧fO n=n - 11017):=by unfold fO fN; omega
 have hcst:(cst k:Int)=365 * k+k / 4 - k / 100:=by unfold cst; omega
 have hcen:(cen k:Int)=if k=399 then 146097 else 365 * (k+1)+((k:Int)+1) / 4 - ((k:Int)+1) / 100:=by
  unfold cen cst; split <;> omega
 have hL:fL n=fO n - (365 * k+(k:Int) / 4 - k / 100):=by unfold fL; rw [eK]; omega
 have hL0:0≤fL n:=by omega
 have hL1:fL n < 366:=by split at hcen <;> omega
 obtain ⟨L,hLL⟩:∃L,fL n=L:=⟨_,rfl⟩
 have hyear:∀e:Int,(e=4∨e=5)→fN n / 146097=e→(fN n / 146097 * 400+fK n)=400 * e+k:=by intro e _ h; rw [h,eK]; omega
 obtain ⟨e,he,hfe,hoe⟩:∃e:Int,(e=4∨e=5)∧fN n / 146097=e∧fO n=n+719468 - 146097 * e:=by
  rcases hera with ⟨a,b⟩ | ⟨a,b⟩
  ·exact ⟨4, .inl rfl,a,by omega⟩
  ·exact ⟨5, .inr rfl,a,by omega⟩
 have hmp:fM n= (5 * L+2) / 153:=by unfold fM; rw [hLL]
 obtain ⟨M,hM⟩:∃M,fM n=M:=⟨_,rfl⟩
 have hMb:0≤M∧M≤11:=by omega
 have hD:fD n=L - (153 * M+2) / 5+1:=by unfold fD; rw [hLL,hM]
 have hMo:fMo n= (M+2) % 12+1:=by unfold fMo; rw [hM]
 have hY:fY n=400 * e+k+(if (M+2) % 12+1≤2 then 1 else 0):=by unfold fY; rw [hMo,hfe,eK]; split <;> omega
 rw [hLL] at hL hL0 hL1
 rw [hM] at hmp
 rw [hoe] at hL c1 c2
 rw [hcst] at c1
 rw [hcen] at c2
 have fin:0≤fK n∧fK n < 400∧0≤fL n∧fL n < 366:=by omega
 refine ⟨((M+2) % 12+1).toNat,by rw [hMo]; omega,?_,fin⟩
 clear fin
 have:M=0∨M=1∨M=2∨M=3∨M=4∨M=5∨M=6∨M=7∨M=8∨M=9∨M=10∨M=11:=by omega
 have hk9:(k:Int)≤399:=by omega
 have hk0:(0:Int)≤k:=by omega
 obtain ⟨K,hK⟩:∃K:Int,(k:Int)=K:=⟨_,rfl⟩
 have hc2:n+719468 - 146097 * e < 365 * (K+1)+(K+1) / 4 - (K+1) / 100+(if K=399 then 1 else 0):=by
  rw [←hK]; split at c2 <;> rename_i h5
  ·subst h5; simp; omega
  ·rw [if_neg (by omega)]; omega
 rw [hK] at c1 hL hY hk9 hk0
 clear c2 hyear hera hcst hcen hfe hoe hLL hM eK hk hK
 have hif:(if K=399 then (1:Int) else 0)=1∧K=399∨(if K=399 then (1:Int) else 0)=0∧K≠399:=by
  by_cases h:K=399
  ·exact .inl ⟨if_pos h,h⟩
  ·exact .inr ⟨if_neg h,h⟩
 obtain ⟨I,hI⟩:∃I,(if K=399 then (1:Int) else 0)=I:=⟨_,rfl⟩
 rw [hI] at hc2 hif
 clear hI
 obtain ⟨Y,hYY⟩:∃Y,400 * e+K=Y:=⟨_,rfl⟩
 have A:Y / 4=100 * e+K / 4∧Y / 100=4 * e+K / 100∧Y / 400=e:=by omega
 have B:(Y+1) / 4=100 * e+(K+1) / 4∧(Y+1) / 100=4 * e+(K+1) / 100∧(Y+1) / 400=e+I:=by omega
 have H1:ysI Y+ya5 Y=365 * (Y - 1970)+(100 * e+K / 4) - (4 * e+K / 100)+e - 477:=by
  unfold ysI ya5; rw [A.1,A.2.1,A.2.2]; omega
 have H2:ysI (Y+1)=365 * (Y+1 - 1970)+(100 * e+K / 4) - (4 * e+K / 100)+e - 477:=by
  unfold ysI; rw [show Y+1 - 1=Y by omega,A.1,A.2.1,A.2.2]
 have H3:ya5 (Y+1)= (K+1) / 4 - K / 4 - ((K+1) / 100 - K / 100)+I:=by
  unfold ya5; rw [show Y+1 - 1=Y by omega,A.1,A.2.1,A.2.2,B.1,B.2.1,B.2.2]; omega
 have H4:2369≤Y→146097≤ysI (Y+1):=fun h=>by
  have h1:=yiR 2370 (Y+1 - 2370).toNat
  have h2:ysI 2370=146097:=by decide
  rw [show (2370:Int)+((Y+1 - 2370).toNat:Int)=Y+1 by omega] at h1
  omega
 rw [hY,hD,hYY]
 clear hY hD hMo hMb A B
 rcases this with rfl | rfl | rfl | rfl | rfl | rfl | rfl | rfl | rfl | rfl | rfl | rfl
 all_goals
  refine ⟨?_,?_,by decide,by decide,?_,?_,?_⟩ <;> simp [lenI,msI] <;> omega
theorem ya3 {n:Int} (h0:0≤n) (h1:n < 146097):1970≤fY n∧fY n≤2369∧1≤fMo n∧fMo n≤12∧1≤fD n∧fD n≤lenI (fY n) (fMo n):=by
 obtain ⟨m,e,hd,_⟩:=fDate n h0 h1
 rw [e]
 exact ⟨hd.y0,hd.y1,by have:=hd.m0; omega,by have:=hd.m1; omega,hd.d0,hd.d1⟩
end
section
open Go.RowKit
theorem yfq (a b:Int) (w:World) (ha:0≤a) (hb:1≤b) (ha2:a≤9223372036854775807):Calls Tryz.prog 130 #[.int .i64 a, .int .i64 b] w fun e w'=>e= .returned (.int .i64 (a / b))∧w=w':=by
 have h1:¬b < 1:=by omega
 have h2:¬a % b < 0:=by have:=Int.emod_nonneg a (show b≠0 by omega); omega
 have h3:a / b≤a:=Int.ediv_le_self b ha
 have h4:0≤a / b:=Int.ediv_nonneg ha (by omega)
 go_enter Tryz.func130,Tryz.ntmps130
 go_wp2
 go_ret
 exact ⟨rfl,rfl⟩
theorem ygF (a b:Int) (w:World) (ha:0≤a) (hb:1≤b):Calls Tryz.prog 118 #[.int .i64 a, .int .i64 b] w fun e w'=>e= .returned (.int .i64 (a % b))∧w=w':=by
 have h1:¬b < 1:=by omega
 have h2:¬a % b < 0:=by have:=Int.emod_nonneg a (show b≠0 by omega); omega
 go_enter Tryz.func118,Tryz.ntmps118
 go_wp2
 go_ret
 exact ⟨rfl,rfl⟩
theorem yjP (y:Int) (w:World) (h0:0≤y):Calls Tryz.prog 133 #[.int .i64 y] w fun e w'=>e= .returned (.bool (yii y))∧w=w':=by
 by_cases h4:y % 4=0
 ·by_cases h100:y % 100=0
  ·by_cases h400:y % 400=0
   ·have hr:Hid (yii y=true):=zzZ (by omega)
    go_enter Tryz.func133,Tryz.ntmps133
    go_wp2
    go_ret
    exact ⟨by rw [hr.out]; rfl,rfl⟩
   ·have hr:Hid (yii y=false):=zzd (by omega)
    have hb:(y % 400 == 0)=false:=by simpa using h400
    go_enter Tryz.func133,Tryz.ntmps133
    go_wp2
    go_ret
    exact ⟨by rw [hr.out]; rfl,rfl⟩
  ·have hr:Hid (yii y=true):=zzZ (by omega)
   have hb:(y % 100 == 0)=false:=by simpa using h100
   have hb2:(y % 100 != 0)=true:=by simpa using h100
   go_enter Tryz.func133,Tryz.ntmps133
   go_wp2
   go_ret
   exact ⟨by rw [hr.out]; rfl,rfl⟩
 ·have hr:Hid (yii y=false):=zzd (by omega)
  have hb:(y % 4 == 0)=false:=by simpa using h4
  go_enter Tryz.func133,Tryz.ntmps133
  go_wp2
  go_ret
  exact ⟨by rw [hr.out]; rfl,rfl⟩
theorem twelve {m:Int} (h1:1≤m) (h2:m≤12):m=1∨m=2∨m=3∨m=4∨m=5∨m=6∨m=7∨m=8∨m=9∨m=10∨m=11∨m=12:=by omega
theorem ydd (y m:Int) (w:World) (h0:0≤y) (h1:1≤m) (h2:m≤12):Calls Tryz.prog 132 #[.int .i64 y, .int .i64 m] w fun e w'=>e= .returned (.int .i64 (lenI y m))∧Below w.heap.size w w':=by
 have c1:=hid (fun W=>yjP y W h0)
 have hl:=leapB_I y
 rcases twelve h1 h2 with rfl | rfl | rfl | rfl | rfl | rfl | rfl | rfl | rfl | rfl | rfl | rfl
 case inr.inl=>
  clear h0 h1 h2
  rcases hl with ⟨e1,e2⟩ | ⟨e1,e2⟩
  all_goals
   have hr:lenI y 2=28+ya5 y:=by simp [lenI]
   rw [e2] at hr
   rw [e1] at c1
   have Hr:=hid hr
   clear e1 e2 hr
   go_enter Tryz.func132,Tryz.ntmps132
   go_wp2_with fail
   refine (c1.out _).mono ?_
   rintro e w' ⟨rfl,rfl⟩
   go_wp2
   go_ret
   exact ⟨by rw [Hr.out]; rfl,yaa (Below.refl _ _) (zG _)⟩
 all_goals
  clear h0 h1 h2 hl
  go_enter Tryz.func132,Tryz.ntmps132
  go_wp2
  go_ret
  exact ⟨by simp [lenI],yaa (Below.refl _ _) (zG _)⟩
theorem yjU (y m d:Int) (w:World) (h0:0≤y) (hy:y≤3000) (h1:1≤m) (h2:m≤12) (h3:1≤d) (h4:d≤lenI y m):Calls Tryz.prog 131 #[.int .i64 y, .int .i64 m, .int .i64 d] w fun e w'=>e= .returned (.bool true)∧Below w.heap.size w w':=by
 have c1:=hid (fun W=>ydd y m W h0 h1 h2)
 obtain ⟨l,hl⟩:∃l,lenI y m=l:=⟨_,rfl⟩
 rw [hl] at c1 h4
 clear hl
 go_enter Tryz.func131,Tryz.ntmps131
 go_wp2_with fail
 refine (c1.out _).mono ?_
 rintro e w' ⟨rfl,hB⟩
 have HB:=hid hB
 clear hB
 go_wp2
 go_ret
 exact ⟨ybu (by first | (simp; done) | (simp; omega)),HB.out⟩
end
section
open Go.RowKit
theorem yg0 {fn:Func} {t u v x:Tmp} (h:fn.results= #[.tmp t, .tmp u, .tmp v, .tmp x]) (tmps:Array Value) (P:Program) (w:World) :
  (results fn tmps).run P w= .ok (.tuple #[tmps.getD t undef,tmps.getD u undef,tmps.getD v undef,tmps.getD x undef]) w:=by
 simp [results,h]
theorem yip {n:Int} (h0:0≤n) (h1:n < 146097):0≤fK n∧fK n < 400∧0≤fL n∧fL n < 366:=by
 obtain ⟨m,e,hd,h⟩:=fDate n h0 h1
 exact h
theorem yfu (n:Int) (w:World) (h0:0≤n) (h1:n < 146097):Calls Tryz.prog 84 #[.int .i64 n] w fun e w'=>e= .returned (.tuple #[.int .i64 (fY n), .int .i64 (fMo n), .int .i64 (fD n), .bool true])∧Below w.heap.size w w':=by
 obtain ⟨y0,y1,m0,m1,d0,d1⟩:=ya3 h0 h1
 obtain ⟨k0,k1,l0,l1⟩:=yip h0 h1
 have c1:=hid (fun W=>yfq n 365 W h0 (by omega) (by omega))
 have c2:=hid (fun W=>yfq (n+719468) 146097 W (by omega) (by omega) (by omega))
 have c3:=hid (fun W=>ygF (n+719468) 146097 W (by omega) (by omega))
 have c4:=hid (fun W=>yjU (fY n) (fMo n) (fD n) W (by omega) (by omega) m0 m1 d0 d1)
 have eO:Hid ((n+719468) % 146097=fO n):=rfl
 have eN:Hid ((n+719468) / 146097=fN n / 146097):=rfl
 have eK:Hid ((fO n - fO n / 1460+fO n / 36524 - fO n / 146096) / 365=fK n):=rfl
 have eL:Hid (fO n - (fK n * 365+fK n / 4 - fK n / 100)=fL n):=rfl
 have eM:Hid ((5 * fL n+2) / 153=fM n):=rfl
 have eD:Hid (fL n - (153 * fM n+2) / 5+1=fD n):=rfl
 have eMo:Hid ((fM n+2) % 12+1=fMo n):=rfl
 have eY:Hid (fN n / 146097 * 400+fK n+(if fMo n≤2 then 1 else 0)=fY n):=rfl
 have bO:0≤fO n∧fO n < 146097:=by unfold fO; omega
 have bN:0≤fN n / 146097∧fN n / 146097≤10:=by unfold fN; omega
 have bM:0≤fM n∧fM n≤12:=by unfold fM; omega
 obtain ⟨o,ho⟩:∃o,fO n=o:=⟨_,rfl⟩
 obtain ⟨er,her⟩:∃o,fN n / 146097=o:=⟨_,rfl⟩
 obtain ⟨k,hk⟩:∃o,fK n=o:=⟨_,rfl⟩
 obtain ⟨l,hl⟩:∃o,fL n=o:=⟨_,rfl⟩
 obtain ⟨mp,hmp⟩:∃o,fM n=o:=⟨_,rfl⟩
 obtain ⟨d,hd⟩:∃o,fD n=o:=⟨_,rfl⟩
 obtain ⟨mo,hmo⟩:∃o,fMo n=o:=⟨_,rfl⟩
 obtain ⟨y,hy⟩:∃o,fY n=o:=⟨_,rfl⟩
 rw [ho] at eO eK eL bO
 rw [her] at eN eY bN
 rw [hk] at eK eL eY k0 k1
 rw [hl] at eL eM eD l0 l1
 rw [hmp] at eM eD eMo bM
 rw [hd] at eD c4 d0 d1⊢
 rw [hmo] at eMo eY c4 m0 m1 d1⊢
 rw [hy] at eY c4 y0 y1 d1⊢
 rw [eO.out] at c3
 rw [eN.out] at c2
 clear ho her hk hl hmp hd hmo hy eO eN d1
 obtain ⟨o0,o1⟩:=bO
 obtain ⟨e0,e1⟩:=bN
 obtain ⟨mp0,mp1⟩:=bM
 have q1:0≤n / 365∧n / 365≤1000:=by omega
 go_enter Tryz.func84,Tryz.ntmps84
 go_wp2_with fail
 refine (c1.out _).mono ?_
 rintro e w' ⟨rfl,rfl⟩
 obtain ⟨q10,q11⟩:=q1
 go_wp2_with fail
 refine (c1.out _).mono ?_
 rintro e w' ⟨rfl,rfl⟩
 go_wp2_with fail
 refine (c2.out _).mono ?_
 rintro e w' ⟨rfl,rfl⟩
 go_wp2_with fail
 refine (c3.out _).mono ?_
 rintro e w' ⟨rfl,rfl⟩
 have eK':=eK.out
 have eL':=eL.out
 have eM':=eM.out
 have eD':=eD.out
 have eMo':=eMo.out
 by_cases hm2:mo≤2
 all_goals
  have hy2:=eY.out
  first | rw [if_pos hm2] at hy2 | rw [if_neg hm2,Int.add_zero] at hy2
  go_wp2_with fail
  refine (c4.out _).mono ?_
  rintro e w' ⟨rfl,hB⟩
  have HB:=hid hB
  clear hB
  go_wp2
  refine bodyPost_ret (yg0 rfl _ _ _) rfl ?_
  exact ⟨rfl,HB.out⟩
theorem ord_eq {n y:Int} {m:Nat} {d:Int} (h:IsDate n y m d):msI y m+d=n - ysI y+1:=by have:=h.sum; omega
def fOr (n:Int):Int:=n - ysI (fY n)+1
theorem yju {n:Int} (h0:0≤n) (h1:n < 146097):msI (fY n) (fMo n).toNat+fD n=fOr n∧1≤fOr n∧fOr n≤365+ya5 (fY n):=by
 obtain ⟨m,e,hd,_⟩:=fDate n h0 h1
 have h:=ord_eq hd
 have h2:=yjb hd.m0 hd.m1 hd.d0 hd.d1
 rw [e,Int.toNat_natCast]
 unfold fOr
 omega
theorem msI_one (y:Int):msI y 1=0:=rfl
theorem yjT (y:Int) (m:Nat) (d:Int) (w:World) (h0:0≤y) (hy:y≤3000) (h1:1≤m) (h2:m≤12) (h3:1≤d) (h4:d≤lenI y m) :
  Calls Tryz.prog 85 #[.int .i64 y, .int .i64 m, .int .i64 d] w fun e w'=>e= .returned (.tuple #[.int .i64 (msI y m+d), .bool true])∧Below w.heap.size w w':=by
 have c1:=hid (yjU y m d w h0 hy (by omega) (by omega) h3 h4)
 have c2:=hid (fun (k:Nat) W (a:1≤k) (b:k≤12)=>ydd y k W h0 (by omega) (by omega))
 have hn:=hid (fun k a b=>yeE y k a b)
 have hb:=ycb y m
 have hl:=hid (fun k a b=>(yjb (y:=y) (m:=k) (d:=1) a b (by omega) (by have:=ycb y k; omega)))
 have hlb:=hid (fun (k:Int)=>ycb y k)
 have hlp:=yb7 y
 have hd32:d≤31:=by omega
 clear h4 hb
 go_enter Tryz.func85,Tryz.ntmps85
 go_wp2_with fail
 refine wp_scope_straight ?_
 go_wp2_with fail
 refine c1.out.mono ?_
 rintro e w1 ⟨rfl,hB1⟩
 have HB1:=hid hB1
 clear hB1 c1
 go_wp2_with fail
 refine wp_label ?_
 go_wp2_with fail
 go_loopw [8,9] (fun v i wr=>∃k:Nat,i= .int .i64 k∧1≤k∧k≤m∧v= .int .i64 (msI y k+d)∧Hid (Below w.heap.size w wr)∧w.heap.size≤wr.heap.size) (fun _ i _=>(13 - intOf i).toNat)
 case atStart=>exact ⟨1,rfl,by omega,h1,by rw [msI_one,Int.zero_add],HB1.out,HB1.out.size⟩
 case round=>
  obtain ⟨k,rfl,hk1,hkm,rfl,HB,hsz⟩:=hrel
  have b1:=hl.out k hk1 (by omega)
  by_cases hk:k=m
  ·subst hk
   have hbq:((k:Int) == (k:Int))=true:=by simp
   have hk12:(k:Int)≤12:=by omega
   clear hn hl
   obtain ⟨q,hq⟩:∃q,msI y k=q:=⟨_,rfl⟩
   rw [hq] at b1⊢
   have Hq:=hid hq
   clear hq
   go_wp2
   simp only [Exit.noGoto]
   go_ret2
   exact ⟨by rw [Hq.out]; rfl,HB.out⟩
  ·have hk12:k < 12:=by omega
   have hbq:((k:Int) == (m:Int))=false:=by simp; omega
   have hkI:(k:Int)≤12:=by omega
   have hnx:=hid (hn.out k hk1 hk12)
   have c2':=hid (c2.out k wr hk1 (by omega))
   have hlk:=hlb.out k
   obtain ⟨q,hq⟩:∃q,msI y k=q:=⟨_,rfl⟩
   obtain ⟨lk,hlk2⟩:∃q,lenI y k=q:=⟨_,rfl⟩
   rw [hq] at b1 hnx⊢
   rw [hlk2] at hnx c2' hlk
   have hklt:k < m:=by omega
   clear hq hlk2 hn hl c2 hlb hk
   go_wp2_with fail
   refine c2'.out.mono ?_
   rintro e w2 ⟨rfl,hB2⟩
   have HB2:Hid (Below w.heap.size w w2):=HB.out.trans (hB2.mono hsz)
   have hsz2:w.heap.size≤w2.heap.size:=zI hsz hB2.size
   clear hB2
   go_wp2
   exact ⟨⟨k+1,by go_num,by omega,by omega,by rw [hnx.out]; congr 1; omega,HB2.out,hsz2⟩,by simp [intOf]; omega⟩
end
section
open Go.RowKit
abbrev sh10 (n y m d b wk i1 i2 i3 i4:Int):Value:= .agg #[.int .i64 n, .int .i64 y, .int .i64 m, .int .i64 d, .int .i64 b, .int .i64 wk, .int .i64 i1, .int .i64 i2, .int .i64 i3, .int .i64 i4]
abbrev shv (n y m d o:Int):Value:=sh10 n y m d (lenI y m - d+1) ((n % 7+3) % 7+1) ((d - 1) / 7+1) ((lenI y m - d) / 7+1) ((o - 1) / 7+1) ((365+ya5 y - o) / 7+1)
def shN (n:Int):Value:=shv n (fY n) (fMo n) (fD n) (fOr n)
theorem yhz (n:Int) (w:World) (h0:0≤n):Calls Tryz.prog 69 #[.int .i64 n] w fun e w'=>e= .returned (.int .i64 ((n % 7+3) % 7+1))∧w=w':=by
 have c1:=hid (fun W=>ygF n 7 W h0 (by omega))
 have c2:=hid (fun W=>ygF (n % 7+3) 7 W (by omega) (by omega))
 have b1:0≤n % 7∧n % 7 < 7:=by omega
 have b2:0≤(n % 7+3) % 7∧(n % 7+3) % 7 < 7:=by omega
 obtain ⟨q,hq⟩:∃q,(n % 7+3) % 7=q:=⟨_,rfl⟩
 rw [hq] at c2 b2⊢
 obtain ⟨p,hp⟩:∃q,n % 7=q:=⟨_,rfl⟩
 rw [hp] at c1 c2 b1
 clear hp hq
 go_enter Tryz.func69,Tryz.ntmps69
 go_wp2_with fail
 refine (c1.out _).mono ?_
 rintro e w' ⟨rfl,rfl⟩
 go_wp2_with fail
 refine (c2.out _).mono ?_
 rintro e w' ⟨rfl,rfl⟩
 go_wp2
 go_ret
 exact ⟨rfl,rfl⟩
theorem yhB (a l:Int) (w:World) (h1:1≤a) (h2:a≤l) (h3:l≤400):Calls Tryz.prog 134 #[.int .i64 a, .int .i64 l] w fun e w'=>e= .returned (.tuple #[.int .i64 ((a - 1) / 7+1), .int .i64 ((l - a) / 7+1)])∧w=w':=by
 have b1:0≤(a - 1) / 7∧(a - 1) / 7≤400:=by omega
 have b2:0≤(l - a) / 7∧(l - a) / 7≤400:=by omega
 have n1:¬a < 1:=by omega
 have n2:¬l < a:=by omega
 go_enter Tryz.func134,Tryz.ntmps134
 go_wp2
 go_ret2
 exact ⟨rfl,rfl⟩
/-! ### a struct that is handed back out of its block -/
theorem yad {P:Program} {fn:Func} {p:Tmp} {ty:TypeId} (h:fn.results= #[.cell p ty]) (tmps:Array Value) (w:World) (b o:Nat) (cs:List Value) (d:TypeDesc)
  (hp:tmps.getD p undef= .pointer (some ⟨b,o,none⟩)) (hc:w.rangeAt b o cs) (hu:P.underlying ty=some d) (hd:d.isRow=true) (hi:(P.info? ty).map (·.size)=some cs.length) :
  (results fn tmps).run P w= .ok (.agg cs.toArray) w:=by
 have hp':tmps[p]?.getD undef= .pointer (some ⟨b,o,none⟩):=by simpa using hp
 simp [results,h,hp',asAddr,run_loadVar_mid w b o ty cs d hc hu hd hi]
theorem yaB {P:Program} {fn:Func} {p t:Tmp} {ty:TypeId} (h:fn.results= #[.cell p ty, .tmp t]) (tmps:Array Value) (w:World) (b o:Nat) (cs:List Value) (d:TypeDesc)
  (hp:tmps.getD p undef= .pointer (some ⟨b,o,none⟩)) (hc:w.rangeAt b o cs) (hu:P.underlying ty=some d) (hd:d.isRow=true) (hi:(P.info? ty).map (·.size)=some cs.length) :
  (results fn tmps).run P w= .ok (.tuple #[.agg cs.toArray,tmps.getD t undef]) w:=by
 have hp':tmps[p]?.getD undef= .pointer (some ⟨b,o,none⟩):=by simpa using hp
 simp [results,h,hp',asAddr,run_loadVar_mid w b o ty cs d hc hu hd hi]
theorem yaP {B:Nat} {a:World} {b:Nat} (hb:B≤b):∀(vs:List Value) (o:Nat) (w:World),Below B a w→Below B a (w.setCells b o vs)
 | [],_,_,h=>h
 | v :: vs,o,w,h=>by rw [World.setCells]; exact yaP hb vs (o+1) _ (yab h hb)
theorem ygd {W:World} {b o:Nat} {cs:List Value} (h:W.rangeAt b o cs) (hb:b < W.heap.size) (x:Obj):(W.alloc x).rangeAt b o cs:=fun j v hv=>
 ((yaa (Below.refl _ W) (zG _)).cell (p:=⟨b,o+j,none⟩) hb).trans (h j v hv)
theorem ydm {W W':World} {b o n B:Nat} (h:W.there b o n) (hb:Below B W W') (hB:b < B):W'.there b o n:=fun j hj=>by
 obtain ⟨h1,h2⟩:=h j hj
 exact ⟨by rw [hb.cell (p:=⟨b,o+j,none⟩) hB]; exact h1,(hb.frozen (p:=⟨b,o+j,none⟩) hB).trans h2⟩
def Z10 (W:World) (b:Nat):Prop:=∀i,i < 10→W.cell? ⟨b,i,none⟩=some (.int .i64 0)∧W.frozen? ⟨b,i,none⟩=false
theorem Z10.below {W W':World} {b B:Nat} (h:Z10 W b) (hb:Below B W W') (hB:b < B):Z10 W' b:=fun i hi=>⟨(hb.cell (p:=⟨b,i,none⟩) hB).trans (h i hi).1,(hb.frozen (p:=⟨b,i,none⟩) hB).trans (h i hi).2⟩
theorem z10_new (w:World) (t:TypeId):Z10 (w.alloc (.cells #[.int .i64 0, .int .i64 0, .int .i64 0, .int .i64 0, .int .i64 0, .int .i64 0, .int .i64 0, .int .i64 0, .int .i64 0, .int .i64 0] t)) w.heap.size:=by
 intro i hi
 have:i=0∨i=1∨i=2∨i=3∨i=4∨i=5∨i=6∨i=7∨i=8∨i=9:=by omega
 rcases this with rfl | rfl | rfl | rfl | rfl | rfl | rfl | rfl | rfl | rfl <;> exact ⟨by simp [go_sem],by simp [go_sem]⟩
theorem Z10.there {W:World} {b:Nat} (h:Z10 W b):W.there b 0 10:=fun j hj=>by
 rw [zzn]
 exact ⟨by rw [(h j hj).1]; rfl,(h j hj).2⟩
theorem Z10.all {W:World} {b:Nat} (h:Z10 W b):(W.cell? ⟨b,0,none⟩=some (.int .i64 0)∧W.cell? ⟨b,1,none⟩=some (.int .i64 0)∧W.cell? ⟨b,2,none⟩=some (.int .i64 0)∧W.cell? ⟨b,3,none⟩=some (.int .i64 0)∧W.cell? ⟨b,4,none⟩=some (.int .i64 0)∧
  W.cell? ⟨b,5,none⟩=some (.int .i64 0)∧W.cell? ⟨b,6,none⟩=some (.int .i64 0)∧W.cell? ⟨b,7,none⟩=some (.int .i64 0)∧W.cell? ⟨b,8,none⟩=some (.int .i64 0)∧W.cell? ⟨b,9,none⟩=some (.int .i64 0))∧
  (W.frozen? ⟨b,0,none⟩=false∧W.frozen? ⟨b,1,none⟩=false∧W.frozen? ⟨b,2,none⟩=false∧W.frozen? ⟨b,3,none⟩=false∧W.frozen? ⟨b,4,none⟩=false∧
  W.frozen? ⟨b,5,none⟩=false∧W.frozen? ⟨b,6,none⟩=false∧W.frozen? ⟨b,7,none⟩=false∧W.frozen? ⟨b,8,none⟩=false∧W.frozen? ⟨b,9,none⟩=false):=
 ⟨⟨(h 0 (by omega)).1,(h 1 (by omega)).1,(h 2 (by omega)).1,(h 3 (by omega)).1,(h 4 (by omega)).1,(h 5 (by omega)).1,(h 6 (by omega)).1,(h 7 (by omega)).1,(h 8 (by omega)).1,(h 9 (by omega)).1⟩,
  (h 0 (by omega)).2,(h 1 (by omega)).2,(h 2 (by omega)).2,(h 3 (by omega)).2,(h 4 (by omega)).2,(h 5 (by omega)).2,(h 6 (by omega)).2,(h 7 (by omega)).2,(h 8 (by omega)).2,(h 9 (by omega)).2⟩
theorem ten_range {W:World} {b:Nat} (h:Z10 W b) (vs:List Value) (hl:vs.length=10):(W.setCells b 0 vs).rangeAt b 0 vs:=World.rangeAt_setCells_same _ _ _ _ (by rw [hl]; exact h.there)
abbrev ten (W:World) (b:Nat) (v0 v1 v2 v3 v4 v5 v6 v7 v8 v9:Value):World:=
 (((((((((W.setCell ⟨b,0,none⟩ v0).setCell ⟨b,1,none⟩ v1).setCell ⟨b,2,none⟩ v2).setCell ⟨b,3,none⟩ v3).setCell ⟨b,4,none⟩ v4).setCell ⟨b,5,none⟩ v5).setCell ⟨b,6,none⟩ v6).setCell ⟨b,7,none⟩ v7).setCell ⟨b,8,none⟩ v8).setCell ⟨b,9,none⟩ v9
theorem ten_eq (W:World) (b:Nat) (v0 v1 v2 v3 v4 v5 v6 v7 v8 v9:Value):ten W b v0 v1 v2 v3 v4 v5 v6 v7 v8 v9=W.setCells b 0 [v0,v1,v2,v3,v4,v5,v6,v7,v8,v9]:=rfl
theorem yiW (W:World) (b:Nat) (v0 v1 v2 v3 v4 v5 v6 v7 v8 v9:Value):(ten W b v0 v1 v2 v3 v4 v5 v6 v7 v8 v9).heap.size=W.heap.size:=by simp [ten]
theorem ygR {B:Nat} {a W:World} {b:Nat} (h:Below B a W) (hb:B≤b) (v0 v1 v2 v3 v4 v5 v6 v7 v8 v9:Value):Below B a (ten W b v0 v1 v2 v3 v4 v5 v6 v7 v8 v9):=by
 rw [ten_eq]; exact yaP hb _ _ _ h
theorem ten_at {W:World} {b:Nat} (h:Z10 W b) (v0 v1 v2 v3 v4 v5 v6 v7 v8 v9:Value):(ten W b v0 v1 v2 v3 v4 v5 v6 v7 v8 v9).rangeAt b 0 [v0,v1,v2,v3,v4,v5,v6,v7,v8,v9]:=by
 rw [ten_eq]; exact ten_range h _ rfl
theorem ten_at' {W:World} {b:Nat} (h:Z10 W b) (hb:b < W.heap.size) (o:Obj) (v0 v1 v2 v3 v4 v5 v6 v7 v8 v9:Value):((ten W b v0 v1 v2 v3 v4 v5 v6 v7 v8 v9).alloc o).rangeAt b 0 [v0,v1,v2,v3,v4,v5,v6,v7,v8,v9]:=
 ygd (ten_at h _ _ _ _ _ _ _ _ _ _) (by rw [yiW]; exact hb) o
theorem yj3 {B:Nat} {a W:World} {b:Nat} (h:Below B a W) (hb:B≤b) (hs:B≤W.heap.size) (o:Obj) (v0 v1 v2 v3 v4 v5 v6 v7 v8 v9:Value):Below B a ((ten W b v0 v1 v2 v3 v4 v5 v6 v7 v8 v9).alloc o):=
 yaa (ygR h hb _ _ _ _ _ _ _ _ _ _) (by rw [yiW]; exact hs)
theorem yaz (w:World) (l:List Value) (t:TypeId):(w.alloc (.cells l.toArray t)).rangeAt w.heap.size 0 l:=fun j v hv=>by
 obtain ⟨hj,e⟩:=zzq.1 hv
 rw [zzn]
 simp [go_sem,hj,e]
theorem yaF (w:World) (cs:Array Value) (t:TypeId):(w.alloc (.cells cs t)).there w.heap.size 0 cs.size:=fun j hj=>by
 rw [zzn]
 refine ⟨?_,by simp [go_sem]⟩
 simp [go_sem,hj]
theorem yhk:(Tryz.prog.info? 88).map (·.size)=some 10:=by kernel_rfl
theorem yfG (n y m d o:Int) (w:World) (hn0:0≤n) (hn1:n < 200000) (hy0:1970≤y) (hy1:y≤2400) (hm0:1≤m) (hm1:m≤12) (hd0:1≤d) (hd1:d≤lenI y m) (ho0:1≤o) (ho1:o≤365+ya5 y) :
  Calls Tryz.prog 86 #[.int .i64 n, .int .i64 y, .int .i64 m, .int .i64 d, .int .i64 o] w fun e w'=>e= .returned (shv n y m d o)∧Below w.heap.size w w':=by
 have c1:=hid (fun W=>ydd y m W (by omega) hm0 hm1)
 have c2:=hid (fun W=>yjP y W (by omega))
 have c3:=hid (fun W=>yhz n W hn0)
 have hlb:=ycb y m
 have c4:=hid (fun W=>yhB d (lenI y m) W hd0 hd1 (by omega))
 have hl:=leapB_I y
 have c5:=hid (fun W=>yhB o (365+ya5 y) W ho0 ho1 (by rcases hl with h | h <;> omega))
 unfold shv
 obtain ⟨l,hll⟩:∃l,lenI y m=l:=⟨_,rfl⟩
 rw [hll] at c1 c4 hd1 hlb⊢
 obtain ⟨wd,hwd⟩:∃l,(n % 7+3) % 7+1=l:=⟨_,rfl⟩
 rw [hwd] at c3⊢
 obtain ⟨i1,hi1⟩:∃l,(d - 1) / 7+1=l:=⟨_,rfl⟩
 rw [hi1] at c4⊢
 obtain ⟨i2,hi2⟩:∃x,(l - d) / 7+1=x:=⟨_,rfl⟩
 rw [hi2] at c4⊢
 obtain ⟨i3,hi3⟩:∃x,(o - 1) / 7+1=x:=⟨_,rfl⟩
 rw [hi3] at c5⊢
 obtain ⟨i4,hi4⟩:∃x,(365+ya5 y - o) / 7+1=x:=⟨_,rfl⟩
 rw [hi4] at c5⊢
 clear hll hwd hi1 hi2 hi3 hi4
 have HZ:=hid (z10_new w 88)
 rcases hl with ⟨e1,e2⟩ | ⟨e1,e2⟩
 all_goals
  rw [e1] at c2
  rw [e2] at c5
  first | rw [show (365:Int)+1=366 from rfl] at c5 | rw [show (365:Int)+0=365 from rfl] at c5
  clear e1 e2 ho1
  go_enter Tryz.func86,Tryz.ntmps86
  go_wp2_with fail
  refine (c1.out _).mono ?_
  rintro e w1 ⟨rfl,hB1⟩
  have hZ1:=HZ.out.below hB1 (by simp)
  have HB1:Hid (Below w.heap.size w w1):=(yaa (Below.refl _ _) (zG _)).trans (hB1.mono (by simp))
  have hs1:w.heap.size < w1.heap.size:=by have:=hB1.size; simp at this; omega
  have hne:w.heap.size≠w1.heap.size:=by omega
  have HZ1:=hid hZ1
  obtain ⟨⟨z0,z1,z2,z3,z4,z5,z6,z7,z8,z9⟩,f0,f1,f2,f3,f4,f5,f6,f7,f8,f9⟩:=hZ1.all
  clear hZ1
  clear hB1 HZ c1
  go_wp2_with fail
  refine (c2.out _).mono ?_
  rintro e w' ⟨rfl,rfl⟩
  go_wp2_with fail
  refine (c3.out _).mono ?_
  rintro e w' ⟨rfl,rfl⟩
  go_wp2_with fail
  refine (c4.out _).mono ?_
  rintro e w' ⟨rfl,rfl⟩
  go_wp2_with fail
  refine (c5.out _).mono ?_
  rintro e w' ⟨rfl,rfl⟩
  go_wp2
  refine bodyPost_ret (yad rfl _ _ w.heap.size 0 _ _ rfl (ten_at' HZ1.out hs1 _ _ _ _ _ _ _ _ _ _ _) Tryz.underlying88 rfl yhk) rfl ⟨rfl,yj3 HB1.out (zG _) (by omega) _ _ _ _ _ _ _ _ _ _ _⟩
theorem ydT (n:Int) (w:World) (h0:0≤n) (h1:n < 146097):Calls Tryz.prog 44 #[.int .i64 n] w fun e w'=>e= .returned (.tuple #[shN n, .bool true])∧Below w.heap.size w w':=by
 obtain ⟨y0,y1,m0,m1,d0,d1⟩:=ya3 h0 h1
 obtain ⟨g1,g2,g3⟩:=yju h0 h1
 have hm:((fMo n).toNat:Int)=fMo n:=by omega
 have c1:=hid (fun W=>yfu n W h0 h1)
 have c2:Hid (∀W,Calls Tryz.prog 85 #[.int .i64 (fY n), .int .i64 (fMo n), .int .i64 (fD n)] W fun e w'=>e= .returned (.tuple #[.int .i64 (fOr n), .bool true])∧Below W.heap.size W w'):=fun W=>by
  have:=yjT (fY n) (fMo n).toNat (fD n) W (by omega) (by omega) (by omega) (by omega) d0 (by rw [hm]; exact d1)
  rw [hm,g1] at this; exact this
 have c3:Hid (∀W,Calls Tryz.prog 86 #[.int .i64 n, .int .i64 (fY n), .int .i64 (fMo n), .int .i64 (fD n), .int .i64 (fOr n)] W fun e w'=>e= .returned (shN n)∧Below W.heap.size W w'):=fun W=>yfG n _ _ _ _ W h0 (by omega) y0 (by omega) m0 m1 d0 d1 g2 g3
 have hsh:Hid (∃a0 a1 a2 a3 a4 a5 a6 a7 a8 a9:Int,shN n=sh10 a0 a1 a2 a3 a4 a5 a6 a7 a8 a9):=⟨_,_,_,_,_,_,_,_,_,_,rfl⟩
 obtain ⟨a0,a1,a2,a3,a4,a5,a6,a7,a8,a9,hs⟩:=hsh.out
 rw [hs] at c3⊢
 obtain ⟨y,hy⟩:∃o,fY n=o:=⟨_,rfl⟩
 obtain ⟨mo,hmo⟩:∃o,fMo n=o:=⟨_,rfl⟩
 obtain ⟨d,hd⟩:∃o,fD n=o:=⟨_,rfl⟩
 obtain ⟨o,ho⟩:∃o,fOr n=o:=⟨_,rfl⟩
 rw [hy,hmo,hd] at c1 c2 c3
 rw [ho] at c2 c3
 have HZ:=hid (z10_new w 88)
 clear y0 y1 m0 m1 d0 d1 g1 g2 g3 hm hs hsh hy hmo hd ho
 go_enter Tryz.func44,Tryz.ntmps44
 go_wp2_with fail
 refine (c1.out _).mono ?_
 rintro e w1 ⟨rfl,hB1⟩
 have hZ1:=hid (HZ.out.below hB1 (by simp))
 have HB1:Hid (Below w.heap.size w w1):=(yaa (Below.refl _ _) (zG _)).trans (hB1.mono (by simp))
 have hs1:w.heap.size < w1.heap.size:=by have:=hB1.size; simp at this; omega
 clear hB1
 go_wp2_with fail
 refine (c2.out _).mono ?_
 rintro e w2 ⟨rfl,hB2⟩
 have hZ2:=hid (hZ1.out.below hB2 hs1)
 have HB2:Hid (Below w.heap.size w w2):=HB1.out.trans (hB2.mono (by omega))
 have hs2:w.heap.size < w2.heap.size:=by have:=hB2.size; omega
 clear hB2
 go_wp2_with fail
 refine (c3.out _).mono ?_
 rintro e w3 ⟨rfl,hB3⟩
 have hZ3:=hZ2.out.below hB3 hs2
 have HB3:Hid (Below w.heap.size w w3):=HB2.out.trans (hB3.mono (by omega))
 have HZ3:=hid hZ3
 obtain ⟨⟨z0,z1,z2,z3,z4,z5,z6,z7,z8,z9⟩,f0,f1,f2,f3,f4,f5,f6,f7,f8,f9⟩:=hZ3.all
 clear hB3 hZ3
 go_wp2
 refine bodyPost_ret (yaB rfl _ _ w.heap.size 0 _ _ rfl (ten_at HZ3.out _ _ _ _ _ _ _ _ _ _) Tryz.underlying88 rfl yhk) rfl ⟨rfl,ygR HB3.out (zG _) _ _ _ _ _ _ _ _ _ _⟩
end
section
open Go.RowKit
def ydl (p:Nat→Bool):Nat→Nat
 | 0=>0
 | n+1=>ydl p n+(if p n then 2 ^ n else 0)
theorem yha (p:Nat→Bool) (n:Nat):ydl p n < 2 ^ n:=by
 induction n with
 | zero=>simp [ydl]
 | succ n ih=>rw [ydl,Nat.pow_succ]; split <;> omega
theorem yid (p:Nat→Bool) (n i:Nat):(ydl p n).testBit i= (decide (i < n) && p i):=by
 induction n with
 | zero=>simp [ydl]
 | succ n ih=>
   have hlt:=yha p n
   rw [ydl]
   by_cases hp:p n=true
   ·rw [if_pos hp,Nat.add_comm]
    by_cases hi:i=n
    ·subst hi
     rw [Nat.testBit_two_pow_add_eq,Nat.testBit_lt_two_pow hlt]
     simp [hp]
    ·rcases Nat.lt_or_gt_of_ne hi with h | h
     ·rw [Nat.testBit_two_pow_add_gt h,ih]
      simp [h,show i < n+1 by omega]
     ·have:(2 ^ n+ydl p n) < 2 ^ i:=zH (by omega:2 ^ n+ydl p n < 2 ^ (n+1)) (Nat.pow_le_pow_right (by omega) (by omega))
      rw [Nat.testBit_lt_two_pow this]
      simp [show¬i < n+1 by omega]
   ·rw [if_neg hp,Nat.add_zero,ih]
    by_cases hi:i=n
    ·subst hi
     simp [Bool.eq_false_iff.2 hp]
    ·by_cases h:i < n
     ·simp [h,show i < n+1 by omega]
     ·simp [h,show¬i < n+1 by omega]
def mk (p:Nat→Bool):Nat:=ydl p 64
theorem yaS (p:Nat→Bool):mk p < 18446744073709551616:=yha p 64
theorem ya8 (p:Nat→Bool) (i:Nat):(mk p).testBit i= (decide (i < 64) && p i):=yid p 64 i
theorem ydD {m i:Nat} (hm:m < 18446744073709551616) (hi:64≤i):m.testBit i=false:=
 Nat.testBit_lt_two_pow (zH hm (Nat.pow_le_pow_right (n:=2) (by omega) hi))
theorem yfA {m:Nat} {p:Nat→Bool} (hm:m < 18446744073709551616) (h:∀i,i < 64→m.testBit i=p i):m=mk p:=by
 apply Nat.eq_of_testBit_eq
 intro i
 rw [ya8]
 by_cases hi:i < 64
 ·rw [h i hi]; simp [hi]
 ·rw [ydD hm (by omega)]; simp [hi]
theorem ybo {p q:Nat→Bool} (h:∀i,i < 64→p i=q i):mk p=mk q:=
 yfA (yaS p) (fun i hi=>by rw [ya8]; simp [hi,h i hi])
theorem yb5:mk (fun _=>false)=0:=(yfA (by omega) (fun i _=>by simp)).symm
theorem ybk {a:Nat} (ha:a < 18446744073709551616):(BitVec.ofInt 64 (a:Int)).toNat=a:=by
 rw [BitVec.ofInt_natCast,BitVec.toNat_ofNat]; exact Nat.mod_eq_of_lt (by omega)
theorem ybG {a:Nat} (ha:a < 18446744073709551616):IntKind.u64.wrap (a:Int)=a:=by
 rw [IntKind.wrap_u64]; omega
theorem ybN {a b:Nat} (ha:a < 18446744073709551616) (hb:b < 18446744073709551616):bits .or .u64 (a:Int) (b:Int)= ((a ||| b:Nat):Int):=by
 show IntKind.u64.wrap ((BitVec.ofInt 64 (a:Int) ||| BitVec.ofInt 64 (b:Int)).toNat:Int)= _
 rw [BitVec.toNat_or,ybk ha,ybk hb]
 exact ybG (Nat.or_lt_two_pow (n:=64) ha hb)
theorem yaD {a b:Nat} (ha:a < 18446744073709551616) (hb:b < 18446744073709551616):bits .and .u64 (a:Int) (b:Int)= ((a &&& b:Nat):Int):=by
 show IntKind.u64.wrap ((BitVec.ofInt 64 (a:Int) &&& BitVec.ofInt 64 (b:Int)).toNat:Int)= _
 rw [BitVec.toNat_and,ybk ha,ybk hb]
 exact ybG (Nat.lt_of_le_of_lt Nat.and_le_left ha)
theorem ykc {a b:Nat} (ha:a < 18446744073709551616) (hb:b < 18446744073709551616):a ||| b < 18446744073709551616:=Nat.or_lt_two_pow (n:=64) ha hb
theorem ybr {a b:Nat} (ha:a < 18446744073709551616):a &&& b < 18446744073709551616:=Nat.lt_of_le_of_lt Nat.and_le_left ha
theorem ydk {n:Nat} (h:n < 64):2 ^ n < 18446744073709551616:=Nat.pow_lt_pow_right (a:=2) (m:=n) (n:=64) (by omega) h
theorem ycX {n:Nat} (h:n < 64):IntKind.u64.wrap ((2:Int) ^ n)= ((2 ^ n:Nat):Int):=by
 have e:((2:Int) ^ n)= ((2 ^ n:Nat):Int):=by simp
 rw [e]; exact ybG (ydk h)
theorem has_bit {m n:Nat} (hm:m < 18446744073709551616):(bits .and .u64 ((m:Int) / 2 ^ n) 1 == 1)=m.testBit n:=by
 have e:((m:Int) / 2 ^ n)= ((m / 2 ^ n:Nat):Int):=by simp
 have h:=yaD (a:=m / 2 ^ n) (b:=1) (Nat.lt_of_le_of_lt (Nat.div_le_self _ _) hm) (by omega)
 rw [e,show (1:Int)= ((1:Nat):Int) from rfl,h,Nat.and_one_is_mod,Nat.testBit_eq_decide_div_mod_eq]
 rw [zze]
 simp
 omega
end
section
open Go.RowKit
def hasB (m:Nat) (n:Int):Bool:=decide (0≤n) && m.testBit n.toNat
theorem ycf (m:Nat) (n:Int) (w:World) (hm:m < 18446744073709551616):Calls Tryz.prog 82 #[.int .u64 m, .int .i64 n] w fun e w'=>e= .returned (.bool (hasB m n))∧w=w':=by
 have hb:=fun k=>has_bit (n:=k) hm
 have Hb:=hid hb
 have Hm:=hid (fun i (hi:64≤i)=>ydD hm hi)
 clear hb
 by_cases h0:n < 0
 ·have hr:Hid (hasB m n=false):=by show hasB m n=false; simp [hasB]; omega
  go_enter Tryz.func82,Tryz.ntmps82
  go_wp2
  go_ret
  rw [hr.out]; exact ⟨rfl,rfl⟩
 by_cases h1:64≤n
 ·have hr:Hid (hasB m n=false):=by show hasB m n=false; rw [hasB,Hm.out n.toNat (by omega)]; simp
  go_enter Tryz.func82,Tryz.ntmps82
  go_wp2
  go_ret
  rw [hr.out]; exact ⟨rfl,rfl⟩
 obtain ⟨k,rfl⟩:=Int.eq_ofNat_of_zero_le (by omega:0≤n)
 have hr:Hid (hasB m (k:Int)=m.testBit k):=by show hasB m (k:Int)=m.testBit k; simp [hasB]
 go_enter Tryz.func82,Tryz.ntmps82
 go_wp2
 go_ret
 rw [hr.out,Hb.out]; exact ⟨rfl,rfl⟩
def inB (l:List Int) (k:Nat):Bool:=decide ((k:Int)∈l)
def ofM (l:List Int):Nat:=mk (inB l)
theorem yjk (l:List Int) (x:Int) (k:Nat):inB (l ++ [x]) k= (inB l k || decide ((k:Int)=x)):=by simp [inB]
theorem ofM_out (l:List Int) (x:Int) (h:x < 0∨64≤x):ofM (l ++ [x])=ofM l:=
 ybo fun i hi=>by rw [yjk]; simp; omega
theorem ofM_in (l:List Int) (k:Nat) (h:k < 64):ofM l ||| 2 ^ k=ofM (l ++ [(k:Int)]):=by
 refine yfA (ykc (yaS _) (ydk h)) (fun i hi=>?_)
 rw [Nat.testBit_or,ofM,ya8,yjk,Nat.testBit_two_pow]
 simp [hi]
 by_cases h2:i=k
 ·subst h2; simp
 ·have h3:¬k=i:=fun e=>h2 e.symm
  have h4:¬(i:Int)= (k:Int):=by omega
  simp [h3,h4]
theorem ofM_nil:ofM []=0:=by rw [ofM,←yb5]; exact ybo fun i _=>by simp [inB]
theorem yej (a:Option Addr) (cap:Nat) (l:List Int) (w:World) (hl:l.length≤9223372036854775807) (hs:Sl w a (ints l)) :
  Calls Tryz.prog 68 #[.slice a l.length cap] w fun e w'=>e= .returned (.int .u64 (ofM l))∧Below w.heap.size w w':=by
 go_enter Tryz.func68,Tryz.ntmps68
 go_wp2
 go_loopw [3,8] (fun v i wr=>∃k:Nat,i= .int .i64 k∧k≤l.length∧v= .int .u64 (ofM (l.take k))∧Below w.heap.size w wr) (fun _ i _=>l.length - (intOf i).toNat)
 case atStart=>exact ⟨0,rfl,by omega,by rw [List.take_zero,ofM_nil]; rfl,Below.refl _ _⟩
 case round=>
  obtain ⟨k,rfl,hk,rfl,hB⟩:=hrel
  obtain ⟨M,hM⟩:∃M,ofM (l.take k)=M:=⟨_,rfl⟩
  have HM:=hid hM
  by_cases hlt:k < l.length
  ·obtain ⟨b,off,rfl,hb,hc⟩:=hs.atInt hlt
   have e1:=(hB.cell (p:=⟨b,off+k,none⟩) hb).trans (hc k hlt)
   have ht:=hid (yam l k hlt)
   obtain ⟨x,hx⟩:∃x,l[k]=x:=⟨_,rfl⟩
   rw [hx] at e1 ht
   rw [hM]
   have hMl:M < 18446744073709551616:=by rw [←hM]; exact yaS _
   clear hs hc hx hM
   by_cases h0:x < 0
   ·go_wp2
    exact ⟨⟨k+1,by go_num,by omega,by rw [ht.out,ofM_out _ _ (.inl h0),HM.out],hB⟩,by simp [intOf]; omega⟩
   by_cases h1:64≤x
   ·go_wp2
    exact ⟨⟨k+1,by go_num,by omega,by rw [ht.out,ofM_out _ _ (.inr h1),HM.out],hB⟩,by simp [intOf]; omega⟩
   obtain ⟨n,rfl⟩:=Int.eq_ofNat_of_zero_le (by omega:0≤x)
   have hn:n < 64:=by omega
   have hor:=ybN hMl (ydk hn)
   rw [←HM.out,ofM_in _ _ hn,HM.out] at hor
   have Hor:=hid hor
   clear hor
   go_wp2
   exact ⟨⟨k+1,by go_num,by omega,by rw [ht.out,ycX hn,Hor.out],hB⟩,by simp [intOf]; omega⟩
  ·have hke:k=l.length:=by omega
   have Hke:=hid hke
   clear hke hM
   go_wp2
   go_ret
   rw [Hke.out,List.take_length]
   exact ⟨rfl,hB⟩
/-! ### the document's -/
end
end Go.Proofs.YtjahgimnfliooaaGreatDoor
