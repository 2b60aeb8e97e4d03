/-
  The dates of the window's days, as plain arithmetic: by the program's formula, and by years and months one behind the other.
  What the small functions of num, civil, feriaref01 and feriaref05 compute, of the window's years.
  What civil.Date, civil.Ordinal, feriaref05.Date and feriaref05.Ordinal compute, of the window's days.
-/
import Derived.Test.YtjahgimnfliooaaGreatDoorQc1e868
import Derived.Scope
set_option maxRecDepth 100000
set_option maxHeartbeats 25600000
namespace Go.Proofs.YtjahgimnfliooaaGreatDoor
set_option linter.unusedVariables false
section
open Go.RowKit
/-! ### years of 400 years -/
def cg (o:Nat):Nat:=o - o / 1460+o / 36524 - o / 146096
def cst (k:Nat):Nat:=365 * k+k / 4 - k / 100
def cen (k:Nat):Nat:=if k=399 then 146097 else cst (k+1)
theorem cg_step (o:Nat):cg o≤cg (o+1):=by unfold cg; omega
theorem yif (a:Nat):∀d,cg a≤cg (a+d)
 | 0=>zG _
 | d+1=>zI (yif a d) (cg_step (a+d))
theorem cg_ends:∀k,k < 400→365 * k≤cg (cst k)∧cg (cen k - 1) < 365 * (k+1):=by decide +kernel
theorem cg_at (k o:Nat) (hk:k < 400) (h1:cst k≤o) (h2:o < cen k):cg o / 365=k:=by
 obtain ⟨e1,e2⟩:=cg_ends k hk
 have m1:=yif (cst k) (o - cst k)
 have m2:=yif o (cen k - 1 - o)
 rw [show cst k+(o - cst k)=o by omega] at m1
 rw [show o+(cen k - 1 - o)=cen k - 1 by omega] at m2
 omega
theorem yjl (o:Nat):∀m,m < 400→o < cen m→∃k,k < 400∧cst k≤o∧o < cen k
 | 0,_,h=>⟨0,by omega,by simp [cst],h⟩
 | m+1,hm,h=>by
   by_cases h0:cst (m+1)≤o
   ·exact ⟨m+1,hm,h0,h⟩
   ·refine yjl o m (by omega) ?_
    unfold cen
    rw [if_neg (by omega)]; omega
/-! ### months -/
def yaO (y:Int):Int:=y / 4 - (y - 1) / 4 - (y / 100 - (y - 1) / 100)+(y / 400 - (y - 1) / 400)
theorem ybn (y:Int):yaO y=0∨yaO y=1:=by unfold yaO; omega
theorem leapI_iff (y:Int):yaO y=1↔y % 4=0∧(y % 100≠0∨y % 400=0):=by unfold yaO; omega
def yez (y:Int):Bool:=decide (y % 4=0∧(y % 100≠0∨y % 400=0))
theorem ygl (y:Int):(yez y=true∧yaO y=1)∨(yez y=false∧yaO y=0):=by
 have h:=leapI_iff y
 rcases ybn y with h0 | h0
 ·refine .inr ⟨zzd fun hh=>?_,h0⟩
  have:=h.mpr hh; omega
 ·exact .inl ⟨zzZ (h.mp h0),h0⟩
def lenI (y m:Int):Int:=if m=2 then 28+yaO y else if m=4∨m=6∨m=9∨m=11 then 30 else 31
def msI (y:Int):Nat→Int
 | 0=>0 | 1=>0 | 2=>31 | 3=>59+yaO y | 4=>90+yaO y | 5=>120+yaO y | 6=>151+yaO y | 7=>181+yaO y | 8=>212+yaO y | 9=>243+yaO y | 10=>273+yaO y | 11=>304+yaO y | _=>334+yaO y
def ysI (y:Int):Int:=365 * (y - 1970)+(y - 1) / 4 - (y - 1) / 100+(y - 1) / 400 - 477
theorem yeA (y:Int):ysI (y+1)=ysI y+365+yaO y:=by
 unfold ysI yaO; rw [show y+1 - 1=y by omega]; omega
theorem yeJ:ysI 1970=0:=by decide
theorem yc3 (y:Int) (m:Nat) (h1:1≤m) (h2:m < 12):msI y (m+1)=msI y m+lenI y m:=by
 have:m=1∨m=2∨m=3∨m=4∨m=5∨m=6∨m=7∨m=8∨m=9∨m=10∨m=11:=by omega
 rcases this with rfl | rfl | rfl | rfl | rfl | rfl | rfl | rfl | rfl | rfl | rfl <;> simp [msI,lenI] <;> omega
theorem msI_last (y:Int):msI y 12+lenI y 12=365+yaO y:=by simp [msI,lenI]; omega
theorem ybm (y m:Int):28≤lenI y m∧lenI y m≤31:=by
 have:=ybn y
 unfold lenI
 split
 ·omega
 ·split <;> omega
structure IsDate (n y:Int) (m:Nat) (d:Int):Prop where
 y0:1970≤y
 y1:y≤2369
 m0:1≤m
 m1:m≤12
 d0:1≤d
 d1:d≤lenI y m
 sum:ysI y+msI y m+d - 1=n
theorem yfM {y:Int} {m:Nat} {d:Int} (h1:1≤m) (h2:m≤12) (d0:1≤d) (d1:d≤lenI y m):0≤msI y m+d - 1∧msI y m+d - 1 < 365+yaO y:=by
 have hl:=ybn y
 have:m=1∨m=2∨m=3∨m=4∨m=5∨m=6∨m=7∨m=8∨m=9∨m=10∨m=11∨m=12:=by omega
 rcases this with rfl | rfl | rfl | rfl | rfl | rfl | rfl | rfl | rfl | rfl | rfl | rfl <;> simp [msI,lenI] at d1⊢<;> omega
theorem yiD (y:Int) (d:Nat):ysI y+365 * d≤ysI (y+d):=by
 induction d with
 | zero=>simp
 | succ d ih=>
   have:=yeA (y+d)
   have hl:=ybn (y+d)
   rw [show y+((d+1:Nat):Int)=y+d+1 by omega]; omega
theorem ysI_lt {y z:Int} (h:y < z):ysI y+365+yaO y≤ysI z:=by
 have:=yiD (y+1) (z - (y+1)).toNat
 have h2:=yeA y
 rw [show y+1+((z - (y+1)).toNat:Int)=z by omega] at this
 omega
theorem msI_lt {y:Int} {m k:Nat} (h1:1≤m) (h:m < k) (h2:k≤12):msI y m+lenI y m≤msI y k:=by
 have hl:=ybn y
 rw [←yc3 y m h1 (by omega)]
 obtain ⟨d,rfl⟩:∃d,k=m+1+d:=⟨k - (m+1),by omega⟩
 induction d with
 | zero=>exact Int.le_refl _
 | succ d ih=>
   have:=ih (by omega) (by omega)
   have h3:=yc3 y (m+1+d) (by omega) (by omega)
   have h4:=ybm y ((m+1+d:Nat):Int)
   rw [show m+1+(d+1)=m+1+d+1 by omega,h3]; omega
theorem IsDate.unique {n y z:Int} {m k:Nat} {d e:Int} (h:IsDate n y m d) (g:IsDate n z k e):y=z∧m=k∧d=e:=by
 obtain ⟨_,_,a1,a2,a3,a4,a5⟩:=h
 obtain ⟨_,_,b1,b2,b3,b4,b5⟩:=g
 have u:=yfM a1 a2 a3 a4
 have v:=yfM b1 b2 b3 b4
 have hyz:y=z:=by
  rcases Int.lt_trichotomy y z with h | h | h
  ·have:=ysI_lt h; omega
  ·exact h
  ·have:=ysI_lt h; omega
 subst hyz
 have hmk:m=k:=by
  rcases Nat.lt_trichotomy m k with h | h | h
  ·have:=msI_lt (y:=y) a1 h b2; omega
  ·exact h
  ·have:=msI_lt (y:=y) b1 h a2; omega
 subst hmk
 exact ⟨rfl,rfl,by omega⟩
/-! ### the program's formula -/
def fN (n:Int):Int:=n+719468
def fO (n:Int):Int:=fN n % 146097
def fK (n:Int):Int:=(fO n - fO n / 1460+fO n / 36524 - fO n / 146096) / 365
def fL (n:Int):Int:=fO n - (fK n * 365+fK n / 4 - fK n / 100)
def fM (n:Int):Int:=(5 * fL n+2) / 153
def fD (n:Int):Int:=fL n - (153 * fM n+2) / 5+1
def fMo (n:Int):Int:=(fM n+2) % 12+1
def fY (n:Int):Int:=fN n / 146097 * 400+fK n+(if fMo n≤2 then 1 else 0)
theorem fK_spec (n:Int):∃k:Nat,k < 400∧fK n=k∧(cst k:Int)≤fO n∧fO n < cen k:=by
 obtain ⟨o,ho⟩:∃o:Nat,fO n=o:=⟨(fO n).toNat,by unfold fO; omega⟩
 have hlt:o < 146097:=by unfold fO at ho; omega
 obtain ⟨k,hk,h1,h2⟩:=yjl o 399 (by omega) (by simpa [cen] using hlt)
 refine ⟨k,hk,?_,by rw [ho]; omega,by rw [ho]; omega⟩
 have:=cg_at k o hk h1 h2
 unfold fK
 rw [ho]
 unfold cg at this
 omega
theorem yke (n:Int) (h0:0≤n) (h1:n < 146097):∃m:Nat,fMo n=m∧IsDate n (fY n) m (fD n)∧0≤fK n∧fK n < 400∧0≤fL n∧fL n < 366:=by
 obtain ⟨k,hk,eK,c1,c2⟩:=fK_spec n
 have hera:(fN n / 146097=4∧fO n=n+135080)∨(fN n / 146097=5∧fO n=n - 11017):=by unfold fO fN; omega
 have hcst:(cst k:Int)=365 * k+k / 4 - k / 100:=by unfold cst; omega
 have hcen:(cen k:Int)=if k=399 then 146097 else 365 * (k+1)+((k:Int)+1) / 4 - ((k:Int)+1) / 100:=by
  unfold cen cst; split <;> omega
 have hL:fL n=fO n - (365 * k+(k:Int) / 4 - k / 100):=by unfold fL; rw [eK]; omega
 have hL0:0≤fL n:=by omega
 have hL1:fL n < 366:=by split at hcen <;> omega
 obtain ⟨L,hLL⟩:∃L,fL n=L:=⟨_,rfl⟩
 have hyear:∀e:Int,(e=4∨e=5)→fN n / 146097=e→(fN n / 146097 * 400+fK n)=400 * e+k:=by intro e _ h; rw [h,eK]; omega
 obtain ⟨e,he,hfe,hoe⟩:∃e:Int,(e=4∨e=5)∧fN n / 146097=e∧fO n=n+719468 - 146097 * e:=by
  rcases hera with ⟨a,b⟩ | ⟨a,b⟩
  ·exact ⟨4, .inl rfl,a,by omega⟩
  ·exact ⟨5, .inr rfl,a,by omega⟩
 have hmp:fM n= (5 * L+2) / 153:=by unfold fM; rw [hLL]
 obtain ⟨M,hM⟩:∃M,fM n=M:=⟨_,rfl⟩
 have hMb:0≤M∧M≤11:=by omega
 have hD:fD n=L - (153 * M+2) / 5+1:=by unfold fD; rw [hLL,hM]
 have hMo:fMo n= (M+2) % 12+1:=by unfold fMo; rw [hM]
 have hY:fY n=400 * e+k+(if (M+2) % 12+1≤2 then 1 else 0):=by unfold fY; rw [hMo,hfe,eK]; split <;> omega
 rw [hLL] at hL hL0 hL1
 rw [hM] at hmp
 rw [hoe] at hL c1 c2
 rw [hcst] at c1
 rw [hcen] at c2
 have fin:0≤fK n∧fK n < 400∧0≤fL n∧fL n < 366:=by omega
 refine ⟨((M+2) % 12+1).toNat,by rw [hMo]; omega,?_,fin⟩
 clear fin
 have:M=0∨M=1∨M=2∨M=3∨M=4∨M=5∨M=6∨M=7∨M=8∨M=9∨M=10∨M=11:=by omega
 have hk9:(k:Int)≤399:=by omega
 have hk0:(0:Int)≤k:=by omega
 obtain ⟨K,hK⟩:∃K:Int,(k:Int)=K:=⟨_,rfl⟩
 have hc2:n+719468 - 146097 * e < 365 * (K+1)+(K+1) / 4 - (K+1) / 100+(if K=399 then 1 else 0):=by
  rw [←hK]; split at c2 <;> rename_i h5
  ·subst h5; simp; omega
  ·rw [if_neg (by omega)]; omega
 rw [hK] at c1 hL hY hk9 hk0
 clear c2 hyear hera hcst hcen hfe hoe hLL hM eK hk hK
 have hif:(if K=399 then (1:Int) else 0)=1∧K=399∨(if K=399 then (1:Int) else 0)=0∧K≠399:=by
  by_cases h:K=399
  ·exact .inl ⟨if_pos h,h⟩
  ·exact .inr ⟨if_neg h,h⟩
 obtain ⟨I,hI⟩:∃I,(if K=399 then (1:Int) else 0)=I:=⟨_,rfl⟩
 rw [hI] at hc2 hif
 clear hI
 obtain ⟨Y,hYY⟩:∃Y,400 * e+K=Y:=⟨_,rfl⟩
 have A:Y / 4=100 * e+K / 4∧Y / 100=4 * e+K / 100∧Y / 400=e:=by omega
 have B:(Y+1) / 4=100 * e+(K+1) / 4∧(Y+1) / 100=4 * e+(K+1) / 100∧(Y+1) / 400=e+I:=by omega
 have H1:ysI Y+yaO Y=365 * (Y - 1970)+(100 * e+K / 4) - (4 * e+K / 100)+e - 477:=by
  unfold ysI yaO; rw [A.1,A.2.1,A.2.2]; omega
 have H2:ysI (Y+1)=365 * (Y+1 - 1970)+(100 * e+K / 4) - (4 * e+K / 100)+e - 477:=by
  unfold ysI; rw [show Y+1 - 1=Y by omega,A.1,A.2.1,A.2.2]
 have H3:yaO (Y+1)= (K+1) / 4 - K / 4 - ((K+1) / 100 - K / 100)+I:=by
  unfold yaO; rw [show Y+1 - 1=Y by omega,A.1,A.2.1,A.2.2,B.1,B.2.1,B.2.2]; omega
 have H4:2369≤Y→146097≤ysI (Y+1):=fun h=>by
  have h1:=yiD 2370 (Y+1 - 2370).toNat
  have h2:ysI 2370=146097:=by decide
  rw [show (2370:Int)+((Y+1 - 2370).toNat:Int)=Y+1 by omega] at h1
  omega
 rw [hY,hD,hYY]
 clear hY hD hMo hMb A B
 rcases this with rfl | rfl | rfl | rfl | rfl | rfl | rfl | rfl | rfl | rfl | rfl | rfl
 all_goals
  refine ⟨?_,?_,by decide,by decide,?_,?_,?_⟩ <;> simp [lenI,msI] <;> omega
theorem yaL {n:Int} (h0:0≤n) (h1:n < 146097):1970≤fY n∧fY n≤2369∧1≤fMo n∧fMo n≤12∧1≤fD n∧fD n≤lenI (fY n) (fMo n):=by
 obtain ⟨m,e,hd,_⟩:=yke n h0 h1
 rw [e]
 exact ⟨hd.y0,hd.y1,by have:=hd.m0; omega,by have:=hd.m1; omega,hd.d0,hd.d1⟩
end
section
open Go.RowKit
theorem yfu (a b:Int) (w:World) (ha:0≤a) (hb:1≤b) (ha2:a≤9223372036854775807):Calls Tryz.prog 130 #[.int .i64 a, .int .i64 b] w fun e w'=>e= .returned (.int .i64 (a / b))∧w=w':=by
 have h1:¬b < 1:=by omega
 have h2:¬a % b < 0:=by have:=Int.emod_nonneg a (show b≠0 by omega); omega
 have h3:a / b≤a:=Int.ediv_le_self b ha
 have h4:0≤a / b:=Int.ediv_nonneg ha (by omega)
 go_enter Tryz.func130,Tryz.ntmps130
 go_wp2
 go_ret
 exact ⟨rfl,rfl⟩
theorem yeh (a b:Int) (w:World) (ha:0≤a) (hb:1≤b) (ha2:a≤9223372036854775807):Calls Tryz.prog 126 #[.int .i64 a, .int .i64 b] w fun e w'=>e= .returned (.int .i64 (a / b))∧w=w':=by
 have h1:¬b < 1:=by omega
 have h2:¬a % b < 0:=by have:=Int.emod_nonneg a (show b≠0 by omega); omega
 have h3:a / b≤a:=Int.ediv_le_self b ha
 have h4:0≤a / b:=Int.ediv_nonneg ha (by omega)
 go_enter Tryz.func126,Tryz.ntmps126
 go_wp2
 go_ret
 exact ⟨rfl,rfl⟩
theorem ygF (a b:Int) (w:World) (ha:0≤a) (hb:1≤b):Calls Tryz.prog 118 #[.int .i64 a, .int .i64 b] w fun e w'=>e= .returned (.int .i64 (a % b))∧w=w':=by
 have h1:¬b < 1:=by omega
 have h2:¬a % b < 0:=by have:=Int.emod_nonneg a (show b≠0 by omega); omega
 go_enter Tryz.func118,Tryz.ntmps118
 go_wp2
 go_ret
 exact ⟨rfl,rfl⟩
theorem yjp (a b:Int) (w:World) (ha:0≤a) (hb:1≤b) (ha2:a≤9223372036854775807):Calls Tryz.prog 77 #[.int .i64 a, .int .i64 b] w fun e w'=>e= .returned (.int .i64 (a % b))∧w=w':=by
 have c1:=hid (yeh a b w ha hb ha2)
 have h1:¬b < 1:=by omega
 have h3:b * (a / b)≤a:=Int.mul_ediv_self_le (by omega)
 have h4:0≤b * (a / b):=Int.mul_nonneg (by omega) (Int.ediv_nonneg ha (by omega))
 have h5:Hid (a - b * (a / b)=a % b):=by show _ = _; rw [Int.emod_def]
 obtain ⟨q,hq⟩:∃q,a / b=q:=⟨_,rfl⟩
 rw [hq] at c1 h3 h4 h5
 clear hq
 go_enter Tryz.func77,Tryz.ntmps77
 go_wp2_with fail
 refine c1.out.mono ?_
 rintro e w' ⟨rfl,rfl⟩
 go_wp2
 go_ret
 rw [←h5.out]
 exact ⟨rfl,rfl⟩
theorem yjr (y:Int) (w:World) (h0:0≤y):Calls Tryz.prog 133 #[.int .i64 y] w fun e w'=>e= .returned (.bool (yez y))∧w=w':=by
 by_cases h4:y % 4=0
 ·by_cases h100:y % 100=0
  ·by_cases h400:y % 400=0
   ·have hr:Hid (yez y=true):=zzZ (by omega)
    go_enter Tryz.func133,Tryz.ntmps133
    go_wp2
    go_ret
    exact ⟨by rw [hr.out]; rfl,rfl⟩
   ·have hr:Hid (yez y=false):=zzd (by omega)
    have hb:(y % 400 == 0)=false:=by simpa using h400
    go_enter Tryz.func133,Tryz.ntmps133
    go_wp2
    go_ret
    exact ⟨by rw [hr.out]; rfl,rfl⟩
  ·have hr:Hid (yez y=true):=zzZ (by omega)
   have hb:(y % 100 == 0)=false:=by simpa using h100
   have hb2:(y % 100 != 0)=true:=by simpa using h100
   go_enter Tryz.func133,Tryz.ntmps133
   go_wp2
   go_ret
   exact ⟨by rw [hr.out]; rfl,rfl⟩
 ·have hr:Hid (yez y=false):=zzd (by omega)
  have hb:(y % 4 == 0)=false:=by simpa using h4
  go_enter Tryz.func133,Tryz.ntmps133
  go_wp2
  go_ret
  exact ⟨by rw [hr.out]; rfl,rfl⟩
theorem yhB (y:Int) (w:World) (h0:0≤y):Calls Tryz.prog 140 #[.int .i64 y] w fun e w'=>e= .returned (.bool (yez y))∧w=w':=by
 by_cases h400:y % 400=0
 ·have hr:Hid (yez y=true):=zzZ (by omega)
  go_enter Tryz.func140,Tryz.ntmps140
  go_wp2
  go_ret
  exact ⟨by rw [hr.out]; rfl,rfl⟩
 ·have hb4:(y % 400 == 0)=false:=by simpa using h400
  by_cases h4:y % 4=0
  ·by_cases h100:y % 100=0
   ·have hr:Hid (yez y=false):=zzd (by omega)
    go_enter Tryz.func140,Tryz.ntmps140
    go_wp2
    go_ret
    exact ⟨by rw [hr.out]; rfl,rfl⟩
   ·have hr:Hid (yez y=true):=zzZ (by omega)
    have hb:(y % 100 == 0)=false:=by simpa using h100
    have hb2:(y % 100 != 0)=true:=by simpa using h100
    go_enter Tryz.func140,Tryz.ntmps140
    go_wp2
    go_ret
    exact ⟨by rw [hr.out]; rfl,rfl⟩
  ·have hr:Hid (yez y=false):=zzd (by omega)
   have hb:(y % 4 == 0)=false:=by simpa using h4
   go_enter Tryz.func140,Tryz.ntmps140
   go_wp2
   go_ret
   exact ⟨by rw [hr.out]; rfl,rfl⟩
theorem twelve {m:Int} (h1:1≤m) (h2:m≤12):m=1∨m=2∨m=3∨m=4∨m=5∨m=6∨m=7∨m=8∨m=9∨m=10∨m=11∨m=12:=by omega
theorem yda (y m:Int) (w:World) (h0:0≤y) (h1:1≤m) (h2:m≤12):Calls Tryz.prog 132 #[.int .i64 y, .int .i64 m] w fun e w'=>e= .returned (.int .i64 (lenI y m))∧Below w.heap.size w w':=by
 have c1:=hid (fun W=>yjr y W h0)
 have hl:=ygl y
 rcases twelve h1 h2 with rfl | rfl | rfl | rfl | rfl | rfl | rfl | rfl | rfl | rfl | rfl | rfl
 case inr.inl=>
  clear h0 h1 h2
  rcases hl with ⟨e1,e2⟩ | ⟨e1,e2⟩
  all_goals
   have hr:lenI y 2=28+yaO y:=by simp [lenI]
   rw [e2] at hr
   rw [e1] at c1
   have Hr:=hid hr
   clear e1 e2 hr
   go_enter Tryz.func132,Tryz.ntmps132
   go_wp2_with fail
   refine (c1.out _).mono ?_
   rintro e w' ⟨rfl,rfl⟩
   go_wp2
   go_ret
   exact ⟨by rw [Hr.out]; rfl,yaa (Below.refl _ _) (zG _)⟩
 all_goals
  clear h0 h1 h2 hl
  go_enter Tryz.func132,Tryz.ntmps132
  go_wp2
  go_ret
  exact ⟨by simp [lenI],yaa (Below.refl _ _) (zG _)⟩
theorem ydv (y m:Int) (w:World) (h0:0≤y) (h1:1≤m) (h2:m≤12):Calls Tryz.prog 90 #[.int .i64 y, .int .i64 m] w fun e w'=>e= .returned (.int .i64 (lenI y m))∧w=w':=by
 have c1:=hid (fun W=>yhB y W h0)
 have hl:=ygl y
 rcases twelve h1 h2 with rfl | rfl | rfl | rfl | rfl | rfl | rfl | rfl | rfl | rfl | rfl | rfl
 case inr.inl=>
  clear h0 h1 h2
  rcases hl with ⟨e1,e2⟩ | ⟨e1,e2⟩
  all_goals
   have hr:lenI y 2=28+yaO y:=by simp [lenI]
   rw [e2] at hr
   rw [e1] at c1
   have Hr:=hid hr
   clear e1 e2 hr
   go_enter Tryz.func90,Tryz.ntmps90
   go_wp2_with fail
   refine (c1.out _).mono ?_
   rintro e w' ⟨rfl,rfl⟩
   go_wp2
   go_ret
   exact ⟨by rw [Hr.out]; rfl,rfl⟩
 all_goals
  clear h0 h1 h2 hl
  go_enter Tryz.func90,Tryz.ntmps90
  go_wp2
  go_ret
  exact ⟨by simp [lenI],rfl⟩
theorem yhA (y:Int) (w:World) (h0:0≤y):Calls Tryz.prog 93 #[.int .i64 y] w fun e w'=>e= .returned (.int .i64 (365+yaO y))∧w=w':=by
 have c1:=hid (fun W=>yhB y W h0)
 rcases ygl y with ⟨e1,e2⟩ | ⟨e1,e2⟩
 all_goals
  rw [e1] at c1
  rw [e2]
  clear e1 e2
  go_enter Tryz.func93,Tryz.ntmps93
  go_wp2_with fail
  refine (c1.out _).mono ?_
  rintro e w' ⟨rfl,rfl⟩
  go_wp2
  go_ret
  exact ⟨rfl,rfl⟩
theorem yjv (y m d:Int) (w:World) (h0:0≤y) (hy:y≤3000) (h1:1≤m) (h2:m≤12) (h3:1≤d) (h4:d≤lenI y m):Calls Tryz.prog 131 #[.int .i64 y, .int .i64 m, .int .i64 d] w fun e w'=>e= .returned (.bool true)∧Below w.heap.size w w':=by
 have c1:=hid (fun W=>yda y m W h0 h1 h2)
 obtain ⟨l,hl⟩:∃l,lenI y m=l:=⟨_,rfl⟩
 rw [hl] at c1 h4
 clear hl
 go_enter Tryz.func131,Tryz.ntmps131
 go_wp2_with fail
 refine (c1.out _).mono ?_
 rintro e w' ⟨rfl,hB⟩
 have HB:=hid hB
 clear hB
 go_wp2
 go_ret
 exact ⟨yaT (by first | (simp; done) | (simp; omega)),HB.out⟩
end
section
open Go.RowKit
theorem yen {fn:Func} {t u v x:Tmp} (h:fn.results= #[.tmp t, .tmp u, .tmp v, .tmp x]) (tmps:Array Value) (P:Program) (w:World) :
  (results fn tmps).run P w= .ok (.tuple #[tmps.getD t undef,tmps.getD u undef,tmps.getD v undef,tmps.getD x undef]) w:=by
 simp [results,h]
theorem yic {n:Int} (h0:0≤n) (h1:n < 146097):0≤fK n∧fK n < 400∧0≤fL n∧fL n < 366:=by
 obtain ⟨m,e,hd,h⟩:=yke n h0 h1
 exact h
theorem yfw (n:Int) (w:World) (h0:0≤n) (h1:n < 146097):Calls Tryz.prog 84 #[.int .i64 n] w fun e w'=>e= .returned (.tuple #[.int .i64 (fY n), .int .i64 (fMo n), .int .i64 (fD n), .bool true])∧Below w.heap.size w w':=by
 obtain ⟨y0,y1,m0,m1,d0,d1⟩:=yaL h0 h1
 obtain ⟨k0,k1,l0,l1⟩:=yic h0 h1
 have c1:=hid (fun W=>yfu n 365 W h0 (by omega) (by omega))
 have c2:=hid (fun W=>yfu (n+719468) 146097 W (by omega) (by omega) (by omega))
 have c3:=hid (fun W=>ygF (n+719468) 146097 W (by omega) (by omega))
 have c4:=hid (fun W=>yjv (fY n) (fMo n) (fD n) W (by omega) (by omega) m0 m1 d0 d1)
 have eO:Hid ((n+719468) % 146097=fO n):=rfl
 have eN:Hid ((n+719468) / 146097=fN n / 146097):=rfl
 have eK:Hid ((fO n - fO n / 1460+fO n / 36524 - fO n / 146096) / 365=fK n):=rfl
 have eL:Hid (fO n - (fK n * 365+fK n / 4 - fK n / 100)=fL n):=rfl
 have eM:Hid ((5 * fL n+2) / 153=fM n):=rfl
 have eD:Hid (fL n - (153 * fM n+2) / 5+1=fD n):=rfl
 have eMo:Hid ((fM n+2) % 12+1=fMo n):=rfl
 have eY:Hid (fN n / 146097 * 400+fK n+(if fMo n≤2 then 1 else 0)=fY n):=rfl
 have bO:0≤fO n∧fO n < 146097:=by unfold fO; omega
 have bN:0≤fN n / 146097∧fN n / 146097≤10:=by unfold fN; omega
 have bM:0≤fM n∧fM n≤12:=by unfold fM; omega
 obtain ⟨o,ho⟩:∃o,fO n=o:=⟨_,rfl⟩
 obtain ⟨er,her⟩:∃o,fN n / 146097=o:=⟨_,rfl⟩
 obtain ⟨k,hk⟩:∃o,fK n=o:=⟨_,rfl⟩
 obtain ⟨l,hl⟩:∃o,fL n=o:=⟨_,rfl⟩
 obtain ⟨mp,hmp⟩:∃o,fM n=o:=⟨_,rfl⟩
 obtain ⟨d,hd⟩:∃o,fD n=o:=⟨_,rfl⟩
 obtain ⟨mo,hmo⟩:∃o,fMo n=o:=⟨_,rfl⟩
 obtain ⟨y,hy⟩:∃o,fY n=o:=⟨_,rfl⟩
 rw [ho] at eO eK eL bO
 rw [her] at eN eY bN
 rw [hk] at eK eL eY k0 k1
 rw [hl] at eL eM eD l0 l1
 rw [hmp] at eM eD eMo bM
 rw [hd] at eD c4 d0 d1⊢
 rw [hmo] at eMo eY c4 m0 m1 d1⊢
 rw [hy] at eY c4 y0 y1 d1⊢
 rw [eO.out] at c3
 rw [eN.out] at c2
 clear ho her hk hl hmp hd hmo hy eO eN d1
 obtain ⟨o0,o1⟩:=bO
 obtain ⟨e0,e1⟩:=bN
 obtain ⟨mp0,mp1⟩:=bM
 have q1:0≤n / 365∧n / 365≤1000:=by omega
 go_enter Tryz.func84,Tryz.ntmps84
 go_wp2_with fail
 refine (c1.out _).mono ?_
 rintro e w' ⟨rfl,rfl⟩
 obtain ⟨q10,q11⟩:=q1
 go_wp2_with fail
 refine (c1.out _).mono ?_
 rintro e w' ⟨rfl,rfl⟩
 go_wp2_with fail
 refine (c2.out _).mono ?_
 rintro e w' ⟨rfl,rfl⟩
 go_wp2_with fail
 refine (c3.out _).mono ?_
 rintro e w' ⟨rfl,rfl⟩
 have eK':=eK.out
 have eL':=eL.out
 have eM':=eM.out
 have eD':=eD.out
 have eMo':=eMo.out
 by_cases hm2:mo≤2
 all_goals
  have hy2:=eY.out
  first | rw [if_pos hm2] at hy2 | rw [if_neg hm2,Int.add_zero] at hy2
  go_wp2_with fail
  refine (c4.out _).mono ?_
  rintro e w' ⟨rfl,hB⟩
  have HB:=hid hB
  clear hB
  go_wp2
  refine bodyPost_ret (yen rfl _ _ _) rfl ?_
  exact ⟨rfl,HB.out⟩
theorem ord_eq {n y:Int} {m:Nat} {d:Int} (h:IsDate n y m d):msI y m+d=n - ysI y+1:=by have:=h.sum; omega
def fOr (n:Int):Int:=n - ysI (fY n)+1
theorem yhh {n:Int} (h0:0≤n) (h1:n < 146097):msI (fY n) (fMo n).toNat+fD n=fOr n∧1≤fOr n∧fOr n≤365+yaO (fY n):=by
 obtain ⟨m,e,hd,_⟩:=yke n h0 h1
 have h:=ord_eq hd
 have h2:=yfM hd.m0 hd.m1 hd.d0 hd.d1
 rw [e,Int.toNat_natCast]
 unfold fOr
 omega
theorem ye2 (y:Int):msI y 1=0:=rfl
theorem yju (y:Int) (m:Nat) (d:Int) (w:World) (h0:0≤y) (hy:y≤3000) (h1:1≤m) (h2:m≤12) (h3:1≤d) (h4:d≤lenI y m) :
  Calls Tryz.prog 85 #[.int .i64 y, .int .i64 m, .int .i64 d] w fun e w'=>e= .returned (.tuple #[.int .i64 (msI y m+d), .bool true])∧Below w.heap.size w w':=by
 have c1:=hid (yjv y m d w h0 hy (by omega) (by omega) h3 h4)
 have c2:=hid (fun (k:Nat) W (a:1≤k) (b:k≤12)=>yda y k W h0 (by omega) (by omega))
 have hn:=hid (fun k a b=>yc3 y k a b)
 have hb:=ybm y m
 have hl:=hid (fun k a b=>(yfM (y:=y) (m:=k) (d:=1) a b (by omega) (by have:=ybm y k; omega)))
 have hlb:=hid (fun (k:Int)=>ybm y k)
 have hlp:=ybn y
 have hd32:d≤31:=by omega
 clear h4 hb
 go_enter Tryz.func85,Tryz.ntmps85
 go_wp2_with fail
 refine wp_scope_straight ?_
 go_wp2_with fail
 refine c1.out.mono ?_
 rintro e w1 ⟨rfl,hB1⟩
 have HB1:=hid hB1
 clear hB1 c1
 go_wp2_with fail
 refine wp_label ?_
 go_wp2_with fail
 go_loopw [8,9] (fun v i wr=>∃k:Nat,i= .int .i64 k∧1≤k∧k≤m∧v= .int .i64 (msI y k+d)∧Hid (Below w.heap.size w wr)∧w.heap.size≤wr.heap.size) (fun _ i _=>(13 - intOf i).toNat)
 case atStart=>exact ⟨1,rfl,by omega,h1,by rw [ye2,Int.zero_add],HB1.out,HB1.out.size⟩
 case round=>
  obtain ⟨k,rfl,hk1,hkm,rfl,HB,hsz⟩:=hrel
  have b1:=hl.out k hk1 (by omega)
  by_cases hk:k=m
  ·subst hk
   have hbq:((k:Int) == (k:Int))=true:=by simp
   have hk12:(k:Int)≤12:=by omega
   clear hn hl
   obtain ⟨q,hq⟩:∃q,msI y k=q:=⟨_,rfl⟩
   rw [hq] at b1⊢
   have Hq:=hid hq
   clear hq
   go_wp2
   simp only [Exit.noGoto]
   go_ret2
   exact ⟨by rw [Hq.out]; rfl,HB.out⟩
  ·have hk12:k < 12:=by omega
   have hbq:((k:Int) == (m:Int))=false:=by simp; omega
   have hkI:(k:Int)≤12:=by omega
   have hnx:=hid (hn.out k hk1 hk12)
   have c2':=hid (c2.out k wr hk1 (by omega))
   have hlk:=hlb.out k
   obtain ⟨q,hq⟩:∃q,msI y k=q:=⟨_,rfl⟩
   obtain ⟨lk,hlk2⟩:∃q,lenI y k=q:=⟨_,rfl⟩
   rw [hq] at b1 hnx⊢
   rw [hlk2] at hnx c2' hlk
   have hklt:k < m:=by omega
   clear hq hlk2 hn hl c2 hlb hk
   go_wp2_with fail
   refine c2'.out.mono ?_
   rintro e w2 ⟨rfl,hB2⟩
   have HB2:Hid (Below w.heap.size w w2):=HB.out.trans (hB2.mono hsz)
   have hsz2:w.heap.size≤w2.heap.size:=zI hsz hB2.size
   clear hB2
   go_wp2
   exact ⟨⟨k+1,by go_num,by omega,by omega,by rw [hnx.out]; congr 1; omega,HB2.out,hsz2⟩,by simp [intOf]; omega⟩
theorem ROrd_any (y:Int) (m:Nat) (d:Int) (w:World) (h0:0≤y) (hy:y≤3000) (h1:1≤m) (h2:m≤12) (h3:1≤d) (h4:d≤31) :
  Calls Tryz.prog 92 #[.int .i64 y, .int .i64 m, .int .i64 d] w fun e w'=>e= .returned (.int .i64 (msI y m+d))∧w=w':=by
 have c2:=hid (fun (k:Nat) W (a:1≤k) (b:k≤12)=>ydv y k W h0 (by omega) (by omega))
 have hn:=hid (fun k a b=>yc3 y k a b)
 have hl:=hid (fun k a b=>(yfM (y:=y) (m:=k) (d:=1) a b (by omega) (by have:=ybm y k; omega)))
 have hlb:=hid (fun (k:Int)=>ybm y k)
 have hlp:=ybn y
 go_enter Tryz.func92,Tryz.ntmps92
 go_wp2_with fail
 go_loopw [7,8] (fun v i wr=>∃k:Nat,i= .int .i64 k∧1≤k∧k≤m∧v= .int .i64 (msI y k+d)∧wr=w) (fun _ i _=>(13 - intOf i).toNat)
 case atStart=>exact ⟨1,rfl,by omega,h1,by rw [ye2,Int.zero_add],rfl⟩
 case round=>
  obtain ⟨k,rfl,hk1,hkm,rfl,rfl⟩:=hrel
  have b1:=hl.out k hk1 (by omega)
  by_cases hk:k=m
  ·subst hk
   clear hn hl
   obtain ⟨q,hq⟩:∃q,msI y k=q:=⟨_,rfl⟩
   rw [hq] at b1⊢
   have Hq:=hid hq
   clear hq
   go_wp2
   go_ret
   exact ⟨by rw [Hq.out]; rfl,rfl⟩
  ·have hk12:k < 12:=by omega
   have hkI:(k:Int) < (m:Int):=by omega
   have hnx:=hid (hn.out k hk1 hk12)
   have c2':=hid (c2.out k wr hk1 (by omega))
   have hlk:=hlb.out k
   obtain ⟨q,hq⟩:∃q,msI y k=q:=⟨_,rfl⟩
   obtain ⟨lk,hlk2⟩:∃q,lenI y k=q:=⟨_,rfl⟩
   rw [hq] at b1 hnx⊢
   rw [hlk2] at hnx c2' hlk
   clear hq hlk2 hn hl c2 hlb hk
   go_wp2_with fail
   refine c2'.out.mono ?_
   rintro e w' ⟨rfl,rfl⟩
   go_wp2
   exact ⟨⟨k+1,by go_num,by omega,by omega,by rw [hnx.out]; congr 1; omega,by trivial⟩,by simp [intOf]; omega⟩
theorem yfs (n:Int) (w:World) (h0:0≤n) (h1:n < 146097):Calls Tryz.prog 76 #[.int .i64 n] w fun e w'=>e= .returned (.tuple #[.int .i64 (fY n), .int .i64 (fMo n), .int .i64 (fD n), .bool true])∧w=w':=by
 obtain ⟨M,eM,hD,_⟩:=yke n h0 h1
 have hz:n / 146097=0:=by omega
 have c1:=hid (fun W=>yeh n 146097 W h0 (by omega) (by omega))
 rw [hz] at c1
 have c2:=hid (fun y W (h:0≤y)=>yhA y W h)
 have c3:=hid (fun y m W (h:0≤y) a b=>ydv y m W h a b)
 rw [eM]
 obtain ⟨Y,hY⟩:∃y,fY n=y:=⟨_,rfl⟩
 obtain ⟨Dd,hd⟩:∃y,fD n=y:=⟨_,rfl⟩
 rw [hY,hd] at hD⊢
 have HD:=hid hD
 have hyn:=hid yeA
 have hnx:=hid (fun k a b=>yc3 Y k a b)
 have hlt:=hid (fun (y:Int) (h:y < Y)=>ysI_lt h)
 have hbd:=hid (yfM hD.m0 hD.m1 hD.d0 hD.d1)
 have hy0:=hD.y0
 have hy1:=hD.y1
 clear hD hY hd eM hz
 go_enter Tryz.func76,Tryz.ntmps76
 go_wp2_with fail
 refine (c1.out _).mono ?_
 rintro e w' ⟨rfl,rfl⟩
 go_wp2_with fail
 go_loopw [7,8] (fun l v wr=>∃y:Int,v= .int .i64 y∧1970≤y∧y≤Y∧l= .int .i64 (n - ysI y)∧ysI y≤n∧0≤ysI y∧wr=w) (fun _ v _=>(3000 - intOf v).toNat)
 case atStart=>exact ⟨1970,rfl,by omega,hy0,by rw [yeJ,Int.sub_zero],by rw [yeJ]; exact h0,by rw [yeJ]; omega,rfl⟩
 case round=>
  obtain ⟨y,rfl,hy2,hy3,rfl,hy4,hy5,rfl⟩:=hrel
  have c2':=hid (c2.out y wr (by omega))
  have hl:=ybn y
  by_cases hk:y < Y
  ·have hge:ysI y+365+yaO y≤n:=by
    have:=hlt.out y hk
    have h3:=HD.out.sum
    have h4:=hbd.out
    omega
   have hyn':=hid (hyn.out y)
   obtain ⟨s,hs⟩:∃s,ysI y=s:=⟨_,rfl⟩
   obtain ⟨l,hll⟩:∃s,yaO y=s:=⟨_,rfl⟩
   rw [hs] at hge hyn' hy4 hy5⊢
   rw [hll] at hge hyn' c2' hl
   clear hs hll hyn hlt
   go_wp2_with fail
   refine c2'.out.mono ?_
   rintro e w' ⟨rfl,rfl⟩
   go_wp2_with fail
   refine c2'.out.mono ?_
   rintro e w' ⟨rfl,rfl⟩
   go_wp2
   exact ⟨⟨y+1,rfl,by omega,by omega,by rw [hyn'.out]; congr 1; omega,by rw [hyn'.out]; omega,by rw [hyn'.out]; omega,by trivial⟩,by simp [intOf]; omega⟩
  ·obtain rfl:y=Y:=by omega
   have hb2:=hbd.out
   have hsum:=HD.out.sum
   have hlt2:n - ysI y < 365+yaO y:=by omega
   obtain ⟨L,hL⟩:∃s,n - ysI y=s:=⟨_,rfl⟩
   obtain ⟨l,hll⟩:∃s,yaO y=s:=⟨_,rfl⟩
   have hL0:0≤L:=by omega
   have HL:Hid (L=msI y M+Dd - 1):=by show _ = _; omega
   rw [hL] at hlt2⊢
   rw [hll] at hlt2 c2' hl
   have hM:=hid HD.out.m1
   have hM0:=hid HD.out.m0
   have hd0:=HD.out.d0
   have hd1:=hid HD.out.d1
   clear hL hll hyn hlt hbd HD hb2 hsum hy4 hy5
   go_wp2_with fail
   refine c2'.out.mono ?_
   rintro e w' ⟨rfl,rfl⟩
   go_wp2_with fail
   obtain ⟨wo,rfl⟩:∃wo:World,wo=wr:=⟨_,rfl⟩
   go_loopw [7,9] (fun r i wq=>∃k:Nat,i= .int .i64 k∧1≤k∧k≤M∧r= .int .i64 (L - msI y k)∧0≤L - msI y k∧0≤msI y k∧wq=wo) (fun _ i _=>(13 - intOf i).toNat)
   case atStart=>exact ⟨1,rfl,by omega,hM0.out,by rw [ye2,Int.sub_zero],by rw [ye2]; omega,by rw [ye2]; omega,by trivial⟩
   case round=>
    obtain ⟨k,rfl,hk1,hkm,rfl,hk3,hk4,rfl⟩:=hrel
    have hk12:(k:Int)≤12:=by have:=hM.out; omega
    have c3':=hid (c3.out y k wr (by omega) (by omega) hk12)
    have hlk:=ybm y k
    by_cases hkM:k=M
    ·subst hkM
     have hlt3:L - msI y k < lenI y k:=by have:=HL.out; have:=hd1.out; omega
     have HR:Hid (L - msI y k+1=Dd):=by show _ = _; have:=HL.out; omega
     obtain ⟨q,hq⟩:∃q,msI y k=q:=⟨_,rfl⟩
     obtain ⟨lk,hlk2⟩:∃q,lenI y k=q:=⟨_,rfl⟩
     rw [hq] at hk3 hk4 HR hlt3⊢
     rw [hlk2] at c3' hlk hlt3
     clear hq hlk2 hnx
     go_wp2_with fail
     refine c3'.out.mono ?_
     rintro e w' ⟨rfl,rfl⟩
     go_wp2
     refine bodyPost_ret (yen rfl _ _ _) rfl ?_
     rw [←HR.out]
     exact ⟨rfl,rfl⟩
    ·have hge:lenI y k≤L - msI y k:=by
      have:=msI_lt (y:=y) hk1 (show k < M by omega) hM.out
      have:=HL.out
      omega
     have hnx':=hid (hnx.out k hk1 (by have:=hM.out; omega))
     obtain ⟨q,hq⟩:∃q,msI y k=q:=⟨_,rfl⟩
     obtain ⟨lk,hlk2⟩:∃q,lenI y k=q:=⟨_,rfl⟩
     rw [hq] at hk3 hk4 hnx' hge⊢
     rw [hlk2] at c3' hlk hge hnx'
     clear hq hlk2 hnx
     go_wp2_with fail
     refine c3'.out.mono ?_
     rintro e w' ⟨rfl,rfl⟩
     go_wp2_with fail
     refine c3'.out.mono ?_
     rintro e w' ⟨rfl,rfl⟩
     go_wp2
     exact ⟨⟨k+1,by go_num,by omega,by omega,by rw [hnx'.out]; congr 1; omega,by rw [hnx'.out]; omega,by rw [hnx'.out]; omega,by trivial⟩,by simp [intOf]; omega⟩
end
end Go.Proofs.YtjahgimnfliooaaGreatDoor
