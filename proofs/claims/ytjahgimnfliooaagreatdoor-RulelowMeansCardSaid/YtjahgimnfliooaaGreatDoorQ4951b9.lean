/-
  The days from one to another one; the day after a day.
  The days of clauses: which of them are active on a day, the list of days, the first and the last one.
  The chapter's example has 97 days.
  The law of a clause's state on a day: what is cut of the day, in ferialaw16's words and in lap's.
  The seconds of a clause's state on a day are those of the day's instants that have the clause.
-/
import Derived.Test.YtjahgimnfliooaaGreatDoorQ2687fa
import Derived.Test.YtjahgimnfliooaaGreatDoorQe56d57
import Derived.Test.YtjahgimnfliooaaGreatDoorQ7eaca1
set_option maxRecDepth 100000
set_option maxHeartbeats 25600000
namespace Go.Proofs.YtjahgimnfliooaaGreatDoor
set_option linter.unusedVariables false
section
open Go.RowKit
def yao (a b:Int):List Int:=(List.range (b - a+1).toNat).map fun (i:Nat)=>a+(i:Int)
theorem ybC (a b:Int):(yao a b).length= (b - a+1).toNat:=by simp [yao]
theorem ycP {a b:Int} {k:Nat} (h:k < (yao a b).length):(yao a b)[k]=a+k:=by simp [yao]
theorem ycg {a b n:Int}:n∈yao a b↔a≤n∧n≤b:=by
 simp only [yao,List.mem_map,List.mem_range]
 constructor
 ·rintro ⟨i,h,rfl⟩; omega
 ·rintro ⟨h1,h2⟩; exact ⟨(n - a).toNat,by omega,by omega⟩
theorem yfk {a b:Int} (h:b < a):yao a b= []:=by
 rw [yao,show (b - a+1).toNat=0 by omega]; rfl
theorem yfj {a b c:Int} (h1:a≤c) (h2:c≤b+1):yao a b=yao a (c - 1) ++ yao c b:=by
 apply List.ext_getElem
 ·rw [List.length_append,ybC,ybC,ybC]; omega
 ·intro i h3 h4
  rw [ycP h3,List.getElem_append]
  split
  ·rename_i h5; rw [ycP h5]
  ·rename_i h5
   rw [ycP,ybC] at *
   omega
theorem ydL {p:Int→Bool} {a b:Int} (h:∀n,a≤n→n≤b→p n=false):(yao a b).filter p= []:=by
 rw [List.filter_eq_nil_iff]
 intro n hn
 obtain ⟨h1,h2⟩:=ycg.1 hn
 rw [h n h1 h2]; simp
theorem ykg {p:Int→Bool} {a b lo hi:Int} (h:∀n,p n=true→lo≤n∧n≤hi):(yao (max a lo) (min b hi)).filter p= (yao a b).filter p:=by
 have hno:∀n,¬(lo≤n∧n≤hi)→p n=false:=fun n hn=>by
  rw [←Bool.not_eq_true]; intro e; exact hn (h n e)
 by_cases hab:max a lo≤min b hi
 ·rw [yfj (a:=a) (b:=b) (c:=max a lo) (by omega) (by omega),yfj (a:=max a lo) (b:=b) (c:=min b hi+1) (by omega) (by omega),List.filter_append,List.filter_append,
   ydL (a:=a) (fun n h1 h2=>hno n (by omega)),ydL (b:=b) (fun n h1 h2=>hno n (by omega)),List.nil_append,List.append_nil,show min b hi+1 - 1=min b hi by omega]
 ·rw [yfk (by omega),ydL (fun n h1 h2=>hno n (by omega))]; rfl
/-! ### the day after a day -/
theorem next_is {n y z:Int} {m k:Nat} {d e:Int} (hd:IsDate n y m d) (gd:IsDate (n+1) z k e) (h1:n+1 < 146097) :
  (d+1≤lenI y m→z=y∧k=m∧e=d+1)∧
  (¬d+1≤lenI y m→m+1≤12→z=y∧k=m+1∧e=1)∧
  (¬d+1≤lenI y m→¬m+1≤12→z=y+1∧k=1∧e=1):=by
 have hd0:=hd.d0
 have hd1:=hd.d1
 have hsum:=hd.sum
 have hm0:=hd.m0
 have hm1:=hd.m1
 refine ⟨fun h=>?_,fun h h2=>?_,fun h h2=>?_⟩
 ·exact gd.unique ⟨hd.y0,hd.y1,hd.m0,hd.m1,by omega,h,by omega⟩
 ·have hm:=yc3 y m hm0 (by omega)
  have hl:=ybm y ((m+1:Nat):Int)
  exact gd.unique (z:=y) (k:=m+1) (e:=1) ⟨hd.y0,hd.y1,by omega,by omega,by omega,by omega,by omega⟩
 ·obtain rfl:m=12:=by omega
  have hl:=msI_last y
  have hs:=yeA y
  have hle:lenI y ((12:Nat):Int)=lenI y 12:=rfl
  have hy1:y+1≤2369:=by
   have e1:y≤2369:=hd.y1
   by_cases e2:y=2369
   ·subst e2
    rw [show ysI 2369=145732 by decide,show msI 2369 12=334 by decide] at hsum
    rw [hle,show lenI 2369 12=31 by decide] at hd1 h
    omega
   ·omega
  have hlen:=ybm (y+1) 1
  have hone:msI (y+1) 1=0:=rfl
  exact gd.unique (z:=y+1) (k:=1) (e:=1) ⟨by have:=hd.y0; omega,hy1,by omega,by omega,by omega,by show (1:Int)≤lenI (y+1) 1; omega,by rw [hone]; omega⟩
theorem ye0 {n:Int} (h0:0≤n) (h1:n+1 < 146097) :
  (fD n+1≤lenI (fY n) (fMo n)→fY (n+1)=fY n∧fMo (n+1)=fMo n∧fD (n+1)=fD n+1∧fOr (n+1)=fOr n+1)∧
  (¬fD n+1≤lenI (fY n) (fMo n)→fMo n+1≤12→fY (n+1)=fY n∧fMo (n+1)=fMo n+1∧fD (n+1)=1∧fOr (n+1)=fOr n+1)∧
  (¬fD n+1≤lenI (fY n) (fMo n)→¬fMo n+1≤12→fY (n+1)=fY n+1∧fMo (n+1)=1∧fD (n+1)=1∧fOr (n+1)=1):=by
 obtain ⟨m,e,hd,_⟩:=yke n h0 (by omega)
 obtain ⟨k,f,gd,_⟩:=yke (n+1) (by omega) h1
 obtain ⟨a1,a2,a3⟩:=next_is hd gd h1
 have gor:=ord_eq gd
 have o1:fOr n=n - ysI (fY n)+1:=rfl
 have o2:fOr (n+1)=n+1 - ysI (fY (n+1))+1:=rfl
 rw [o1,o2,f,e]
 refine ⟨fun h=>?_,fun h h2=>?_,fun h h2=>?_⟩
 ·obtain ⟨b1,b2,b3⟩:=a1 h
  refine ⟨b1,by rw [b2],b3,?_⟩
  rw [b1]; omega
 ·obtain ⟨b1,b2,b3⟩:=a2 h (by omega)
  refine ⟨b1,by rw [b2]; omega,b3,?_⟩
  rw [b1]; omega
 ·obtain ⟨b1,b2,b3⟩:=a3 h (by omega)
  refine ⟨b1,by rw [b2]; rfl,b3,?_⟩
  rw [b2,b3,show msI (fY (n+1)) 1=0 from rfl] at gor
  omega
end
section
open Go.RowKit
def okD (c:Cl):Bool:=yaz c.fr c.un && mayC c
def frD (c:Cl):Int:=yaq c.fr c.un / 86400
def unD (c:Cl):Int:=yap c.fr c.un / 86400
def onD (c:Cl) (n:Int):Bool:=decide (frD c≤n) && (decide (n≤unD c) && dayC c n)
def ya0 (c:Cl) (n:Int):Bool:=okD c && onD c n
def atC (cs:List Cl) (i:Nat):Cl:=cs.getD i fullCl
theorem ycu {cs:List Cl} {i:Nat} (h:i < cs.length):atC cs i=cs[i]:=by simp [atC,h]
def actM (cs:List Cl) (n:Int):Nat:=mk fun i=>decide (i < cs.length) && ya0 (atC cs i) n
theorem mk_or {p:Nat→Bool} {k:Nat} (h:k < 64):mk p ||| 2 ^ k=mk fun i=>p i || decide (i=k):=by
 refine yhj (yjO (yaP _) (ydg h)) (fun i hi=>?_)
 rw [Nat.testBit_or,ybh,Nat.testBit_two_pow]
 have:decide (k=i)=decide (i=k):=decide_eq_decide.2 ⟨Eq.symm,Eq.symm⟩
 simp [hi,this]
theorem actM_zero {cs:List Cl} {n:Int}:actM cs n=0↔∀i,i < cs.length→i < 64→ya0 (atC cs i) n=false:=by
 constructor
 ·intro h i h1 h2
  have:=ybh (fun i=>decide (i < cs.length) && ya0 (atC cs i) n) i
  rw [←actM,h,Nat.zero_testBit,zzZ h2,zzZ h1,zzo,zzo] at this
  exact this.symm
 ·intro h
  rw [actM,←yb1]
  refine ybf fun i hi=>?_
  by_cases h1:i < cs.length
  ·rw [h i h1 hi,Bool.and_false]
  ·rw [zzd h1,Bool.false_and]
end
section
open Go.RowKit
def stF (c:Cl) (n:Int):Int:=max (max 0 c.fr) (86400 * n) - 86400 * n
def stU (c:Cl) (n:Int):Int:=min (min 12622780799 c.un) (86400 * n+86399) - 86400 * n
def stG (c:Cl) (n:Int):Value:=if ya0 c n then stv true (stF c n) (stU c n) (ycH c n) else stv false 0 0 0
theorem ygm {c:Cl} (h:yaz c.fr c.un=true):frD c=max c.fr 0 / 86400∧unD c=min c.un 12622780799 / 86400∧max c.fr 0≤min c.un 12622780799:=by
 have hle:max c.fr 0≤min c.un 12622780799:=of_decide_eq_true h
 rw [frD,unD,yaq,yap,h,if_pos rfl,if_pos rfl]
 exact ⟨rfl,rfl,hle⟩
theorem ygw {c:Cl} {n:Int} (h:yaz c.fr c.un=true) (h1:frD c≤n) (h2:n≤unD c):max (max 0 c.fr) (86400 * n)≤min (min 12622780799 c.un) (86400 * n+86399):=by
 obtain ⟨e1,e2,e3⟩:=ygm h
 rw [e1] at h1; rw [e2] at h2
 omega
theorem cut_mod {c:Cl} {n:Int} (h:yaz c.fr c.un=true) (h1:frD c≤n) (h2:n≤unD c) :
  max (max 0 c.fr) (86400 * n) % 86400=stF c n∧min (min 12622780799 c.un) (86400 * n+86399) % 86400=stU c n:=by
 have hc:=ygw h h1 h2
 rw [stF,stU]
 constructor <;> omega
theorem cut_mid {c:Cl} {n:Int} (h:yaz c.fr c.un=true) (h1:frD c≤n) (h2:n≤unD c) (n1:n≠frD c) (n2:n≠unD c):stF c n=0∧stU c n=86399:=by
 obtain ⟨e1,e2,e3⟩:=ygm h
 rw [e1] at h1 n1; rw [e2] at h2 n2
 rw [stF,stU]
 constructor <;> omega
end
section
open Go.RowKit
def okS (c:Cl) (p:Int) (k:Nat):Bool:=
 if 0 < yav c.unit∧(1 < c.step∨0 < p) then decide (p≤(k:Int) / yav c.unit) && decide (((k:Int) / yav c.unit - p) % c.step=0) else true
def secQ (c:Cl) (a:Bool) (f u p:Int) (k:Nat):Bool:=a && (decide (0≤p) && (mayC c && (ybl k (c.m 2) (c.m 1) (c.m 0) && (betB f u k && okS c p k))))
theorem phase_mod {a b s x:Int} (hs:1≤s) (hx:0≤x):(decide ((a - b) % s≤x) && decide ((x - (a - b) % s) % s=0))=decide ((b+x - a) % s=0):=by
 have e:(x - (a - b) % s) % s= (b+x - a) % s:=by
  rw [Int.sub_emod x,Int.emod_emod_of_dvd _ (Int.dvd_refl s),←Int.sub_emod,show x - (a - b)=b+x - a by omega]
 have r0:0≤(a - b) % s:=Int.emod_nonneg _ (by omega)
 have r1:(a - b) % s < s:=Int.emod_lt_of_pos _ (by omega)
 rw [zze,zzX,zzY,zzY,zzY,e]
 constructor
 ·exact fun h=>h.2
 ·intro h
  refine ⟨?_,h⟩
  rw [←e] at h
  obtain ⟨j,hj⟩:=Int.dvd_of_emod_eq_zero h
  generalize (a - b) % s=r at *
  by_cases hj0:0≤j
  ·have:=Int.mul_nonneg (show 0≤s by omega) hj0
   omega
  ·have:=Int.mul_le_mul_of_nonneg_left (show j≤-1 by omega) (show 0≤s by omega)
   omega
theorem whU_size {u t:Int} (hz:0 < yav u):whU u t=t / yav u:=by
 rcases yd0 u with rfl | rfl | rfl | ⟨h0,h1,h2,h⟩
 ·rw [show yav 0=1 from rfl,Int.ediv_one]; rfl
 ·rfl
 ·rfl
 ·omega
theorem yf7 {u:Int} (hz:0 < yav u):yav u=1∨yav u=60∨yav u=3600:=by
 rcases yd0 u with rfl | rfl | rfl | ⟨h0,h1,h2,h⟩
 ·exact .inl rfl
 ·exact .inr (.inl rfl)
 ·exact .inr (.inr rfl)
 ·omega
theorem okS_on {c:Cl} (hm:mayC c=true) (hz:0 < yav c.unit) {n:Int} {k:Nat} (h0:0≤n) (h1:n < 146097) (hk:k < 86400):okS c (ycH c n) k=onB c.unit c.step c.anchor (86400 * n+k):=by
 obtain ⟨-,hs,hu,ha⟩:=ycI hm
 obtain ⟨e1,e2⟩:=ycD hu ha
 obtain ⟨e3,e4⟩:=ycD hu (win_of (t:=86400 * n+k) (by omega) (by omega))
 rw [onB,e1,e3,e4,ybR,zzZ hs,whU_size hz,okS,ycH]
 obtain ⟨A,hA⟩:∃A,yaM c.unit c.anchor=A:=⟨_,rfl⟩
 rw [hA]
 have hd:(86400 * n+(k:Int)) / yav c.unit=86400 * n / yav c.unit+(k:Int) / yav c.unit:=by
  rcases yf7 hz with h | h | h <;> rw [h] <;> omega
 have hx:0≤(k:Int) / yav c.unit:=by
  rcases yf7 hz with h | h | h <;> rw [h] <;> omega
 rw [hd]
 obtain ⟨B,hB⟩:∃B,86400 * n / yav c.unit=B:=⟨_,rfl⟩
 obtain ⟨X,hX⟩:∃X,(k:Int) / yav c.unit=X:=⟨_,rfl⟩
 rw [hB,hX]
 rw [hX] at hx
 by_cases h1s:1 < c.step
 ·rw [if_pos (show 1 < c.step∧0 < yav c.unit from ⟨h1s,hz⟩),if_pos ⟨hz, .inl h1s⟩,phase_mod hs hx]; simp
 ·have e:c.step=1:=by omega
  rw [if_neg (show¬(1 < c.step∧0 < yav c.unit) by omega),if_neg (by omega),e]; simp
def sF (c:Cl) (n:Int):Int:=if ya0 c n then stF c n else 0
def sU (c:Cl) (n:Int):Int:=if ya0 c n then stU c n else 0
def sP (c:Cl) (n:Int):Int:=if ya0 c n then ycH c n else 0
theorem stG_parts (c:Cl) (n:Int):stG c n=stv (ya0 c n) (sF c n) (sU c n) (sP c n):=by
 rw [stG,sF,sU,sP]
 cases ya0 c n <;> rfl
theorem phase_nn {c:Cl} (hm:mayC c=true) (n:Int):0≤ycH c n:=by
 obtain ⟨-,hs,-,-⟩:=ycI hm
 rw [ycH]
 split
 ·exact Int.emod_nonneg _ (by omega)
 ·omega
theorem yi5 {c:Cl} {n:Int} (h:ya0 c n=true):mayC c=true∧yaz c.fr c.un=true∧dayC c n=true∧frD c≤n∧n≤unD c:=by
 simp only [ya0,okD,onD,zzX,zzY] at h
 exact ⟨h.1.2,h.1.1,h.2.2.2,h.2.1,h.2.2.1⟩
theorem bet_live {c:Cl} {n:Int} {k:Nat} (h0:0≤n) (h1:n < 146097) (hk:k < 86400):betB (stF c n) (stU c n) k=betB c.fr c.un (86400 * n+k):=by
 have e1:stF c n≤(k:Int)↔c.fr≤86400 * n+k:=by unfold stF; constructor <;> intro h <;> omega
 have e2:(k:Int)≤stU c n↔86400 * n+k≤c.un:=by unfold stU; constructor <;> intro h <;> omega
 rw [betB,betB,zze]
 simp only [zzX,zzY]
 rw [e1,e2]
theorem bet_days {c:Cl} {n:Int} {k:Nat} (h0:0≤n) (h1:n < 146097) (hk:k < 86400) (h:betB c.fr c.un (86400 * n+k)=true):yaz c.fr c.un=true∧frD c≤n∧n≤unD c:=by
 rw [betB] at h
 simp only [zzX,zzY] at h
 have hB:yaz c.fr c.un=true:=zzZ (by omega)
 obtain ⟨e1,e2,e3⟩:=ygm hB
 refine ⟨hB,?_,?_⟩
 ·rw [e1]; omega
 ·rw [e2]; omega
theorem secQ_has (c:Cl) {n:Int} {k:Nat} (h0:0≤n) (h1:n < 146097) (hk:k < 86400):secQ c (ya0 c n) (sF c n) (sU c n) (sP c n) k=hasC c (86400 * n+k):=by
 have hw:winB (86400 * n+k)=true:=win_of (by omega) (by omega)
 rw [secQ,hasC,hw,zzo,show (86400 * n+(k:Int)) % 86400=k by omega,show (86400 * n+(k:Int)) / 86400=n by omega]
 cases hl:ya0 c n
 ·rw [Bool.false_and]
  cases hb:betB c.fr c.un (86400 * n+k)
  ·simp
  ·obtain ⟨g1,g2,g3⟩:=bet_days h0 h1 hk hb
   have:(mayC c && dayC c n)=false:=by
    rw [ya0,okD,onD,g1,zzZ g2,zzZ g3] at hl; simpa using hl
   rcases Bool.and_eq_false_iff.1 this with h | h <;> rw [h] <;> simp
 ·obtain ⟨hm,hB,hd,g1,g2⟩:=yi5 hl
  obtain ⟨-,hs,hu,ha⟩:=ycI hm
  rw [sF,sU,sP,hl,if_pos rfl,if_pos rfl,if_pos rfl,bet_live h0 h1 hk,hm,hd,zzZ (phase_nn hm n),Bool.and_true]
  have:okS c (ycH c n) k=onB c.unit c.step c.anchor (86400 * n+k):=by
   rcases ycq c.unit with hz | hz
   ·exact okS_on hm hz h0 h1 hk
   ·have e:=yjj (t:=86400 * n+k) hu ha hs (by omega) (by omega) hz
    rw [show (86400 * n+(k:Int)) / 86400=n by omega] at e
    rw [dayC,hm,zzo,zzX] at hd
    rw [←e,hd.2,okS,if_neg (by omega)]
  rw [this]
  simp only [zzo]
  cases betB c.fr c.un (86400 * n+k) <;> cases ybl k (c.m 2) (c.m 1) (c.m 0) <;> simp
def dayQ (cs:List Cl) (n:Int) (k:Nat):Bool:=cs.any fun c=>hasC c (86400 * n+k)
end
end Go.Proofs.YtjahgimnfliooaaGreatDoor
