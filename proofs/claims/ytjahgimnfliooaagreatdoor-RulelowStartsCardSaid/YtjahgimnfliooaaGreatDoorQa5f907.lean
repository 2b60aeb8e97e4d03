/-
  The seconds of a clause's state on a day are those of the day's instants that have the clause.
-/
import Derived.Test.YtjahgimnfliooaaGreatDoorQf5abfa
import Derived.Test.YtjahgimnfliooaaGreatDoorQf20948
set_option maxRecDepth 100000
set_option maxHeartbeats 25600000
namespace Go.Proofs.YtjahgimnfliooaaGreatDoor
open Go.RowKit
set_option linter.unusedVariables false
def okS (c:Cl) (p:Int) (k:Nat):Bool:=
 if 0 < yat c.unit∧(1 < c.step∨0 < p) then decide (p≤(k:Int) / yat c.unit) && decide (((k:Int) / yat c.unit - p) % c.step=0) else true
def secQ (c:Cl) (a:Bool) (f u p:Int) (k:Nat):Bool:=a && (decide (0≤p) && (mayC c && (ybn k (c.m 2) (c.m 1) (c.m 0) && (betB f u k && okS c p k))))
theorem phase_mod {a b s x:Int} (hs:1≤s) (hx:0≤x):(decide ((a - b) % s≤x) && decide ((x - (a - b) % s) % s=0))=decide ((b+x - a) % s=0):=by
 have e:(x - (a - b) % s) % s= (b+x - a) % s:=by
  rw [Int.sub_emod x,Int.emod_emod_of_dvd _ (Int.dvd_refl s),←Int.sub_emod,show x - (a - b)=b+x - a by omega]
 have r0:0≤(a - b) % s:=Int.emod_nonneg _ (by omega)
 have r1:(a - b) % s < s:=Int.emod_lt_of_pos _ (by omega)
 rw [zze,zzX,zzY,zzY,zzY,e]
 constructor
 ·exact fun h=>h.2
 ·intro h
  refine ⟨?_,h⟩
  rw [←e] at h
  obtain ⟨j,hj⟩:=Int.dvd_of_emod_eq_zero h
  generalize (a - b) % s=r at *
  by_cases hj0:0≤j
  ·have:=Int.mul_nonneg (show 0≤s by omega) hj0
   omega
  ·have:=Int.mul_le_mul_of_nonneg_left (show j≤-1 by omega) (show 0≤s by omega)
   omega
theorem whU_size {u t:Int} (hz:0 < yat u):whU u t=t / yat u:=by
 rcases yd4 u with rfl | rfl | rfl | ⟨h0,h1,h2,h⟩
 ·rw [show yat 0=1 from rfl,Int.ediv_one]; rfl
 ·rfl
 ·rfl
 ·omega
theorem ygc {u:Int} (hz:0 < yat u):yat u=1∨yat u=60∨yat u=3600:=by
 rcases yd4 u with rfl | rfl | rfl | ⟨h0,h1,h2,h⟩
 ·exact .inl rfl
 ·exact .inr (.inl rfl)
 ·exact .inr (.inr rfl)
 ·omega
theorem okS_on {c:Cl} (hm:mayC c=true) (hz:0 < yat c.unit) {n:Int} {k:Nat} (h0:0≤n) (h1:n < 146097) (hk:k < 86400):okS c (ycL c n) k=onB c.unit c.step c.anchor (86400 * n+k):=by
 obtain ⟨-,hs,hu,ha⟩:=ycM hm
 obtain ⟨e1,e2⟩:=ycG hu ha
 obtain ⟨e3,e4⟩:=ycG hu (win_of (t:=86400 * n+k) (by omega) (by omega))
 rw [onB,e1,e3,e4,ybK,zzZ hs,whU_size hz,okS,ycL]
 obtain ⟨A,hA⟩:∃A,yaB c.unit c.anchor=A:=⟨_,rfl⟩
 rw [hA]
 have hd:(86400 * n+(k:Int)) / yat c.unit=86400 * n / yat c.unit+(k:Int) / yat c.unit:=by
  rcases ygc hz with h | h | h <;> rw [h] <;> omega
 have hx:0≤(k:Int) / yat c.unit:=by
  rcases ygc hz with h | h | h <;> rw [h] <;> omega
 rw [hd]
 obtain ⟨B,hB⟩:∃B,86400 * n / yat c.unit=B:=⟨_,rfl⟩
 obtain ⟨X,hX⟩:∃X,(k:Int) / yat c.unit=X:=⟨_,rfl⟩
 rw [hB,hX]
 rw [hX] at hx
 by_cases h1s:1 < c.step
 ·rw [if_pos (show 1 < c.step∧0 < yat c.unit from ⟨h1s,hz⟩),if_pos ⟨hz, .inl h1s⟩,phase_mod hs hx]; simp
 ·have e:c.step=1:=by omega
  rw [if_neg (show¬(1 < c.step∧0 < yat c.unit) by omega),if_neg (by omega),e]; simp
def sF (c:Cl) (n:Int):Int:=if ya0 c n then stF c n else 0
def sU (c:Cl) (n:Int):Int:=if ya0 c n then stU c n else 0
def sP (c:Cl) (n:Int):Int:=if ya0 c n then ycL c n else 0
theorem stG_parts (c:Cl) (n:Int):stG c n=stv (ya0 c n) (sF c n) (sU c n) (sP c n):=by
 rw [stG,sF,sU,sP]
 cases ya0 c n <;> rfl
theorem phase_nn {c:Cl} (hm:mayC c=true) (n:Int):0≤ycL c n:=by
 obtain ⟨-,hs,-,-⟩:=ycM hm
 rw [ycL]
 split
 ·exact Int.emod_nonneg _ (by omega)
 ·omega
theorem yi8 {c:Cl} {n:Int} (h:ya0 c n=true):mayC c=true∧yay c.fr c.un=true∧dayC c n=true∧frD c≤n∧n≤unD c:=by
 simp only [ya0,okD,onD,zzX,zzY] at h
 exact ⟨h.1.2,h.1.1,h.2.2.2,h.2.1,h.2.2.1⟩
theorem bet_live {c:Cl} {n:Int} {k:Nat} (h0:0≤n) (h1:n < 146097) (hk:k < 86400):betB (stF c n) (stU c n) k=betB c.fr c.un (86400 * n+k):=by
 have e1:stF c n≤(k:Int)↔c.fr≤86400 * n+k:=by unfold stF; constructor <;> intro h <;> omega
 have e2:(k:Int)≤stU c n↔86400 * n+k≤c.un:=by unfold stU; constructor <;> intro h <;> omega
 rw [betB,betB,zze]
 simp only [zzX,zzY]
 rw [e1,e2]
theorem bet_days {c:Cl} {n:Int} {k:Nat} (h0:0≤n) (h1:n < 146097) (hk:k < 86400) (h:betB c.fr c.un (86400 * n+k)=true):yay c.fr c.un=true∧frD c≤n∧n≤unD c:=by
 rw [betB] at h
 simp only [zzX,zzY] at h
 have hB:yay c.fr c.un=true:=zzZ (by omega)
 obtain ⟨e1,e2,e3⟩:=ygu hB
 refine ⟨hB,?_,?_⟩
 ·rw [e1]; omega
 ·rw [e2]; omega
theorem secQ_has (c:Cl) {n:Int} {k:Nat} (h0:0≤n) (h1:n < 146097) (hk:k < 86400):secQ c (ya0 c n) (sF c n) (sU c n) (sP c n) k=hasC c (86400 * n+k):=by
 have hw:winB (86400 * n+k)=true:=win_of (by omega) (by omega)
 rw [secQ,hasC,hw,zzo,show (86400 * n+(k:Int)) % 86400=k by omega,show (86400 * n+(k:Int)) / 86400=n by omega]
 cases hl:ya0 c n
 ·rw [Bool.false_and]
  cases hb:betB c.fr c.un (86400 * n+k)
  ·simp
  ·obtain ⟨g1,g2,g3⟩:=bet_days h0 h1 hk hb
   have:(mayC c && dayC c n)=false:=by
    rw [ya0,okD,onD,g1,zzZ g2,zzZ g3] at hl; simpa using hl
   rcases Bool.and_eq_false_iff.1 this with h | h <;> rw [h] <;> simp
 ·obtain ⟨hm,hB,hd,g1,g2⟩:=yi8 hl
  obtain ⟨-,hs,hu,ha⟩:=ycM hm
  rw [sF,sU,sP,hl,if_pos rfl,if_pos rfl,if_pos rfl,bet_live h0 h1 hk,hm,hd,zzZ (phase_nn hm n),Bool.and_true]
  have:okS c (ycL c n) k=onB c.unit c.step c.anchor (86400 * n+k):=by
   rcases ycs c.unit with hz | hz
   ·exact okS_on hm hz h0 h1 hk
   ·have e:=yjo (t:=86400 * n+k) hu ha hs (by omega) (by omega) hz
    rw [show (86400 * n+(k:Int)) / 86400=n by omega] at e
    rw [dayC,hm,zzo,zzX] at hd
    rw [←e,hd.2,okS,if_neg (by omega)]
  rw [this]
  simp only [zzo]
  cases betB c.fr c.un (86400 * n+k) <;> cases ybn k (c.m 2) (c.m 1) (c.m 0) <;> simp
def dayQ (cs:List Cl) (n:Int) (k:Nat):Bool:=cs.any fun c=>hasC c (86400 * n+k)
end Go.Proofs.YtjahgimnfliooaaGreatDoor
