/-
  The seconds of a clause's state on a day are those of the day's instants that have the clause.
-/
import Derived.Test.YtkpgfmonhfnhdaaGreatDoorQ6d5c78
namespace Go.Proofs.YtkpgfmonhfnhdaaGreatDoor
open Go.RowKit
set_option linter.unusedVariables false
def okS (c:Cl) (p:Int) (k:Nat):Bool:=
 if 0 < yam c.unit∧(1 < c.step∨0 < p) then decide (p≤(k:Int) / yam c.unit) && decide (((k:Int) / yam c.unit - p) % c.step=0) else true
def secQ (c:Cl) (a:Bool) (f u p:Int) (k:Nat):Bool:=a && (decide (0≤p) && (mayC c && (ybY k (c.m 2) (c.m 1) (c.m 0) && (betB f u k && okS c p k))))
theorem phase_mod {a b s x:Int} (hs:1≤s) (hx:0≤x):(decide ((a - b) % s≤x) && decide ((x - (a - b) % s) % s=0))=decide ((b+x - a) % s=0):=by
 have e:(x - (a - b) % s) % s= (b+x - a) % s:=by
  rw [Int.sub_emod x,Int.emod_emod_of_dvd _ (Int.dvd_refl s),←Int.sub_emod,show x - (a - b)=b+x - a by omega]
 have r0:0≤(a - b) % s:=Int.emod_nonneg _ (by omega)
 have r1:(a - b) % s < s:=Int.emod_lt_of_pos _ (by omega)
 rw [Bool.eq_iff_iff,Bool.and_eq_true,decide_eq_true_eq,decide_eq_true_eq,decide_eq_true_eq,e]
 constructor
 ·exact fun h=>h.2
 ·intro h
  refine ⟨?_,h⟩
  rw [←e] at h
  obtain ⟨j,hj⟩:=Int.dvd_of_emod_eq_zero h
  generalize (a - b) % s=r at *
  by_cases hj0:0≤j
  ·have:=Int.mul_nonneg (show 0≤s by omega) hj0
   omega
  ·have:=Int.mul_le_mul_of_nonneg_left (show j≤-1 by omega) (show 0≤s by omega)
   omega
theorem whU_size {u t:Int} (hz:0 < yam u):whU u t=t / yam u:=by
 rcases ycU u with rfl | rfl | rfl | ⟨h0,h1,h2,h⟩
 ·rw [show yam 0=1 from rfl,Int.ediv_one]; rfl
 ·rfl
 ·rfl
 ·omega
theorem yfE {u:Int} (hz:0 < yam u):yam u=1∨yam u=60∨yam u=3600:=by
 rcases ycU u with rfl | rfl | rfl | ⟨h0,h1,h2,h⟩
 ·exact .inl rfl
 ·exact .inr (.inl rfl)
 ·exact .inr (.inr rfl)
 ·omega
theorem okS_on {c:Cl} (hm:mayC c=true) (hz:0 < yam c.unit) {n:Int} {k:Nat} (h0:0≤n) (h1:n < 146097) (hk:k < 86400):okS c (ycI c n) k=onB c.unit c.step c.anchor (86400 * n+k):=by
 obtain ⟨-,hs,hu,ha⟩:=ybR hm
 obtain ⟨e1,e2⟩:=ybN hu ha
 obtain ⟨e3,e4⟩:=ybN hu (win_of (t:=86400 * n+k) (by omega) (by omega))
 rw [onB,e1,e3,e4,ycB,decide_eq_true hs,whU_size hz,okS,ycI]
 obtain ⟨A,hA⟩:∃A,yaL c.unit c.anchor=A:=⟨_,rfl⟩
 rw [hA]
 have hd:(86400 * n+(k:Int)) / yam c.unit=86400 * n / yam c.unit+(k:Int) / yam c.unit:=by
  rcases yfE hz with h | h | h <;> rw [h] <;> omega
 have hx:0≤(k:Int) / yam c.unit:=by
  rcases yfE hz with h | h | h <;> rw [h] <;> omega
 rw [hd]
 obtain ⟨B,hB⟩:∃B,86400 * n / yam c.unit=B:=⟨_,rfl⟩
 obtain ⟨X,hX⟩:∃X,(k:Int) / yam c.unit=X:=⟨_,rfl⟩
 rw [hB,hX]
 rw [hX] at hx
 by_cases h1s:1 < c.step
 ·rw [if_pos (show 1 < c.step∧0 < yam c.unit from ⟨h1s,hz⟩),if_pos ⟨hz, .inl h1s⟩,phase_mod hs hx]; simp
 ·have e:c.step=1:=by omega
  rw [if_neg (show¬(1 < c.step∧0 < yam c.unit) by omega),if_neg (by omega),e]; simp
def sF (c:Cl) (n:Int):Int:=if yaU c n then stF c n else 0
def sU (c:Cl) (n:Int):Int:=if yaU c n then stU c n else 0
def sP (c:Cl) (n:Int):Int:=if yaU c n then ycI c n else 0
theorem stG_parts (c:Cl) (n:Int):stG c n=stv (yaU c n) (sF c n) (sU c n) (sP c n):=by
 rw [stG,sF,sU,sP]
 cases yaU c n <;> rfl
theorem phase_nn {c:Cl} (hm:mayC c=true) (n:Int):0≤ycI c n:=by
 obtain ⟨-,hs,-,-⟩:=ybR hm
 rw [ycI]
 split
 ·exact Int.emod_nonneg _ (by omega)
 ·omega
theorem yim {c:Cl} {n:Int} (h:yaU c n=true):mayC c=true∧yar c.fr c.un=true∧dayC c n=true∧frD c≤n∧n≤unD c:=by
 simp only [yaU,okD,onD,Bool.and_eq_true,decide_eq_true_eq] at h
 exact ⟨h.1.2,h.1.1,h.2.2.2,h.2.1,h.2.2.1⟩
theorem bet_live {c:Cl} {n:Int} {k:Nat} (h0:0≤n) (h1:n < 146097) (hk:k < 86400):betB (stF c n) (stU c n) k=betB c.fr c.un (86400 * n+k):=by
 have e1:stF c n≤(k:Int)↔c.fr≤86400 * n+k:=by unfold stF; constructor <;> intro h <;> omega
 have e2:(k:Int)≤stU c n↔86400 * n+k≤c.un:=by unfold stU; constructor <;> intro h <;> omega
 rw [betB,betB,Bool.eq_iff_iff]
 simp only [Bool.and_eq_true,decide_eq_true_eq]
 rw [e1,e2]
theorem bet_days {c:Cl} {n:Int} {k:Nat} (h0:0≤n) (h1:n < 146097) (hk:k < 86400) (h:betB c.fr c.un (86400 * n+k)=true):yar c.fr c.un=true∧frD c≤n∧n≤unD c:=by
 rw [betB] at h
 simp only [Bool.and_eq_true,decide_eq_true_eq] at h
 have hB:yar c.fr c.un=true:=decide_eq_true (by omega)
 obtain ⟨e1,e2,e3⟩:=yfU hB
 refine ⟨hB,?_,?_⟩
 ·rw [e1]; omega
 ·rw [e2]; omega
theorem secQ_has (c:Cl) {n:Int} {k:Nat} (h0:0≤n) (h1:n < 146097) (hk:k < 86400):secQ c (yaU c n) (sF c n) (sU c n) (sP c n) k=hasC c (86400 * n+k):=by
 have hw:winB (86400 * n+k)=true:=win_of (by omega) (by omega)
 rw [secQ,hasC,hw,Bool.true_and,show (86400 * n+(k:Int)) % 86400=k by omega,show (86400 * n+(k:Int)) / 86400=n by omega]
 cases hl:yaU c n
 ·rw [Bool.false_and]
  cases hb:betB c.fr c.un (86400 * n+k)
  ·simp
  ·obtain ⟨g1,g2,g3⟩:=bet_days h0 h1 hk hb
   have:(mayC c && dayC c n)=false:=by
    rw [yaU,okD,onD,g1,decide_eq_true g2,decide_eq_true g3] at hl; simpa using hl
   rcases Bool.and_eq_false_iff.1 this with h | h <;> rw [h] <;> simp
 ·obtain ⟨hm,hB,hd,g1,g2⟩:=yim hl
  obtain ⟨-,hs,hu,ha⟩:=ybR hm
  rw [sF,sU,sP,hl,if_pos rfl,if_pos rfl,if_pos rfl,bet_live h0 h1 hk,hm,hd,decide_eq_true (phase_nn hm n),Bool.and_true]
  have:okS c (ycI c n) k=onB c.unit c.step c.anchor (86400 * n+k):=by
   rcases ybm c.unit with hz | hz
   ·exact okS_on hm hz h0 h1 hk
   ·have e:=yf3 (t:=86400 * n+k) hu ha hs (by omega) (by omega) hz
    rw [show (86400 * n+(k:Int)) / 86400=n by omega] at e
    rw [dayC,hm,Bool.true_and,Bool.and_eq_true] at hd
    rw [←e,hd.2,okS,if_neg (by omega)]
  rw [this]
  simp only [Bool.true_and]
  cases betB c.fr c.un (86400 * n+k) <;> cases ybY k (c.m 2) (c.m 1) (c.m 0) <;> simp
def dayQ (cs:List Cl) (n:Int) (k:Nat):Bool:=cs.any fun c=>hasC c (86400 * n+k)
end Go.Proofs.YtkpgfmonhfnhdaaGreatDoor
