/-
  The days of clauses: which of them are active on a day, the list of days, the first and the last one.
  The chapter's example has 97 days.
  The law of a clause's state on a day: what is cut of the day, in ferialaw16's words and in lap's.
  The seconds of a clause's state on a day are those of the day's instants that have the clause.
-/
import Derived.Test.YthimhfmnikfgaaaGreatDoorQ2c5ed6
import Derived.Test.YthimhfmnikfgaaaGreatDoorQ0db571
namespace Go.Proofs.YthimhfmnikfgaaaGreatDoor
set_option linter.unusedVariables false
section
open Go.RowKit
def okD (c:Cl):Bool:=heldB c.fr c.un && mayC c
def frD (c:Cl):Int:=heldF c.fr c.un / 86400
def unD (c:Cl):Int:=heldU c.fr c.un / 86400
def onD (c:Cl) (n:Int):Bool:=decide (frD c≤n) && (decide (n≤unD c) && dayC c n)
def liveD (c:Cl) (n:Int):Bool:=okD c && onD c n
def atC (cs:List Cl) (i:Nat):Cl:=cs.getD i fullCl
theorem atC_get {cs:List Cl} {i:Nat} (h:i < cs.length):atC cs i=cs[i]:=by simp [atC,h]
def actM (cs:List Cl) (n:Int):Nat:=mk fun i=>decide (i < cs.length) && liveD (atC cs i) n
theorem mk_or {p:Nat→Bool} {k:Nat} (h:k < 64):mk p ||| 2 ^ k=mk fun i=>p i || decide (i=k):=by
 refine eq_mk (or_lt (mk_lt _) (pow_lt h)) (fun i hi=>?_)
 rw [Nat.testBit_or,mk_test,Nat.testBit_two_pow]
 have:decide (k=i)=decide (i=k):=decide_eq_decide.2 ⟨Eq.symm,Eq.symm⟩
 simp [hi,this]
theorem actM_zero {cs:List Cl} {n:Int}:actM cs n=0↔∀i,i < cs.length→i < 64→liveD (atC cs i) n=false:=by
 constructor
 ·intro h i h1 h2
  have:=mk_test (fun i=>decide (i < cs.length) && liveD (atC cs i) n) i
  rw [←actM,h,Nat.zero_testBit,decide_eq_true h2,decide_eq_true h1,Bool.true_and,Bool.true_and] at this
  exact this.symm
 ·intro h
  rw [actM,←mk_false]
  refine mk_congr fun i hi=>?_
  by_cases h1:i < cs.length
  ·rw [h i h1 hi,Bool.and_false]
  ·rw [decide_eq_false h1,Bool.false_and]
end
section
open Go.RowKit
def stF (c:Cl) (n:Int):Int:=max (max 0 c.fr) (86400 * n) - 86400 * n
def stU (c:Cl) (n:Int):Int:=min (min 12622780799 c.un) (86400 * n+86399) - 86400 * n
def stG (c:Cl) (n:Int):Value:=if liveD c n then stv true (stF c n) (stU c n) (phaseC c n) else stv false 0 0 0
theorem lap_days {c:Cl} (h:heldB c.fr c.un=true):frD c=max c.fr 0 / 86400∧unD c=min c.un 12622780799 / 86400∧max c.fr 0≤min c.un 12622780799:=by
 have hle:max c.fr 0≤min c.un 12622780799:=of_decide_eq_true h
 rw [frD,unD,heldF,heldU,h,if_pos rfl,if_pos rfl]
 exact ⟨rfl,rfl,hle⟩
theorem cut_some {c:Cl} {n:Int} (h:heldB c.fr c.un=true) (h1:frD c≤n) (h2:n≤unD c):max (max 0 c.fr) (86400 * n)≤min (min 12622780799 c.un) (86400 * n+86399):=by
 obtain ⟨e1,e2,e3⟩:=lap_days h
 rw [e1] at h1; rw [e2] at h2
 omega
theorem cut_mod {c:Cl} {n:Int} (h:heldB c.fr c.un=true) (h1:frD c≤n) (h2:n≤unD c) :
  max (max 0 c.fr) (86400 * n) % 86400=stF c n∧min (min 12622780799 c.un) (86400 * n+86399) % 86400=stU c n:=by
 have hc:=cut_some h h1 h2
 rw [stF,stU]
 constructor <;> omega
theorem cut_mid {c:Cl} {n:Int} (h:heldB c.fr c.un=true) (h1:frD c≤n) (h2:n≤unD c) (n1:n≠frD c) (n2:n≠unD c):stF c n=0∧stU c n=86399:=by
 obtain ⟨e1,e2,e3⟩:=lap_days h
 rw [e1] at h1 n1; rw [e2] at h2 n2
 rw [stF,stU]
 constructor <;> omega
end
section
open Go.RowKit
def okS (c:Cl) (p:Int) (k:Nat):Bool:=
 if 0 < sizeU c.unit∧(1 < c.step∨0 < p) then decide (p≤(k:Int) / sizeU c.unit) && decide (((k:Int) / sizeU c.unit - p) % c.step=0) else true
def secQ (c:Cl) (a:Bool) (f u p:Int) (k:Nat):Bool:=a && (decide (0≤p) && (mayC c && (todIn k (c.m 2) (c.m 1) (c.m 0) && (betB f u k && okS c p k))))
theorem phase_mod {a b s x:Int} (hs:1≤s) (hx:0≤x):(decide ((a - b) % s≤x) && decide ((x - (a - b) % s) % s=0))=decide ((b+x - a) % s=0):=by
 have e:(x - (a - b) % s) % s= (b+x - a) % s:=by
  rw [Int.sub_emod x,Int.emod_emod_of_dvd _ (Int.dvd_refl s),←Int.sub_emod,show x - (a - b)=b+x - a by omega]
 have r0:0≤(a - b) % s:=Int.emod_nonneg _ (by omega)
 have r1:(a - b) % s < s:=Int.emod_lt_of_pos _ (by omega)
 rw [Bool.eq_iff_iff,Bool.and_eq_true,decide_eq_true_eq,decide_eq_true_eq,decide_eq_true_eq,e]
 constructor
 ·exact fun h=>h.2
 ·intro h
  refine ⟨?_,h⟩
  rw [←e] at h
  obtain ⟨j,hj⟩:=Int.dvd_of_emod_eq_zero h
  generalize (a - b) % s=r at *
  by_cases hj0:0≤j
  ·have:=Int.mul_nonneg (show 0≤s by omega) hj0
   omega
  ·have:=Int.mul_le_mul_of_nonneg_left (show j≤-1 by omega) (show 0≤s by omega)
   omega
theorem whU_size {u t:Int} (hz:0 < sizeU u):whU u t=t / sizeU u:=by
 rcases unit_cases u with rfl | rfl | rfl | ⟨h0,h1,h2,h⟩
 ·rw [show sizeU 0=1 from rfl,Int.ediv_one]; rfl
 ·rfl
 ·rfl
 ·omega
theorem sizeU_of {u:Int} (hz:0 < sizeU u):sizeU u=1∨sizeU u=60∨sizeU u=3600:=by
 rcases unit_cases u with rfl | rfl | rfl | ⟨h0,h1,h2,h⟩
 ·exact .inl rfl
 ·exact .inr (.inl rfl)
 ·exact .inr (.inr rfl)
 ·omega
theorem okS_on {c:Cl} (hm:mayC c=true) (hz:0 < sizeU c.unit) {n:Int} {k:Nat} (h0:0≤n) (h1:n < 146097) (hk:k < 86400):okS c (phaseC c n) k=onB c.unit c.step c.anchor (86400 * n+k):=by
 obtain ⟨-,hs,hu,ha⟩:=may_ord hm
 obtain ⟨e1,e2⟩:=which_yes hu ha
 obtain ⟨e3,e4⟩:=which_yes hu (win_of (t:=86400 * n+k) (by omega) (by omega))
 rw [onB,e1,e3,e4,stepB,decide_eq_true hs,whU_size hz,okS,phaseC]
 obtain ⟨A,hA⟩:∃A,whichI c.unit c.anchor=A:=⟨_,rfl⟩
 rw [hA]
 have hd:(86400 * n+(k:Int)) / sizeU c.unit=86400 * n / sizeU c.unit+(k:Int) / sizeU c.unit:=by
  rcases sizeU_of hz with h | h | h <;> rw [h] <;> omega
 have hx:0≤(k:Int) / sizeU c.unit:=by
  rcases sizeU_of hz with h | h | h <;> rw [h] <;> omega
 rw [hd]
 obtain ⟨B,hB⟩:∃B,86400 * n / sizeU c.unit=B:=⟨_,rfl⟩
 obtain ⟨X,hX⟩:∃X,(k:Int) / sizeU c.unit=X:=⟨_,rfl⟩
 rw [hB,hX]
 rw [hX] at hx
 by_cases h1s:1 < c.step
 ·rw [if_pos (show 1 < c.step∧0 < sizeU c.unit from ⟨h1s,hz⟩),if_pos ⟨hz, .inl h1s⟩,phase_mod hs hx]; simp
 ·have e:c.step=1:=by omega
  rw [if_neg (show¬(1 < c.step∧0 < sizeU c.unit) by omega),if_neg (by omega),e]; simp
def sF (c:Cl) (n:Int):Int:=if liveD c n then stF c n else 0
def sU (c:Cl) (n:Int):Int:=if liveD c n then stU c n else 0
def sP (c:Cl) (n:Int):Int:=if liveD c n then phaseC c n else 0
theorem stG_parts (c:Cl) (n:Int):stG c n=stv (liveD c n) (sF c n) (sU c n) (sP c n):=by
 rw [stG,sF,sU,sP]
 cases liveD c n <;> rfl
theorem phase_nn {c:Cl} (hm:mayC c=true) (n:Int):0≤phaseC c n:=by
 obtain ⟨-,hs,-,-⟩:=may_ord hm
 rw [phaseC]
 split
 ·exact Int.emod_nonneg _ (by omega)
 ·omega
theorem live_may {c:Cl} {n:Int} (h:liveD c n=true):mayC c=true∧heldB c.fr c.un=true∧dayC c n=true∧frD c≤n∧n≤unD c:=by
 simp only [liveD,okD,onD,Bool.and_eq_true,decide_eq_true_eq] at h
 exact ⟨h.1.2,h.1.1,h.2.2.2,h.2.1,h.2.2.1⟩
theorem bet_live {c:Cl} {n:Int} {k:Nat} (h0:0≤n) (h1:n < 146097) (hk:k < 86400):betB (stF c n) (stU c n) k=betB c.fr c.un (86400 * n+k):=by
 have e1:stF c n≤(k:Int)↔c.fr≤86400 * n+k:=by unfold stF; constructor <;> intro h <;> omega
 have e2:(k:Int)≤stU c n↔86400 * n+k≤c.un:=by unfold stU; constructor <;> intro h <;> omega
 rw [betB,betB,Bool.eq_iff_iff]
 simp only [Bool.and_eq_true,decide_eq_true_eq]
 rw [e1,e2]
theorem bet_days {c:Cl} {n:Int} {k:Nat} (h0:0≤n) (h1:n < 146097) (hk:k < 86400) (h:betB c.fr c.un (86400 * n+k)=true):heldB c.fr c.un=true∧frD c≤n∧n≤unD c:=by
 rw [betB] at h
 simp only [Bool.and_eq_true,decide_eq_true_eq] at h
 have hB:heldB c.fr c.un=true:=decide_eq_true (by omega)
 obtain ⟨e1,e2,e3⟩:=lap_days hB
 refine ⟨hB,?_,?_⟩
 ·rw [e1]; omega
 ·rw [e2]; omega
theorem secQ_has (c:Cl) {n:Int} {k:Nat} (h0:0≤n) (h1:n < 146097) (hk:k < 86400):secQ c (liveD c n) (sF c n) (sU c n) (sP c n) k=hasC c (86400 * n+k):=by
 have hw:winB (86400 * n+k)=true:=win_of (by omega) (by omega)
 rw [secQ,hasC,hw,Bool.true_and,show (86400 * n+(k:Int)) % 86400=k by omega,show (86400 * n+(k:Int)) / 86400=n by omega]
 cases hl:liveD c n
 ·rw [Bool.false_and]
  cases hb:betB c.fr c.un (86400 * n+k)
  ·simp
  ·obtain ⟨g1,g2,g3⟩:=bet_days h0 h1 hk hb
   have:(mayC c && dayC c n)=false:=by
    rw [liveD,okD,onD,g1,decide_eq_true g2,decide_eq_true g3] at hl; simpa using hl
   rcases Bool.and_eq_false_iff.1 this with h | h <;> rw [h] <;> simp
 ·obtain ⟨hm,hB,hd,g1,g2⟩:=live_may hl
  obtain ⟨-,hs,hu,ha⟩:=may_ord hm
  rw [sF,sU,sP,hl,if_pos rfl,if_pos rfl,if_pos rfl,bet_live h0 h1 hk,hm,hd,decide_eq_true (phase_nn hm n),Bool.and_true]
  have:okS c (phaseC c n) k=onB c.unit c.step c.anchor (86400 * n+k):=by
   rcases sizeU_cases c.unit with hz | hz
   ·exact okS_on hm hz h0 h1 hk
   ·have e:=dayOn_on (t:=86400 * n+k) hu ha hs (by omega) (by omega) hz
    rw [show (86400 * n+(k:Int)) / 86400=n by omega] at e
    rw [dayC,hm,Bool.true_and,Bool.and_eq_true] at hd
    rw [←e,hd.2,okS,if_neg (by omega)]
  rw [this]
  simp only [Bool.true_and]
  cases betB c.fr c.un (86400 * n+k) <;> cases todIn k (c.m 2) (c.m 1) (c.m 0) <;> simp
def dayQ (cs:List Cl) (n:Int) (k:Nat):Bool:=cs.any fun c=>hasC c (86400 * n+k)
end
end Go.Proofs.YthimhfmnikfgaaaGreatDoor
