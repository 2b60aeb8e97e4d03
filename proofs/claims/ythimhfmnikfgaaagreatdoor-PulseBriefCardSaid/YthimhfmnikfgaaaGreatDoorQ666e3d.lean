/-
  ferialaw23.PulseDivides answers true for every clauses, two instants, unit and step.
  Sets without a step below a day, of the whole window: how many discs a roll makes of them.
  Pulses of a set held within days, instant by instant (plain).
  feriaref09.Meet (of DayRefs, alone).
  feriaref01: Size, both, Gcd.
  A region that draws its order and ends with stores: its state is held up to the stores alone.
-/
import Derived.Test.YthimhfmnikfgaaaGreatDoorQ062e3f
import Derived.BigQuiet
import Derived.BigRegion
import Derived.Test.YthimhfmnikfgaaaGreatDoorQ4bf0e9
import Derived.Test.YthimhfmnikfgaaaGreatDoorQ30fd51
import Derived.Test.YthimhfmnikfgaaaGreatDoorQ9b22a1
import Derived.Test.YthimhfmnikfgaaaGreatDoorQ0db571
import Derived.Test.YthimhfmnikfgaaaGreatDoorQaa7318
import Derived.Test.YthimhfmnikfgaaaGreatDoorQ2c5ed6
import Derived.Deep.RegionHeld3
import Derived.Deep.CutRange
import Derived.OrdersHeld
import Derived.Test.YthimhfmnikfgaaaGreatDoorQc1bf1f
namespace Go.Proofs.YthimhfmnikfgaaaGreatDoor
set_option linter.unusedVariables false
section
open Go.RowKit Go.Maps
attribute [local irreducible] secL
attribute [local go_sem ↓] loadAt_7i storeAt_7i
theorem unT_wh {u:Nat} (hu:u < 7) (s t:Int):whU (u:Int) t - whU (u:Int) s=unT u t - unT u s:=by
 have h7:u=0∨u=1∨u=2∨u=3∨u=4∨u=5∨u=6:=by omega
 have key:∀t:Int,86400 * (t / 86400)+(((t % 86400).toNat:Nat):Int)=t:=fun t=>by omega
 rcases h7 with rfl | rfl | rfl | rfl | rfl | rfl | rfl
 ·show t - s= (86400 * (t / 86400)+(((t % 86400).toNat:Nat):Int)) / 1 - (86400 * (s / 86400)+(((s % 86400).toNat:Nat):Int)) / 1; rw [key,key]; omega
 ·show t / 60 - s / 60= (86400 * (t / 86400)+(((t % 86400).toNat:Nat):Int)) / 60 - (86400 * (s / 86400)+(((s % 86400).toNat:Nat):Int)) / 60; rw [key,key]
 ·show t / 3600 - s / 3600= (86400 * (t / 86400)+(((t % 86400).toNat:Nat):Int)) / 3600 - (86400 * (s / 86400)+(((s % 86400).toNat:Nat):Int)) / 3600; rw [key,key]
 ·rfl
 ·rfl
 ·show 12 * fY (t / 86400)+fMo (t / 86400) - 1 - (12 * fY (s / 86400)+fMo (s / 86400) - 1)=12 * fY (t / 86400)+fMo (t / 86400) - (12 * fY (s / 86400)+fMo (s / 86400)); omega
 ·rfl
theorem fault_no {l:List Cl} (h8:l.length≤8) (hm:mayL l=false):faultL l=1:=by
 rw [faultL,if_neg (by omega),if_neg]
 intro h
 rw [mayL,h,decide_eq_true h8] at hm
 cases hm
theorem fault_may' {l:List Cl} (h:mayL l=true):faultL l=0:=by rw [may_fault,decide_eq_true_eq] at h; exact h
structure Two64 (W:World) (b:Nat) (x y:Int):Prop where
 c0:W.cell? ⟨b,0,none⟩=some (.int .i64 x)
 c1:W.cell? ⟨b,1,none⟩=some (.int .i64 y)
 lt:b < W.heap.size
theorem Two64.below {W W':World} {b:Nat} {x y:Int} (h:Two64 W b x y) (hB:Below W.heap.size W W'):Two64 W' b x y:=
 ⟨(hB.cell (p:=⟨b,0,none⟩) h.lt).trans h.c0,(hB.cell (p:=⟨b,1,none⟩) h.lt).trans h.c1,zH h.lt hB.size⟩
end
section
open Go.RowKit Go.Maps
/-! ### how many whole sets are made -/
theorem act_pow {cs:List Cl} {n:Int} (h8:cs.length≤8):actM cs n < 2 ^ cs.length:=by
 refine Nat.lt_pow_two_of_testBit _ fun i hi=>?_
 rw [actM,mk_test,decide_eq_false (show¬i < cs.length by omega),Bool.false_and,Bool.and_false]
theorem cntW_add {ws:Nat→Bool} {a:Nat} (ha:a < 256):cntW (fun i=>ws i || decide (i=a))=if ws a then cntW ws else cntW ws+1:=by
 have key:∀(l:List Nat),l.Nodup→a∈l→l.countP (fun i=>ws i || decide (i=a))=if ws a then l.countP ws else l.countP ws+1:=by
  intro l
  induction l with
  | nil=>intro _ h; cases h
  | cons x l ih=>
    intro hn hm
    obtain ⟨hx,hn⟩:=List.nodup_cons.1 hn
    rw [List.countP_cons,List.countP_cons]
    by_cases e:x=a
    ·subst e
     have hno:l.countP (fun i=>ws i || decide (i=x))=l.countP ws:=List.countP_congr fun i hi=>by
      have:i≠x:=fun e=>hx (e ▸ hi)
      simp [this]
     rw [hno]
     cases ws x <;> simp
    ·have hm2:a∈l:=by
      rcases List.mem_cons.1 hm with h | h
      ·exact absurd h.symm e
      ·exact h
     rw [ih hn hm2]
     have e1:decide (x=a)=false:=by simp [e]
     cases ws a <;> cases ws x <;> simp [e1] <;> omega
 exact key _ List.nodup_range (List.mem_range.2 ha)
theorem count_below (M N:Nat):(List.range M).countP (fun j=>decide (j < N))≤N:=by
 induction M with
 | zero=>simp
 | succ M ih=>
   by_cases h:M < N
   ·have h1:(List.range (M+1)).countP (fun j=>decide (j < N))≤M+1:=zI List.countP_le_length (by rw [List.length_range]; exact zG _)
    omega
   ·rw [List.range_succ,List.countP_append,List.countP_cons,List.countP_nil,decide_eq_false h]
    simpa using ih
theorem cntW_le {ws:Nat→Bool} {N:Nat} (h:∀j,ws j=true→j < N):cntW ws≤N:=
 zI (List.countP_mono_left fun j _ hj=>by simpa using h j hj) (count_below 256 N)
structure KnI (cs:List Cl) (n0:Int) (k:Nat) (ws:Nat→Bool) (m:Nat):Prop where
 cnt:m=cntW ws
 low:∀j,ws j=true→j < 2 ^ cs.length
 day:0 < k→actM cs n0=0∨ws (actM cs n0)=true
theorem KnI.le {cs:List Cl} {n0:Int} {k:Nat} {ws:Nat→Bool} {m:Nat} (h:KnI cs n0 k ws m):m≤2 ^ cs.length:=by rw [h.cnt]; exact cntW_le h.low
theorem KnI.step {cs:List Cl} {n0 n:Int} {k:Nat} {ws ws':Nat→Bool} {m m':Nat} (h:KnI cs n0 k ws m) (h8:cs.length≤8) (hw:wholeB cs n=true) (hs:AtStep cs n ws m ws' m') (hk:k=0→n=n0):KnI cs n0 (k+1) ws' m':=by
 have ha:actM cs n < 2 ^ cs.length:=act_pow h8
 have ha2:actM cs n < 256:=actM_lt8 h8
 rcases hs with ⟨a,rfl,rfl⟩ | ⟨a,-,rfl,rfl⟩ | ⟨-,v,-⟩
 ·refine ⟨h.cnt,h.low,fun _=>?_⟩
  by_cases hk0:k=0
  ·rw [←hk hk0]; exact .inl a
  ·exact h.day (by omega)
 ·refine ⟨?_,fun j hj=>?_,fun _=>?_⟩
  ·rw [cntW_add ha2,h.cnt]
  ·rw [Bool.or_eq_true,decide_eq_true_eq] at hj
   rcases hj with hj | hj
   ·exact h.low j hj
   ·rw [hj]; exact ha
  ·by_cases hk0:k=0
   ·rw [←hk hk0]; exact .inr (by simp)
   ·exact (h.day (by omega)).imp id (fun h=>by rw [h]; rfl)
 ·rw [hw] at v; cases v
end
section
open Go.RowKit Go.Maps
attribute [local irreducible] secL
def hdCl (F U:Int) (c:Cl):Cl:={c with fr:=heldF (max (max 0 c.fr) F) (min (min 12622780799 c.un) U),un:=heldU (max (max 0 c.fr) F) (min (min 12622780799 c.un) U)}
theorem hd_ok {F U:Int} {c:Cl} (h:c.Ok) (hF:i64B F) (hU:i64B U):(hdCl F U c).Ok:=by
 have h1:=h.fr
 have h2:=h.un
 have b:i64B (heldF (max (max 0 c.fr) F) (min (min 12622780799 c.un) U))∧i64B (heldU (max (max 0 c.fr) F) (min (min 12622780799 c.un) U)):=by
  simp only [i64B] at *
  rcases held_cases (max (max 0 c.fr) F) (min (min 12622780799 c.un) U) with ⟨e1,e2,e3⟩ | ⟨e1,e2,e3⟩
  ·rw [e1,e2]; omega
  ·rw [e1,e2]; omega
 exact {h with fr:=b.1,un:=b.2}
theorem hd_rng {F U t:Int} {c:Cl} (h:hasC (hdCl F U c) t=true):F≤t∧t≤U:=by
 rw [hasC,Bool.and_eq_true,Bool.and_eq_true,Bool.and_eq_true,winB,betB] at h
 have h1:=h.2.2.1
 rw [Bool.and_eq_true,decide_eq_true_eq,decide_eq_true_eq] at h1
 simp only [hdCl] at h1
 rcases held_cases (max (max 0 c.fr) F) (min (min 12622780799 c.un) U) with ⟨e1,e2,e3⟩ | ⟨e1,e2,e3⟩
 ·rw [e1,e2] at h1; omega
 ·rw [e1,e2] at h1; omega
theorem hd_inst {F U t:Int} {l:List Cl} (h:instB (l.map (hdCl F U)) t=true):F≤t∧t≤U:=by
 rw [instB,List.any_eq_true] at h
 obtain ⟨c,hc,ht⟩:=h
 obtain ⟨d,-,rfl⟩:=List.mem_map.1 hc
 exact hd_rng ht
theorem wh_day {u:Nat} (h:3≤u) {d s r:Int} (s0:0≤s∧s < 86400) (r0:0≤r∧r < 86400):whU (u:Int) (86400 * d+s)=whU (u:Int) (86400 * d+r):=by
 rw [whU,whU,if_neg (by omega),if_neg (by omega),if_neg (by omega),if_neg (by omega),if_neg (by omega),if_neg (by omega),show (86400 * d+s) / 86400=d by omega,show (86400 * d+r) / 86400=d by omega]
def SB (cs:List Cl) (f d:Int) (i u:Nat) (x:Int):Prop:=
 (∃D s,f≤D∧D < d∧s∈secL (dayQ cs D)∧x=whU (u:Int) (86400 * D+s))∨∃s,s∈(secL (dayQ cs d)).take i∧x=whU (u:Int) (86400 * d+s)
def BT (fs:Int) (G:Nat→Nat) (u:Nat):Bt:=(decide (0≤fs),if 0≤fs then whU (u:Int) fs else 0,(G u:Int))
def BI (cs:List Cl) (f d:Int) (i:Nat) (fs:Int) (G:Nat→Nat):Prop:=∀u,u < 7→BeatQ (SB cs f d i u) (BT fs G u)
theorem BI.zero (cs:List Cl) (f:Int):BI cs f f 0 (-1) (fun _=>0):=fun u _=>BeatP.congr BeatP.empty fun x=>by
 constructor
 ·exact fun h=>h.elim
 ·rintro (⟨D,s,h1,h2,-⟩ | ⟨s,hs,-⟩)
  ·omega
  ·simp at hs
theorem BI.day {cs:List Cl} {f d:Int} {fs:Int} {G:Nat→Nat} (hf:f≤d) (h:BI cs f d (secL (dayQ cs d)).length fs G):BI cs f (d+1) 0 fs G:=fun u hu=>BeatP.congr (h u hu) fun x=>by
 rw [SB,SB,List.take_length]
 constructor
 ·rintro (⟨D,s,h1,h2,h3,h4⟩ | ⟨s,hs,hx⟩)
  ·exact .inl ⟨D,s,h1,by omega,h3,h4⟩
  ·exact .inl ⟨d,s,hf,by omega,hs,hx⟩
 ·rintro (⟨D,s,h1,h2,h3,h4⟩ | ⟨s,hs,-⟩)
  ·by_cases e:D=d
   ·subst e; exact .inr ⟨s,h3,h4⟩
   ·exact .inl ⟨D,s,h1,by omega,h3,h4⟩
  ·simp at hs
def fsN (fs t:Int):Int:=if fs < 0 then t else fs
def stG1 (i:Nat) (fs t:Int) (G:Nat→Nat) (u:Nat):Nat:=if 3≤u∧0 < i then G u else if G u=1 then 1 else gcdL [(G u:Int),whU (u:Int) t - whU (u:Int) fs]
theorem BI.step {cs:List Cl} {f d:Int} {i:Nat} {fs:Int} {G:Nat→Nat} (h:BI cs f d i fs G) (hi:i < (secL (dayQ cs d)).length) (hd:0≤d) (G':Nat→Nat)
  (hG:∀u,u < 7→G' u=stG1 i (fsN fs (86400 * d+(secL (dayQ cs d))[i])) (86400 * d+(secL (dayQ cs d))[i]) G u):BI cs f d (i+1) (fsN fs (86400 * d+(secL (dayQ cs d))[i])) G':=fun u hu=>by
 have hb:=h u hu
 have hq:=hG u hu
 have hr:=nsec_rng (dayQ cs d) _ (List.getElem_mem hi)
 have hS:∀x,SB cs f d (i+1) u x↔SB cs f d i u x∨x=whU (u:Int) (86400 * d+(secL (dayQ cs d))[i]):=fun x=>by
  rw [SB,SB,take_snoc _ i hi]
  simp only [List.mem_append,List.mem_singleton]
  constructor
  ·rintro (h | ⟨s,hs | rfl,hx⟩)
   ·exact .inl (.inl h)
   ·exact .inl (.inr ⟨s,hs,hx⟩)
   ·exact .inr hx
  ·rintro ((h | ⟨s,hs,hx⟩) | hx)
   ·exact .inl h
   ·exact .inr ⟨s, .inl hs,hx⟩
   ·exact .inr ⟨_, .inr rfl,hx⟩
 obtain ⟨s,hs⟩:∃s,(secL (dayQ cs d))[i]=s:=⟨_,rfl⟩
 rw [hs] at hr hq hS
 rw [hs]
 by_cases hsk:3≤u∧0 < i
 ·rw [stG1,if_pos hsk] at hq
  have h0:0 < (secL (dayQ cs d)).length:=by omega
  have hr0:=nsec_rng (dayQ cs d) _ (List.getElem_mem h0)
  have hm:(secL (dayQ cs d))[0]∈(secL (dayQ cs d)).take i:=by
   rw [List.mem_iff_getElem]
   exact ⟨0,by rw [List.length_take]; omega,by rw [List.getElem_take]⟩
  have hin:SB cs f d i u (whU (u:Int) (86400 * d+s)):= .inr ⟨_,hm,wh_day hsk.1 hr hr0⟩
  have hfs:0≤fs:=by
   rcases Int.lt_or_le fs 0 with hn | hn
   ·exfalso
    have hno:=hb.no (by simp only [BT]; rw [decide_eq_false_iff_not]; omega)
    exact hno.2.2 _ hin
   ·exact hn
  have e:BT (fsN fs (86400 * d+s)) G' u=BT fs G u:=by
   rw [fsN,if_neg (by omega),BT,BT,hq]
  rw [e]
  exact BeatP.congr hb fun x=>⟨fun h=>(hS x).2 (.inl h),fun h=>((hS x).1 h).elim id (fun e=>e ▸ hin)⟩
 ·rw [stG1,if_neg hsk] at hq
  have ht:=hb.take (whU (u:Int) (86400 * d+s))
  have e:BT (fsN fs (86400 * d+s)) G' u=takeB (BT fs G u) (whU (u:Int) (86400 * d+s)):=by
   rcases Int.lt_or_le fs 0 with hn | hn
   ·have hno:=(hb.no (by simp only [BT]; rw [decide_eq_false_iff_not]; omega)).2.1
    simp only [BT] at hno
    have hg0:G u=0:=by omega
    have ef:fsN fs (86400 * d+s)=86400 * d+s:=if_pos hn
    rw [ef,hg0,if_neg (by omega),Int.sub_self] at hq
    have hz:G' u=0:=by rw [hq]; rfl
    have hd1:decide (0≤fs)=false:=by rw [decide_eq_false_iff_not]; omega
    have hd2:decide (0≤86400 * d+s)=true:=by rw [decide_eq_true_eq]; omega
    rw [ef,takeB,BT,BT,hd1,hd2,hz,hg0,if_pos (show 0≤86400 * d+s by omega)]; rfl
   ·have hd1:decide (0≤fs)=true:=decide_eq_true hn
    have ef:fsN fs (86400 * d+s)=fs:=if_neg (by omega)
    rw [ef] at hq
    rw [ef,takeB,BT,BT,hd1,if_pos rfl,if_pos hn,hq]
    simp only
    by_cases h1:G u=1
    ·rw [if_pos h1,if_pos (by omega)]; rfl
    ·rw [if_neg h1,if_neg (by omega)]
  rw [e]
  exact BeatP.congr ht fun x=>(hS x).symm
theorem SB.rng {cs:List Cl} {f d:Int} {i u:Nat} {x:Int} (h:SB cs f d i u x) (hf:0≤f) (hfd:f≤d) (hd:d < 146097):0≤x∧x≤12622780799:=by
 rcases h with ⟨D,s,h1,h2,h3,rfl⟩ | ⟨s,hs,rfl⟩
 ·have:=nsec_rng _ _ h3
  have:=whU_bd (u:=(u:Int)) (t:=86400 * D+s) (by omega) (by omega); omega
 ·have:=nsec_rng _ _ (List.mem_of_mem_take hs)
  have:=whU_bd (u:=(u:Int)) (t:=86400 * d+s) (by omega) (by omega); omega
theorem BI.bd {cs:List Cl} {f d:Int} {i:Nat} {fs:Int} {G:Nat→Nat} (h:BI cs f d i fs G) (hf:0≤f) (hfd:f≤d) (hd:d < 146097) {u:Nat} (hu:u < 7):(G u:Int)≤12622780799:=
 (BeatP.bd (M:=12622780799) (h u hu) (by omega) fun x hx=>hx.rng hf hfd hd).2.2.2
theorem BI.pulse {l:List Cl} {f e:Int} {fs:Int} {G:Nat→Nat} (h:BI (l.map (hdCl (86400 * f) (86400 * e+86399))) f (e+1) 0 fs G) {u:Nat} (hu:u < 7) {y:Bool} {n g:Int}
  (hp:BeatP (PuU (l.map (hdCl (86400 * f) (86400 * e+86399))) u) y n g):(G u:Int)=g:=by
 refine BeatP.unique (h u hu) hp fun d=>?_
 constructor
 ·rintro hS _ _ ⟨s,hs,rfl⟩ ⟨t,ht,rfl⟩
  rw [←unT_wh hu]
  have key:∀t,instB (l.map (hdCl (86400 * f) (86400 * e+86399))) t=true→SB (l.map (hdCl (86400 * f) (86400 * e+86399))) f (e+1) 0 u (whU (u:Int) t):=fun t ht=>by
   have hr:=hd_inst ht
   refine .inl ⟨t / 86400,t % 86400,by omega,by omega,secL_has.2 ⟨(t % 86400).toNat,by omega,?_,by omega⟩,?_⟩
   ·rw [dayQ_inst,show 86400 * (t / 86400)+(((t % 86400).toNat:Nat):Int)=t by omega]; exact ht
   ·rw [show 86400 * (t / 86400)+t % 86400=t by omega]
  exact hS _ _ (key s hs) (key t ht)
 ·have key:∀x,SB (l.map (hdCl (86400 * f) (86400 * e+86399))) f (e+1) 0 u x→∃t,instB (l.map (hdCl (86400 * f) (86400 * e+86399))) t=true∧x=whU (u:Int) t:=by
   rintro x (⟨D,s,h1,h2,h3,rfl⟩ | ⟨s,hs,-⟩)
   ·obtain ⟨j,hj,hq,rfl⟩:=secL_has.1 h3
    exact ⟨_,hq,rfl⟩
   ·simp at hs
  intro hP x y hx hy
  obtain ⟨s,hs,rfl⟩:=key x hx
  obtain ⟨t,ht,rfl⟩:=key y hy
  rw [unT_wh hu]
  exact hP _ _ ⟨s,hs,rfl⟩ ⟨t,ht,rfl⟩
end
section
open Go.RowKit
def pints (l:List (Int × Int)):List Value:=l.flatMap fun p=> [.int .i64 p.1, .int .i64 p.2]
theorem pints_len (l:List (Int × Int)):(pints l).length=l.length * 2:=by
 induction l with
 | nil=>rfl
 | cons p l ih=>rw [show pints (p :: l)= [.int .i64 p.1, .int .i64 p.2] ++ pints l by simp [pints],List.length_append,ih]; simp only [List.length_cons,List.length_nil]; omega
theorem pints_get:∀(l:List (Int × Int)) (k:Nat) (hk:k < l.length),(pints l)[k * 2]? =some (.int .i64 l[k].1)∧(pints l)[k * 2+1]? =some (.int .i64 l[k].2)
 | p :: l,0,_=>by simp [pints]
 | p :: l,k+1,hk=>by
   have e:pints (p :: l)= [.int .i64 p.1, .int .i64 p.2] ++ pints l:=by simp [pints]
   have h:=pints_get l k (by simpa using hk)
   constructor
   ·rw [e,List.getElem?_append_right (by simp only [List.length_cons,List.length_nil]; omega),show (k+1) * 2 - [Value.int .i64 p.1, .int .i64 p.2].length=k * 2 by simp only [List.length_cons,List.length_nil]; omega,h.1]; simp
   ·rw [e,List.getElem?_append_right (by simp only [List.length_cons,List.length_nil]; omega),show (k+1) * 2+1 - [Value.int .i64 p.1, .int .i64 p.2].length=k * 2+1 by simp only [List.length_cons,List.length_nil]; omega,h.2]; simp
theorem Sl.atPint {w:World} {a:Option Addr} {l:List (Int × Int)} (h:Sl w a (pints l)) {k:Nat} (hk:k < l.length) :
  ∃b off,a=some ⟨b,off,none⟩∧b < w.heap.size∧w.cell? ⟨b,off+k * 2,none⟩=some (.int .i64 l[k].1)∧w.cell? ⟨b,off+k * 2+1,none⟩=some (.int .i64 l[k].2):=by
 obtain ⟨b,off,rfl,hlt,hc⟩:=Sl.at h (k:=k * 2) (by rw [pints_len]; omega)
 obtain ⟨h1,h2⟩:=pints_get l k hk
 obtain ⟨g1,g2⟩:=List.getElem?_eq_some_iff.1 h1
 obtain ⟨g3,g4⟩:=List.getElem?_eq_some_iff.1 h2
 exact ⟨b,off,rfl,hlt,by rw [hc _ g1,g2],by rw [Nat.add_assoc,hc _ g3,g4]⟩
def mtF (l:List (Int × Int)):Int:=l.foldl (fun a p=>max a p.1) 0
def mtU (l:List (Int × Int)):Int:=l.foldl (fun a p=>min a p.2) 12622780799
theorem mtF_snoc (l:List (Int × Int)) (p:Int × Int):mtF (l ++ [p])=max (mtF l) p.1:=by rw [mtF,List.foldl_append]; rfl
theorem mtU_snoc (l:List (Int × Int)) (p:Int × Int):mtU (l ++ [p])=min (mtU l) p.2:=by rw [mtU,List.foldl_append]; rfl
structure MtS (w:World) (F U:Int) (W:World):Prop where
 r0:W.cell? ⟨w.heap.size,0,none⟩=some (.int .i64 0)
 r1:W.cell? ⟨w.heap.size,1,none⟩=some (.int .i64 0)
 g0:W.frozen? ⟨w.heap.size,0,none⟩=false
 g1:W.frozen? ⟨w.heap.size,1,none⟩=false
 c0:W.cell? ⟨w.heap.size+1,0,none⟩=some (.int .i64 F)
 c1:W.cell? ⟨w.heap.size+1,1,none⟩=some (.int .i64 U)
 f0:W.frozen? ⟨w.heap.size+1,0,none⟩=false
 f1:W.frozen? ⟨w.heap.size+1,1,none⟩=false
 be:Below w.heap.size w W
 l:w.heap.size+1 < W.heap.size
theorem MtS.drew {w W:World} {F U:Int} (h:MtS w F U W):MtS w F U W.drew:=by
 have hd:Below W.heap.size W W.drew:=(Below.refl _ _).drew
 have l1:w.heap.size < W.heap.size:=by have:=h.l; omega
 exact ⟨(hd.cell (p:=⟨w.heap.size,0,none⟩) l1).trans h.r0,(hd.cell (p:=⟨w.heap.size,1,none⟩) l1).trans h.r1,(hd.frozen (p:=⟨w.heap.size,0,none⟩) l1).trans h.g0,(hd.frozen (p:=⟨w.heap.size,1,none⟩) l1).trans h.g1,
  (hd.cell (p:=⟨w.heap.size+1,0,none⟩) h.l).trans h.c0,(hd.cell (p:=⟨w.heap.size+1,1,none⟩) h.l).trans h.c1,(hd.frozen (p:=⟨w.heap.size+1,0,none⟩) h.l).trans h.f0,(hd.frozen (p:=⟨w.heap.size+1,1,none⟩) h.l).trans h.f1,h.be.trans (hd.mono (by omega)),zH h.l hd.size⟩
theorem MtS.setF {w W:World} {F U x:Int} (h:MtS w F U W):MtS w x U (W.setCell ⟨w.heap.size+1,0,none⟩ (.int .i64 x)):=by
 obtain ⟨r0,r1,g0,g1,c0,c1,f0,f1,be,l⟩:=h
 exact ⟨by simp [go_sem,r0],by simp [go_sem,r1],by simp [go_sem,g0],by simp [go_sem,g1],by simp [go_sem,c0],by simp [go_sem,c1],by simp [go_sem,f0],by simp [go_sem,f1],below_set be (by omega),by simp [l]⟩
theorem MtS.setU {w W:World} {F U x:Int} (h:MtS w F U W):MtS w F x (W.setCell ⟨w.heap.size+1,1,none⟩ (.int .i64 x)):=by
 obtain ⟨r0,r1,g0,g1,c0,c1,f0,f1,be,l⟩:=h
 exact ⟨by simp [go_sem,r0],by simp [go_sem,r1],by simp [go_sem,g0],by simp [go_sem,g1],by simp [go_sem,c0],by simp [go_sem,c1],by simp [go_sem,f0],by simp [go_sem,f1],below_set be (by omega),by simp [l]⟩
set_option maxRecDepth 100000 in
set_option maxHeartbeats 3200000 in
theorem RMeet9_any (a:Option Addr) (cap:Nat) (l:List (Int × Int)) (w:World) (hl:l.length≤1000) (hs:Sl w a (pints l)) :
  Calls Tryz.prog 10 #[.slice a l.length cap] w fun e w'=>e= .returned (spv (heldF (mtF l) (mtU l)) (heldU (mtF l) (mtU l)))∧Below w.heap.size w w':=by
 have cH:=hid (fun f u W=>RHeld9_any f u W)
 have Hs:=hid hs
 clear hs
 go_enter Tryz.func10,Tryz.ntmps10
 go_upto_region 2 with fail
 have H0:Hid (MtS w 0 12622780799 ((w.alloc (.cells #[.int .i64 0, .int .i64 0] 37)).alloc (.cells #[.int .i64 0, .int .i64 12622780799] 37))):=
  ⟨by simp [go_sem],by simp [go_sem],by simp [go_sem],by simp [go_sem],by simp [go_sem],by simp [go_sem],by simp [go_sem],by simp [go_sem],below_new (below_new (Below.refl _ _) (zG _)) (by simp),by simp⟩
 go_wp2_with fail
 go_loopw [4] (fun i wr=>∃k:Nat,i= .int .i64 k∧k≤l.length∧Hid (MtS w (mtF (l.take k)) (mtU (l.take k)) wr)) (fun i _=>l.length - (intOf i).toNat)
 case atStart=>exact ⟨0,rfl,by omega,H0⟩
 case round=>
  obtain ⟨k,rfl,hk,HI⟩:=hrel
  by_cases hlt:k < l.length
  ·have hltI:(k:Int) < l.length:=by omega
   obtain ⟨b,off,rfl,hb,e1,e2⟩:=Hs.out.atPint hlt
   have e1':=(HI.out.be.cell (p:=⟨b,off+k * 2,none⟩) hb).trans e1
   have e2':=(HI.out.be.cell (p:=⟨b,off+k * 2+1,none⟩) hb).trans e2
   have ts:=take_snoc l k hlt
   obtain ⟨⟨x,y⟩,hxy⟩:∃p,l[k]=p:=⟨_,rfl⟩
   rw [hxy] at e1' e2' ts
   have s1:=mtF_snoc (l.take k) (x,y)
   have s2:=mtU_snoc (l.take k) (x,y)
   rw [←ts] at s1 s2
   obtain ⟨F,hF⟩:∃F,mtF (l.take k)=F:=⟨_,rfl⟩
   obtain ⟨U,hU⟩:∃U,mtU (l.take k)=U:=⟨_,rfl⟩
   rw [hF] at s1 HI
   rw [hU] at s2 HI
   have S1:=hid s1
   have S2:=hid s2
   have hne:Hid (b≠w.heap.size+1):=by have:=hb; exact Nat.ne_of_lt (by omega)
   clear e1 e2 ts hxy s1 s2 hF hU
   obtain ⟨r0,r1,g0,g1,c0,c1,f0,f1,-,-⟩:=HI.out
   have en:(b=w.heap.size+1)=False:=by simpa using hne.out
   rcases Int.lt_or_le F x with h1 | h1 <;> rcases Int.lt_or_le y U with h2 | h2
   all_goals
    go_upto_region 5 with fail
    go_region
    go_upto_region 7 with fail
    go_region
    go_wp2
    refine ⟨⟨k+1,by go_num,by omega,?_⟩,by simp [intOf]; omega⟩
    rw [S1.out,S2.out]
    first
     | (rw [show max F x=x by omega,show min U y=y by omega]; exact HI.out.setF.setU.drew.drew)
     | (rw [show max F x=x by omega,show min U y=U by omega]; exact HI.out.setF.drew.drew)
     | (rw [show max F x=F by omega,show min U y=y by omega]; exact HI.out.setU.drew.drew)
     | (rw [show max F x=F by omega,show min U y=U by omega]; exact HI.out.drew.drew)
  ·have hltI:¬(k:Int) < l.length:=by omega
   have hall:Hid (l.take k=l):=by show _ = _; rw [List.take_of_length_le (by omega)]
   rw [hall.out] at HI
   obtain ⟨F,hF⟩:∃F,mtF l=F:=⟨_,rfl⟩
   obtain ⟨U,hU⟩:∃U,mtU l=U:=⟨_,rfl⟩
   rw [hF,hU] at HI
   have HF:=hid hF
   have HU:=hid hU
   clear hF hU
   obtain ⟨r0,r1,g0,g1,c0,c1,f0,f1,-,-⟩:=HI.out
   go_wp2_with fail
   refine (cH.out _ _ _).mono ?_
   rintro e w2 ⟨rfl,hB2⟩
   have l1:=HI.out.l
   have k1:=(hB2.cell (p:=⟨w.heap.size,0,none⟩) (by simp only []; omega)).trans r0
   have k2:=(hB2.cell (p:=⟨w.heap.size,1,none⟩) (by simp only []; omega)).trans r1
   have q1:=(hB2.frozen (p:=⟨w.heap.size,0,none⟩) (by simp only []; omega)).trans g0
   have q2:=(hB2.frozen (p:=⟨w.heap.size,1,none⟩) (by simp only []; omega)).trans g1
   have HB2:Hid (Below w.heap.size w w2):=HI.out.be.trans (hB2.mono (by omega))
   clear hB2 r0 r1 g0 g1 c0 c1 f0 f1
   obtain ⟨X,hX⟩:∃X,heldF F U=X:=⟨_,rfl⟩
   obtain ⟨Y,hY⟩:∃Y,heldU F U=Y:=⟨_,rfl⟩
   rw [hX,hY]
   have HX:=hid hX
   have HY:=hid hY
   clear hX hY
   go_wp2
   refine bodyPost_ret (v:=spv X Y) (results_cell_mid rfl _ _ w.heap.size 0 _ _ rfl (range_two k1 k2) Tryz.underlying37 rfl infoS9) rfl ⟨?_,below_set (below_set HB2.out (zG _)) (zG _)⟩
   rw [HF.out,HU.out,HX.out,HY.out]
end
section
open Go.RowKit Go.Maps
set_option maxHeartbeats 1600000 in
theorem RSize01_any (n:Int) (w:World) (h:i64B n):Calls Tryz.prog 45 #[.int .i64 n] w fun e w'=>e= .returned (.int .u64 (n.natAbs:Nat))∧w=w':=by
 unfold i64B at h
 obtain ⟨m,hm⟩:∃m,n.natAbs=m:=⟨_,rfl⟩
 rw [hm]
 by_cases h0:n < 0
 ·have h1:IntKind.i64.wrap (n+1)=n+1:=IntWalk.i64_in _ (by omega)
  have h2:IntKind.i64.wrap (-(n+1))= -(n+1):=IntWalk.i64_in _ (by omega)
  have h3:IntKind.u64.wrap (-(n+1))= -(n+1):=by rw [IntKind.wrap_u64]; omega
  have h4:IntKind.u64.wrap (-(n+1)+1)= (m:Int):=by rw [IntKind.wrap_u64]; omega
  clear hm h
  go_enter Tryz.func45,Tryz.ntmps45
  go_wp2
  go_ret
  exact ⟨rfl,rfl⟩
 ·have h3:IntKind.u64.wrap n= (m:Int):=by rw [IntKind.wrap_u64]; omega
  clear hm h
  go_enter Tryz.func45,Tryz.ntmps45
  go_wp2
  go_ret
  exact ⟨rfl,rfl⟩
set_option maxHeartbeats 1600000 in
theorem RBoth01_any (g m:Nat) (w:World) (hg:g < 18446744073709551616) (hm:m < 18446744073709551616):Calls Tryz.prog 44 #[.int .u64 (g:Nat), .int .u64 (m:Nat)] w fun e w'=>e= .returned (.int .u64 (Nat.gcd g m:Nat))∧w=w':=by
 obtain ⟨G,hG⟩:∃G,Nat.gcd g m=G:=⟨_,rfl⟩
 have HG:=hid hG
 rw [hG]
 clear hG
 go_enter Tryz.func44,Tryz.ntmps44
 go_wp2_with fail
 go_loopw [0,1] (fun g' a' wq=>∃p q:Nat,g' = .int .u64 p∧a' = .int .u64 q∧p < 18446744073709551616∧q < 18446744073709551616∧w=wq∧Hid (Nat.gcd p q=G)) (fun _ a' _=>(intOf a').toNat)
 case atStart=>exact ⟨g,m,rfl,rfl,hg,hm,rfl,HG.out⟩
 case round=>
  obtain ⟨p,q,rfl,rfl,hp,hq,rfl,HP⟩:=hrel
  by_cases h0:q=0
  ·subst h0
   have hgm:p=G:=by rw [←HP.out,Nat.gcd_zero_right]
   subst hgm
   go_wp2
   go_ret
   exact ⟨rfl,rfl⟩
  ·have hqb:((q:Int) == 0)=false:=by simp; omega
   have hqn:¬(q:Int)=0:=by omega
   have hlt2:p % q < q:=Nat.mod_lt _ (by omega)
   have hw:IntKind.u64.wrap (Int.tmod (p:Int) (q:Int))= ((p % q:Nat):Int):=by
    rw [Int.tmod_eq_emod_of_nonneg (by omega),IntKind.wrap_u64]; omega
   have HN:Hid (Nat.gcd q (p % q)=G):=by show _ = _; rw [gcd_step,HP.out]
   obtain ⟨r,hr⟩:∃r,p % q=r:=⟨_,rfl⟩
   have hmod:(p:Int) % (q:Int)= (r:Int):=by rw [←hr]; simp
   rw [hr] at hlt2 hw HN
   clear hr
   go_wp2
   refine ⟨⟨q,r,rfl,by first | rfl | (rw [hmod]),by omega,by omega,by first | rfl | trivial,HN.out⟩,by simp [intOf,hmod]; omega⟩
set_option maxHeartbeats 1600000 in
theorem RGcd01_any (a:Option Addr) (cap:Nat) (l:List Int) (w:World) (hl:l.length≤1000000) (hs:Sl w a (ints l)) (hb:∀n∈l,i64B n) :
  Calls Tryz.prog 14 #[.slice a l.length cap] w fun e w'=>e= .returned (.int .u64 (gcdL l:Nat))∧w=w':=by
 have Hs:=hid hs
 have Hb:=hid hb
 have HL:=hid (gcdL_le l hb)
 have cB:=hid (fun g m W h1 h2=>RBoth01_any g m W h1 h2)
 clear hs hb
 go_enter Tryz.func14,Tryz.ntmps14
 go_wp2_with fail
 go_loopw [3,4] (fun g i wr=>∃k:Nat,i= .int .i64 k∧g= .int .u64 (gcdL (l.take k):Nat)∧k≤l.length∧w=wr) (fun _ i _=>l.length - (intOf i).toNat)
 case atStart=>exact ⟨0,rfl,rfl,by omega,rfl⟩
 case round=>
  obtain ⟨k,rfl,rfl,hk,rfl⟩:=hrel
  by_cases hlt:k < l.length
  ·have hdj:decide ((k:Int) < (l.length:Int))=true:=by simp; omega
   obtain ⟨b,off,rfl,hbk,hc⟩:=Hs.out.atInt hlt
   have e1:=hc k hlt
   have hn:=Hb.out _ (List.getElem_mem hlt)
   have htk:=hid (take_snoc l k hlt)
   have hgb:=HL.out k (by omega)
   obtain ⟨n,hnn⟩:∃n,l[k]=n:=⟨_,rfl⟩
   rw [hnn] at e1 hn htk
   obtain ⟨g,hg⟩:∃g,gcdL (l.take k)=g:=⟨_,rfl⟩
   have Hg:=hid hg
   rw [hg] at hgb⊢
   have cS:=hid (RSize01_any n w hn)
   have hab:n.natAbs≤9223372036854775808:=by unfold i64B at hn; omega
   have cG:=hid (cB.out g n.natAbs w (by omega) (by omega))
   have HN:Hid (gcdL (l.take (k+1))=Nat.gcd g n.natAbs):=by show _ = _; rw [htk.out,gcdL_snoc,hg]
   obtain ⟨m,hm⟩:∃m,n.natAbs=m:=⟨_,rfl⟩
   rw [hm] at cS cG HN
   clear hc hnn hg hm hab hgb hn
   go_wp2_with fail
   refine cS.out.mono ?_
   rintro e w' ⟨rfl,rfl⟩
   go_wp2_with fail
   refine cG.out.mono ?_
   rintro e w' ⟨rfl,rfl⟩
   go_wp2
   exact ⟨⟨k+1,by go_num,by rw [HN.out],by omega,by first | rfl | trivial⟩,by simp [intOf]; omega⟩
  ·obtain rfl:k=l.length:=by omega
   have hdj:decide ((l.length:Int) < (l.length:Int))=false:=by simp
   rw [List.take_length]
   clear HL
   go_wp2
   go_ret
   exact ⟨rfl,by first | rfl | trivial⟩
end
section
open Go.RowKit
section
variable {P:Program} {ops:Array Oper} {Q:Exit→Act→World→Prop} {md:Region.Mode} {S:World→Prop} {Z:Nat→Bool}
def OrdE (P:Program) (md:Region.Mode) (ops:Array Oper) (Q:Exit→Act→World→Prop) (S:World→Prop) (Z:Nat→Bool):Nat→Array Bool→Act→World→Prop
 | 0,l,a,w=>Region.ready md ops l= []∧Q .normal a w
 | n+1,l,a,w=>(Region.ready md ops l= []→Q .normal a w)∧∀i∈Region.ready md ops l,wpOp P ops Q i (fun a' w'=>(Z i=false→S w')∧OrdE P md ops Q S Z n (l.setIfInBounds i true) a' w') a w
theorem OrdE.any:∀(n:Nat) (l:Array Bool) (a:Act) (w:World),OrdE P md ops Q S Z n l a w→wpAny P md ops Q n l a w
 | 0,_,_,_,h=>h
 | n+1,_,_,_,h=>⟨h.1,fun i hi=>wpOp_mono (fun a' w' h'=>OrdE.any n _ a' w' h'.2) (h.2 i hi)⟩
def waitsB (md:Region.Mode) (ops:Array Oper) (z i:Nat):Bool:=match ops[z]? with
 | some o=>o.after.toList.any fun e=>Region.binds md e && e.on == i
 | none=>true
theorem waits_no {z i:Nat} {l:Array Bool} (h:waitsB md ops z i=true) (hi:l.getD i true=false):z ∉ Region.ready md ops l:=by
 intro hz
 obtain ⟨-,o,ho,hall⟩:=mem_ready.1 hz
 rw [waitsB,ho] at h
 obtain ⟨e,he,hb⟩:=List.any_eq_true.1 h
 rw [Bool.and_eq_true,beq_iff_eq] at hb
 have h1:=hall e (by simpa using he) hb.1
 rw [hb.2] at h1
 rcases Nat.lt_or_ge i l.size with h' | h'
 ·simp [h'] at hi h1; rw [hi] at h1; cases h1
 ·simp [Array.getElem?_eq_none h'] at h1
def allWait (md:Region.Mode) (ops:Array Oper) (Z:Nat→Bool) (i:Nat):Bool:=(List.range ops.size).all fun z=>!Z z || waitsB md ops z i
theorem OrdE.first {i:Nat} {oi:Oper} {v:Value} (hi:ops[i]? =some oi) (hsel:∀(j:Nat) (o:Oper) cs b,ops[j]? =some o→o.op≠ .select cs b) (hQ:∀c a w,Q (.panic c) (a.put oi.dst v) w→Q (.panic c) a w) (hz:allWait md ops Z i=true) :
  ∀(n:Nat) (l:Array Bool) (a:Act) (w:World),(∀j oj,ops[j]? =some oj→j≠i→l.getD j true=false→(∀e∈oj.after,Region.binds md e=true→e.on≠i)→oi.apart ops oj=true)→
   i∈Region.ready md ops l→YieldsIf P ops S oi v a→S w→OrdE P md ops Q S Z n (l.setIfInBounds i true) (a.put oi.dst v) w→OrdE P md ops Q S Z (n+1) l a w
 | n,l,a,w,hf,hr,hy,hS,H=>by
   refine ⟨fun h=>(by rw [h] at hr; cases hr),fun j hj=>?_⟩
   by_cases hji:j=i
   ·subst hji; exact hy.wpOp hi hS ⟨fun _=>hS,H⟩
   have h0:=(mem_ready.1 hr).1
   have hZ:Z j=false:=by
    cases e:Z j
    ·rfl
    ·have hlt:j < ops.size:=by obtain ⟨-,o,ho,-⟩:=mem_ready.1 hj; exact (Array.getElem?_eq_some_iff.1 ho).1
     have hw:=List.all_eq_true.1 hz j (List.mem_range.2 hlt)
     rw [e] at hw
     exact absurd hj (waits_no (by simpa using hw) h0)
   cases n with
   | zero=>
     have:=ready_mono hj hji
     rw [H.1] at this; cases this
   | succ n=>
     obtain ⟨hju,oj,hoj,hall⟩:=mem_ready.1 hj
     have hno:∀e∈oj.after,Region.binds md e=true→e.on≠i:=fun e he hb heq=>by
      have h1:=hall e he hb
      rw [heq] at h1
      rcases Nat.lt_or_ge i l.size with h' | h'
      ·simp [h'] at h0 h1; rw [h0] at h1; cases h1
      ·simp [Array.getElem?_eq_none h'] at h1
     refine wpOp_mono (fun a' w' h3=>⟨fun _=>h3.2.1 hZ,OrdE.first hi hsel hQ hz n (l.setIfInBounds j true) a' w' (fun k ok hk hki hun hn=>?_) (ready_mono hr (Ne.symm hji)) h3.1 (h3.2.1 hZ) ?_⟩)
      (wpOp_putIf hoj (hf j oj hoj hji hju hno) (fun cs b=>hsel i oi cs b hi) (fun cs b=>hsel j oj cs b hoj) hQ hy (H.2 j (ready_mono hj hji)))
     ·refine hf k ok hk hki ?_ hn
      by_cases hjk:j=k
      ·subst hjk; exact hju
      ·rw [getD_set_ne true hjk] at hun; exact hun
     ·rw [Array.setIfInBounds_comm _ _ hji]; exact h3.2.2
theorem OrdE.take {i:Nat} {oi:Oper} {v:Value} {n:Nat} {l:Array Bool} {a:Act} {w:World} (hi:ops[i]? =some oi) (hs:Region.noSelect ops=true) (hf:Region.free md ops l i=true) (hr:(Region.ready md ops l).contains i=true) (hz:allWait md ops Z i=true)
  (hQ:∀c a w,Q (.panic c) (a.put oi.dst v) w→Q (.panic c) a w) (hw:Region.wanted oi (yielded ops a.tmps)=true) (hS:S w) (hy:∀w,S w→(execOp a.eval oi).run P w= .ok (.value v) w)
  (h:OrdE P md ops Q S Z n (l.setIfInBounds i true) (a.put oi.dst v) w):OrdE P md ops Q S Z (n+1) l a w:=
 OrdE.first hi (Region.noSelect_spec hs) hQ hz n l a w (Region.free_spec hi hf) (by simpa using hr) (.inl ⟨hw,hy⟩) hS h
theorem OrdE.skip {i:Nat} {oi:Oper} {n:Nat} {l:Array Bool} {a:Act} {w:World} (hi:ops[i]? =some oi) (hs:Region.noSelect ops=true) (hf:Region.free md ops l i=true) (hr:(Region.ready md ops l).contains i=true) (hz:allWait md ops Z i=true)
  (hQ:∀c a w,Q (.panic c) (a.put oi.dst undef) w→Q (.panic c) a w) (hw:Region.wanted oi (yielded ops a.tmps)=false) (hS:S w)
  (h:OrdE P md ops Q S Z n (l.setIfInBounds i true) (a.put oi.dst undef) w):OrdE P md ops Q S Z (n+1) l a w:=
 OrdE.first hi (Region.noSelect_spec hs) hQ hz n l a w (Region.free_spec hi hf) (by simpa using hr) (.inr ⟨hw,rfl⟩) hS h
theorem OrdE.one {i:Nat} {oi:Oper} {n:Nat} {l:Array Bool} {a:Act} {w:World} (hi:ops[i]? =some oi) (hr:Region.ready md ops l= [i])
  (h:∀K:Act→World→Prop,Hid (∀a w,(Z i=false→S w)→OrdE P md ops Q S Z n (l.setIfInBounds i true) a w→K a w)→if Region.wanted oi (yielded ops a.tmps)=true then Oper.wp P oi a w K Q else K (a.put oi.dst undef) w):OrdE P md ops Q S Z (n+1) l a w:=
 ⟨fun h0=>(by rw [hr] at h0; cases h0),fun j hj=>by
  rw [hr,List.mem_singleton] at hj
  subst hj
  exact wpOp_step hi (fun K' hK=>h K' (fun a w h1 h2=>hK a w ⟨h1,h2⟩))⟩
theorem OrdE.done {l:Array Bool} {a:Act} {w:World} (hr:Region.ready md ops l= []) (h:Q .normal a w):∀n,OrdE P md ops Q S Z n l a w
 | 0=>⟨hr,h⟩
 | _+1=>⟨fun _=>h,by rw [hr]; simp⟩
end
section
variable {P:Program} {ops:Array Oper} {Q:Exit→Act→World→Prop} {md:Region.Mode} {S:World→Prop} {Z:Nat→Bool} {n:Nat} {l:Array Bool} {a:Act} {w:World} {oi:Oper}
theorem eT (i:Nat) {v:Value} (hy:∀w,S w→(execOp a.eval oi).run P w= .ok (.value v) w) (h:OrdE P md ops Q S Z n (l.setIfInBounds i true) (a.put oi.dst v) w) (hi:ops[i]? =some oi:=by rfl) (hs:Region.noSelect ops=true:=by kernel_rfl)
  (hf:Region.free md ops l i=true:=by kernel_rfl) (hr:(Region.ready md ops l).contains i=true:=by kernel_rfl) (hz:allWait md ops Z i=true:=by kernel_rfl) (hQ:∀c a w,Q (.panic c) (a.put oi.dst v) w→Q (.panic c) a w:=by exact fun _ _ _ h=>h)
  (hw:Region.wanted oi (yielded ops a.tmps)=true:=by rfl) (hS:S w:=by assumption):OrdE P md ops Q S Z (n+1) l a w:=OrdE.take hi hs hf hr hz hQ hw hS hy h
end
theorem ePut:(∀(a:Act) (d:Tmp) (v:Value),a.put (some d) v= {a with tmps:=a.tmps.setIfInBounds d v})∧(∀(a:Act) (v:Value),a.put none v=a)∧(type_of% @List.getElem_toArray.{0})∧(type_of% @List.getElem_cons_succ.{0})∧(type_of% @List.getElem_cons_zero.{0})∧(type_of% @List.setIfInBounds_toArray.{0})∧(type_of% @List.set_cons_zero.{0})∧(type_of% @List.set_cons_succ.{0}):=
 ⟨fun _ _ _=>rfl,fun _ _=>rfl,@List.getElem_toArray.{0},@List.getElem_cons_succ.{0},@List.getElem_cons_zero.{0},@List.setIfInBounds_toArray.{0},@List.set_cons_zero.{0},@List.set_cons_succ.{0}⟩
theorem regE {id:Nat} {P:Program} {ops:Array Oper} (Z:Nat→Bool) {S:World→Prop} {Q:Exit→Act→World→Prop} {a:Act} {w:World} (hm:P.follows .mixedOrders=true) (hS:S w.drew)
  (h:S w.drew→OrdE P .any ops Q S Z ops.size (Array.replicate ops.size false) a w.drew):(Code.region id ops true).wp P Q a w:=
 wp_region_any hm (OrdE.any _ _ _ _ (h hS))
end
end Go.Proofs.YthimhfmnikfgaaaGreatDoor
