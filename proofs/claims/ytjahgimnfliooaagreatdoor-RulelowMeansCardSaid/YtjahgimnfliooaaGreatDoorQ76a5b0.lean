/-
  The clause of a rule: what it means (plain).
  How many instants of a set are between two instants, in plain words.
  The law of a range over a function that has a state of its own, once more: the teller's blocks do not hold the loop's.
  seek.All's function, walked: it tells the instants of a set, from one to another one.
  seek.held and seek.All.
  seek.Next and seek.First.
  seek.Prev and seek.Last.
  What Next and Prev of a set tell, in plain words.
-/
import Derived.Test.YtjahgimnfliooaaGreatDoorQ155bda
import Derived.Test.YtjahgimnfliooaaGreatDoorQaeb5bd
import Derived.Test.YtjahgimnfliooaaGreatDoorQe56d57
import Derived.Test.YtjahgimnfliooaaGreatDoorQ44148d
import Derived.Test.YtjahgimnfliooaaGreatDoorQ639de2
import Derived.Test.YtjahgimnfliooaaGreatDoorQ3571b4
import Derived.BigRegion
import Derived.Test.YtjahgimnfliooaaGreatDoorQ4c06b4
import Derived.Shelf.Strconv.Itoa0
import Derived.Test.YtjahgimnfliooaaGreatDoorQf9f2c2
set_option maxRecDepth 100000
set_option maxHeartbeats 25600000
namespace Go.Proofs.YtjahgimnfliooaaGreatDoor
set_option linter.unusedVariables false
section
open Go.RowKit Go.Maps
attribute [local irreducible] secL
def lowM (r:Ru) (i:Nat):Nat:=if i=0 then tmS r else if i=1 then tmM r else if i=2 then tmH r else if i=3 then ya7 r else if i=4 then domV r else if i=5 then endV r else ybE r
def lowC (r:Ru):Cl:={m:=lowM r,or:=false,oin:=woI r,oback:=woB r,od:=woD r,ys:=ybV,unit:=r.fq,step:=r.iv,anchor:=r.st,fr:=r.st,un:=if r.un= -1 then 12622780799 else r.un}
def ye6 (r:Ru) (t:Int):Bool:=winB t && ((decide (r.st≤t) && (decide (r.un= -1) || decide (t≤r.un))) && (yfD r (shF (t / 86400)) && (yeP r (t % 86400) && onB r.fq r.iv r.st t)))
def lowE (r:Ru):Int:=if yaf r=0 then (if 100000000000 < r.iv∨1000000 < r.co then 14 else 0) else yaf r
theorem ydJ {r:Ru} (h:yde r=0):1≤r.iv∧0≤r.co∧(r.un= -1∨winB r.un=true):=by
 rw [yde] at h
 split at h
 ·cases h
 ·split at h
  ·cases h
  ·split at h
   ·cases h
   ·split at h
    ·cases h
    ·split at h
     ·cases h
     ·split at h
      ·cases h
      ·split at h
       ·exact ⟨by omega,by omega, .inl (by assumption)⟩
       ·split at h
        ·cases h
        ·rename_i hw
         refine ⟨by omega,by omega, .inr ?_⟩
         cases e:winB r.un
         ·exact absurd e hw
         ·rfl
theorem rlBit (l:List Int) (i:Nat):(ofM l).testBit i= (decide (i < 64) && decide ((i:Int)∈l)):=by rw [ofM,ybh,inB]
theorem ygA {l:List Int} {lo hi:Int} (h:∀x∈l,lo≤x∧x≤hi):yba (ofM l) lo hi=true:=yci.2 fun k _ hb=>by
 rw [rlBit,zzX,zzY,zzY] at hb
 exact h _ hb.2
theorem yeF {x lo hi:Int} (h:lo≤x∧x≤hi):yba (ofM [x]) lo hi=true:=ygA fun y hy=>by
 have:y=x:=by simpa using hy
 rw [this]; exact h
theorem full_bits:yba (fullCl.m 0) 0 59=true∧yba (fullCl.m 1) 0 59=true∧yba (fullCl.m 2) 0 23=true∧yba (fullCl.m 3) 1 12=true∧yba (fullCl.m 4) 1 31=true∧yba (fullCl.m 5) 1 31=true∧yba (fullCl.m 6) 1 7=true:=by
 have h:=yi1
 simp only [mayC,ydH,zzX] at h
 exact h.1
theorem ygg {l:List Int} {at' freq fq lo hi:Int} {full:Nat} (h:∀x∈l,lo≤x∧x≤hi) (ha:lo≤at'∧at'≤hi) (hf:yba full lo hi=true):yba (oneE l at' freq full fq) lo hi=true:=by
 rw [oneE]
 split
 ·exact ygA h
 ·split
  ·exact yeF ha
  ·exact hf
theorem neg_bits {l:List Int} (h:∀x∈l,-31≤x∧x≤-1):yba (negM l) 1 31=true:=yci.2 fun k hk hb=>by
 have e:=yh4 (l:=l) (x:=(k:Int)) (by omega) (by omega)
 rw [hasB,zzZ (by omega),zzo,Int.toNat_natCast,hb] at e
 have:=h _ (of_decide_eq_true e.symm)
 omega
theorem wkM_bits {l:List (Int × Int)} (h:∀x∈l,1≤x.2∧x.2≤7):yba (wkM l) 1 7=true:=yci.2 fun k hk hb=>by
 have e:=yhM (l:=l) (x:=(k:Int)) (by omega) (by omega)
 rw [hasB,zzZ (by omega),zzo,Int.toNat_natCast,hb] at e
 obtain ⟨x,hx,e2⟩:=List.any_eq_true.1 e.symm
 have:=h x hx
 have:=of_decide_eq_true e2
 omega
theorem wkD_bits {l:List (Int × Int)} {j:Nat} {most:Int} (h:∀x∈l,x.2= (j:Int)→1≤max x.1 (-x.1)∧max x.1 (-x.1)≤most):yba (wkD l j) 1 most=true:=yci.2 fun k hk hb=>by
 have e:=yf1 (l:=l) (j:=j) (x:=(k:Int)) (by omega) (by omega)
 rw [hasB,zzZ (by omega),zzo,Int.toNat_natCast,hb] at e
 obtain ⟨x,hx,e2⟩:=List.any_eq_true.1 e.symm
 rw [zzX,zzY,zzY] at e2
 have:=h x hx e2.1
 omega
theorem out_none {lo hi:Int} {l:List Int} (h:outB lo hi l=false):∀x∈l,lo≤x∧x≤hi:=fun x hx=>by
 have e:outP lo hi x=false:=by
  cases e:outP lo hi x
  ·rfl
  ·have:outB lo hi l=true:=List.any_eq_true.2 ⟨x,hx,e⟩
   rw [h] at this; cases this
 rw [outP,Bool.or_eq_false_iff,decide_eq_false_iff_not,decide_eq_false_iff_not] at e
 omega
theorem yg5 {r:Ru} (hm:mixB (nsL r)=false) (ho:outB 0 0 (nsL r)=true):∀x∈r.l7,x.1≠0:=fun x hx e=>by
 obtain ⟨y,hy,e2⟩:=List.any_eq_true.1 ho
 have hx':x.1∈nsL r:=List.mem_map.2 ⟨x,hx,rfl⟩
 rw [outP,Bool.or_eq_true,zzY,zzY] at e2
 rcases yeQ hm with h | h | h
 ·have:=h _ hx'; omega
 ·have:=h _ hy; omega
 ·have:=h _ hx'; omega
theorem low_masks {r:Ru} (hc:yaf r=0):ydH (lowM r)=true:=by
 have ok:=yaw hc
 obtain ⟨hw,hu⟩:=ybo ok.h
 obtain ⟨h0,h1⟩:=ydx hw
 obtain ⟨f0,f1,f2,f3,f4,f5,f6⟩:=full_bits
 obtain ⟨y0,y1,m0,m1,d0,d1⟩:=yaL (n:=r.st / 86400) (by omega) (by omega)
 obtain ⟨l0,l1⟩:=ybm (fY (r.st / 86400)) (fMo (r.st / 86400))
 obtain ⟨⟨-,hd⟩,hmix,-⟩:=yea ok.e6
 obtain ⟨-,hwk,hmx,-,-⟩:=ycn ok.e7
 have hsg:=yiU (fun x hx=>(hd x hx).2) hmix
 simp only [ydH,zzX]
 refine ⟨?_,?_,?_,?_,?_,?_,?_⟩
 ·show yba (tmS r) 0 59=true
  rw [tmS,if_pos hc]; exact ygg (ye8 ok.ex).2 (by omega) f0
 ·show yba (tmM r) 0 59=true
  rw [tmM,if_pos hc]; exact ygg (ye8 ok.e9).2 (by omega) f1
 ·show yba (tmH r) 0 23=true
  rw [tmH,if_pos hc]; exact ygg (ye8 ok.e8).2 (by omega) f2
 ·show yba (ya7 r) 1 12=true
  rw [ya7,if_pos hc]
  split
  ·exact ygA (ye8 ok.e5).2
  ·split
   ·exact yeF ⟨m0,m1⟩
   ·exact f3
 ·show yba (domV r) 1 31=true
  rw [domV,if_pos hc]
  split
  ·exact f4
  ·rename_i hn
   split
   ·exact ygA fun x hx=>by have:=hsg.2 hn x hx; have:=hd x hx; omega
   ·split
    ·exact yeF ⟨d0,by omega⟩
    ·exact f4
 ·show yba (endV r) 1 31=true
  rw [endV,if_pos hc]
  split
  ·rename_i hn
   exact neg_bits fun x hx=>by have:=hsg.1 hn x hx; have:=hd x hx; omega
  ·exact f5
 ·show yba (ybE r) 1 7=true
  rw [ybE,if_pos hc]
  split
  ·split
   ·refine yeF ?_
    rw [wdI]; omega
   ·exact f6
  ·split
   ·exact f6
   ·exact wkM_bits fun x hx=>(hwk x hx).2
theorem low_ord {r:Ru} (hc:yaf r=0):ordB (woI r) (woB r) (woD r)=true:=by
 obtain ⟨-,hwk,hmx,h56,h5⟩:=ycn (yaw hc).e7
 by_cases ho:outB 0 0 (nsL r)=true
 ·have hp:yaf r=0∧outB 0 0 (nsL r)=true:=⟨hc,ho⟩
  have hz:=yg5 hmx ho
  have e0:wkD r.l7 0=0:=by
   apply Nat.eq_of_testBit_eq
   intro k
   rw [Nat.zero_testBit]
   by_cases hk:k < 64
   ·have e:=yf1 (l:=r.l7) (j:=0) (x:=(k:Int)) (by omega) (by omega)
    rw [hasB,zzZ (by omega),zzo,Int.toNat_natCast] at e
    rw [e]
    cases ha:r.l7.any fun n=>decide (n.2= ((0:Nat):Int)) && decide (max n.1 (-n.1)= (k:Int))
    ·rfl
    ·obtain ⟨x,hx,e2⟩:=List.any_eq_true.1 ha
     rw [zzX,zzY] at e2
     have:=(hwk x hx).2
     omega
   ·exact Nat.testBit_lt_two_pow (zH (yeK r.l7 0) (Nat.pow_le_pow_right (n:=2) (by omega) (show 64≤k by omega)))
  have bits:∀most,(∀x∈r.l7,max x.1 (-x.1)≤most)→ydb (wkD r.l7) most=true:=fun most hm=>by
   rw [ydb,zzX,zzY,allR_iff]
   exact ⟨e0,fun j _=>wkD_bits fun x hx _=>⟨by have:=hz x hx; omega,hm x hx⟩⟩
  have eD:woD r=wkD r.l7:=funext fun j=>by rw [woD,if_pos hp]
  rw [woI,if_pos hp,woB,if_pos hp,eD,yal,ordB]
  by_cases h6:r.fq=6∧r.l5.length=0
  ·rw [if_pos h6,if_neg (by decide),if_neg (by decide),if_pos rfl]
   exact bits 53 fun x hx=>by have:=(hwk x hx).1; omega
  ·rw [if_neg h6,if_neg (by decide),if_pos rfl]
   have h5':r.fq=5∨0 < r.l5.length:=by
    rcases h56 ho with e | e
    ·exact .inl e
    ·exact .inr (by omega)
   have:=out_none (h5 h5')
   exact bits 5 fun x hx=>by have:=this x.1 (List.mem_map.2 ⟨x,hx,rfl⟩); omega
 ·have hn:¬(yaf r=0∧outB 0 0 (nsL r)=true):=fun e=>ho e.2
  have eD:woD r=fun _=>0:=funext fun j=>by rw [woD,if_neg hn]
  rw [woI,if_neg hn,woB,if_neg hn,eD]
  decide
theorem ye7 {r:Ru} (hc:yaf r=0):mayC (lowC r)=true:=by
 have ok:=yaw hc
 obtain ⟨hw,hu⟩:=ybo ok.h
 simp only [mayC,zzX,zzY]
 refine ⟨low_masks hc,low_ord hc,?_,hu,(ydJ ok.h).1,hw⟩
 have h:=yi1
 simp only [mayC,zzX] at h
 exact h.2.2.1
theorem low_ok {r:Ru} (hn:r.Num):(lowC r).Ok:=by
 obtain ⟨l3,l4,l5,l6,lo⟩:=rd_lt r
 refine ⟨fun i hi=>?_,lo,fun i hi=>?_,?_,hn.fq,hn.iv,hn.st,hn.st,?_⟩
 ·show lowM r i < _
  have one:∀(l:List Int) (a f:Int) (full:Nat) (fq:Int),full < 18446744073709551616→oneE l a f full fq < 18446744073709551616:=fun l a f full fq h=>by
   rw [oneE]; split
   ·exact yaP _
   ·split
    ·exact yaP _
    ·exact h
  rcases yfy hi with rfl | rfl | rfl | rfl | rfl | rfl | rfl
  ·show tmS r < _
   rw [tmS]; split
   ·exact one _ _ _ _ _ (by decide +kernel)
   ·omega
  ·show tmM r < _
   rw [tmM]; split
   ·exact one _ _ _ _ _ (by decide +kernel)
   ·omega
  ·show tmH r < _
   rw [tmH]; split
   ·exact one _ _ _ _ _ (by decide +kernel)
   ·omega
  ·exact l3
  ·exact l4
  ·exact l5
  ·exact l6
 ·show ybV i < _
  rw [ybV]; exact yaP _
 ·have:=woI_in r
  show i64B (woI r)
  unfold i64B; omega
 ·show i64B (if r.un= -1 then 12622780799 else r.un)
  split
  ·unfold i64B; omega
  ·exact hn.un
theorem low_has {r:Ru} (hc:yaf r=0) (t:Int):hasC (lowC r) t=ye6 r t:=by
 have ok:=yaw hc
 obtain ⟨hw,hu⟩:=ybo ok.h
 have hi:=(ydJ ok.h).1
 rw [hasC,ye6]
 by_cases ht:winB t=true
 ·obtain ⟨t0,t1⟩:=ydx ht
  rw [ht,ye7 hc,zzo,zzo,zzo]
  have e1:betB (lowC r).fr (lowC r).un t= (decide (r.st≤t) && (decide (r.un= -1) || decide (t≤r.un))):=by
   show betB r.st (if r.un= -1 then 12622780799 else r.un) t= _
   rw [betB]
   by_cases h:r.un= -1
   ·rw [if_pos h,zzZ h,zzZ (show t≤12622780799 by omega),Bool.true_or]
   ·rw [if_neg h,zzd h,Bool.false_or]
  have e2:ybl (t % 86400) ((lowC r).m 2) ((lowC r).m 1) ((lowC r).m 0)=yeP r (t % 86400):=by
   rw [←time_law hc (show 0≤t % 86400 by omega) (show t % 86400 < 86400 by omega),show t % 86400 % 3600 / 60=t % 86400 / 60 % 60 by omega]
   show ybl (t % 86400) (tmH r) (tmM r) (tmS r)= _
   rw [ybl,dayB,zzZ (by omega),zzo]
  have hy:=yaL (n:=t / 86400) (by omega) (by omega)
  have e3:dateB (lowC r) (shF (t / 86400))=yfD r (shF (t / 86400)):=by
   rw [days_eq hc (by omega) (by omega),dateB,domB]
   show ((if false=true then _ else hasB (domV r) (shF (t / 86400) 3) && hasB (ybE r) (shF (t / 86400) 5)) && (hasB (ya7 r) (shF (t / 86400) 2) && (hasB (endV r) (shF (t / 86400) 4) && (hasW ybV (shF (t / 86400) 1 - 1970) && nthB (woI r) (woB r) (woD r) (shF (t / 86400))))))= _
   rw [hasW_full (show 0≤shF (t / 86400) 1 - 1970 by show 0≤fY (t / 86400) - 1970; omega) (show shF (t / 86400) 1 - 1970 < 400 by show fY (t / 86400) - 1970 < 400; omega),if_neg (by decide),zzo]
   ac_rfl
  rw [e1,e2,dayC,ye7 hc,zzo,e3]
  show (_ && (_ && (onB r.fq r.iv r.st t && (_ && ycC r.fq r.iv r.st (t / 86400)))))= _
  cases ho:onB r.fq r.iv r.st t
  ·simp
  ·rw [on_day hu hw hi t0 t1 ho]
   simp only [zzo,Bool.and_true]
   ac_rfl
 ·have e:winB t=false:=by simpa using ht
  rw [e,Bool.false_and,Bool.false_and]
def orM (l:List Int) (bare:Bool) (one:Int) (full:Nat):Nat:=if 0 < l.length then ofM l else if bare=true then ofM [one] else full
def refM (r:Ru) (i:Nat):Nat:=
 if i=0 then orM r.lx (decide (1≤r.fq)) (r.st % 86400 % 60) (fullCl.m 0) else if i=1 then orM r.l9 (decide (2≤r.fq)) (r.st % 86400 / 60 % 60) (fullCl.m 1) else if i=2 then orM r.l8 (decide (3≤r.fq)) (r.st % 86400 / 3600) (fullCl.m 2)
 else if i=3 then orM r.l5 (decide (r.fq=6) && yb8 r) (fMo (r.st / 86400)) (fullCl.m 3)
 else if i=4 then (if r.l6.headD 0 < 0 then fullCl.m 4 else orM r.l6 (decide (5≤r.fq) && yb8 r) (fD (r.st / 86400)) (fullCl.m 4))
 else if i=5 then (if r.l6.headD 0 < 0 then ofM (r.l6.map fun x=>-x) else fullCl.m 5)
 else if (nsL r).headD 0=0 then orM (r.l7.map fun x=>x.2) (decide (r.fq=4)) (wdI (r.st / 86400)) (fullCl.m 6) else fullCl.m 6
def nthL (l:List (Int × Int)) (j:Nat):List Int:=(l.filter fun x=>decide (x.2= (j:Int))).map fun x=>max x.1 (-x.1)
def refC (r:Ru):Cl:={m:=refM r,or:=false,oin:=if (nsL r).headD 0=0 then 0 else yal r,oback:=if (nsL r).headD 0=0 then false else ybs r,od:=fun j=>if (nsL r).headD 0=0 then 0 else if j=0 then 0 else ofM (nthL r.l7 j),ys:=ybV,unit:=r.fq,step:=r.iv,anchor:=r.st,fr:=r.st,un:=if r.un= -1 then 12622780799 else r.un}
theorem rlExt {a b:Nat} (ha:a < 18446744073709551616) (hb:b < 18446744073709551616) (h:∀x:Int,0≤x→x < 64→hasB a x=hasB b x):a=b:=by
 apply Nat.eq_of_testBit_eq
 intro k
 by_cases hk:k < 64
 ·have e:=h (k:Int) (by omega) (by omega)
  rwa [hasB,hasB,zzZ (show (0:Int)≤(k:Int) by omega),zzo,zzo,Int.toNat_natCast] at e
 ·have p:18446744073709551616≤2 ^ k:=Nat.pow_le_pow_right (n:=2) (by omega) (show 64≤k by omega)
  rw [Nat.testBit_lt_two_pow (zH ha p),Nat.testBit_lt_two_pow (zH hb p)]
theorem or_one (l:List Int) (at' freq fq:Int) (full:Nat):oneE l at' freq full fq=orM l (decide (freq≤fq)) at' full:=by
 rw [oneE,orM]
 split
 ·rfl
 ·simp only [zzY]
theorem zero_iff {r:Ru} (hm:mixB (nsL r)=false):outB 0 0 (nsL r)=true↔(nsL r).headD 0≠0:=by
 constructor
 ·intro ho e
  obtain ⟨y,hy,-⟩:=List.any_eq_true.1 ho
  have hne:nsL r≠ []:=fun e=>by rw [e] at hy; cases hy
  obtain ⟨z,l,hl⟩:=List.exists_cons_of_ne_nil hne
  rw [hl,List.headD_cons] at e
  have hz:z∈nsL r:=by rw [hl]; simp
  obtain ⟨x,hx,rfl⟩:=List.mem_map.1 hz
  exact yg5 hm ho x hx e
 ·intro h
  cases hl:nsL r with
  | nil=>rw [hl] at h; exact absurd rfl h
  | cons z l=>
    rw [hl,List.headD_cons] at h
    refine List.any_eq_true.2 ⟨z,by simp,?_⟩
    rw [outP,Bool.or_eq_true,zzY,zzY]; omega
theorem ref_low {r:Ru} (hc:yaf r=0):(∀i,i < 7→refM r i=lowM r i)∧(refC r).oin=woI r∧(refC r).oback=woB r∧∀j,j < 8→(refC r).od j=woD r j:=by
 have ok:=yaw hc
 obtain ⟨hw,hu⟩:=ybo ok.h
 obtain ⟨⟨-,hd⟩,hmix,-⟩:=yea ok.e6
 obtain ⟨-,hwk,hmx,-,-⟩:=ycn ok.e7
 have hz:=zero_iff hmx
 have hu6:0≤r.fq∧r.fq≤6:=by rw [unB,zzY] at hu; exact hu
 have hb:yb8 r=true↔r.l6.length=0∧r.l7.length=0:=by rw [yb8,zzX,zzY,zzY]
 refine ⟨fun i hi=>?_,?_,?_,fun j hj=>?_⟩
 ·rcases yfy hi with rfl | rfl | rfl | rfl | rfl | rfl | rfl
  ·show orM _ _ _ _ =tmS r
   rw [tmS,if_pos hc,or_one]
  ·show orM _ _ _ _ =tmM r
   rw [tmM,if_pos hc,or_one]
  ·show orM _ _ _ _ =tmH r
   rw [tmH,if_pos hc,or_one]
  ·show orM _ _ _ _ =ya7 r
   rw [ya7,if_pos hc,orM]
   congr 1
   simp only [zzX,zzY,hb]
  ·show (if r.l6.headD 0 < 0 then fullCl.m 4 else orM _ _ _ _)=domV r
   rw [domV,if_pos hc,orM]
   congr 1
   simp only [zzX,zzY,hb]
   by_cases h7:r.l7.length=0
   ·by_cases h6:0 < r.l6.length
    ·rw [if_pos h6,if_pos h6]
    ·rw [if_neg h6,if_neg h6]
     by_cases h5:5≤r.fq
     ·rw [if_pos ⟨h5,by omega,h7⟩,if_pos ⟨h7,by omega⟩]
     ·rw [if_neg (fun e=>h5 e.1),if_neg (fun e=>by have:=e.2; omega)]
   ·rw [if_neg (show¬(5≤r.fq∧r.l6.length=0∧r.l7.length=0) from fun e=>h7 e.2.2),if_neg (show¬(r.l7.length=0∧(r.fq=5∨r.fq=6)) from fun e=>h7 e.1)]
  ·show (if r.l6.headD 0 < 0 then ofM (r.l6.map fun x=>-x) else fullCl.m 5)=endV r
   rw [endV,if_pos hc]
   congr 1
   refine rlExt (yaP _) (yh5 _) fun x h0 h1=>?_
   rw [ybw h0 h1,yh4 h0 h1]
   refine decide_eq_decide.2 ?_
   rw [List.mem_map]
   constructor
   ·rintro ⟨y,hy,e⟩; rwa [show -x=y by omega]
   ·intro h; exact ⟨-x,h,by omega⟩
  ·show (if (nsL r).headD 0=0 then orM _ _ _ _ else fullCl.m 6)=ybE r
   rw [ybE,if_pos hc]
   by_cases h:(nsL r).headD 0=0
   ·have ho:¬outB 0 0 (nsL r)=true:=fun e=>hz.1 e h
    rw [if_pos h,orM,List.length_map]
    by_cases h7:r.l7= []
    ·rw [if_pos h7,h7,if_neg (by simp)]
     simp only [zzY]
    ·rw [if_neg h7,if_neg ho,if_pos (List.length_pos_iff.2 h7)]
     refine rlExt (yaP _) (ygM _) fun x h0 h1=>?_
     rw [ybw h0 h1,yhM h0 h1,zze,zzY,List.any_eq_true,List.mem_map]
     simp only [zzY]
   ·have ho:=hz.2 h
    have h7:r.l7≠ []:=fun e=>by rw [nsL,e] at h; exact h rfl
    rw [if_neg h,if_neg h7,if_pos ho]
 ·show (if (nsL r).headD 0=0 then 0 else yal r)=woI r
  rw [woI]
  by_cases h:(nsL r).headD 0=0
  ·rw [if_pos h,if_neg (fun e=>hz.1 e.2 h)]
  ·rw [if_neg h,if_pos ⟨hc,hz.2 h⟩]
 ·show (if (nsL r).headD 0=0 then false else ybs r)=woB r
  rw [woB]
  by_cases h:(nsL r).headD 0=0
  ·rw [if_pos h,if_neg (fun e=>hz.1 e.2 h)]
  ·rw [if_neg h,if_pos ⟨hc,hz.2 h⟩]
 ·show (if (nsL r).headD 0=0 then 0 else if j=0 then 0 else ofM (nthL r.l7 j))=woD r j
  rw [woD]
  by_cases h:(nsL r).headD 0=0
  ·rw [if_pos h,if_neg (fun e=>hz.1 e.2 h)]
  ·rw [if_neg h,if_pos (show yaf r=0∧outB 0 0 (nsL r)=true from ⟨hc,hz.2 h⟩)]
   have key:∀x:Int,0≤x→x < 64→hasB (ofM (nthL r.l7 j)) x=hasB (wkD r.l7 j) x:=fun x h0 h1=>by
    rw [ybw h0 h1,yf1 h0 h1,zze,zzY,List.any_eq_true,nthL,List.mem_map]
    constructor
    ·rintro ⟨y,hy,e⟩
     rw [List.mem_filter] at hy
     exact ⟨y,hy.1,by rw [zzX]; exact ⟨hy.2,zzZ e⟩⟩
    ·rintro ⟨y,hy,e⟩
     rw [zzX,zzY] at e
     exact ⟨y,List.mem_filter.2 ⟨hy,zzZ e.1⟩,of_decide_eq_true e.2⟩
   by_cases h0:j=0
   ·rw [if_pos h0]
    subst h0
    have e:nthL r.l7 0= []:=by
     rw [nthL,List.map_eq_nil_iff,List.filter_eq_nil_iff]
     intro x hx e
     have:=(hwk x hx).2
     rw [zzY] at e; omega
    have k0:ofM (nthL r.l7 0)=wkD r.l7 0:=rlExt (yaP _) (yeK _ _) key
    rw [←k0,e,ofM,←yb1]
    exact ybf fun i _=>by simp [inB]
   ·rw [if_neg h0]
    exact rlExt (yaP _) (yeK _ _) key
end
section
open Go.RowKit Go.Maps
def cntT (cs:List Cl) (f u:Int):Nat:=(yct cs f u).length
theorem inst_upto (cs:List Cl) {f u:Int} {n:Nat} (h:n < (yct cs f u).length):yct cs f ((yct cs f u)[n])= (yct cs f u).take (n+1):=by
 have hp:=yc5 cs f u
 have hm:=fun x=>ycN (cs:=cs) (f:=f) (u:=u) (t:=x)
 have hx:=(hm _).1 (zzr h)
 have e:∀x,x∈yct cs f ((yct cs f u)[n])↔x∈yct cs f u∧x≤(yct cs f u)[n]:=fun x=>by
  rw [ycN,ycN]
  constructor
  ·rintro ⟨g1,g2,g3⟩; exact ⟨⟨g1,by omega,g3⟩,g2⟩
  ·rintro ⟨⟨g1,g2,g3⟩,g4⟩; exact ⟨g1,g4,g3⟩
 refine ycd (yc5 _ _ _) (List.Pairwise.sublist (List.take_sublist _ _) hp) (fun x=>?_)
 rw [e]
 generalize yct cs f u=L at *
 clear e hm hx
 rw [List.pairwise_iff_getElem] at hp
 constructor
 ·rintro ⟨g1,g2⟩
  obtain ⟨j,hj,rfl⟩:=List.mem_iff_getElem.1 g1
  have:j < n+1:=by
   apply Nat.lt_of_not_le
   intro h2
   have:=hp n j h hj (by omega); omega
  rw [List.mem_iff_getElem]
  exact ⟨j,by rw [List.length_take]; omega,List.getElem_take⟩
 ·intro hx
  obtain ⟨j,hj,rfl⟩:=List.mem_iff_getElem.1 hx
  have hj2:j < L.length:=by rw [List.length_take] at hj; omega
  have hj3:j < n+1:=by rw [List.length_take] at hj; omega
  rw [List.getElem_take]
  refine ⟨zzr hj2,?_⟩
  rcases Nat.lt_or_ge j n with h2 | h2
  ·have:=hp j n hj2 h h2; omega
  ·obtain rfl:j=n:=by omega
   exact Int.le_refl _
theorem cntT_upto (cs:List Cl) {f u:Int} {n:Nat} (h:n < (yct cs f u).length):cntT cs f ((yct cs f u)[n])=n+1:=by
 rw [cntT,inst_upto cs h,List.length_take]; omega
theorem yki (cs:List Cl) {f u n:Int} (h1:f≤86400 * n) (h2:86400 * n+86399≤u):(dayI cs f u n).length= (secL (dayQ cs n)).length:=by
 have e:remI cs n u (max 0 (f - 86400 * n))=secL (dayQ cs n):=by
  refine ycd (yeZ _ _ _ _) (yaH _ _) (fun x=>?_)
  rw [yeB,secL,sel_mem]
  constructor
  ·rintro ⟨k,g1,g2,g3,-⟩; exact ⟨k,g1,g3,g2⟩
  ·rintro ⟨k,g1,g3,g2⟩; exact ⟨k,g1,g2,g3,by omega,by omega⟩
 rw [dayI,List.length_map,e]
theorem dayI_all (cs:List Cl) {f u n:Int} (h1:f≤86400 * n) (h2:86400 * n+86399≤u):dayI cs f u n= (secL (dayQ cs n)).map fun x=>86400 * n+x:=by
 have e:remI cs n u (max 0 (f - 86400 * n))=secL (dayQ cs n):=by
  refine ycd (yeZ _ _ _ _) (yaH _ _) (fun x=>?_)
  rw [yeB,secL,sel_mem]
  constructor
  ·rintro ⟨k,g1,g2,g3,-⟩; exact ⟨k,g1,g3,g2⟩
  ·rintro ⟨k,g1,g3,g2⟩; exact ⟨k,g1,g2,g3,by omega,by omega⟩
 rw [dayI,e]
end
section
open Go.RowKit
theorem ygZ {P:Program} {m:Nat} {g:Operand} {ps:Array Tmp} {assign body:Code} {Q:Exit→Act→World→Prop} {a:Act} {w:World} {gf:Nat} {lb:Array Value} {n:Nat} {V:Nat→Array Value→Blk→World→Prop} {H HN HS:Blk→World→Prop} {M F:Blk}
  (hg:a.eval g= .func (.func gf) #[] lb) (eg:∀args w,(callFunc gf args).run P w= .ok (.enter gf args) w) (Ow:Blk) (hps:∀k vs F W,V k vs F W→vs.size=ps.size) (hseq:TellsH P gf lb n V H HN HS M) (hH:HostOk H M) (hN:HostOk HN M) (hS:HostOk HS M) (hF:H F w) (hFO:∀b,F b→¬Ow b)
  (I:OwnF) (Ix:Code→OwnF) (hI:StabF M I) (hIx:∀c,StabF M (Ix c)) (hIl:LtF I) (hIxl:∀c,LtF (Ix c)) (h0:I 0 Ow F w)
  (A:Nat→Blk→Blk→Act→World→Prop) (hA:∀l o k O F a' W,(∃r,W.heap[l]? =some (.loop r))→¬O l→¬F l→A k O F a' W→A k O F a' (W.putObj l o))
  (hassign:∀l k O F W vs (K:Act→World→Prop),k < n→I k O F W→(∀b,F b→¬O b∧b≠l)→V k vs F W→GrowM M Ow O w W→(∀a' O' W',Grow O O' W W'→A k O' F a' W'→K a' W')→
    assign.wpIn (WF (some l)) m P (Exit.then K (fun _ _ _=>False)) {tmps:=(ps.zip vs).foldl (fun t (p,v)=>t.setIfInBounds p v) a.tmps,defers:= []} W)
  (hbody:∀l k O F a' W,k < n→GrowM M Ow O w W→w.heap.size≤l→(∃r,W.heap[l]? =some (.loop r))→¬O l→¬F l→A k O F a' W→body.wpIn (WF (some l)) m P (yis (atF I F) (fun c=>atF (Ix c) F) k O W) a' W)
  (hdone:∀O' F' W',GrowM M Ow O' w W'→HN F' W'→(∀b,F b→F' b)→(∀b,F' b→F b∨w.heap.size≤b)→(∀b,F' b→¬O' b)→I n O' F' W'→W'.heap[w.heap.size]? =some (.deferred (some []))→¬O' w.heap.size→¬F' w.heap.size→Q .normal {a with defers:={target:= .collected w.heap.size,args:=#[]} :: a.defers} W')
  (hstop:∀c k O' F' W',1≤k→k≤n→GrowM M Ow O' w W'→HS F' W'→(∀b,F b→F' b)→(∀b,F' b→F b∨w.heap.size≤b)→(∀b,F' b→¬O' b)→Ix c k O' F' W'→W'.heap[w.heap.size]? =some (.deferred (some []))→¬O' w.heap.size→¬F' w.heap.size→
    c.wpIn (WF none) m P Q {a with defers:={target:= .collected w.heap.size,args:=#[]} :: a.defers} W') :
  (Code.rangeFunc g ps assign body).wpIn (WF none) m P Q a w:=by
 refine wpIn_rangeFunc ?_
 intro fn hfn
 obtain ⟨W1,hW1⟩:∃W1,(w.alloc (.deferred (some []))).alloc (.loop (yag fn a.tmps ps assign body w.heap.size .ready none))=W1:=⟨_,rfl⟩
 have hL1:W1.heap[w.heap.size+1]? =some (.loop (yag fn a.tmps ps assign body w.heap.size .ready none)):=by
  rw [←hW1]; have:=World.alloc_heap_new (w.alloc (.deferred (some []))) (.loop (yag fn a.tmps ps assign body w.heap.size .ready none)); rwa [zzN] at this
 have hB1:Below w.heap.size w W1:=by rw [←hW1]; exact ((Below.refl _ w).alloc (zG _) _).alloc (by simp) _
 have hK1:W1.heap[w.heap.size]? =some (.deferred (some [])):=by
  rw [←hW1]; exact (Below.heap_alloc _ _ _ (by simp)).trans (World.alloc_heap_new w _)
 have hlt:=hIl 0 Ow F w h0
 have hFlt:=hH.lt F w hF
 have hF1:H F W1:=hH.stab F w W1 hF hB1.size (fun b hb=>hB1.block b (hFlt b hb))
 have hMlt:∀b,M b→b < w.heap.size:=fun b hb=>hFlt b (hH.sub F w hF b hb)
 have hJ:RJF (yag fn a.tmps ps assign body w.heap.size .ready none) (w.heap.size+1) (some w.heap.size) I 0 (fun b=>Ow b∨b=w.heap.size+1∨some w.heap.size=some b) F W1:=
  ⟨Ow,fun b=>Iff.rfl,fun h=>by have:=hlt _ h; omega,fun d hd=>by cases hd; exact ⟨fun h=>by have:=hlt _ h; omega,by omega,hK1⟩,hI 0 Ow F F w W1 h0 hB1.size (fun _ h=>h) (fun b hb=>hB1.block b (hb.elim (hlt b) (fun h=>hFlt b h.1))),hL1⟩
 have hlc:=yan hL1
 have hC:=yha (P:=P) (m:=m) (fn:=fn) (tmps:=a.tmps) (D:=w.heap.size) (l:=w.heap.size+1) (Dk:=some w.heap.size) (n:=n) (V:=V) (M:=M) hps hI hIx hIl hIxl A hA Ow (fun b=>Ow b∨b=w.heap.size+1∨some w.heap.size=some b) w W1 (by omega) (fun O O1 W hO hG=>⟨fun b hb=>by
   have hb2:=hlt b hb
   rcases (hO b).mp (hG.sub b (.inl hb)) with h | h | h
   ·exact h
   ·omega
   ·cases h; omega,fun b hb=>by
   rcases hG.new b ((hO b).mpr (.inl hb)) with (h | h | h) | h
   ·exact .inl h
   ·exact .inr (by omega)
   ·cases h; exact .inr (by omega)
   ·exact .inr (by have:=hB1.size; omega),(Eff.of_below (O:=fun b=>Ow b∨M b) hB1).trans hG.eff fun b hb=>by
   rcases hb with (h | h | h) | h
   ·exact .inl (.inl h)
   ·exact .inr (by omega)
   ·cases h; exact .inr (by omega)
   ·exact .inl (.inr h)⟩) (hassign (w.heap.size+1)) (fun k O F a' W hk hG=>hbody (w.heap.size+1) k O F a' W hk hG (by omega))
 have hcall:=hseq _ _ _ _ F W1 hF1 (fun b hb h=>by
  have:=hFlt b hb
  rcases h with h | h | h
  ·exact hFO b hb h
  ·omega
  ·cases h; omega) hC hJ
 refine ⟨w.heap.size+1,[{target:= .collected w.heap.size,args:=#[]}],W1,{target:= .fn (.func gf) lb,args:=#[.func (.yield (w.heap.size+1)) #[] #[]]},W1,gf,
  #[.func (.yield (w.heap.size+1)) #[] #[]] ++ lb,W1,?_,?_,fun _ _=>trivial,?_,(fun h=>nomatch h),?_⟩
 ·rw [←hW1]; exact run_enterLoop_outer _ _ _ _ _
 ·simp only [resolve,hg]; simp [go_sem]
 ·simp [invoke,go_sem,eg]
 ·refine wf_calls.mpr (hcall.mono ?_)
  have back:∀(X:OwnF) (H2:Blk→World→Prop) (k:Nat) (O' F':Nat→Prop) (W2:World) (st:LoopState) (pe:Option Code),StabF M X→HostOk H2 M→st≠ .busy→GrowM M (fun b=>Ow b∨b=w.heap.size+1∨some w.heap.size=some b) O' W1 W2→
    H2 F' W2→(∀b,F' b→¬O' b)→RJF (yag fn a.tmps ps assign body w.heap.size st pe) (w.heap.size+1) (some w.heap.size) X k O' F' W2→
    (Instr.endLoop (w.heap.size+1)).run P W2= .ok pe (W2.putObj (w.heap.size+1) (.loop (yag fn a.tmps ps assign body w.heap.size .exhausted pe)))∧∃O2,GrowM M Ow O2 w (W2.putObj (w.heap.size+1) (.loop (yag fn a.tmps ps assign body w.heap.size .exhausted pe)))∧
      H2 F' (W2.putObj (w.heap.size+1) (.loop (yag fn a.tmps ps assign body w.heap.size .exhausted pe)))∧(∀b,F' b→¬O2 b)∧X k O2 F' (W2.putObj (w.heap.size+1) (.loop (yag fn a.tmps ps assign body w.heap.size .exhausted pe)))∧
      (W2.putObj (w.heap.size+1) (.loop (yag fn a.tmps ps assign body w.heap.size .exhausted pe))).heap[w.heap.size]? =some (.deferred (some []))∧¬O2 w.heap.size:=by
   rintro X H2 k O' F' W2 st pe hX hH2 hst hGM hF2 hFO2 ⟨O1,hO,hnl,hD,hi,hl⟩
   have hr:=run_endLoop (P:=P) hl hst
   have hO1:∀b,O1 b→O' b:=fun b hb=>(hO b).mpr (.inl hb)
   have hOl:O' (w.heap.size+1):=(hO _).mpr (.inr (.inl rfl))
   refine ⟨hr,O1,⟨fun b hb=>?_,fun b hb=>?_,?_⟩,hH2.stab F' W2 _ hF2 (by rw [World.putObj_size]; exact zG _) (fun b hb=>World.putObj_heap_other (fun e=>hFO2 b hb (e ▸ hOl))),fun b hb h=>hFO2 b hb (hO1 b h),hX _ _ _ _ _ _ hi (by rw [World.putObj_size]; exact zG _) (fun _ h=>h) (fun b hb=>World.putObj_heap_other (fun e=>by
     rcases hb with hb | hb
     ·exact hnl (e ▸ hb)
     ·exact hFO2 b hb.1 (e ▸ hOl))),(World.putObj_heap_other (by omega)).trans (hD _ rfl).2.2,(hD _ rfl).1⟩
   ·have hb2:=hlt b hb
    rcases (hO b).mp (hGM.sub b (.inl hb)) with h | h | h
    ·exact h
    ·omega
    ·cases h; omega
   ·rcases hGM.new b ((hO b).mpr (.inl hb)) with (h | h | h) | h
    ·exact .inl h
    ·exact .inr (by omega)
    ·cases h; exact .inr (by omega)
    ·exact .inr (by have:=hB1.size; omega)
   ·refine Eff.putObj ((Eff.of_below (O:=fun b=>Ow b∨M b) hB1).trans hGM.eff fun b hb=>?_) (.inr (by omega)) _
    rcases hb with (h | h | h) | h
    ·exact .inl (.inl h)
    ·exact .inr (by omega)
    ·cases h; exact .inr (by omega)
    ·exact .inl (.inr h)
  rintro e W2 ⟨⟨v,rfl⟩,O',F',hGM,hFs,hFn,hFO2,hend⟩
  have hFn2:∀b,F' b→F b∨w.heap.size≤b:=fun b hb=>by
   rcases hFn b hb with h | h
   ·exact .inl h
   ·exact .inr (by have:=hB1.size; omega)
  have nFD:¬F' w.heap.size:=fun h=>hFO2 _ h (hGM.sub _ (.inr (.inr rfl)))
  rcases hend with ⟨hF2,hj⟩ | ⟨hF2,k,hk1,hk2,c,hj⟩
  ·obtain ⟨h1,O2,h2,h3,h4,h5,h6,h7⟩:=back I HN n O' F' W2 .ready none hI hN (by simp) hGM hF2 hFO2 hj
   exact ⟨none,_,h1,hdone O2 F' _ h2 h3 hFs hFn2 h4 h5 h6 h7 nFD⟩
  ·obtain ⟨h1,O2,h2,h3,h4,h5,h6,h7⟩:=back (Ix c) HS k O' F' W2 .done (some c) (hIx c) hS (by simp) hGM hF2 hFO2 hj
   exact ⟨some c,_,h1,hstop c k O2 F' _ hk1 hk2 h2 h3 hFs hFn2 h4 h5 h6 h7 nFD⟩
end
section
open Go.RowKit Go.Maps
attribute [local go_sem] Oper.semAt_some
structure BxF (M:Blk) (xf xu:Nat) (f u:Int) (F:Blk) (W:World):Prop where
 inf:F xf∧¬M xf
 inu:F xu∧¬M xu
 cf:W.cell? ⟨xf,0,none⟩=some (.int .i64 f)
 cu:W.cell? ⟨xu,0,none⟩=some (.int .i64 u)
theorem BxF.keep {M:Blk} {xf xu:Nat} {f u:Int} {F F':Blk} {W W':World} (h:BxF M xf xu f u F W) (hF:∀b,F b→F' b) (hb:∀b,F b∧¬M b→W'.heap[b]? =W.heap[b]?):BxF M xf xu f u F' W':=
 ⟨⟨hF _ h.inf.1,h.inf.2⟩,⟨hF _ h.inu.1,h.inu.2⟩,(zzJ (w:=W) (a:=⟨xf,0,none⟩) (hb _ h.inf)).trans h.cf,(zzJ (w:=W) (a:=⟨xu,0,none⟩) (hb _ h.inu)).trans h.cu⟩
structure HSk (cs:List Cl) (br bk:Nat) (bps:List Nat) (xe xf xu xr:Nat) (f u:Int) (Inv:(Nat→Bool)→Nat→Prop) (F:Blk) (W:World):Prop where
 roll:∃ws m,RollS W cs br bk bps F ws m∧Inv ws m
 bx:BxF (RM br bk bps) xf xu f u F W
 ine:F xe∧¬RM br bk bps xe
 inr:F xr∧¬RM br bk bps xr
 ce:W.cell? ⟨xe,0,none⟩=some (.int .i64 0)
 cr:W.cell? ⟨xr,0,none⟩=some (.pointer (some ⟨br,0,none⟩))
section
variable {cs:List Cl} {br bk:Nat} {bps:List Nat} {xe xf xu xr:Nat} {f u:Int} {Inv Inv':(Nat→Bool)→Nat→Prop} {F F':Blk} {W W':World}
theorem HSk.keep (h:HSk cs br bk bps xe xf xu xr f u Inv F W) (hs:W.heap.size≤W'.heap.size) (hb:∀b,F b→W'.heap[b]? =W.heap[b]?):HSk cs br bk bps xe xf xu xr f u Inv F W':=by
 obtain ⟨ws,m,h1,h2⟩:=h.roll
 exact ⟨⟨ws,m,h1.keep hs hb,h2⟩,h.bx.keep (fun _ h=>h) (fun b hF=>hb b hF.1),h.ine,h.inr,(zzJ (w:=W) (a:=⟨xe,0,none⟩) (hb _ h.ine.1)).trans h.ce,(zzJ (w:=W) (a:=⟨xr,0,none⟩) (hb _ h.inr.1)).trans h.cr⟩
theorem HSk.lt (h:HSk cs br bk bps xe xf xu xr f u Inv F W):∀b,F b→b < W.heap.size:=by
 obtain ⟨ws,m,h1,h2⟩:=h.roll; exact h1.x.lt
theorem HSk.sub (h:HSk cs br bk bps xe xf xu xr f u Inv F W):∀b,RM br bk bps b→F b:=by
 obtain ⟨ws,m,h1,h2⟩:=h.roll; exact h1.x.sub
theorem HSk.host:HostOk (HSk cs br bk bps xe xf xu xr f u Inv) (RM br bk bps):=⟨fun F W W' h hs hb=>h.keep hs hb,fun F W h=>h.lt,fun F W h=>h.sub⟩
theorem HSk.step (h:HSk cs br bk bps xe xf xu xr f u Inv F W) {ws:Nat→Bool} {m:Nat} (hR:RollS W' cs br bk bps F' ws m) (hI:Inv' ws m) (hF:∀b,F b→F' b) (hb:∀b,F b→¬RM br bk bps b→W'.heap[b]? =W.heap[b]?):HSk cs br bk bps xe xf xu xr f u Inv' F' W':=
 ⟨⟨ws,m,hR,hI⟩,h.bx.keep hF (fun b hF=>hb b hF.1 hF.2),⟨hF _ h.ine.1,h.ine.2⟩,⟨hF _ h.inr.1,h.inr.2⟩,(zzJ (w:=W) (a:=⟨xe,0,none⟩) (hb _ h.ine.1 h.ine.2)).trans h.ce,(zzJ (w:=W) (a:=⟨xr,0,none⟩) (hb _ h.inr.1 h.inr.2)).trans h.cr⟩
end
def InvS (j:Nat) (ws:Nat→Bool) (m:Nat):Prop:=m≤j
theorem invS_step {cs:List Cl} {n:Int} {j:Nat} {ws ws':Nat→Bool} {m m':Nat} (h:InvS j ws m) (hs:yhK cs n ws m ws' m'):InvS (j+1) ws' m':=by
 have:=(at_more hs).1; rw [InvS] at h⊢; omega
theorem yfB (args:Array Value) (w:World):(callFunc 104 args).run Tryz.prog w= .ok (.enter 104 args) w:=by simp [go_sem]
structure SkD (cs:List Cl) (M:Blk) (n:Int) (d bx:Nat) (O F:Blk) (W:World):Prop where
 dj:∀b,F b→¬O b
 di:DiF W F M d (dayQ cs n)
 tab:Tab W∧F 0
 lt:∀b,F b→b < W.heap.size
 lx:bx < W.heap.size
 nx:¬O bx∧¬F bx
 sh:ShS W bx (shF n)
theorem SkD.put {cs:List Cl} {M:Blk} {n:Int} {d bx l:Nat} {O F:Blk} {W:World} {o:Obj} (h:SkD cs M n d bx O F W) (hr:∃r,W.heap[l]? =some (.loop r)) (hF:¬F l):SkD cs M n d bx O F (W.putObj l o):=by
 have ps:(W.putObj l o).heap.size=W.heap.size:=World.putObj_size
 have ko:∀b,F b→(W.putObj l o).heap[b]? =W.heap[b]?:=fun b hb=>World.putObj_heap_other (fun e=>hF (e ▸ hb))
 exact ⟨h.dj,⟨h.di.1,h.di.2.1,h.di.2.2.block (by rw [ps]; exact zG _) (ko _ h.di.1)⟩,⟨⟨by rw [ps]; exact h.tab.1.1,fun i hi=>(zzJ (w:=W) (a:=⟨0,i,none⟩) (ko _ h.tab.2)).trans (h.tab.1.2 i hi)⟩,h.tab.2⟩,by rw [ps]; exact h.lt,by rw [ps]; exact h.lx,h.nx,shS_put h.sh hr⟩
def SkT (h0 h1 h2 h3 h4 h5 h6 h7:Value) (ds:List Deferred) (a:Act):Prop:=∃V:Nat→Value,a= {tmps:=#[h0,h1,h2,h3,h4,h5,h6,h7,V 8,V 9,V 10,V 11,V 12,V 13,V 14,V 15,V 16,V 17,V 18,V 19,V 20,V 21,V 22,V 23,V 24,V 25,V 26,V 27,V 28,V 29,V 30,V 31,V 32,V 33,V 34,V 35,V 36,V 37,V 38,V 39,V 40,V 41,V 42,V 43,V 44,V 45,V 46,V 47,V 48,V 49,V 50,V 51,V 52,V 53,V 54,V 55,V 56,V 57,V 58],defers:=ds}
theorem SkT.of {h0 h1 h2 h3 h4 h5 h6 h7 u8 u9 u10 u11 u12 u13 u14 u15 u16 u17 u18 u19 u20 u21 u22 u23 u24 u25 u26 u27 u28 u29 u30 u31 u32 u33 u34 u35 u36 u37 u38 u39 u40 u41 u42 u43 u44 u45 u46 u47 u48 u49 u50 u51 u52 u53 u54 u55 u56 u57 u58:Value} {ds:List Deferred}:SkT h0 h1 h2 h3 h4 h5 h6 h7 ds {tmps:=#[h0,h1,h2,h3,h4,h5,h6,h7,u8,u9,u10,u11,u12,u13,u14,u15,u16,u17,u18,u19,u20,u21,u22,u23,u24,u25,u26,u27,u28,u29,u30,u31,u32,u33,u34,u35,u36,u37,u38,u39,u40,u41,u42,u43,u44,u45,u46,u47,u48,u49,u50,u51,u52,u53,u54,u55,u56,u57,u58],defers:=ds}:=⟨fun i=>(#[u8,u9,u10,u11,u12,u13,u14,u15,u16,u17,u18,u19,u20,u21,u22,u23,u24,u25,u26,u27,u28,u29,u30,u31,u32,u33,u34,u35,u36,u37,u38,u39,u40,u41,u42,u43,u44,u45,u46,u47,u48,u49,u50,u51,u52,u53,u54,u55,u56,u57,u58]:Array Value).getD (#[0,0,0,0,0,0,0,0,0,1,2,3,4,5,6,7,8,9,10,11,12,13,14,15,16,17,18,19,20,21,22,23,24,25,26,27,28,29,30,31,32,33,34,35,36,37,38,39,40,41,42,43,44,45,46,47,48,49,50].getD i 0) undef,rfl⟩
end
section
open Go.RowKit Go.Maps
def yj5 (t:Int):Int:=min (max t (-1)) 12622780800
end
section
open Go.RowKit Go.Maps
attribute [local go_sem] Oper.semAt_some
def headP:List Int→Int × Int
 | []=>(0,15)
 | x :: _=>(x,0)
def yjR (l:List Cl) (t:Int):Int × Int:=if yaR l≠0 then (0,yaR l) else headP (yct l (yj5 t+1) 12622780799)
structure TwoC (b:Nat) (x y:Int) (O:Blk) (W:World):Prop where
 c4:W.cell? ⟨b,0,none⟩=some (.int .i64 x)
 c5:W.cell? ⟨b+1,0,none⟩=some (.int .i64 y)
 f4:W.frozen? ⟨b,0,none⟩=false
 f5:W.frozen? ⟨b+1,0,none⟩=false
 o4:O b
 o5:O (b+1)
 lt:∀c,O c→c < W.heap.size
theorem TwoC.keep {b:Nat} {x y:Int} {O:Blk} {W W':World} (h:TwoC b x y O W) (hs:W.heap.size≤W'.heap.size) (hb:∀c,O c→W'.heap[c]? =W.heap[c]?):TwoC b x y O W':=
 ⟨(zzJ (w:=W) (a:=⟨b,0,none⟩) (hb _ h.o4)).trans h.c4,(zzJ (w:=W) (a:=⟨b+1,0,none⟩) (hb _ h.o5)).trans h.c5,
  (zzM (w:=W) (a:=⟨b,0,none⟩) (hb _ h.o4)).trans h.f4,(zzM (w:=W) (a:=⟨b+1,0,none⟩) (hb _ h.o5)).trans h.f5,h.o4,h.o5,fun c hc=>zH (h.lt c hc) hs⟩
theorem TwoC.set {b:Nat} {x y x' y':Int} {O:Blk} {W:World} (h:TwoC b x y O W):TwoC b x' y' O ((W.setCell ⟨b,0,none⟩ (.int .i64 x')).setCell ⟨b+1,0,none⟩ (.int .i64 y')):=by
 obtain ⟨h1,h2,h3,h4,h5,h6,h7⟩:=h
 refine ⟨?_,?_,?_,?_,h5,h6,fun c hc=>by simpa using h7 c hc⟩ <;> simp [go_sem,h1,h2,h3,h4]
end
section
open Go.RowKit Go.Maps
attribute [local go_sem] Oper.semAt_some
structure PvC (b:Nat) (T x y:Int) (O:Blk) (W:World):Prop where
 two:TwoC (b+1) x y O W
 c3:W.cell? ⟨b,0,none⟩=some (.int .i64 T)
 o3:O b
theorem PvC.keep {b:Nat} {T x y:Int} {O:Blk} {W W':World} (h:PvC b T x y O W) (hs:W.heap.size≤W'.heap.size) (hb:∀c,O c→W'.heap[c]? =W.heap[c]?):PvC b T x y O W':=
 ⟨h.two.keep hs hb,(zzJ (w:=W) (a:=⟨b,0,none⟩) (hb _ h.o3)).trans h.c3,h.o3⟩
def PvT (h0 h1 h2 h3 h4 h5 h6 h7 h8 h9:Value) (ds:List Deferred) (a:Act):Prop:=∃u:Nat→Value,a= {tmps:=#[h0,h1,h2,h3,h4,h5,h6,h7,h8,h9,u 0,u 1,u 2,u 3,u 4,u 5,u 6,u 7,u 8,u 9,u 10,u 11,u 12,u 13,u 14,u 15,u 16,u 17,u 18,u 19,u 20,u 21,u 22,u 23,u 24,u 25,u 26,u 27,u 28,u 29,u 30,u 31,u 32,u 33,u 34,u 35,u 36,u 37,u 38],defers:=ds}
theorem PvT.of {h0 h1 h2 h3 h4 h5 h6 h7 h8 h9 u10 u11 u12 u13 u14 u15 u16 u17 u18 u19 u20 u21 u22 u23 u24 u25 u26 u27 u28 u29 u30 u31 u32 u33 u34 u35 u36 u37 u38 u39 u40 u41 u42 u43 u44 u45 u46 u47 u48:Value} {ds:List Deferred}:PvT h0 h1 h2 h3 h4 h5 h6 h7 h8 h9 ds {tmps:=#[h0,h1,h2,h3,h4,h5,h6,h7,h8,h9,u10,u11,u12,u13,u14,u15,u16,u17,u18,u19,u20,u21,u22,u23,u24,u25,u26,u27,u28,u29,u30,u31,u32,u33,u34,u35,u36,u37,u38,u39,u40,u41,u42,u43,u44,u45,u46,u47,u48],defers:=ds}:=
 ⟨fun i=>(#[u10,u11,u12,u13,u14,u15,u16,u17,u18,u19,u20,u21,u22,u23,u24,u25,u26,u27,u28,u29,u30,u31,u32,u33,u34,u35,u36,u37,u38,u39,u40,u41,u42,u43,u44,u45,u46,u47,u48]:Array Value).getD i undef,rfl⟩
end
section
open Go.RowKit Go.Maps
theorem held_lt {t y:Int} (h0:0≤y) (h1:y < 12622780800):yj5 t+1≤y↔t < y:=by rw [yj5]; omega
def NextI (cs:List Cl) (t x:Int):Prop:=ycM cs x=true∧t < x∧∀y,t < y→y < x→ycM cs y=false
theorem yjQ {l:List Cl} {t:Int} (h:yaR l=0):(∃x,yjR l t= (x,0)∧NextI l t x)∨(yjR l t= (0,15)∧∀y,t < y→ycM l y=false):=by
 rw [yjR,if_neg (by simp [h])]
 have hp:=yc5 l (yj5 t+1) 12622780799
 have hm:∀y,y∈yct l (yj5 t+1) 12622780799↔t < y∧ycM l y=true:=fun y=>by
  rw [ycN]
  constructor
  ·rintro ⟨h1,h2,h3⟩
   have:=yeD h3
   exact ⟨(held_lt this.1 this.2).1 h1,h3⟩
  ·rintro ⟨h1,h3⟩
   have:=yeD h3
   exact ⟨(held_lt this.1 this.2).2 h1,by omega,h3⟩
 generalize yct l (yj5 t+1) 12622780799=L at *
 cases L with
 | nil=>
   refine .inr ⟨rfl,fun y hy=>?_⟩
   cases e:ycM l y
   ·rfl
   ·have:=(hm y).2 ⟨hy,e⟩; cases this
 | cons x L=>
   have hx:=(hm x).1 (by simp)
   refine .inl ⟨x,rfl,hx.2,hx.1,fun y h1 h2=>?_⟩
   cases e:ycM l y
   ·rfl
   ·rcases List.mem_cons.1 ((hm y).2 ⟨h1,e⟩) with h3 | h3
    ·omega
    ·have:=(List.pairwise_cons.1 hp).1 y h3; omega
theorem nextP_is {l:List Cl} {t x:Int} (h:yaR l=0) (hx:NextI l t x):yjR l t= (x,0):=by
 obtain ⟨h1,h2,h3⟩:=hx
 rcases yjQ (t:=t) h with ⟨y,e,g1,g2,g3⟩ | ⟨e,g⟩
 ·rw [e]
  by_cases h4:x < y
  ·have:=g3 x h2 h4; rw [h1] at this; cases this
  ·by_cases h5:y < x
   ·have:=h3 y g2 h5; rw [g1] at this; cases this
   ·rw [show x=y by omega]
 ·have:=g x h2; rw [h1] at this; cases this
end
end Go.Proofs.YtjahgimnfliooaaGreatDoor
