/-
  ferialaw18.RollDays answers true for every clauses and days.
  The instants of a set between two instants, day by day.
  The clause of a rule: what it means (plain).
  How many instants of a set are between two instants, in plain words.
  The law of a range over a function that has a state of its own, once more: the teller's blocks do not hold the loop's.
-/
import Derived.Test.YtjahgimnfliooaaGreatDoorQf33c73
import Derived.Test.YtjahgimnfliooaaGreatDoorQ497b5f
import Derived.Test.YtjahgimnfliooaaGreatDoorQbf18da
import Derived.Test.YtjahgimnfliooaaGreatDoorQf20948
import Derived.Test.YtjahgimnfliooaaGreatDoorQ68aa70
set_option maxRecDepth 100000
set_option maxHeartbeats 25600000
namespace Go.Proofs.YtjahgimnfliooaaGreatDoor
set_option linter.unusedVariables false
section
open Go.RowKit Go.Maps
theorem at_more {cs:List Cl} {n:Int} {ws ws2:Nat→Bool} {m m2:Nat} (h1:yf4 cs n ws m ws2 m2):m2≤m+1∧m≤m2:=by
 rcases h1 with ⟨-,-,e⟩ | ⟨-,-,-,e⟩ | ⟨-,-,-,e | e⟩
 ·omega
 ·rw [e]; split <;> omega
 ·omega
 ·omega
def RdS (w:World) (l:List Cl) (br bk:Nat) (bps:List Nat) (k:Nat) (wr:World):Prop:=∃F ws m,RollS wr l br bk bps F ws m∧m≤k∧Below w.heap.size w wr
theorem RdS.below {w wr w':World} {l:List Cl} {br bk:Nat} {bps:List Nat} {k:Nat} (h:RdS w l br bk bps k wr) (hB:Below wr.heap.size wr w'):RdS w l br bk bps k w':=by
 obtain ⟨F,ws,m,h1,h2,h3⟩:=h
 exact ⟨F,ws,m,h1.below hB,h2,h3.trans (hB.mono h3.size)⟩
end
section
open Go.RowKit Go.Maps
def ybc (cs:List Cl) (t:Int):Bool:=cs.any fun c=>hasC c t
theorem yck (cs:List Cl) (n:Int) (k:Nat):dayQ cs n k=ybc cs (86400 * n+k):=rfl
theorem ybx {cs:List Cl} {t:Int} (h:ybc cs t=true):0≤t∧t < 12622780800:=by
 rw [ybc,List.any_eq_true] at h
 obtain ⟨c,-,hc⟩:=h
 obtain ⟨-,-,-,h1,h2⟩:=yjh hc
 exact ⟨h1,h2⟩
def remQ (cs:List Cl) (n u s:Int) (k:Nat):Bool:=dayQ cs n k && (decide (s≤k) && decide (86400 * n+k≤u))
def remI (cs:List Cl) (n u s:Int):List Int:=secL (remQ cs n u s)
theorem ybM {cs:List Cl} {n u s x:Int}:x∈remI cs n u s↔∃k:Nat,k < 86400∧x=k∧dayQ cs n k=true∧s≤k∧86400 * n+k≤u:=by
 rw [remI,secL,sel_mem]
 constructor
 ·rintro ⟨k,h1,h2,h3⟩
  rw [remQ,zzX,zzX,zzY,zzY] at h2
  exact ⟨k,h1,h3,h2.1,h2.2.1,h2.2.2⟩
 ·rintro ⟨k,h1,h3,h2,h4,h5⟩
  exact ⟨k,h1,by rw [remQ,h2,zzZ h4,zzZ h5]; rfl,h3⟩
theorem ycJ (cs:List Cl) (n u s:Int):(remI cs n u s).Pairwise (·< ·):=yaI _ _
theorem ybP:∀{l m:List Int},l.Pairwise (·< ·)→m.Pairwise (·< ·)→(∀x,x∈l↔x∈m)→l=m
 | [],[],_,_,_=>rfl
 | [],y :: m,_,_,h=>by have:=(h y).2 (by simp); simp at this
 | x :: l,[],_,_,h=>by have:=(h x).1 (by simp); simp at this
 | x :: l,y :: m,hl,hm,h=>by
   rw [List.pairwise_cons] at hl hm
   have e:x=y:=by
    rcases List.mem_cons.1 ((h x).1 (by simp)) with e | h1
    ·exact e
    ·rcases List.mem_cons.1 ((h y).2 (by simp)) with e | h2
     ·exact e.symm
     ·have a:=hm.1 x h1; have b:=hl.1 y h2; omega
   subst e
   congr 1
   refine ybP hl.2 hm.2 (fun z=>⟨fun hz=>?_,fun hz=>?_⟩)
   ·rcases List.mem_cons.1 ((h z).1 (by simp [hz])) with e | h1
    ·subst e; have:=hl.1 z hz; omega
    ·exact h1
   ·rcases List.mem_cons.1 ((h z).2 (by simp [hz])) with e | h1
    ·subst e; have:=hm.1 z hz; omega
    ·exact h1
theorem ydH {cs:List Cl} {n u s at':Int} {ok:Bool} (h:FirstOf (fun k=>dayQ cs n k && decide (s≤k)) at' ok) :
  (ok=true→86400 * n+at'≤u→remI cs n u s=at' :: remI cs n u (at'+1))∧(ok=true→¬86400 * n+at'≤u→remI cs n u s= [])∧(ok=false→remI cs n u s= [])∧(ok=true→s≤at'∧0≤at'∧at' < 86400∧dayQ cs n at'.toNat=true):=by
 rcases h with ⟨rfl,k,rfl,hk,hp,hno⟩ | ⟨rfl,rfl,hno⟩
 ·rw [zzX,zzY] at hp
  have low:∀j:Nat,dayQ cs n j=true→s≤j→k≤j:=fun j h1 h2=>by
   rcases Nat.lt_or_ge j k with h | h
   ·have h3:(dayQ cs n j && decide (s≤(j:Int)))=false:=hno j h
    rw [h1,zzZ h2] at h3; cases h3
   ·exact h
  refine ⟨fun _ hu=>?_,fun _ hu=>?_,fun h=>(by cases h),fun _=>⟨hp.2,by omega,by omega,by simpa using hp.1⟩⟩
  ·refine ybP (ycJ _ _ _ _) (List.pairwise_cons.2 ⟨fun y hy=>?_,ycJ _ _ _ _⟩) fun y=>?_
   ·obtain ⟨j,-,rfl,-,h1,-⟩:=ybM.1 hy
    omega
   ·rw [List.mem_cons,ybM,ybM]
    constructor
    ·rintro ⟨j,h1,rfl,h2,h3,h4⟩
     have:=low j h2 h3
     rcases Nat.eq_or_lt_of_le this with e | e
     ·exact .inl (by rw [e])
     ·exact .inr ⟨j,h1,rfl,h2,by omega,h4⟩
    ·rintro (rfl | ⟨j,h1,rfl,h2,h3,h4⟩)
     ·exact ⟨k,hk,rfl,hp.1,hp.2,hu⟩
     ·exact ⟨j,h1,rfl,h2,by omega,h4⟩
  ·rw [List.eq_nil_iff_forall_not_mem]
   intro y hy
   obtain ⟨j,h1,rfl,h2,h3,h4⟩:=ybM.1 hy
   have:=low j h2 h3
   omega
 ·refine ⟨fun h=>(by cases h),fun h=>(by cases h),fun _=>?_,fun h=>(by cases h)⟩
  rw [List.eq_nil_iff_forall_not_mem]
  intro y hy
  obtain ⟨j,h1,rfl,h2,h3,h4⟩:=ybM.1 hy
  have h4:(dayQ cs n j && decide (s≤(j:Int)))=false:=hno j h1
  rw [h2,zzZ h3] at h4; cases h4
def dayI (cs:List Cl) (f u n:Int):List Int:=(remI cs n u (max 0 (f - 86400 * n))).map fun x=>86400 * n+x
theorem ydO {cs:List Cl} {f u n t:Int}:t∈dayI cs f u n↔t / 86400=n∧f≤t∧t≤u∧ybc cs t=true:=by
 rw [dayI,List.mem_map]
 constructor
 ·rintro ⟨x,hx,rfl⟩
  obtain ⟨k,h1,rfl,h2,h3,h4⟩:=ybM.1 hx
  exact ⟨by omega,by omega,h4,h2⟩
 ·rintro ⟨rfl,h1,h2,h3⟩
  have e:(((t % 86400).toNat:Nat):Int)=t % 86400:=Int.toNat_of_nonneg (by omega)
  refine ⟨t % 86400,ybM.2 ⟨(t % 86400).toNat,by omega,e.symm,?_,by omega,by omega⟩,by omega⟩
  rw [yck,e,show 86400 * (t / 86400)+t % 86400=t by omega]; exact h3
theorem dayI_pair (cs:List Cl) (f u n:Int):(dayI cs f u n).Pairwise (·< ·):=by
 rw [dayI,List.pairwise_map]
 exact (ycJ _ _ _ _).imp fun h=>by omega
def ybW (cs:List Cl) (f u:Int) (ds:List Int):List Int:=ds.flatMap (dayI cs f u)
def cntI (cs:List Cl) (f u:Int) (ds:List Int) (k:Nat):Nat:=(ybW cs f u (ds.take k)).length
theorem yfj (cs:List Cl) (f u:Int) (ds:List Int):cntI cs f u ds 0=0:=rfl
theorem yjr (cs:List Cl) (f u:Int) (ds:List Int):cntI cs f u ds ds.length= (ybW cs f u ds).length:=by rw [cntI,List.take_length]
theorem ydP {cs:List Cl} {f u n:Int} {ds:List Int} {k:Nat} (h:ds[k]? =some n):cntI cs f u ds (k+1)=cntI cs f u ds k+(dayI cs f u n).length:=by
 obtain ⟨hk,rfl⟩:=zzq.1 h
 rw [cntI,yak ds k hk,ybW,List.flatMap_append,List.length_append,cntI,ybW]; simp
theorem yfR {cs:List Cl} {f u n:Int} {ds:List Int} {k:Nat} (h:ds[k]? =some n):ybW cs f u ds=ybW cs f u (ds.take k) ++ (dayI cs f u n ++ ybW cs f u (ds.drop (k+1))):=by
 obtain ⟨hk,rfl⟩:=zzq.1 h
 rw [ybW,ybW,ybW]
 conv=>lhs; rw [←List.take_append_drop k ds,List.drop_eq_getElem_cons hk]
 rw [List.flatMap_append,List.flatMap_cons]
theorem inst_at {cs:List Cl} {f u n x:Int} {ds:List Int} {k p:Nat} (h:ds[k]? =some n) (hx:(dayI cs f u n)[p]? =some x):(ybW cs f u ds)[cntI cs f u ds k+p]? =some x:=by
 rw [yfR h,List.getElem?_append_right (by rw [cntI]; omega),cntI,show (ybW cs f u (ds.take k)).length+p - (ybW cs f u (ds.take k)).length=p by omega,List.getElem?_append_left (zzq.1 hx).1,hx]
theorem inst_stop {cs:List Cl} {f u n x:Int} {ds:List Int} {k:Nat} (hp:ds.Pairwise (·< ·)) (h:ds[k]? =some n) (h1:x < 86400) (h2:u < 86400 * n+x):(ybW cs f u ds).length=cntI cs f u ds (k+1):=by
 obtain ⟨hk,rfl⟩:=zzq.1 h
 rw [ydP h,yfR h,List.length_append,List.length_append,cntI]
 have e:ybW cs f u (ds.drop (k+1))= []:=by
  rw [List.eq_nil_iff_forall_not_mem]
  intro t ht
  rw [ybW,List.mem_flatMap] at ht
  obtain ⟨n',hn',ht⟩:=ht
  obtain ⟨g1,-,g2,-⟩:=ydO.1 ht
  obtain ⟨j,hj⟩:=List.getElem?_of_mem hn'
  rw [List.getElem?_drop] at hj
  obtain ⟨hj1,hj2⟩:=zzq.1 hj
  have:=List.pairwise_iff_getElem.1 hp k (k+1+j) hk hj1 (by omega)
  omega
 rw [e,List.length_nil,Nat.add_zero]
theorem daysL_up (a b:Int):(yaj a b).Pairwise (·< ·):=by
 rw [yaj,List.pairwise_map]
 exact List.Pairwise.imp (fun h=>by omega) List.pairwise_lt_range
theorem yih (cs:List Cl) (a b:Int):(dayS cs (yaj a b)).Pairwise (·< ·):=(daysL_up a b).filter _
def yaQ (cs:List Cl) (f u:Int):List Int:=ybW cs f u (dayS cs (yaj (f / 86400) (u / 86400)))
theorem ybh {cs:List Cl} {f u t:Int}:t∈yaQ cs f u↔f≤t∧t≤u∧ybc cs t=true:=by
 rw [yaQ,ybW,List.mem_flatMap]
 constructor
 ·rintro ⟨n,-,h⟩
  obtain ⟨-,h1,h2,h3⟩:=ydO.1 h
  exact ⟨h1,h2,h3⟩
 ·rintro ⟨h1,h2,h3⟩
  refine ⟨t / 86400,?_,ydO.2 ⟨rfl,h1,h2,h3⟩⟩
  rw [dayS,List.mem_filter,ybA]
  refine ⟨⟨by omega,by omega⟩,ycn.2 ⟨(t % 86400).toNat,by omega,?_⟩⟩
  rw [yck,Int.toNat_of_nonneg (by omega),show 86400 * (t / 86400)+t % 86400=t by omega]; exact h3
theorem yb5 (cs:List Cl) (f u:Int):(yaQ cs f u).Pairwise (·< ·):=by
 have key:∀ds:List Int,ds.Pairwise (·< ·)→(ybW cs f u ds).Pairwise (·< ·):=by
  intro ds
  induction ds with
  | nil=>intro _; exact List.Pairwise.nil
  | cons n ds ih=>
    intro hp
    rw [List.pairwise_cons] at hp
    rw [ybW,List.flatMap_cons,List.pairwise_append]
    refine ⟨dayI_pair _ _ _ _,ih hp.2,fun a ha b hb=>?_⟩
    rw [List.mem_flatMap] at hb
    obtain ⟨n',hn',hb⟩:=hb
    obtain ⟨h1,-⟩:=ydO.1 ha
    obtain ⟨h2,-⟩:=ydO.1 hb
    have:=hp.1 n' hn'
    omega
 exact key _ (yih _ _ _)
theorem yhl {cs:List Cl} {f u:Int} (h:u < f):yaQ cs f u= []:=by
 rw [List.eq_nil_iff_forall_not_mem]
 intro t ht
 obtain ⟨h1,h2,-⟩:=ybh.1 ht
 omega
end
section
open Go.RowKit Go.Maps
attribute [local irreducible] secL
def lowM (r:Ru) (i:Nat):Nat:=if i=0 then tmS r else if i=1 then tmM r else if i=2 then tmH r else if i=3 then ybk r else if i=4 then domV r else if i=5 then endV r else ybS r
def lowC (r:Ru):Cl:={m:=lowM r,or:=false,oin:=woI r,oback:=woB r,od:=woD r,ys:=ych,unit:=r.fq,step:=r.iv,anchor:=r.st,fr:=r.st,un:=if r.un= -1 then 12622780799 else r.un}
def ydk (r:Ru) (t:Int):Bool:=winB t && ((decide (r.st≤t) && (decide (r.un= -1) || decide (t≤r.un))) && (yfB r (shF (t / 86400)) && (yeN r (t % 86400) && onB r.fq r.iv r.st t)))
def lowE (r:Ru):Int:=if yaf r=0 then (if 100000000000 < r.iv∨1000000 < r.co then 14 else 0) else yaf r
theorem yfa {r:Ru} (h:ydf r=0):1≤r.iv∧0≤r.co∧(r.un= -1∨winB r.un=true):=by
 rw [ydf] at h
 split at h
 ·cases h
 ·split at h
  ·cases h
  ·split at h
   ·cases h
   ·split at h
    ·cases h
    ·split at h
     ·cases h
     ·split at h
      ·cases h
      ·split at h
       ·exact ⟨by omega,by omega, .inl (by assumption)⟩
       ·split at h
        ·cases h
        ·rename_i hw
         refine ⟨by omega,by omega, .inr ?_⟩
         cases e:winB r.un
         ·exact absurd e hw
         ·rfl
theorem rlBit (l:List Int) (i:Nat):(ofM l).testBit i= (decide (i < 64) && decide ((i:Int)∈l)):=by rw [ofM,ybd,inB]
theorem ygJ {l:List Int} {lo hi:Int} (h:∀x∈l,lo≤x∧x≤hi):ya9 (ofM l) lo hi=true:=ycm.2 fun k _ hb=>by
 rw [rlBit,zzX,zzY,zzY] at hb
 exact h _ hb.2
theorem yeF {x lo hi:Int} (h:lo≤x∧x≤hi):ya9 (ofM [x]) lo hi=true:=ygJ fun y hy=>by
 have:y=x:=by simpa using hy
 rw [this]; exact h
theorem full_bits:ya9 (fullCl.m 0) 0 59=true∧ya9 (fullCl.m 1) 0 59=true∧ya9 (fullCl.m 2) 0 23=true∧ya9 (fullCl.m 3) 1 12=true∧ya9 (fullCl.m 4) 1 31=true∧ya9 (fullCl.m 5) 1 31=true∧ya9 (fullCl.m 6) 1 7=true:=by
 have h:=yi3
 simp only [mayC,ydJ,zzX] at h
 exact h.1
theorem ygo {l:List Int} {at' freq fq lo hi:Int} {full:Nat} (h:∀x∈l,lo≤x∧x≤hi) (ha:lo≤at'∧at'≤hi) (hf:ya9 full lo hi=true):ya9 (oneE l at' freq full fq) lo hi=true:=by
 rw [oneE]
 split
 ·exact ygJ h
 ·split
  ·exact yeF ha
  ·exact hf
theorem neg_bits {l:List Int} (h:∀x∈l,-31≤x∧x≤-1):ya9 (negM l) 1 31=true:=ycm.2 fun k hk hb=>by
 have e:=neg_has (l:=l) (x:=(k:Int)) (by omega) (by omega)
 rw [hasB,zzZ (by omega),zzo,Int.toNat_natCast,hb] at e
 have:=h _ (of_decide_eq_true e.symm)
 omega
theorem wkM_bits {l:List (Int × Int)} (h:∀x∈l,1≤x.2∧x.2≤7):ya9 (wkM l) 1 7=true:=ycm.2 fun k hk hb=>by
 have e:=wkM_has (l:=l) (x:=(k:Int)) (by omega) (by omega)
 rw [hasB,zzZ (by omega),zzo,Int.toNat_natCast,hb] at e
 obtain ⟨x,hx,e2⟩:=List.any_eq_true.1 e.symm
 have:=h x hx
 have:=of_decide_eq_true e2
 omega
theorem wkD_bits {l:List (Int × Int)} {j:Nat} {most:Int} (h:∀x∈l,x.2= (j:Int)→1≤max x.1 (-x.1)∧max x.1 (-x.1)≤most):ya9 (wkD l j) 1 most=true:=ycm.2 fun k hk hb=>by
 have e:=yhT (l:=l) (j:=j) (x:=(k:Int)) (by omega) (by omega)
 rw [hasB,zzZ (by omega),zzo,Int.toNat_natCast,hb] at e
 obtain ⟨x,hx,e2⟩:=List.any_eq_true.1 e.symm
 rw [zzX,zzY,zzY] at e2
 have:=h x hx e2.1
 omega
theorem out_none {lo hi:Int} {l:List Int} (h:outB lo hi l=false):∀x∈l,lo≤x∧x≤hi:=fun x hx=>by
 have e:outP lo hi x=false:=by
  cases e:outP lo hi x
  ·rfl
  ·have:outB lo hi l=true:=List.any_eq_true.2 ⟨x,hx,e⟩
   rw [h] at this; cases this
 rw [outP,Bool.or_eq_false_iff,decide_eq_false_iff_not,decide_eq_false_iff_not] at e
 omega
theorem none_zero {r:Ru} (hm:mixB (nsL r)=false) (ho:outB 0 0 (nsL r)=true):∀x∈r.l7,x.1≠0:=fun x hx e=>by
 obtain ⟨y,hy,e2⟩:=List.any_eq_true.1 ho
 have hx':x.1∈nsL r:=List.mem_map.2 ⟨x,hx,rfl⟩
 rw [outP,Bool.or_eq_true,zzY,zzY] at e2
 rcases yeO hm with h | h | h
 ·have:=h _ hx'; omega
 ·have:=h _ hy; omega
 ·have:=h _ hx'; omega
theorem low_masks {r:Ru} (hc:yaf r=0):ydJ (lowM r)=true:=by
 have ok:=yaC hc
 obtain ⟨hw,hu⟩:=ybE ok.h
 obtain ⟨h0,h1⟩:=yeo hw
 obtain ⟨f0,f1,f2,f3,f4,f5,f6⟩:=full_bits
 obtain ⟨y0,y1,m0,m1,d0,d1⟩:=yaL (n:=r.st / 86400) (by omega) (by omega)
 obtain ⟨l0,l1⟩:=ybp (fY (r.st / 86400)) (fMo (r.st / 86400))
 obtain ⟨⟨-,hd⟩,hmix,-⟩:=ygF ok.e6
 obtain ⟨-,hwk,hmx,-,-⟩:=ydC ok.e7
 have hsg:=yiX (fun x hx=>(hd x hx).2) hmix
 simp only [ydJ,zzX]
 refine ⟨?_,?_,?_,?_,?_,?_,?_⟩
 ·show ya9 (tmS r) 0 59=true
  rw [tmS,if_pos hc]; exact ygo (ye1 ok.ex).2 (by omega) f0
 ·show ya9 (tmM r) 0 59=true
  rw [tmM,if_pos hc]; exact ygo (ye1 ok.e9).2 (by omega) f1
 ·show ya9 (tmH r) 0 23=true
  rw [tmH,if_pos hc]; exact ygo (ye1 ok.e8).2 (by omega) f2
 ·show ya9 (ybk r) 1 12=true
  rw [ybk,if_pos hc]
  split
  ·exact ygJ (ye1 ok.e5).2
  ·split
   ·exact yeF ⟨m0,m1⟩
   ·exact f3
 ·show ya9 (domV r) 1 31=true
  rw [domV,if_pos hc]
  split
  ·exact f4
  ·rename_i hn
   split
   ·exact ygJ fun x hx=>by have:=hsg.2 hn x hx; have:=hd x hx; omega
   ·split
    ·exact yeF ⟨d0,by omega⟩
    ·exact f4
 ·show ya9 (endV r) 1 31=true
  rw [endV,if_pos hc]
  split
  ·rename_i hn
   exact neg_bits fun x hx=>by have:=hsg.1 hn x hx; have:=hd x hx; omega
  ·exact f5
 ·show ya9 (ybS r) 1 7=true
  rw [ybS,if_pos hc]
  split
  ·split
   ·refine yeF ?_
    rw [wdI]; omega
   ·exact f6
  ·split
   ·exact f6
   ·exact wkM_bits fun x hx=>(hwk x hx).2
theorem low_ord {r:Ru} (hc:yaf r=0):ordB (woI r) (woB r) (woD r)=true:=by
 obtain ⟨-,hwk,hmx,h56,h5⟩:=ydC (yaC hc).e7
 by_cases ho:outB 0 0 (nsL r)=true
 ·have hp:yaf r=0∧outB 0 0 (nsL r)=true:=⟨hc,ho⟩
  have hz:=none_zero hmx ho
  have e0:wkD r.l7 0=0:=by
   apply Nat.eq_of_testBit_eq
   intro k
   rw [Nat.zero_testBit]
   by_cases hk:k < 64
   ·have e:=yhT (l:=r.l7) (j:=0) (x:=(k:Int)) (by omega) (by omega)
    rw [hasB,zzZ (by omega),zzo,Int.toNat_natCast] at e
    rw [e]
    cases ha:r.l7.any fun n=>decide (n.2= ((0:Nat):Int)) && decide (max n.1 (-n.1)= (k:Int))
    ·rfl
    ·obtain ⟨x,hx,e2⟩:=List.any_eq_true.1 ha
     rw [zzX,zzY] at e2
     have:=(hwk x hx).2
     omega
   ·exact Nat.testBit_lt_two_pow (zH (ygW r.l7 0) (Nat.pow_le_pow_right (n:=2) (by omega) (show 64≤k by omega)))
  have bits:∀most,(∀x∈r.l7,max x.1 (-x.1)≤most)→ydb (wkD r.l7) most=true:=fun most hm=>by
   rw [ydb,zzX,zzY,allR_iff]
   exact ⟨e0,fun j _=>wkD_bits fun x hx _=>⟨by have:=hz x hx; omega,hm x hx⟩⟩
  have eD:woD r=wkD r.l7:=funext fun j=>by rw [woD,if_pos hp]
  rw [woI,if_pos hp,woB,if_pos hp,eD,yam,ordB]
  by_cases h6:r.fq=6∧r.l5.length=0
  ·rw [if_pos h6,if_neg (by decide),if_neg (by decide),if_pos rfl]
   exact bits 53 fun x hx=>by have:=(hwk x hx).1; omega
  ·rw [if_neg h6,if_neg (by decide),if_pos rfl]
   have h5':r.fq=5∨0 < r.l5.length:=by
    rcases h56 ho with e | e
    ·exact .inl e
    ·exact .inr (by omega)
   have:=out_none (h5 h5')
   exact bits 5 fun x hx=>by have:=this x.1 (List.mem_map.2 ⟨x,hx,rfl⟩); omega
 ·have hn:¬(yaf r=0∧outB 0 0 (nsL r)=true):=fun e=>ho e.2
  have eD:woD r=fun _=>0:=funext fun j=>by rw [woD,if_neg hn]
  rw [woI,if_neg hn,woB,if_neg hn,eD]
  decide
theorem ygq {r:Ru} (hc:yaf r=0):mayC (lowC r)=true:=by
 have ok:=yaC hc
 obtain ⟨hw,hu⟩:=ybE ok.h
 simp only [mayC,zzX,zzY]
 refine ⟨low_masks hc,low_ord hc,?_,hu,(yfa ok.h).1,hw⟩
 have h:=yi3
 simp only [mayC,zzX] at h
 exact h.2.2.1
theorem low_ok {r:Ru} (hn:r.Num):(lowC r).Ok:=by
 obtain ⟨l3,l4,l5,l6,lo⟩:=rd_lt r
 refine ⟨fun i hi=>?_,lo,fun i hi=>?_,?_,hn.fq,hn.iv,hn.st,hn.st,?_⟩
 ·show lowM r i < _
  have one:∀(l:List Int) (a f:Int) (full:Nat) (fq:Int),full < 18446744073709551616→oneE l a f full fq < 18446744073709551616:=fun l a f full fq h=>by
   rw [oneE]; split
   ·exact yaU _
   ·split
    ·exact yaU _
    ·exact h
  rcases seven hi with rfl | rfl | rfl | rfl | rfl | rfl | rfl
  ·show tmS r < _
   rw [tmS]; split
   ·exact one _ _ _ _ _ (by decide +kernel)
   ·omega
  ·show tmM r < _
   rw [tmM]; split
   ·exact one _ _ _ _ _ (by decide +kernel)
   ·omega
  ·show tmH r < _
   rw [tmH]; split
   ·exact one _ _ _ _ _ (by decide +kernel)
   ·omega
  ·exact l3
  ·exact l4
  ·exact l5
  ·exact l6
 ·show ych i < _
  rw [ych]; exact yaU _
 ·have:=woI_in r
  show i64B (woI r)
  unfold i64B; omega
 ·show i64B (if r.un= -1 then 12622780799 else r.un)
  split
  ·unfold i64B; omega
  ·exact hn.un
theorem low_has {r:Ru} (hc:yaf r=0) (t:Int):hasC (lowC r) t=ydk r t:=by
 have ok:=yaC hc
 obtain ⟨hw,hu⟩:=ybE ok.h
 have hi:=(yfa ok.h).1
 rw [hasC,ydk]
 by_cases ht:winB t=true
 ·obtain ⟨t0,t1⟩:=yeo ht
  rw [ht,ygq hc,zzo,zzo,zzo]
  have e1:betB (lowC r).fr (lowC r).un t= (decide (r.st≤t) && (decide (r.un= -1) || decide (t≤r.un))):=by
   show betB r.st (if r.un= -1 then 12622780799 else r.un) t= _
   rw [betB]
   by_cases h:r.un= -1
   ·rw [if_pos h,zzZ h,zzZ (show t≤12622780799 by omega),Bool.true_or]
   ·rw [if_neg h,zzd h,Bool.false_or]
  have e2:ybn (t % 86400) ((lowC r).m 2) ((lowC r).m 1) ((lowC r).m 0)=yeN r (t % 86400):=by
   rw [←time_law hc (show 0≤t % 86400 by omega) (show t % 86400 < 86400 by omega),show t % 86400 % 3600 / 60=t % 86400 / 60 % 60 by omega]
   show ybn (t % 86400) (tmH r) (tmM r) (tmS r)= _
   rw [ybn,dayB,zzZ (by omega),zzo]
  have hy:=yaL (n:=t / 86400) (by omega) (by omega)
  have e3:dateB (lowC r) (shF (t / 86400))=yfB r (shF (t / 86400)):=by
   rw [days_eq hc (by omega) (by omega),dateB,domB]
   show ((if false=true then _ else hasB (domV r) (shF (t / 86400) 3) && hasB (ybS r) (shF (t / 86400) 5)) && (hasB (ybk r) (shF (t / 86400) 2) && (hasB (endV r) (shF (t / 86400) 4) && (hasW ych (shF (t / 86400) 1 - 1970) && nthB (woI r) (woB r) (woD r) (shF (t / 86400))))))= _
   rw [hasW_full (show 0≤shF (t / 86400) 1 - 1970 by show 0≤fY (t / 86400) - 1970; omega) (show shF (t / 86400) 1 - 1970 < 400 by show fY (t / 86400) - 1970 < 400; omega),if_neg (by decide),zzo]
   ac_rfl
  rw [e1,e2,dayC,ygq hc,zzo,e3]
  show (_ && (_ && (onB r.fq r.iv r.st t && (_ && ycF r.fq r.iv r.st (t / 86400)))))= _
  cases ho:onB r.fq r.iv r.st t
  ·simp
  ·rw [on_day hu hw hi t0 t1 ho]
   simp only [zzo,Bool.and_true]
   ac_rfl
 ·have e:winB t=false:=by simpa using ht
  rw [e,Bool.false_and,Bool.false_and]
end
section
open Go.RowKit Go.Maps
def cntT (cs:List Cl) (f u:Int):Nat:=(yaQ cs f u).length
theorem inst_upto (cs:List Cl) {f u:Int} {n:Nat} (h:n < (yaQ cs f u).length):yaQ cs f ((yaQ cs f u)[n])= (yaQ cs f u).take (n+1):=by
 have hp:=yb5 cs f u
 have hm:=fun x=>ybh (cs:=cs) (f:=f) (u:=u) (t:=x)
 have hx:=(hm _).1 (zzr h)
 have e:∀x,x∈yaQ cs f ((yaQ cs f u)[n])↔x∈yaQ cs f u∧x≤(yaQ cs f u)[n]:=fun x=>by
  rw [ybh,ybh]
  constructor
  ·rintro ⟨g1,g2,g3⟩; exact ⟨⟨g1,by omega,g3⟩,g2⟩
  ·rintro ⟨⟨g1,g2,g3⟩,g4⟩; exact ⟨g1,g4,g3⟩
 refine ybP (yb5 _ _ _) (List.Pairwise.sublist (List.take_sublist _ _) hp) (fun x=>?_)
 rw [e]
 generalize yaQ cs f u=L at *
 clear e hm hx
 rw [List.pairwise_iff_getElem] at hp
 constructor
 ·rintro ⟨g1,g2⟩
  obtain ⟨j,hj,rfl⟩:=List.mem_iff_getElem.1 g1
  have:j < n+1:=by
   apply Nat.lt_of_not_le
   intro h2
   have:=hp n j h hj (by omega); omega
  rw [List.mem_iff_getElem]
  exact ⟨j,by rw [List.length_take]; omega,List.getElem_take⟩
 ·intro hx
  obtain ⟨j,hj,rfl⟩:=List.mem_iff_getElem.1 hx
  have hj2:j < L.length:=by rw [List.length_take] at hj; omega
  have hj3:j < n+1:=by rw [List.length_take] at hj; omega
  rw [List.getElem_take]
  refine ⟨zzr hj2,?_⟩
  rcases Nat.lt_or_ge j n with h2 | h2
  ·have:=hp j n hj2 h h2; omega
  ·obtain rfl:j=n:=by omega
   exact Int.le_refl _
theorem cntT_upto (cs:List Cl) {f u:Int} {n:Nat} (h:n < (yaQ cs f u).length):cntT cs f ((yaQ cs f u)[n])=n+1:=by
 rw [cntT,inst_upto cs h,List.length_take]; omega
theorem yko (cs:List Cl) {f u n:Int} (h1:f≤86400 * n) (h2:86400 * n+86399≤u):(dayI cs f u n).length= (secL (dayQ cs n)).length:=by
 have e:remI cs n u (max 0 (f - 86400 * n))=secL (dayQ cs n):=by
  refine ybP (ycJ _ _ _ _) (yaI _ _) (fun x=>?_)
  rw [ybM,secL,sel_mem]
  constructor
  ·rintro ⟨k,g1,g2,g3,-⟩; exact ⟨k,g1,g3,g2⟩
  ·rintro ⟨k,g1,g3,g2⟩; exact ⟨k,g1,g2,g3,by omega,by omega⟩
 rw [dayI,List.length_map,e]
theorem dayI_all (cs:List Cl) {f u n:Int} (h1:f≤86400 * n) (h2:86400 * n+86399≤u):dayI cs f u n= (secL (dayQ cs n)).map fun x=>86400 * n+x:=by
 have e:remI cs n u (max 0 (f - 86400 * n))=secL (dayQ cs n):=by
  refine ybP (ycJ _ _ _ _) (yaI _ _) (fun x=>?_)
  rw [ybM,secL,sel_mem]
  constructor
  ·rintro ⟨k,g1,g2,g3,-⟩; exact ⟨k,g1,g3,g2⟩
  ·rintro ⟨k,g1,g3,g2⟩; exact ⟨k,g1,g2,g3,by omega,by omega⟩
 rw [dayI,e]
end
section
open Go.RowKit
theorem yb1 {P:Program} {m:Nat} {g:Operand} {ps:Array Tmp} {assign body:Code} {Q:Exit→Act→World→Prop} {a:Act} {w:World} {gf:Nat} {lb:Array Value} {n:Nat} {V:Nat→Array Value→Blk→World→Prop} {H HN HS:Blk→World→Prop} {M F:Blk}
  (hg:a.eval g= .func (.func gf) #[] lb) (eg:∀args w,(callFunc gf args).run P w= .ok (.enter gf args) w) (Ow:Blk) (hps:∀k vs F W,V k vs F W→vs.size=ps.size) (hseq:yfY P gf lb n V H HN HS M) (hH:HostOk H M) (hN:HostOk HN M) (hS:HostOk HS M) (hF:H F w) (hFO:∀b,F b→¬Ow b)
  (I:OwnF) (Ix:Code→OwnF) (hI:StabF M I) (hIx:∀c,StabF M (Ix c)) (hIl:LtF I) (hIxl:∀c,LtF (Ix c)) (h0:I 0 Ow F w)
  (A:Nat→Blk→Blk→Act→World→Prop) (hA:∀l o k O F a' W,(∃r,W.heap[l]? =some (.loop r))→¬O l→¬F l→A k O F a' W→A k O F a' (W.putObj l o))
  (hassign:∀l k O F W vs (K:Act→World→Prop),k < n→I k O F W→(∀b,F b→¬O b∧b≠l)→V k vs F W→GrowM M Ow O w W→(∀a' O' W',Grow O O' W W'→A k O' F a' W'→K a' W')→
    assign.wpIn (WF (some l)) m P (Exit.then K (fun _ _ _=>False)) {tmps:=(ps.zip vs).foldl (fun t (p,v)=>t.setIfInBounds p v) a.tmps,defers:= []} W)
  (hbody:∀l k O F a' W,k < n→GrowM M Ow O w W→w.heap.size≤l→(∃r,W.heap[l]? =some (.loop r))→¬O l→¬F l→A k O F a' W→body.wpIn (WF (some l)) m P (yiy (atF I F) (fun c=>atF (Ix c) F) k O W) a' W)
  (hdone:∀O' F' W',GrowM M Ow O' w W'→HN F' W'→(∀b,F b→F' b)→(∀b,F' b→F b∨w.heap.size≤b)→(∀b,F' b→¬O' b)→I n O' F' W'→W'.heap[w.heap.size]? =some (.deferred (some []))→¬O' w.heap.size→¬F' w.heap.size→Q .normal {a with defers:={target:= .collected w.heap.size,args:=#[]} :: a.defers} W')
  (hstop:∀c k O' F' W',1≤k→k≤n→GrowM M Ow O' w W'→HS F' W'→(∀b,F b→F' b)→(∀b,F' b→F b∨w.heap.size≤b)→(∀b,F' b→¬O' b)→Ix c k O' F' W'→W'.heap[w.heap.size]? =some (.deferred (some []))→¬O' w.heap.size→¬F' w.heap.size→
    c.wpIn (WF none) m P Q {a with defers:={target:= .collected w.heap.size,args:=#[]} :: a.defers} W') :
  (Code.rangeFunc g ps assign body).wpIn (WF none) m P Q a w:=by
 refine wpIn_rangeFunc ?_
 intro fn hfn
 obtain ⟨W1,hW1⟩:∃W1,(w.alloc (.deferred (some []))).alloc (.loop (yag fn a.tmps ps assign body w.heap.size .ready none))=W1:=⟨_,rfl⟩
 have hL1:W1.heap[w.heap.size+1]? =some (.loop (yag fn a.tmps ps assign body w.heap.size .ready none)):=by
  rw [←hW1]; have:=World.alloc_heap_new (w.alloc (.deferred (some []))) (.loop (yag fn a.tmps ps assign body w.heap.size .ready none)); rwa [zzN] at this
 have hB1:Below w.heap.size w W1:=by rw [←hW1]; exact ((Below.refl _ w).alloc (zG _) _).alloc (by simp) _
 have hK1:W1.heap[w.heap.size]? =some (.deferred (some [])):=by
  rw [←hW1]; exact (Below.heap_alloc _ _ _ (by simp)).trans (World.alloc_heap_new w _)
 have hlt:=hIl 0 Ow F w h0
 have hFlt:=hH.lt F w hF
 have hF1:H F W1:=hH.stab F w W1 hF hB1.size (fun b hb=>hB1.block b (hFlt b hb))
 have hMlt:∀b,M b→b < w.heap.size:=fun b hb=>hFlt b (hH.sub F w hF b hb)
 have hJ:RJF (yag fn a.tmps ps assign body w.heap.size .ready none) (w.heap.size+1) (some w.heap.size) I 0 (fun b=>Ow b∨b=w.heap.size+1∨some w.heap.size=some b) F W1:=
  ⟨Ow,fun b=>Iff.rfl,fun h=>by have:=hlt _ h; omega,fun d hd=>by cases hd; exact ⟨fun h=>by have:=hlt _ h; omega,by omega,hK1⟩,hI 0 Ow F F w W1 h0 hB1.size (fun _ h=>h) (fun b hb=>hB1.block b (hb.elim (hlt b) (fun h=>hFlt b h.1))),hL1⟩
 have hlc:=yal hL1
 have hC:=yhh (P:=P) (m:=m) (fn:=fn) (tmps:=a.tmps) (D:=w.heap.size) (l:=w.heap.size+1) (Dk:=some w.heap.size) (n:=n) (V:=V) (M:=M) hps hI hIx hIl hIxl A hA Ow (fun b=>Ow b∨b=w.heap.size+1∨some w.heap.size=some b) w W1 (by omega) (fun O O1 W hO hG=>⟨fun b hb=>by
   have hb2:=hlt b hb
   rcases (hO b).mp (hG.sub b (.inl hb)) with h | h | h
   ·exact h
   ·omega
   ·cases h; omega,fun b hb=>by
   rcases hG.new b ((hO b).mpr (.inl hb)) with (h | h | h) | h
   ·exact .inl h
   ·exact .inr (by omega)
   ·cases h; exact .inr (by omega)
   ·exact .inr (by have:=hB1.size; omega),(Eff.of_below (O:=fun b=>Ow b∨M b) hB1).trans hG.eff fun b hb=>by
   rcases hb with (h | h | h) | h
   ·exact .inl (.inl h)
   ·exact .inr (by omega)
   ·cases h; exact .inr (by omega)
   ·exact .inl (.inr h)⟩) (hassign (w.heap.size+1)) (fun k O F a' W hk hG=>hbody (w.heap.size+1) k O F a' W hk hG (by omega))
 have hcall:=hseq _ _ _ _ F W1 hF1 (fun b hb h=>by
  have:=hFlt b hb
  rcases h with h | h | h
  ·exact hFO b hb h
  ·omega
  ·cases h; omega) hC hJ
 refine ⟨w.heap.size+1,[{target:= .collected w.heap.size,args:=#[]}],W1,{target:= .fn (.func gf) lb,args:=#[.func (.yield (w.heap.size+1)) #[] #[]]},W1,gf,
  #[.func (.yield (w.heap.size+1)) #[] #[]] ++ lb,W1,?_,?_,fun _ _=>trivial,?_,(fun h=>nomatch h),?_⟩
 ·rw [←hW1]; exact run_enterLoop_outer _ _ _ _ _
 ·simp only [resolve,hg]; simp [go_sem]
 ·simp [invoke,go_sem,eg]
 ·refine wf_calls.mpr (hcall.mono ?_)
  have back:∀(X:OwnF) (H2:Blk→World→Prop) (k:Nat) (O' F':Nat→Prop) (W2:World) (st:LoopState) (pe:Option Code),StabF M X→HostOk H2 M→st≠ .busy→GrowM M (fun b=>Ow b∨b=w.heap.size+1∨some w.heap.size=some b) O' W1 W2→
    H2 F' W2→(∀b,F' b→¬O' b)→RJF (yag fn a.tmps ps assign body w.heap.size st pe) (w.heap.size+1) (some w.heap.size) X k O' F' W2→
    (Instr.endLoop (w.heap.size+1)).run P W2= .ok pe (W2.putObj (w.heap.size+1) (.loop (yag fn a.tmps ps assign body w.heap.size .exhausted pe)))∧∃O2,GrowM M Ow O2 w (W2.putObj (w.heap.size+1) (.loop (yag fn a.tmps ps assign body w.heap.size .exhausted pe)))∧
      H2 F' (W2.putObj (w.heap.size+1) (.loop (yag fn a.tmps ps assign body w.heap.size .exhausted pe)))∧(∀b,F' b→¬O2 b)∧X k O2 F' (W2.putObj (w.heap.size+1) (.loop (yag fn a.tmps ps assign body w.heap.size .exhausted pe)))∧
      (W2.putObj (w.heap.size+1) (.loop (yag fn a.tmps ps assign body w.heap.size .exhausted pe))).heap[w.heap.size]? =some (.deferred (some []))∧¬O2 w.heap.size:=by
   rintro X H2 k O' F' W2 st pe hX hH2 hst hGM hF2 hFO2 ⟨O1,hO,hnl,hD,hi,hl⟩
   have hr:=run_endLoop (P:=P) hl hst
   have hO1:∀b,O1 b→O' b:=fun b hb=>(hO b).mpr (.inl hb)
   have hOl:O' (w.heap.size+1):=(hO _).mpr (.inr (.inl rfl))
   refine ⟨hr,O1,⟨fun b hb=>?_,fun b hb=>?_,?_⟩,hH2.stab F' W2 _ hF2 (by rw [World.putObj_size]; exact zG _) (fun b hb=>World.putObj_heap_other (fun e=>hFO2 b hb (e ▸ hOl))),fun b hb h=>hFO2 b hb (hO1 b h),hX _ _ _ _ _ _ hi (by rw [World.putObj_size]; exact zG _) (fun _ h=>h) (fun b hb=>World.putObj_heap_other (fun e=>by
     rcases hb with hb | hb
     ·exact hnl (e ▸ hb)
     ·exact hFO2 b hb.1 (e ▸ hOl))),(World.putObj_heap_other (by omega)).trans (hD _ rfl).2.2,(hD _ rfl).1⟩
   ·have hb2:=hlt b hb
    rcases (hO b).mp (hGM.sub b (.inl hb)) with h | h | h
    ·exact h
    ·omega
    ·cases h; omega
   ·rcases hGM.new b ((hO b).mpr (.inl hb)) with (h | h | h) | h
    ·exact .inl h
    ·exact .inr (by omega)
    ·cases h; exact .inr (by omega)
    ·exact .inr (by have:=hB1.size; omega)
   ·refine Eff.putObj ((Eff.of_below (O:=fun b=>Ow b∨M b) hB1).trans hGM.eff fun b hb=>?_) (.inr (by omega)) _
    rcases hb with (h | h | h) | h
    ·exact .inl (.inl h)
    ·exact .inr (by omega)
    ·cases h; exact .inr (by omega)
    ·exact .inl (.inr h)
  rintro e W2 ⟨⟨v,rfl⟩,O',F',hGM,hFs,hFn,hFO2,hend⟩
  have hFn2:∀b,F' b→F b∨w.heap.size≤b:=fun b hb=>by
   rcases hFn b hb with h | h
   ·exact .inl h
   ·exact .inr (by have:=hB1.size; omega)
  have nFD:¬F' w.heap.size:=fun h=>hFO2 _ h (hGM.sub _ (.inr (.inr rfl)))
  rcases hend with ⟨hF2,hj⟩ | ⟨hF2,k,hk1,hk2,c,hj⟩
  ·obtain ⟨h1,O2,h2,h3,h4,h5,h6,h7⟩:=back I HN n O' F' W2 .ready none hI hN (by simp) hGM hF2 hFO2 hj
   exact ⟨none,_,h1,hdone O2 F' _ h2 h3 hFs hFn2 h4 h5 h6 h7 nFD⟩
  ·obtain ⟨h1,O2,h2,h3,h4,h5,h6,h7⟩:=back (Ix c) HS k O' F' W2 .done (some c) (hIx c) hS (by simp) hGM hF2 hFO2 hj
   exact ⟨some c,_,h1,hstop c k O2 F' _ hk1 hk2 h2 h3 hFs hFn2 h4 h5 h6 h7 nFD⟩
end
end Go.Proofs.YtjahgimnfliooaaGreatDoor
