/-
  The seconds of a disc, told and collected in a list: ferialaw15.Told.
  ferialaw18.Same, and the chapter's example: ferialaw18.lives.
  feriaref16.Of and All: the seconds of a day that have a clause, and those that have one of clauses.
  ferialaw18.RollDays answers true for every clauses and days.
  The instants of a set between two instants, day by day.
  Beats: the first of numbers, and what divides all their differences (plain).
  pulse.beat: take and join.
  Arrays of beats.
  A region that draws its order, in a round of a range over a function: walked as one outside of it.
  pulse.inner: the beats of a disc's seconds, minutes and hours.
  A region that draws its order and ends with stores: its state is held up to the stores alone.
-/
import Derived.Test.YtkpgfmonhfnhdaaGreatDoorQbf9d08
import Derived.Test.YtkpgfmonhfnhdaaGreatDoorQ30bd52
import Derived.Test.YtkpgfmonhfnhdaaGreatDoorQ594558
import Derived.Test.YtkpgfmonhfnhdaaGreatDoorQecfa9a
import Derived.Test.YtkpgfmonhfnhdaaGreatDoorQ6cd530
import Derived.Deep.RegionHeld3
import Derived.Deep.AppendLies
import Derived.Test.YtkpgfmonhfnhdaaGreatDoorQ76d87d
import Derived.Deep.CutRange
import Derived.Test.YtkpgfmonhfnhdaaGreatDoorQd6e098
import Derived.OrdersIn
import Derived.OrdersHeld
import Derived.Sort.CutIn
import Derived.BigRegion
set_option maxRecDepth 100000
set_option maxHeartbeats 25600000
namespace Go.Proofs.YtkpgfmonhfnhdaaGreatDoor
set_option linter.unusedVariables false
section
open Go.RowKit
theorem yhw (w:World) :
  Calls Tryz.prog 104 #[.pointer none] w fun e w'=>e= .returned (.func (.func 148) #[] #[.pointer (some ⟨w.heap.size,0,none⟩)])∧DC w' w.heap.size (fun _=>0)∧Below w.heap.size w w'∧w.heap.size < w'.heap.size:=by
 obtain ⟨W1,hW1⟩:∃W1,w.alloc (.cells Tryz.zeroCells129 129)=W1:=⟨_,rfl⟩
 have q1:DC W1 w.heap.size (fun _=>0):=by rw [←hW1]; exact dc_new' w
 have q3:Below w.heap.size w W1:=by rw [←hW1]; exact yaa (Below.refl _ _) (zG _)
 have q4:W1.heap.size=w.heap.size+1:=by rw [←hW1]; simp
 have Q:=hid (And.intro q1 (And.intro q3 (show w.heap.size < W1.heap.size by omega)))
 have HW1:=hid hW1
 clear hW1 q1 q3 q4
 go_enter Tryz.func104,Tryz.ntmps104
 go_wp2_with fail
 try rw [HW1.out]
 try go_wp2
 go_ret
 exact ⟨rfl,Q.out⟩
theorem yku (d:Option Nat) (q:Nat→Bool) (w:World) (h:DiscO w d q) :
  Calls Tryz.prog 104 #[dptr d] w fun e w'=>e= .returned (.func (.func 148) #[] #[.pointer (some ⟨w.heap.size,0,none⟩)])∧Hid (∃t,DC w' w.heap.size t∧(∀i,i < 1350→t i < 18446744073709551616)∧ybk t 1350=secL q)∧Below w.heap.size w w'∧w.heap.size < w'.heap.size:=by
 have key:∀t:Nat→Nat,(∀k,k < 86400→bitW t k=q k)→ybk t 1350=secL q:=fun t ht=>by
  rw [yem,secL,show 64 * 1350=86400 from by decide]
  exact yex fun k hk=>ht k hk
 cases d with
 | none=>exact (yhw w).mono fun e w' ⟨h1,h2,h3,h4⟩=>⟨h1,⟨_,h2,fun i _=>by omega,key _ fun k hk=>by rw [h k hk]; simp [bitW]⟩,h3,h4⟩
 | some b=>
   obtain ⟨f,g1,g2,g3,g4,g5⟩:=h
   exact (DcAll_any b f w g1 g5).mono fun e w' ⟨h1,h2,h3,h4⟩=>⟨h1,⟨_,h2,g3,key _ g4⟩,h3,h4⟩
theorem secL_len (q:Nat→Bool):(secL q).length≤86400:=yc8 q 86400
end
section
open Go.RowKit Go.Maps
theorem any_full {n:Int} (h0:0≤n) (h1:n < 146097):anyQ (dayQ [fullCl] n)=true:=by
 refine ybA.2 ⟨0,by omega,?_⟩
 rw [dayQ,List.any_cons,yi0 (by rw [winB,zzY]; omega)]; rfl
theorem yhb {f t:Int} (h0:0≤f) (h1:t < 146097):dayS [fullCl] (yac f t)=yac f t:=by
 rw [dayS,List.filter_eq_self]
 intro n hn
 have:=yaz.1 hn
 exact any_full (by omega) (by omega)
theorem yjW:yah [fullCl]=0:=by
 rw [yah,if_neg (by simp),if_pos (by simp [yf2])]
theorem full_okL:∀c∈ [fullCl],c.Ok:=fun c hc=>by rw [List.mem_singleton.1 hc]; exact full_ok
end
section
open Go.RowKit
attribute [local go_sem ↓] yaq
abbrev LrS (w:World) (c:Cl) (W:World):Prop:=(yck (.pointer (some ⟨w.heap.size,0,none⟩))).run Tryz.prog W= .ok (clv c) W∧ClB W w.heap.size c∧Below w.heap.size w W∧w.heap.size < W.heap.size
theorem LrS.of {w W:World} {c:Cl} (h:ClB W w.heap.size c) (hb:Below w.heap.size w W) (hs:w.heap.size < W.heap.size):LrS w c W:=⟨h.ld,h,hb,hs⟩
theorem LrS.keep {w W W':World} {c:Cl} (h:LrS w c W) (hb:Below W.heap.size W W'):LrS w c W':=
 LrS.of (h.2.1.below hb h.2.2.2) (h.2.2.1.trans (hb.mono (Nat.le_of_lt h.2.2.2))) (zH h.2.2.2 hb.size)
end
section
open Go.RowKit Go.Maps
theorem at_more {cs:List Cl} {n:Int} {ws ws2:Nat→Bool} {m m2:Nat} (h1:ya7 cs n ws m ws2 m2):m2≤m+1∧m≤m2:=by
 rcases h1 with ⟨-,-,e⟩ | ⟨-,-,-,e⟩ | ⟨-,-,-,e | e⟩
 ·omega
 ·rw [e]; split <;> omega
 ·omega
 ·omega
def RdS (w:World) (l:List Cl) (br bk:Nat) (bps:List Nat) (k:Nat) (wr:World):Prop:=∃F ws m,RollS wr l br bk bps F ws m∧m≤k∧Below w.heap.size w wr
theorem RdS.below {w wr w':World} {l:List Cl} {br bk:Nat} {bps:List Nat} {k:Nat} (h:RdS w l br bk bps k wr) (hB:Below wr.heap.size wr w'):RdS w l br bk bps k w':=by
 obtain ⟨F,ws,m,h1,h2,h3⟩:=h
 exact ⟨F,ws,m,h1.below hB,h2,h3.trans (hB.mono h3.size)⟩
end
section
open Go.RowKit Go.Maps
def yam (cs:List Cl) (t:Int):Bool:=cs.any fun c=>hasC c t
theorem ya2 (cs:List Cl) (n:Int) (k:Nat):dayQ cs n k=yam cs (86400 * n+k):=rfl
theorem ybJ {cs:List Cl} {t:Int} (h:yam cs t=true):0≤t∧t < 12622780800:=by
 rw [yam,List.any_eq_true] at h
 obtain ⟨c,-,hc⟩:=h
 obtain ⟨-,-,-,h1,h2⟩:=yiX hc
 exact ⟨h1,h2⟩
def remQ (cs:List Cl) (n u s:Int) (k:Nat):Bool:=dayQ cs n k && (decide (s≤k) && decide (86400 * n+k≤u))
def remI (cs:List Cl) (n u s:Int):List Int:=secL (remQ cs n u s)
theorem ycg {cs:List Cl} {n u s x:Int}:x∈remI cs n u s↔∃k:Nat,k < 86400∧x=k∧dayQ cs n k=true∧s≤k∧86400 * n+k≤u:=by
 rw [remI,secL,sel_mem]
 constructor
 ·rintro ⟨k,h1,h2,h3⟩
  rw [remQ,zzX,zzX,zzY,zzY] at h2
  exact ⟨k,h1,h3,h2.1,h2.2.1,h2.2.2⟩
 ·rintro ⟨k,h1,h3,h2,h4,h5⟩
  exact ⟨k,h1,by rw [remQ,h2,zzZ h4,zzZ h5]; rfl,h3⟩
theorem yeC (cs:List Cl) (n u s:Int):(remI cs n u s).Pairwise (·< ·):=ya9 _ _
theorem ydL:∀{l m:List Int},l.Pairwise (·< ·)→m.Pairwise (·< ·)→(∀x,x∈l↔x∈m)→l=m
 | [],[],_,_,_=>rfl
 | [],y :: m,_,_,h=>by have:=(h y).2 (by simp); simp at this
 | x :: l,[],_,_,h=>by have:=(h x).1 (by simp); simp at this
 | x :: l,y :: m,hl,hm,h=>by
   rw [List.pairwise_cons] at hl hm
   have e:x=y:=by
    rcases List.mem_cons.1 ((h x).1 (by simp)) with e | h1
    ·exact e
    ·rcases List.mem_cons.1 ((h y).2 (by simp)) with e | h2
     ·exact e.symm
     ·have a:=hm.1 x h1; have b:=hl.1 y h2; omega
   subst e
   congr 1
   refine ydL hl.2 hm.2 (fun z=>⟨fun hz=>?_,fun hz=>?_⟩)
   ·rcases List.mem_cons.1 ((h z).1 (by simp [hz])) with e | h1
    ·subst e; have:=hl.1 z hz; omega
    ·exact h1
   ·rcases List.mem_cons.1 ((h z).2 (by simp [hz])) with e | h1
    ·subst e; have:=hm.1 z hz; omega
    ·exact h1
theorem ydl {cs:List Cl} {n u s at':Int} {ok:Bool} (h:FirstOf (fun k=>dayQ cs n k && decide (s≤k)) at' ok) :
  (ok=true→86400 * n+at'≤u→remI cs n u s=at' :: remI cs n u (at'+1))∧(ok=true→¬86400 * n+at'≤u→remI cs n u s= [])∧(ok=false→remI cs n u s= [])∧(ok=true→s≤at'∧0≤at'∧at' < 86400∧dayQ cs n at'.toNat=true):=by
 rcases h with ⟨rfl,k,rfl,hk,hp,hno⟩ | ⟨rfl,rfl,hno⟩
 ·rw [zzX,zzY] at hp
  have low:∀j:Nat,dayQ cs n j=true→s≤j→k≤j:=fun j h1 h2=>by
   rcases Nat.lt_or_ge j k with h | h
   ·have h3:(dayQ cs n j && decide (s≤(j:Int)))=false:=hno j h
    rw [h1,zzZ h2] at h3; cases h3
   ·exact h
  refine ⟨fun _ hu=>?_,fun _ hu=>?_,fun h=>(by cases h),fun _=>⟨hp.2,by omega,by omega,by simpa using hp.1⟩⟩
  ·refine ydL (yeC _ _ _ _) (List.pairwise_cons.2 ⟨fun y hy=>?_,yeC _ _ _ _⟩) fun y=>?_
   ·obtain ⟨j,-,rfl,-,h1,-⟩:=ycg.1 hy
    omega
   ·rw [List.mem_cons,ycg,ycg]
    constructor
    ·rintro ⟨j,h1,rfl,h2,h3,h4⟩
     have:=low j h2 h3
     rcases Nat.eq_or_lt_of_le this with e | e
     ·exact .inl (by rw [e])
     ·exact .inr ⟨j,h1,rfl,h2,by omega,h4⟩
    ·rintro (rfl | ⟨j,h1,rfl,h2,h3,h4⟩)
     ·exact ⟨k,hk,rfl,hp.1,hp.2,hu⟩
     ·exact ⟨j,h1,rfl,h2,by omega,h4⟩
  ·rw [List.eq_nil_iff_forall_not_mem]
   intro y hy
   obtain ⟨j,h1,rfl,h2,h3,h4⟩:=ycg.1 hy
   have:=low j h2 h3
   omega
 ·refine ⟨fun h=>(by cases h),fun h=>(by cases h),fun _=>?_,fun h=>(by cases h)⟩
  rw [List.eq_nil_iff_forall_not_mem]
  intro y hy
  obtain ⟨j,h1,rfl,h2,h3,h4⟩:=ycg.1 hy
  have h4:(dayQ cs n j && decide (s≤(j:Int)))=false:=hno j h1
  rw [h2,zzZ h3] at h4; cases h4
def dayI (cs:List Cl) (f u n:Int):List Int:=(remI cs n u (max 0 (f - 86400 * n))).map fun x=>86400 * n+x
theorem ydy {cs:List Cl} {f u n t:Int}:t∈dayI cs f u n↔t / 86400=n∧f≤t∧t≤u∧yam cs t=true:=by
 rw [dayI,List.mem_map]
 constructor
 ·rintro ⟨x,hx,rfl⟩
  obtain ⟨k,h1,rfl,h2,h3,h4⟩:=ycg.1 hx
  exact ⟨by omega,by omega,h4,h2⟩
 ·rintro ⟨rfl,h1,h2,h3⟩
  have e:(((t % 86400).toNat:Nat):Int)=t % 86400:=Int.toNat_of_nonneg (by omega)
  refine ⟨t % 86400,ycg.2 ⟨(t % 86400).toNat,by omega,e.symm,?_,by omega,by omega⟩,by omega⟩
  rw [ya2,e,show 86400 * (t / 86400)+t % 86400=t by omega]; exact h3
theorem dayI_pair (cs:List Cl) (f u n:Int):(dayI cs f u n).Pairwise (·< ·):=by
 rw [dayI,List.pairwise_map]
 exact (yeC _ _ _ _).imp fun h=>by omega
def ybW (cs:List Cl) (f u:Int) (ds:List Int):List Int:=ds.flatMap (dayI cs f u)
def cntI (cs:List Cl) (f u:Int) (ds:List Int) (k:Nat):Nat:=(ybW cs f u (ds.take k)).length
theorem cntI_zero (cs:List Cl) (f u:Int) (ds:List Int):cntI cs f u ds 0=0:=rfl
theorem cntI_all (cs:List Cl) (f u:Int) (ds:List Int):cntI cs f u ds ds.length= (ybW cs f u ds).length:=by rw [cntI,List.take_length]
theorem yeZ {cs:List Cl} {f u n:Int} {ds:List Int} {k:Nat} (h:ds[k]? =some n):cntI cs f u ds (k+1)=cntI cs f u ds k+(dayI cs f u n).length:=by
 obtain ⟨hk,rfl⟩:=zzq.1 h
 rw [cntI,yap ds k hk,ybW,List.flatMap_append,List.length_append,cntI,ybW]; simp
theorem yfv {cs:List Cl} {f u n:Int} {ds:List Int} {k:Nat} (h:ds[k]? =some n):ybW cs f u ds=ybW cs f u (ds.take k) ++ (dayI cs f u n ++ ybW cs f u (ds.drop (k+1))):=by
 obtain ⟨hk,rfl⟩:=zzq.1 h
 rw [ybW,ybW,ybW]
 conv=>lhs; rw [←List.take_append_drop k ds,List.drop_eq_getElem_cons hk]
 rw [List.flatMap_append,List.flatMap_cons]
theorem inst_at {cs:List Cl} {f u n x:Int} {ds:List Int} {k p:Nat} (h:ds[k]? =some n) (hx:(dayI cs f u n)[p]? =some x):(ybW cs f u ds)[cntI cs f u ds k+p]? =some x:=by
 rw [yfv h,List.getElem?_append_right (by rw [cntI]; omega),cntI,show (ybW cs f u (ds.take k)).length+p - (ybW cs f u (ds.take k)).length=p by omega,List.getElem?_append_left (zzq.1 hx).1,hx]
theorem inst_stop {cs:List Cl} {f u n x:Int} {ds:List Int} {k:Nat} (hp:ds.Pairwise (·< ·)) (h:ds[k]? =some n) (h1:x < 86400) (h2:u < 86400 * n+x):(ybW cs f u ds).length=cntI cs f u ds (k+1):=by
 obtain ⟨hk,rfl⟩:=zzq.1 h
 rw [yeZ h,yfv h,List.length_append,List.length_append,cntI]
 have e:ybW cs f u (ds.drop (k+1))= []:=by
  rw [List.eq_nil_iff_forall_not_mem]
  intro t ht
  rw [ybW,List.mem_flatMap] at ht
  obtain ⟨n',hn',ht⟩:=ht
  obtain ⟨g1,-,g2,-⟩:=ydy.1 ht
  obtain ⟨j,hj⟩:=List.getElem?_of_mem hn'
  rw [List.getElem?_drop] at hj
  obtain ⟨hj1,hj2⟩:=zzq.1 hj
  have:=List.pairwise_iff_getElem.1 hp k (k+1+j) hk hj1 (by omega)
  omega
 rw [e,List.length_nil,Nat.add_zero]
theorem daysL_up (a b:Int):(yac a b).Pairwise (·< ·):=by
 rw [yac,List.pairwise_map]
 exact List.Pairwise.imp (fun h=>by omega) List.pairwise_lt_range
theorem yhY (cs:List Cl) (a b:Int):(dayS cs (yac a b)).Pairwise (·< ·):=(daysL_up a b).filter _
def ybh (cs:List Cl) (f u:Int):List Int:=ybW cs f u (dayS cs (yac (f / 86400) (u / 86400)))
theorem yca {cs:List Cl} {f u t:Int}:t∈ybh cs f u↔f≤t∧t≤u∧yam cs t=true:=by
 rw [ybh,ybW,List.mem_flatMap]
 constructor
 ·rintro ⟨n,-,h⟩
  obtain ⟨-,h1,h2,h3⟩:=ydy.1 h
  exact ⟨h1,h2,h3⟩
 ·rintro ⟨h1,h2,h3⟩
  refine ⟨t / 86400,?_,ydy.2 ⟨rfl,h1,h2,h3⟩⟩
  rw [dayS,List.mem_filter,yaz]
  refine ⟨⟨by omega,by omega⟩,ybA.2 ⟨(t % 86400).toNat,by omega,?_⟩⟩
  rw [ya2,Int.toNat_of_nonneg (by omega),show 86400 * (t / 86400)+t % 86400=t by omega]; exact h3
theorem yf8 (cs:List Cl) (f u:Int):(ybh cs f u).Pairwise (·< ·):=by
 have key:∀ds:List Int,ds.Pairwise (·< ·)→(ybW cs f u ds).Pairwise (·< ·):=by
  intro ds
  induction ds with
  | nil=>intro _; exact List.Pairwise.nil
  | cons n ds ih=>
    intro hp
    rw [List.pairwise_cons] at hp
    rw [ybW,List.flatMap_cons,List.pairwise_append]
    refine ⟨dayI_pair _ _ _ _,ih hp.2,fun a ha b hb=>?_⟩
    rw [List.mem_flatMap] at hb
    obtain ⟨n',hn',hb⟩:=hb
    obtain ⟨h1,-⟩:=ydy.1 ha
    obtain ⟨h2,-⟩:=ydy.1 hb
    have:=hp.1 n' hn'
    omega
 exact key _ (yhY _ _ _)
theorem yg3 {cs:List Cl} {f u:Int} (h:u < f):ybh cs f u= []:=by
 rw [List.eq_nil_iff_forall_not_mem]
 intro t ht
 obtain ⟨h1,h2,-⟩:=yca.1 ht
 omega
end
section
open Go.RowKit
def PairD (S:Int→Prop) (d:Int):Prop:=∀x y,S x→S y→d ∣ x - y
theorem PairD.congr {S T:Int→Prop} (d:Int) (e:∀x,S x↔T x):PairD S d↔PairD T d:=
 ⟨fun h x y hx hy=>h x y ((e x).2 hx) ((e y).2 hy),fun h x y hx hy=>h x y ((e x).1 hx) ((e y).1 hy)⟩
theorem yeE {S:Int→Prop} {a d:Int} (h:∀x,S x→d ∣ x - a):PairD S d:=fun x y hx hy=>by
 have:=Int.dvd_sub (h x hx) (h y hy)
 rwa [show x - a - (y - a)=x - y by omega] at this
theorem ygS {S T:Int→Prop} {a b d:Int} (ha:S a) (hb:T b):PairD (fun x=>S x∨T x) d↔PairD S d∧d ∣ b - a∧PairD T d:=by
 constructor
 ·intro h
  exact ⟨fun x y hx hy=>h x y (.inl hx) (.inl hy),h b a (.inr hb) (.inl ha),fun x y hx hy=>h x y (.inr hx) (.inr hy)⟩
 ·rintro ⟨h1,h2,h3⟩
  refine yeE (a:=a) fun x hx=>?_
  rcases hx with hx | hx
  ·exact h1 x a hx ha
  ·have:=Int.dvd_add (h3 x b hx hb) h2
   rwa [show x - b+(b - a)=x - a by omega] at this
structure BeatP (S:Int→Prop) (y:Bool) (f g:Int):Prop where
 no:y=false→f=0∧g=0∧∀x,¬S x
 yes:y=true→S f
 ge:0≤g
 dvd:∀d,d ∣ g↔PairD S d
theorem BeatP.congr {S T:Int→Prop} {y:Bool} {f g:Int} (h:BeatP S y f g) (e:∀x,S x↔T x):BeatP T y f g:=
 ⟨fun hy=>⟨(h.no hy).1,(h.no hy).2.1,fun x hx=>(h.no hy).2.2 x ((e x).2 hx)⟩,fun hy=>(e f).1 (h.yes hy),h.ge,fun d=>(h.dvd d).trans (PairD.congr d e)⟩
theorem BeatP.empty:BeatP (fun _=>False) false 0 0:=
 ⟨fun _=>⟨rfl,rfl,fun _ h=>h⟩,fun h=>(by cases h),by omega,fun d=>⟨fun _ x y h _=>h.elim,fun _=>Int.dvd_zero d⟩⟩
theorem BeatP.first {S:Int→Prop} {f g:Int} (h:BeatP S false f g) (n:Int):BeatP (fun x=>S x∨x=n) true n 0:=by
 have hn:=(h.no rfl).2.2
 refine ⟨fun h=>(by cases h),fun _=> .inr rfl,(by omega),fun d=>⟨fun _=>yeE (a:=n) fun x hx=>?_,fun _=>Int.dvd_zero d⟩⟩
 rcases hx with hx | rfl
 ·exact (hn x hx).elim
 ·rw [Int.sub_self]; exact Int.dvd_zero d
theorem yi4 {d a b:Int}:d ∣ ((gcdL [a,b]:Nat):Int)↔d ∣ a∧d ∣ b:=by
 have e:gcdL [a,b]=Int.gcd a b:=by simp [gcdL,Int.gcd]
 rw [e,Int.dvd_coe_gcd_iff]
theorem pair_n {d n:Int}:PairD (fun x=>x=n) d:=fun x y hx hy=>by
 subst hx; subst hy; rw [Int.sub_self]; exact Int.dvd_zero d
theorem BeatP.more {S:Int→Prop} {f g:Int} (h:BeatP S true f g) (n:Int):BeatP (fun x=>S x∨x=n) true f (gcdL [g,n - f]:Nat):=by
 refine ⟨fun h=>(by cases h),fun _=> .inl (h.yes rfl),by omega,fun d=>?_⟩
 rw [yi4,h.dvd,ygS (T:=fun x=>x=n) (b:=n) (h.yes rfl) rfl]
 exact ⟨fun ⟨h1,h2⟩=>⟨h1,h2,pair_n⟩,fun ⟨h1,h2,_⟩=>⟨h1,h2⟩⟩
theorem BeatP.one {S:Int→Prop} {f:Int} (h:BeatP S true f 1) (n:Int):BeatP (fun x=>S x∨x=n) true f 1:=by
 refine ⟨fun h=>(by cases h),fun _=> .inl (h.yes rfl),by omega,fun d=>?_⟩
 rw [ygS (T:=fun x=>x=n) (b:=n) (h.yes rfl) rfl,←h.dvd]
 exact ⟨fun h1=>⟨h1,Int.dvd_trans h1 (Int.one_dvd _),pair_n⟩,fun h1=>h1.1⟩
abbrev Bt:=Bool × Int × Int
def yee (b:Bt) (n:Int):Bt:=if b.1 then (true,b.2.1,if b.2.2=1 then 1 else (gcdL [b.2.2,n - b.2.1]:Nat)) else (true,n,b.2.2)
def BeatQ (S:Int→Prop) (b:Bt):Prop:=BeatP S b.1 b.2.1 b.2.2
theorem BeatQ.take {S:Int→Prop} {b:Bt} (h:BeatQ S b) (n:Int):BeatQ (fun x=>S x∨x=n) (yee b n):=by
 obtain ⟨y,f,g⟩:=b
 rw [BeatQ] at h⊢
 cases y
 ·have:=h.first n
  have e:=(h.no rfl).2.1
  simp only at e
  rw [yee,if_neg (by simp)]
  simp only
  rw [e]; exact this
 ·rw [yee,if_pos rfl]
  simp only
  by_cases h1:g=1
  ·subst h1
   rw [if_pos rfl]
   exact h.one n
  ·rw [if_neg h1]
   exact h.more n
def gcdB (b:Bt) (g:Int):Bt:=(b.1,b.2.1,(gcdL [b.2.2,g]:Nat))
theorem takeB_yes (b:Bt) (n:Int):(yee b n).1=true:=by rw [yee]; split <;> rfl
theorem BeatQ.both {S T:Int→Prop} {b:Bt} {f g:Int} (h:BeatQ S b) (k:BeatP T true f g):BeatQ (fun x=>S x∨T x) (gcdB (yee b f) g):=by
 have h1:=h.take f
 have hy:=takeB_yes b f
 have hf:=k.yes rfl
 rw [BeatQ] at h1⊢
 refine ⟨fun e=>(by rw [gcdB] at e; simp only at e; rw [hy] at e; cases e),fun _=>?_,by rw [gcdB]; simp only; omega,fun d=>?_⟩
 ·rcases h1.yes hy with h2 | h2
  ·exact .inl h2
  ·right; show T (yee b f).2.1; rw [h2]; exact hf
 ·show d ∣ ((gcdL [(yee b f).2.2,g]:Nat):Int)↔_
  rw [yi4,h1.dvd,k.dvd]
  constructor
  ·rintro ⟨p,q⟩
   refine yeE (a:=f) fun x hx=>?_
   rcases hx with hx | hx
   ·exact p x f (.inl hx) (.inr rfl)
   ·exact q x f hx hf
  ·intro p
   have im:∀z,(S z∨z=f)→(S z∨T z):=fun z hz=>hz.elim .inl (fun (e:z=f)=> .inr (e ▸ hf))
   exact ⟨fun x y hx hy=>p x y (im x hx) (im y hy),fun x y hx hy=>p x y (.inr hx) (.inr hy)⟩
theorem BeatP.bd {S:Int→Prop} {y:Bool} {f g M:Int} (h:BeatP S y f g) (hM:0≤M) (hS:∀x,S x→0≤x∧x≤M):0≤f∧f≤M∧0≤g∧g≤M:=by
 have hg:=h.ge
 have h1:0≤f∧f≤M:=by
  cases y
  ·obtain ⟨rfl,-,-⟩:=h.no rfl; omega
  ·exact hS f (h.yes rfl)
 refine ⟨h1.1,h1.2,hg,?_⟩
 rcases Int.lt_or_le M g with h2 | h2
 ·exfalso
  have h3:=(h.dvd g).1 (Int.dvd_refl g)
  have h4:PairD S 0:=fun x y hx hy=>by
   have hd:=h3 x y hx hy
   have b1:=hS x hx
   have b2:=hS y hy
   have:x - y=0:=by
    rcases Int.lt_trichotomy (x - y) 0 with e | e | e
    ·have:=Int.le_of_dvd (by omega) (Int.dvd_neg.2 hd); omega
    ·exact e
    ·have:=Int.le_of_dvd e hd; omega
   rw [this]; exact Int.dvd_refl 0
  have:=(h.dvd 0).2 h4
  rw [Int.zero_dvd] at this
  omega
 ·exact h2
theorem BeatP.unique {S T:Int→Prop} {y y':Bool} {f f' g g':Int} (h:BeatP S y f g) (h':BeatP T y' f' g') (e:∀d,PairD S d↔PairD T d):g=g':=by
 have h1:g ∣ g':=(h'.dvd g).2 ((e g).1 ((h.dvd g).1 (Int.dvd_refl g)))
 have h2:g' ∣ g:=(h.dvd g').2 ((e g').2 ((h'.dvd g').1 (Int.dvd_refl g')))
 have g0:=h.ge
 have g1:=h'.ge
 exact Int.dvd_antisymm g0 g1 h1 h2
end
section
open Go.RowKit Go.Maps
structure Bt1 (b o:Nat) (x:Bt) (W:World):Prop where
 y:W.cell? ⟨b,o,none⟩=some (.bool x.1)
 f:W.cell? ⟨b,o+1,none⟩=some (.int .i64 x.2.1)
 g:W.cell? ⟨b,o+2,none⟩=some (.int .i64 x.2.2)
 z:∀i,W.frozen? ⟨b,i,none⟩=false
 lt:b < W.heap.size
theorem Eff.set1 (W:World) (b j:Nat) (v:Value):Eff (fun c=>c=b) W (W.setCell ⟨b,j,none⟩ v):=(Eff.refl (fun c=>c=b) W).set (b:=b) rfl j v
structure OnlyB (b o:Nat) (W W':World):Prop where
 eff:Eff (fun c=>c=b) W W'
 c:∀i,i≠o→i≠o+1→i≠o+2→W'.cell? ⟨b,i,none⟩=W.cell? ⟨b,i,none⟩
 z:∀i,W'.frozen? ⟨b,i,none⟩=W.frozen? ⟨b,i,none⟩
theorem OnlyB.of_below {b o:Nat} {W W':World} (h:Below W.heap.size W W') (hb:b < W.heap.size):OnlyB b o W W':=⟨Eff.of_below h,fun i _ _ _=>h.cell (p:=⟨b,i,none⟩) hb,fun i=>h.frozen (p:=⟨b,i,none⟩) hb⟩
theorem OnlyB.trans {b o:Nat} {W W' W2:World} (h:OnlyB b o W W') (k:OnlyB b o W' W2):OnlyB b o W W2:=
 ⟨h.eff.trans k.eff (fun _ h=> .inl h),fun i a1 a2 a3=>(k.c i a1 a2 a3).trans (h.c i a1 a2 a3),fun i=>(k.z i).trans (h.z i)⟩
theorem OnlyB.set {b o:Nat} {W:World} (j:Nat) (hj:j=o∨j=o+1∨j=o+2) (v:Value):OnlyB b o W (W.setCell ⟨b,j,none⟩ v):=
 ⟨Eff.set1 W b j v,fun i a1 a2 a3=>zzL _ _ _ _ (fun e=>by injection e with _ e2; omega),fun i=>by simp [go_sem]⟩
theorem Bt1.below {b o:Nat} {x:Bt} {W W':World} (h:Bt1 b o x W) (hB:Below W.heap.size W W'):Bt1 b o x W':=
 ⟨(hB.cell (p:=⟨b,o,none⟩) h.lt).trans h.y,(hB.cell (p:=⟨b,o+1,none⟩) h.lt).trans h.f,(hB.cell (p:=⟨b,o+2,none⟩) h.lt).trans h.g,fun i=>(hB.frozen (p:=⟨b,i,none⟩) h.lt).trans (h.z i),zH h.lt hB.size⟩
def M62 (n:Int):Prop:=0≤n∧n≤4611686018427387903
end
section
open Go.RowKit Go.Maps
def btL (n:Nat) (B:Nat→Bt):List Value:=(List.range n).flatMap fun u=> [.bool (B u).1, .int .i64 (B u).2.1, .int .i64 (B u).2.2]
theorem yjc (n:Nat) (B:Nat→Bt):btL (n+1) B=btL n B ++ [.bool (B n).1, .int .i64 (B n).2.1, .int .i64 (B n).2.2]:=by
 rw [btL,btL,List.range_succ,List.flatMap_append]; simp
theorem ycH (n:Nat) (B:Nat→Bt):(btL n B).length=3 * n:=by
 induction n with
 | zero=>rfl
 | succ n ih=>rw [yjc,List.length_append,ih]; simp; omega
def btC (B:Nat→Bt) (j:Nat):Value:=if j % 3=0 then .bool (B (j / 3)).1 else if j % 3=1 then .int .i64 (B (j / 3)).2.1 else .int .i64 (B (j / 3)).2.2
theorem btL_get (n:Nat) (B:Nat→Bt) (j:Nat) (hj:j < 3 * n):(btL n B)[j]? =some (btC B j):=by
 induction n with
 | zero=>omega
 | succ n ih=>
   rw [yjc]
   rcases Nat.lt_or_ge j (3 * n) with h | h
   ·rw [List.getElem?_append_left (by rw [ycH]; exact h)]; exact ih h
   ·rw [List.getElem?_append_right (by rw [ycH]; exact h),ycH]
    have h3:j=3 * n∨j=3 * n+1∨j=3 * n+2:=by omega
    rcases h3 with rfl | rfl | rfl
    ·rw [btC,if_pos (by omega),show 3 * n / 3=n by omega,Nat.sub_self]; rfl
    ·rw [btC,if_neg (by omega),if_pos (by omega),show (3 * n+1) / 3=n by omega,show 3 * n+1 - 3 * n=1 by omega]; rfl
    ·rw [btC,if_neg (by omega),if_neg (by omega),show (3 * n+2) / 3=n by omega,show 3 * n+2 - 3 * n=2 by omega]; rfl
structure BtS (b n:Nat) (B:Nat→Bt) (W:World):Prop where
 at':∀u,u < n→Bt1 b (u * 3) (B u) W
 z:∀i,W.frozen? ⟨b,i,none⟩=false
 lt:b < W.heap.size
section
variable {b n:Nat} {B:Nat→Bt} {W W':World}
theorem BtS.cell (h:BtS b n B W) {j:Nat} (hj:j < 3 * n):W.cell? ⟨b,j,none⟩=some (btC B j):=by
 have hu:j / 3 < n:=by omega
 have hb:=h.at' (j / 3) hu
 have h3:j % 3=0∨j % 3=1∨j % 3=2:=by omega
 rcases h3 with e | e | e
 ·rw [btC,if_pos e]; have:=hb.y; rwa [show j / 3 * 3=j by omega] at this
 ·rw [btC,if_neg (by omega),if_pos e]; have:=hb.f; rwa [show j / 3 * 3+1=j by omega] at this
 ·rw [btC,if_neg (by omega),if_neg (by omega)]; have:=hb.g; rwa [show j / 3 * 3+2=j by omega] at this
theorem BtS.of (hc:∀j,j < 3 * n→W.cell? ⟨b,j,none⟩=some (btC B j)) (hz:∀i,W.frozen? ⟨b,i,none⟩=false) (hl:b < W.heap.size):BtS b n B W:=
 ⟨fun u hu=>by
  have c0:=hc (u * 3) (by omega)
  have c1:=hc (u * 3+1) (by omega)
  have c2:=hc (u * 3+2) (by omega)
  rw [btC,if_pos (by omega),show u * 3 / 3=u by omega] at c0
  rw [btC,if_neg (by omega),if_pos (by omega),show (u * 3+1) / 3=u by omega] at c1
  rw [btC,if_neg (by omega),if_neg (by omega),show (u * 3+2) / 3=u by omega] at c2
  exact ⟨c0,c1,c2,hz,hl⟩,hz,hl⟩
theorem BtS.block (h:BtS b n B W) (hs:W.heap.size≤W'.heap.size) (hb:W'.heap[b]? =W.heap[b]?):BtS b n B W':=
 BtS.of (fun j hj=>(zzJ (w:=W) (a:=⟨b,j,none⟩) hb).trans (h.cell hj)) (fun i=>(zzM (w:=W) (a:=⟨b,i,none⟩) hb).trans (h.z i)) (zH h.lt hs)
theorem BtS.congr {C:Nat→Bt} (h:BtS b n B W) (e:∀u,u < n→C u=B u):BtS b n C W:=⟨fun u hu=>by rw [e u hu]; exact h.at' u hu,h.z,h.lt⟩
theorem BtS.step {x:Bt} {u:Nat} (h:BtS b n B W) (h1:Bt1 b (u * 3) x W') (ho:OnlyB b (u * 3) W W'):BtS b n (fun i=>if i=u then x else B i) W':=
 ⟨fun i hi=>by
  by_cases e:i=u
  ·subst e; rw [if_pos rfl]; exact h1
  ·rw [if_neg e]
   have g:=h.at' i hi
   exact ⟨(ho.c _ (by omega) (by omega) (by omega)).trans g.y,(ho.c _ (by omega) (by omega) (by omega)).trans g.f,(ho.c _ (by omega) (by omega) (by omega)).trans g.g,fun j=>(ho.z j).trans (g.z j),h1.lt⟩,fun i=>(ho.z i).trans (h.z i),h1.lt⟩
theorem BtS.range (h:BtS b n B W):W.rangeAt b 0 (btL n B):=fun j v hv=>by
 have hj:j < 3 * n:=by have:=(zzq.1 hv).1; rwa [ycH] at this
 rw [btL_get n B j hj] at hv
 rw [zzn,h.cell hj]; exact hv
theorem BtS.there (h:BtS b n B W) (C:Nat→Bt):W.there b 0 (btL n C).toArray.size:=fun j hj=>by
 rw [List.size_toArray,ycH] at hj
 rw [zzn]
 exact ⟨by rw [h.cell hj]; rfl,h.z j⟩
theorem BtS.put (h:BtS b n B W) (C:Nat→Bt):BtS b n C (W.setCells b 0 (btL n C)):=by
 have hs:=(Eff.setCells (O:=fun x=>x=b) rfl (btL n C) 0 W (Eff.refl _ W)).size
 refine BtS.of (fun j hj=>?_) (fun i=>by rw [World.frozen?_setCells]; exact h.z i) (zH h.lt hs)
 have:=World.cell?_setCells_in b (btL n C) 0 W (fun i hi=>by rw [ycH] at hi; rw [zzn,h.cell hi]; rfl) j (by rw [ycH]; exact hj)
 rw [zzn] at this
 rw [this]
 have h2:=btL_get n C j hj
 rw [zzp (by rw [ycH]; exact hj)] at h2
 exact h2
end
def bv3 (B:Nat→Bt):Value:= .agg (btL 3 B).toArray
section
variable {b:Nat} {B:Nat→Bt} {W:World}
end
end
section
open Go.RowKit
def ydc (o:Oper):Bool:=match o.op with | .defer _=>false | _=>true
theorem yjF {o:Oper} (h:ydc o=true):∀c,o.op≠ .defer c:=by
 intro c e; rw [ydc,e] at h; cases h
theorem operW {l n:Nat} {P:Program} {o:Oper} {a:Act} {w:World} {K:Act→World→Prop} {Q:Exit→Act→World→Prop} (hd:ydc o=true) (hL:¬LetsOut Q) (h:o.wp P a w K Q):o.wpIn (WF (some l)) n P a w K Q:=by
 refine ⟨fun _ _=>trivial,?_⟩
 have e2:o.semAt (WF (some l)).round a.eval=execOp a.eval o:=Oper.semAt_eq _ _ _ (yjF hd)
 rw [e2]
 unfold Oper.wp at h
 generalize (execOp a.eval o).run P w=r at *
 cases r with
 | ok x w'=>
   cases x <;> simp only [Oper.uponIn,Oper.upon] at h⊢<;>
    first
     | exact h
     | exact ⟨fun h=>(by cases h),wf_calls.mpr h⟩
     | exact ⟨fun h=>(by cases h),fun c cs _=>let ⟨v,w'',r,s⟩:=h c cs; ⟨v,w'',r,stepsIn_wide.mpr s⟩⟩
 | halt x w'=>cases x <;> simp only [Oper.uponIn,Oper.upon] at h⊢<;> exact h
theorem opW {l n i:Nat} {P:Program} {ops:Array Oper} {K K':Act→World→Prop} {Q:Exit→Act→World→Prop} (hd:ops.all ydc=true) (hL:¬LetsOut Q) (hK:∀a w,K a w→K' a w) {a:Act} {w:World} (h:wpOp P ops Q i K a w):wpOpIn (WF (some l)) n P ops Q i K' a w:=by
 unfold wpOp at h
 unfold wpOpIn
 cases ho:ops[i]? with
 | none=>simp only [ho] at h⊢; exact hK _ _ h
 | some o=>
   simp only [ho] at h⊢
   have hdo:ydc o=true:=by
    rw [Array.all_eq_true] at hd
    obtain ⟨hi,rfl⟩:=Array.getElem?_eq_some_iff.1 ho
    exact hd i hi
   split
   ·rename_i hw
    rw [if_pos hw] at h
    rcases h with h | h
    ·exact operW hdo hL (Oper.wp_mono hK h)
    ·exact absurd h.2 hL
   ·rename_i hw
    rw [if_neg hw] at h
    exact ⟨fun _ _=>trivial,hK _ _ h⟩
theorem anyW {l n:Nat} {P:Program} {md:Region.Mode} {ops:Array Oper} {Q:Exit→Act→World→Prop} (hd:ops.all ydc=true) (hL:¬LetsOut Q):∀(fuel:Nat) (listed:Array Bool) (a:Act) (w:World),wpAny P md ops Q fuel listed a w→wpAnyIn (WF (some l)) n P md ops Q fuel listed a w
 | 0,_,_,_,h=>h
 | fuel+1,listed,a,w,h=>⟨h.1,fun i hi=>opW hd hL (fun a w=>anyW hd hL fuel _ a w) (h.2 i hi)⟩
end
section
open Go.RowKit Go.Maps
attribute [local go_sem] Oper.semAt_some
theorem yh0 (args:Array Value) (w:World):(callFunc 148 args).run Tryz.prog w= .ok (.enter 148 args) w:=by simp [go_sem]
def szI (u:Nat):Int:=if u=0 then 1 else if u=1 then 60 else 3600
theorem szI_pos (u:Nat):1≤szI u∧szI u≤3600:=by rw [szI]; split; omega; split <;> omega
def nrB (xs:List Int) (u:Nat):Bt:=xs.foldl (fun b x=>yee b (x / szI u)) (false,0,0)
theorem nrB_snoc {xs:List Int} {k:Nat} (hk:k < xs.length) (u:Nat):nrB (xs.take (k+1)) u=yee (nrB (xs.take k) u) (xs[k] / szI u):=by
 rw [nrB,yap xs k hk,List.foldl_append]; rfl
theorem nrB_q (xs:List Int) (u:Nat):∀k,k≤xs.length→BeatQ (fun v=>∃x∈xs.take k,v=x / szI u) (nrB (xs.take k) u)
 | 0,_=>BeatP.congr BeatP.empty fun v=>⟨fun h=>h.elim,fun ⟨x,h,_⟩=>by cases h⟩
 | k+1,hk=>by
   rw [nrB_snoc (by omega)]
   refine BeatP.congr ((nrB_q xs u k (by omega)).take _) fun v=>?_
   rw [yap xs k (by omega)]
   constructor
   ·rintro (⟨x,h,rfl⟩ | rfl)
    ·exact ⟨x,List.mem_append.2 (.inl h),rfl⟩
    ·exact ⟨_,List.mem_append.2 (.inr (List.mem_singleton.2 rfl)),rfl⟩
   ·rintro ⟨x,h,rfl⟩
    rcases List.mem_append.1 h with h | h
    ·exact .inl ⟨x,h,rfl⟩
    ·rw [List.mem_singleton] at h; subst h; exact .inr rfl
theorem yf1 (q:Nat→Bool):∀x∈secL q,0≤x∧x < 86400:=fun x hx=>by
 rw [secL,sel_mem] at hx
 obtain ⟨k,h1,_,h2⟩:=hx
 omega
end
section
open Go.RowKit
section
variable {P:Program} {ops:Array Oper} {Q:Exit→Act→World→Prop} {md:Region.Mode} {S:World→Prop} {Z:List Nat}
def OrdF (P:Program) (md:Region.Mode) (ops:Array Oper) (Q:Exit→Act→World→Prop) (S:World→Prop) (Z:List Nat):Nat→Array Bool→Act→World→Prop
 | 0,l,a,w=>Region.ready md ops l= []∧Q .normal a w
 | n+1,l,a,w=>(Region.ready md ops l= []→Q .normal a w)∧∀i∈Region.ready md ops l,wpOp P ops Q i (fun a' w'=>(Z.contains i=false→S w')∧OrdF P md ops Q S Z n (l.setIfInBounds i true) a' w') a w
theorem OrdF.any:∀(n:Nat) (l:Array Bool) (a:Act) (w:World),OrdF P md ops Q S Z n l a w→wpAny P md ops Q n l a w
 | 0,_,_,_,h=>h
 | n+1,_,_,_,h=>⟨h.1,fun i hi=>wpOp_mono (fun a' w' h'=>OrdF.any n _ a' w' h'.2) (h.2 i hi)⟩
def ygG (md:Region.Mode) (ops:Array Oper) (z i:Nat):Bool:=match ops[z]? with
 | some o=>o.after.toList.any fun e=>Region.binds md e && e.on == i
 | none=>true
theorem waits_noF {z i:Nat} {l:Array Bool} (h:ygG md ops z i=true) (hi:l.getD i true=false):z ∉ Region.ready md ops l:=by
 intro hz
 obtain ⟨-,o,ho,hall⟩:=mem_ready.1 hz
 rw [ygG,ho] at h
 obtain ⟨e,he,hb⟩:=List.any_eq_true.1 h
 rw [zzX,beq_iff_eq] at hb
 have h1:=hall e (by simpa using he) hb.1
 rw [hb.2] at h1
 rcases Nat.lt_or_ge i l.size with h' | h'
 ·simp [h'] at hi h1; rw [hi] at h1; cases h1
 ·simp [Array.getElem?_eq_none h'] at h1
def ydZ (md:Region.Mode) (ops:Array Oper) (l:Array Bool) (i:Nat) (Z U:List Nat):Bool:=
 U.all (fun u=>!l.getD u true) && (U.all (fun u=>u == i || U.any fun v=>ygG md ops u v) && Z.all fun z=>z != i && U.contains z)
theorem OrdF.first {i:Nat} {oi:Oper} {v:Value} (U:List Nat) (hi:ops[i]? =some oi) (hsel:∀(j:Nat) (o:Oper) cs b,ops[j]? =some o→o.op≠ .select cs b) (hQ:∀c a w,Q (.panic c) (a.put oi.dst v) w→Q (.panic c) a w)
  (h2:∀u∈U,u=i∨∃v∈U,ygG md ops u v=true) (h3:∀z∈Z,z≠i∧z∈U) :
  ∀(n:Nat) (l:Array Bool) (a:Act) (w:World),(∀u∈U,l.getD u true=false)→(∀j oj,ops[j]? =some oj→j≠i→l.getD j true=false→(∀e∈oj.after,Region.binds md e=true→e.on≠i)→oi.apart ops oj=true)→
   i∈Region.ready md ops l→YieldsIf P ops S oi v a→S w→OrdF P md ops Q S Z n (l.setIfInBounds i true) (a.put oi.dst v) w→OrdF P md ops Q S Z (n+1) l a w
 | n,l,a,w,h1,hf,hr,hy,hS,H=>by
   refine ⟨fun h=>(by rw [h] at hr; cases hr),fun j hj=>?_⟩
   by_cases hji:j=i
   ·subst hji; exact hy.wpOp hi hS ⟨fun _=>hS,H⟩
   have h0:=(mem_ready.1 hr).1
   have hU:j ∉ U:=fun hu=>by
    rcases h2 j hu with e | ⟨v,hv,hw⟩
    ·exact hji e
    ·exact waits_noF hw (h1 v hv) hj
   have hZ:Z.contains j=false:=by
    cases e:Z.contains j
    ·rfl
    ·exact absurd (h3 j (by simpa using e)).2 hU
   cases n with
   | zero=>
     have:=ready_mono hj hji
     rw [H.1] at this; cases this
   | succ n=>
     obtain ⟨hju,oj,hoj,hall⟩:=mem_ready.1 hj
     have hno:∀e∈oj.after,Region.binds md e=true→e.on≠i:=fun e he hb heq=>by
      have h1:=hall e he hb
      rw [heq] at h1
      rcases Nat.lt_or_ge i l.size with h' | h'
      ·simp [h'] at h0 h1; rw [h0] at h1; cases h1
      ·simp [Array.getElem?_eq_none h'] at h1
     refine wpOp_mono (fun a' w' h4=>⟨fun _=>h4.2.1 hZ,OrdF.first U hi hsel hQ h2 h3 n (l.setIfInBounds j true) a' w' (fun u hu=>?_) (fun k ok hk hki hun hn=>?_) (ready_mono hr (Ne.symm hji)) h4.1 (h4.2.1 hZ) ?_⟩)
      (wpOp_putIf hoj (hf j oj hoj hji hju hno) (fun cs b=>hsel i oi cs b hi) (fun cs b=>hsel j oj cs b hoj) hQ hy (H.2 j (ready_mono hj hji)))
     ·rw [getD_set_ne true (fun e=>hU (by rw [e]; exact hu))]; exact h1 u hu
     ·refine hf k ok hk hki ?_ hn
      by_cases hjk:j=k
      ·subst hjk; exact hju
      ·rw [getD_set_ne true hjk] at hun; exact hun
     ·rw [Array.setIfInBounds_comm _ _ hji]; exact h4.2.2
theorem ybb {l:Array Bool} {i:Nat} {U:List Nat} (h:ydZ md ops l i Z U=true):(∀u∈U,l.getD u true=false)∧(∀u∈U,u=i∨∃v∈U,ygG md ops u v=true)∧∀z∈Z,z≠i∧z∈U:=by
 rw [ydZ,zzX,zzX,List.all_eq_true,List.all_eq_true,List.all_eq_true] at h
 refine ⟨fun u hu=>by simpa using h.1 u hu,fun u hu=>?_,fun z hz=>by simpa using h.2.2 z hz⟩
 have:=h.2.1 u hu
 rw [Bool.or_eq_true,beq_iff_eq,List.any_eq_true] at this
 exact this
theorem OrdF.take {i:Nat} {oi:Oper} {v:Value} {n:Nat} {l:Array Bool} {a:Act} {w:World} (hi:ops[i]? =some oi) (hs:Region.noSelect ops=true) (hf:Region.free md ops l i=true) (hr:(Region.ready md ops l).contains i=true) {U:List Nat} (hz:ydZ md ops l i Z U=true)
  (hQ:∀c a w,Q (.panic c) (a.put oi.dst v) w→Q (.panic c) a w) (hw:Region.wanted oi (yielded ops a.tmps)=true) (hS:S w) (hy:∀w,S w→(execOp a.eval oi).run P w= .ok (.value v) w)
  (h:OrdF P md ops Q S Z n (l.setIfInBounds i true) (a.put oi.dst v) w):OrdF P md ops Q S Z (n+1) l a w:=
 OrdF.first U hi (Region.noSelect_spec hs) hQ (ybb hz).2.1 (ybb hz).2.2 n l a w (ybb hz).1 (Region.free_spec hi hf) (by simpa using hr) (.inl ⟨hw,hy⟩) hS h
theorem OrdF.skip {i:Nat} {oi:Oper} {n:Nat} {l:Array Bool} {a:Act} {w:World} (hi:ops[i]? =some oi) (hs:Region.noSelect ops=true) (hf:Region.free md ops l i=true) (hr:(Region.ready md ops l).contains i=true) {U:List Nat} (hz:ydZ md ops l i Z U=true)
  (hQ:∀c a w,Q (.panic c) (a.put oi.dst undef) w→Q (.panic c) a w) (hw:Region.wanted oi (yielded ops a.tmps)=false) (hS:S w)
  (h:OrdF P md ops Q S Z n (l.setIfInBounds i true) (a.put oi.dst undef) w):OrdF P md ops Q S Z (n+1) l a w:=
 OrdF.first U hi (Region.noSelect_spec hs) hQ (ybb hz).2.1 (ybb hz).2.2 n l a w (ybb hz).1 (Region.free_spec hi hf) (by simpa using hr) (.inr ⟨hw,rfl⟩) hS h
theorem OrdF.one {i:Nat} {oi:Oper} {n:Nat} {l:Array Bool} {a:Act} {w:World} (hi:ops[i]? =some oi) (hr:Region.ready md ops l= [i])
  (h:∀K:Act→World→Prop,Hid (∀a w,(Z.contains i=false→S w)→OrdF P md ops Q S Z n (l.setIfInBounds i true) a w→K a w)→if Region.wanted oi (yielded ops a.tmps)=true then Oper.wp P oi a w K Q else K (a.put oi.dst undef) w):OrdF P md ops Q S Z (n+1) l a w:=
 ⟨fun h0=>(by rw [hr] at h0; cases h0),fun j hj=>by
  rw [hr,List.mem_singleton] at hj
  subst hj
  exact wpOp_step hi (fun K' hK=>h K' (fun a w h1 h2=>hK a w ⟨h1,h2⟩))⟩
theorem OrdF.two {i j:Nat} {oi oj:Oper} {n:Nat} {l:Array Bool} {a:Act} {w:World} (hi:ops[i]? =some oi) (hj:ops[j]? =some oj) (hr:Region.ready md ops l= [i,j])
  (h1:∀K:Act→World→Prop,Hid (∀a w,(Z.contains i=false→S w)→OrdF P md ops Q S Z n (l.setIfInBounds i true) a w→K a w)→if Region.wanted oi (yielded ops a.tmps)=true then Oper.wp P oi a w K Q else K (a.put oi.dst undef) w)
  (h2:∀K:Act→World→Prop,Hid (∀a w,(Z.contains j=false→S w)→OrdF P md ops Q S Z n (l.setIfInBounds j true) a w→K a w)→if Region.wanted oj (yielded ops a.tmps)=true then Oper.wp P oj a w K Q else K (a.put oj.dst undef) w):OrdF P md ops Q S Z (n+1) l a w:=
 ⟨fun h0=>(by rw [hr] at h0; cases h0),fun k hk=>by
  rw [hr] at hk
  rcases List.mem_cons.1 hk with rfl | hk
  ·exact wpOp_step hi (fun K' hK=>h1 K' (fun a w h1 h2=>hK a w ⟨h1,h2⟩))
  ·rw [List.mem_singleton] at hk
   subst hk
   exact wpOp_step hj (fun K' hK=>h2 K' (fun a w h1 h2=>hK a w ⟨h1,h2⟩))⟩
theorem OrdF.done {l:Array Bool} {a:Act} {w:World} (hr:Region.ready md ops l= []) (h:Q .normal a w):∀n,OrdF P md ops Q S Z n l a w
 | 0=>⟨hr,h⟩
 | _+1=>⟨fun _=>h,by rw [hr]; simp⟩
end
section
variable {P:Program} {ops:Array Oper} {Q:Exit→Act→World→Prop} {md:Region.Mode} {S:World→Prop} {Z:List Nat} {n:Nat} {l:Array Bool} {a:Act} {w:World} {oi:Oper}
theorem rgT (i:Nat) {v:Value} (hy:∀w,S w→(execOp a.eval oi).run P w= .ok (.value v) w) (h:OrdF P md ops Q S Z n (l.setIfInBounds i true) (a.put oi.dst v) w) (U:List Nat:=i :: Z) (hi:ops[i]? =some oi:=by rfl) (hs:Region.noSelect ops=true:=by kernel_rfl)
  (hf:Region.free md ops l i=true:=by kernel_rfl) (hr:(Region.ready md ops l).contains i=true:=by kernel_rfl) (hz:ydZ md ops l i Z U=true:=by kernel_rfl) (hQ:∀c a w,Q (.panic c) (a.put oi.dst v) w→Q (.panic c) a w:=by exact fun _ _ _ h=>h)
  (hw:Region.wanted oi (yielded ops a.tmps)=true:=by rfl) (hS:S w:=by assumption):OrdF P md ops Q S Z (n+1) l a w:=OrdF.take hi hs hf hr hz hQ hw hS hy h
theorem rgS (i:Nat) (h:OrdF P md ops Q S Z n (l.setIfInBounds i true) (a.put oi.dst undef) w) (U:List Nat:=i :: Z) (hi:ops[i]? =some oi:=by rfl) (hs:Region.noSelect ops=true:=by kernel_rfl)
  (hf:Region.free md ops l i=true:=by kernel_rfl) (hr:(Region.ready md ops l).contains i=true:=by kernel_rfl) (hz:ydZ md ops l i Z U=true:=by kernel_rfl) (hQ:∀c a w,Q (.panic c) (a.put oi.dst undef) w→Q (.panic c) a w:=by exact fun _ _ _ h=>h)
  (hw:Region.wanted oi (yielded ops a.tmps)=false:=by rfl) (hS:S w:=by assumption):OrdF P md ops Q S Z (n+1) l a w:=OrdF.skip hi hs hf hr hz hQ hw hS h
theorem rgO (i:Nat) (h:∀K:Act→World→Prop,Hid (∀a w,(Z.contains i=false→S w)→OrdF P md ops Q S Z n (l.setIfInBounds i true) a w→K a w)→if Region.wanted oi (yielded ops a.tmps)=true then Oper.wp P oi a w K Q else K (a.put oi.dst undef) w)
  (hi:ops[i]? =some oi:=by rfl) (hr:Region.ready md ops l= [i]:=by kernel_rfl):OrdF P md ops Q S Z (n+1) l a w:=OrdF.one hi hr h
end
theorem rgPut:(∀(a:Act) (d:Tmp) (v:Value),a.put (some d) v= {a with tmps:=a.tmps.setIfInBounds d v})∧(∀(a:Act) (v:Value),a.put none v=a)∧(type_of% @List.getElem_toArray.{0})∧(type_of% @List.getElem_cons_succ.{0})∧(type_of% @List.getElem_cons_zero.{0})∧(type_of% @List.setIfInBounds_toArray.{0})∧(type_of% @List.set_cons_zero.{0})∧(type_of% @List.set_cons_succ.{0}):=
 ⟨fun _ _ _=>rfl,fun _ _=>rfl,@List.getElem_toArray.{0},@List.getElem_cons_succ.{0},@List.getElem_cons_zero.{0},@List.setIfInBounds_toArray.{0},@List.set_cons_zero.{0},@List.set_cons_succ.{0}⟩
theorem regF {id:Nat} {P:Program} {ops:Array Oper} (Z:List Nat) {S:World→Prop} {Q:Exit→Act→World→Prop} {a:Act} {w:World} (hm:P.follows .mixedOrders=true) (hS:S w.drew)
  (h:S w.drew→OrdF P .any ops Q S Z ops.size (Array.replicate ops.size false) a w.drew):(Code.region id ops true).wp P Q a w:=
 wp_region_any hm (OrdF.any _ _ _ _ (h hS))
theorem regFW {l n id:Nat} {P:Program} {ops:Array Oper} (Z:List Nat) {S:World→Prop} {Q:Exit→Act→World→Prop} {a:Act} {w:World} (hm:P.follows .mixedOrders=true) (hd:ops.all ydc=true) (hL:¬LetsOut Q) (hS:S w.drew)
  (h:S w.drew→OrdF P .any ops Q S Z ops.size (Array.replicate ops.size false) a w.drew):(Code.region id ops true).wpIn (WF (some l)) n P Q a w:=
 wpIn_region_any hm (anyW hd hL _ _ _ _ (OrdF.any _ _ _ _ (h hS)))
theorem zfA {P:Program} {ops:Array Oper} {Q:Exit→Act→World→Prop} {md:Region.Mode} {S:World→Prop} {Z:List Nat} {n:Nat} {l:Array Bool} {a:Act} {w:World} (i:Nat) {oi:Oper} {v:Value} {a2:Act} (h:OrdF P md ops Q S Z n (l.setIfInBounds i true) a2 w) (U:List Nat:=i :: Z) (hi:ops[i]? =some oi:=by rfl) (hy:∀w,S w→(execOp a.eval oi).run P w= .ok (.value v) w:=by intro w hSw; (try replace hSw:=hSw.out); (try have f:=hSw.3); (try have f:=hSw.4); (try have f:=hSw.5); (try have f:=hSw.6); (try have f:=hSw.7); (repeat (have f:=hSw.1; replace hSw:=hSw.2)); go_simp; (try with_reducible rfl)) (ha:a.put oi.dst v=a2:=by (try simp only [zP]); (try rfl)) (hs:Region.noSelect ops=true:=by kernel_rfl) (hf:Region.free md ops l i=true:=by kernel_rfl) (hr:(Region.ready md ops l).contains i=true:=by kernel_rfl) (hz:ydZ md ops l i Z U=true:=by kernel_rfl) (hQ:∀c a w,Q (.panic c) (a.put oi.dst v) w→Q (.panic c) a w:=by exact fun _ _ _ h=>h) (hw:Region.wanted oi (yielded ops a.tmps)=true:=by rfl) (hS:S w:=by assumption):OrdF P md ops Q S Z (n+1) l a w:=by subst ha; exact OrdF.take hi hs hf hr hz hQ hw hS hy h
theorem zfC {P:Program} {ops:Array Oper} {Q:Exit→Act→World→Prop} {md:Region.Mode} {S:World→Prop} {Z:List Nat} {n:Nat} {l:Array Bool} {a:Act} {w:World} (i:Nat) {oi:Oper} {v:Value} {a2:Act} (h:OrdF P md ops Q S Z n (l.setIfInBounds i true) a2 w) (U:List Nat:=i :: Z) (hi:ops[i]? =some oi:=by rfl) (hy:∀w,S w→(execOp a.eval oi).run P w= .ok (.value v) w:=by intro w hSw; cases hSw.out; clear hSw; go_simp; (try with_reducible rfl)) (ha:a.put oi.dst v=a2:=by (try simp only [zP]); (try rfl)) (hs:Region.noSelect ops=true:=by kernel_rfl) (hf:Region.free md ops l i=true:=by kernel_rfl) (hr:(Region.ready md ops l).contains i=true:=by kernel_rfl) (hz:ydZ md ops l i Z U=true:=by kernel_rfl) (hQ:∀c a w,Q (.panic c) (a.put oi.dst v) w→Q (.panic c) a w:=by exact fun _ _ _ h=>h) (hw:Region.wanted oi (yielded ops a.tmps)=true:=by rfl) (hS:S w:=by assumption):OrdF P md ops Q S Z (n+1) l a w:=by subst ha; exact OrdF.take hi hs hf hr hz hQ hw hS hy h
theorem zfD {P:Program} {ops:Array Oper} {Q:Exit→Act→World→Prop} {md:Region.Mode} {S:World→Prop} {Z:List Nat} {n:Nat} {l:Array Bool} {a:Act} {w:World} (i:Nat) {oi:Oper} {v:Value} {a2:Act} (h:OrdF P md ops Q S Z n (l.setIfInBounds i true) a2 w) (U:List Nat:=i :: Z) (hi:ops[i]? =some oi:=by rfl) (hy:∀w,S w→(execOp a.eval oi).run P w= .ok (.value v) w:=by intro w hSw; go_simp; (try with_reducible rfl)) (ha:a.put oi.dst v=a2:=by (try simp only [zP]); (try rfl)) (hs:Region.noSelect ops=true:=by kernel_rfl) (hf:Region.free md ops l i=true:=by kernel_rfl) (hr:(Region.ready md ops l).contains i=true:=by kernel_rfl) (hz:ydZ md ops l i Z U=true:=by kernel_rfl) (hQ:∀c a w,Q (.panic c) (a.put oi.dst v) w→Q (.panic c) a w:=by exact fun _ _ _ h=>h) (hw:Region.wanted oi (yielded ops a.tmps)=true:=by rfl) (hS:S w:=by assumption):OrdF P md ops Q S Z (n+1) l a w:=by subst ha; exact OrdF.take hi hs hf hr hz hQ hw hS hy h
theorem zfE {P:Program} {ops:Array Oper} {Q:Exit→Act→World→Prop} {md:Region.Mode} {S:World→Prop} {Z:List Nat} {n:Nat} {l:Array Bool} {a:Act} {w:World} (i:Nat) {oi:Oper} {v:Value} {a2:Act} (h:OrdF P md ops Q S Z n (l.setIfInBounds i true) a2 w) (U:List Nat:=i :: Z) (hi:ops[i]? =some oi:=by rfl) (hy:∀w,S w→(execOp a.eval oi).run P w= .ok (.value v) w:=by intro w hSw; clear hSw; go_simp; (try with_reducible rfl)) (ha:a.put oi.dst v=a2:=by (try simp only [zP]); (try rfl)) (hs:Region.noSelect ops=true:=by kernel_rfl) (hf:Region.free md ops l i=true:=by kernel_rfl) (hr:(Region.ready md ops l).contains i=true:=by kernel_rfl) (hz:ydZ md ops l i Z U=true:=by kernel_rfl) (hQ:∀c a w,Q (.panic c) (a.put oi.dst v) w→Q (.panic c) a w:=by exact fun _ _ _ h=>h) (hw:Region.wanted oi (yielded ops a.tmps)=true:=by rfl) (hS:S w:=by assumption):OrdF P md ops Q S Z (n+1) l a w:=by subst ha; exact OrdF.take hi hs hf hr hz hQ hw hS hy h
theorem zfF {P:Program} {ops:Array Oper} {Q:Exit→Act→World→Prop} {md:Region.Mode} {S:World→Prop} {Z:List Nat} {n:Nat} {l:Array Bool} {a:Act} {w:World} (i:Nat) {oi:Oper} {v:Value} {a2:Act} {R:World→Prop} (hR:∀w,S w→R w) (h:OrdF P md ops Q S Z n (l.setIfInBounds i true) a2 w) (U:List Nat:=i :: Z) (hi:ops[i]? =some oi:=by rfl) (hy:∀w,R w→(execOp a.eval oi).run P w= .ok (.value v) w:=by intro w hSw; (repeat (have f:=hSw.1; replace hSw:=hSw.2)); go_simp; (try with_reducible rfl)) (ha:a.put oi.dst v=a2:=by (try simp only [zP]); (try rfl)) (hs:Region.noSelect ops=true:=by kernel_rfl) (hf:Region.free md ops l i=true:=by kernel_rfl) (hr:(Region.ready md ops l).contains i=true:=by kernel_rfl) (hz:ydZ md ops l i Z U=true:=by kernel_rfl) (hQ:∀c a w,Q (.panic c) (a.put oi.dst v) w→Q (.panic c) a w:=by exact fun _ _ _ h=>h) (hw:Region.wanted oi (yielded ops a.tmps)=true:=by rfl) (hS:S w:=by assumption):OrdF P md ops Q S Z (n+1) l a w:=by subst ha; exact OrdF.take hi hs hf hr hz hQ hw hS (fun w h=>hy w (hR w h)) h
theorem zfS {P:Program} {ops:Array Oper} {Q:Exit→Act→World→Prop} {md:Region.Mode} {S:World→Prop} {Z:List Nat} {n:Nat} {l:Array Bool} {a:Act} {w:World} (i:Nat) {oi:Oper} {a2:Act} (h:OrdF P md ops Q S Z n (l.setIfInBounds i true) a2 w) (U:List Nat:=i :: Z) (hi:ops[i]? =some oi:=by rfl) (ha:a.put oi.dst undef=a2:=by (try simp only [zP]); (try rfl)) (hs:Region.noSelect ops=true:=by kernel_rfl) (hf:Region.free md ops l i=true:=by kernel_rfl) (hr:(Region.ready md ops l).contains i=true:=by kernel_rfl) (hz:ydZ md ops l i Z U=true:=by kernel_rfl) (hQ:∀c a w,Q (.panic c) (a.put oi.dst undef) w→Q (.panic c) a w:=by exact fun _ _ _ h=>h) (hw:Region.wanted oi (yielded ops a.tmps)=false:=by rfl) (hS:S w:=by assumption):OrdF P md ops Q S Z (n+1) l a w:=by subst ha; exact OrdF.skip hi hs hf hr hz hQ hw hS h
theorem zzO {P:Program} {ops:Array Oper} {Q:Exit→Act→World→Prop} {md:Region.Mode} {S:World→Prop} {Z:List Nat} {n:Nat} {l:Array Bool} {a:Act} {w:World} (i:Nat) {oi:Oper} (h:∀K:Act→World→Prop,Hid (∀a w,(Z.contains i=false→S w)→OrdF P md ops Q S Z n (l.setIfInBounds i true) a w→K a w)→Oper.wp P oi a w K Q) (hi:ops[i]? =some oi:=by rfl) (hr:Region.ready md ops l= [i]:=by kernel_rfl) (hw:Region.wanted oi (yielded ops a.tmps)=true:=by rfl):OrdF P md ops Q S Z (n+1) l a w:=OrdF.one hi hr fun K hK=>by rw [if_pos hw]; exact h K hK
end
end Go.Proofs.YtkpgfmonhfnhdaaGreatDoor
