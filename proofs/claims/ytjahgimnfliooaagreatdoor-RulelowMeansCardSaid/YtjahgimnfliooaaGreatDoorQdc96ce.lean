/-
  seek.Some.
  The first instants above one, in plain words.
  The n-th instant of a set, in plain words.
  The set of a rule, with its count (plain); the chapter's example.
  rulelow.fault; ferialaw35.Fault.
  A struct's cells in a block, cell by cell.
  A rule in a block is loaded; an Ord is stored.
  A region that draws its order and ends with stores: its state is held up to the stores alone.
-/
import Derived.Test.YtjahgimnfliooaaGreatDoorQ76a5b0
import Derived.Test.YtjahgimnfliooaaGreatDoorQ903a1a
import Derived.Test.YtjahgimnfliooaaGreatDoorQdbe38d
import Derived.Test.YtjahgimnfliooaaGreatDoorQ383ebe
import Derived.Test.YtjahgimnfliooaaGreatDoorQb17bbc
import Derived.Test.YtjahgimnfliooaaGreatDoorQ155bda
import Derived.OrdersIn
import Derived.OrdersHeld
import Derived.Deep.RegionHeld3
import Derived.Sort.CutIn
set_option maxRecDepth 100000
set_option maxHeartbeats 25600000
namespace Go.Proofs.YtjahgimnfliooaaGreatDoor
set_option linter.unusedVariables false
section
open Go.RowKit Go.Maps
attribute [local go_sem] Oper.semAt_some
structure SmC (b5 bg base:Nat) (many:Int) (xs:List Int) (k:Nat) (O:Nat→Prop) (W:World) (v:Value):Prop where
 cg:W.cell? ⟨bg,0,none⟩=some v
 c5:W.cell? ⟨b5,0,none⟩=some (.int .i64 many)
 own:W.ownsRow base 2 1 v k (ints (xs.take k))
 fg:W.frozen? ⟨bg,0,none⟩=false
 lg:bg < base
 l5:b5 < base
 ne:bg≠b5
 bs:base≤W.heap.size
 og:O bg
 o5:O b5
 ov:∀b,v.ownBlock=some b→O b
 lt:∀b,O b→b < W.heap.size
theorem SmC.keep {b5 bg base:Nat} {many:Int} {xs:List Int} {k:Nat} {O:Nat→Prop} {W W':World} {v:Value} (h:SmC b5 bg base many xs k O W v) (hs:W.heap.size≤W'.heap.size) (hO:∀b,O b→W'.heap[b]? =W.heap[b]?):SmC b5 bg base many xs k O W' v:=
 ⟨(zzJ (w:=W) (a:=⟨bg,0,none⟩) (hO bg h.og)).trans h.cg,(zzJ (w:=W) (a:=⟨b5,0,none⟩) (hO b5 h.o5)).trans h.c5,yaI h.own (fun b hb=>hO b (h.ov b hb)),
   (zzM (w:=W) (a:=⟨bg,0,none⟩) (hO bg h.og)).trans h.fg,h.lg,h.l5,h.ne,zI h.bs hs,h.og,h.o5,h.ov,fun b hb=>zH (h.lt b hb) hs⟩
def SmT (h0 h1 h2 h3 h4 h5 h6 h7:Value) (ds:List Deferred) (a:Act):Prop:=∃u:Nat→Value,a= {tmps:=#[h0,h1,h2,h3,h4,h5,u 0,u 1,u 2,u 3,h6,h7,u 4,u 5,u 6,u 7,u 8,u 9,u 10,u 11,u 12,u 13,u 14,u 15,u 16,u 17,u 18,u 19,u 20,u 21,u 22,u 23,u 24,u 25,u 26,u 27,u 28,u 29,u 30,u 31,u 32],defers:=ds}
theorem SmT.of {h0 h1 h2 h3 h4 h5 h6 h7 u6 u7 u8 u9 u12 u13 u14 u15 u16 u17 u18 u19 u20 u21 u22 u23 u24 u25 u26 u27 u28 u29 u30 u31 u32 u33 u34 u35 u36 u37 u38 u39 u40:Value} {ds:List Deferred}:SmT h0 h1 h2 h3 h4 h5 h6 h7 ds {tmps:=#[h0,h1,h2,h3,h4,h5,u6,u7,u8,u9,h6,h7,u12,u13,u14,u15,u16,u17,u18,u19,u20,u21,u22,u23,u24,u25,u26,u27,u28,u29,u30,u31,u32,u33,u34,u35,u36,u37,u38,u39,u40],defers:=ds}:=
 ⟨fun i=>(#[u6,u7,u8,u9,u12,u13,u14,u15,u16,u17,u18,u19,u20,u21,u22,u23,u24,u25,u26,u27,u28,u29,u30,u31,u32,u33,u34,u35,u36,u37,u38,u39,u40]:Array Value).getD i undef,rfl⟩
end
section
open Go.RowKit Go.Maps
theorem yjD {L:List Int} (hp:L.Pairwise (·< ·)) {i j:Nat} (hi:i < L.length) (hj:j < L.length):L[i] < L[j]↔i < j:=by
 rw [List.pairwise_iff_getElem] at hp
 constructor
 ·intro h
  rcases Nat.lt_trichotomy i j with h1 | h1 | h1
  ·exact h1
  ·subst h1; omega
  ·have:=hp j i hj hi h1; omega
 ·exact hp i j hi hj
end
section
open Go.RowKit Go.Maps
def allI (l:List Cl):List Int:=yct l 0 12622780799
def nthP (l:List Cl) (n:Int):Int × Int:=if yaR l≠0 then (0,yaR l) else if n < 1 then (0,1) else if n≤(allI l).length then ((allI l).getD (n.toNat - 1) 0,0) else (0,15)
theorem ydQ {l:List Cl} {y:Int}:y∈allI l↔ycM l y=true:=by
 rw [allI,ycN]
 exact ⟨fun h=>h.2.2,fun h=>by have:=yeD h; exact ⟨this.1,by omega,h⟩⟩
theorem yh3 {l:List Cl} (hf:yaR l=0) (h:0 < (allI l).length):yjR l (-1)= ((allI l)[0],0):=by
 have hp:(allI l).Pairwise (·< ·):=yc5 l 0 12622780799
 refine nextP_is hf ⟨ydQ.1 (zzr h),?_,fun y h1 h2=>?_⟩
 ·have:=(yeD (ydQ.1 (zzr h))).1; omega
 ·cases e:ycM l y
  ·rfl
  ·obtain ⟨j,hj,rfl⟩:=List.mem_iff_getElem.1 (ydQ.2 e)
   have:=(yjD hp hj h).1 h2
   omega
theorem up_first {L:List Int} (hp:L.Pairwise (·< ·)) {m:Nat} (h0:0 < L.length) (hm:m < L.length):L[m]=L[0]↔m=0:=by
 constructor
 ·intro h
  rcases Nat.eq_zero_or_pos m with h3 | h3
  ·exact h3
  ·have:=(yjD hp h0 hm).2 h3
   omega
 ·intro h; simp only [h]
theorem cntT_allI {l:List Cl} {i:Nat} (h:i < (allI l).length):cntT l 0 (allI l)[i]=i+1:=cntT_upto l h
theorem nth_cases {l:List Cl} {n:Int} (hf:yaR l=0) (hn:1≤n) :
  (∃x,nthP l n= (x,0)∧ycM l x=true∧(cntT l 0 x:Int)=n∧n≤cntT l 0 12622780799∧∃y,yjR l (-1)= (y,0)∧(n=1↔x=y))∨(nthP l n= (0,15)∧(cntT l 0 12622780799:Int) < n):=by
 rw [nthP,if_neg (by simp [hf]),if_neg (by omega)]
 by_cases h:n≤(allI l).length
 ·rw [if_pos h]
  have h1:n.toNat - 1 < (allI l).length:=by omega
  have e:(allI l).getD (n.toNat - 1) 0= (allI l)[n.toNat - 1]:=by rw [List.getD_eq_getElem?_getD,zzp h1]; rfl
  rw [e]
  have hp:(allI l).Pairwise (·< ·):=yc5 l 0 12622780799
  refine .inl ⟨_,rfl,ydQ.1 (zzr h1),?_,h,_,yh3 hf (by omega),?_⟩
  ·rw [cntT_allI h1]; omega
  ·rw [up_first hp (by omega) h1]; omega
 ·rw [if_neg h]
  exact .inr ⟨rfl,by show ((allI l).length:Int) < n; omega⟩
theorem yje {q:Nat→Bool} {s at':Int} {ok:Bool} {j:Nat} (hj:j < (secL q).length) (hs:∀x∈secL q,s≤x↔(secL q)[j]≤x) (h:FirstOf (fun k=>q k && decide (s≤(k:Int))) at' ok):at' = (secL q)[j]∧ok=true:=by
 have hm:∀x,x∈secL q↔∃k:Nat,k < 86400∧q k=true∧x=k:=fun x=>by rw [secL,sel_mem]
 obtain ⟨k0,hk0,hq0,e0⟩:=(hm _).1 (zzr hj)
 have hs0:=(hs _ (zzr hj)).2 (Int.le_refl _)
 rcases h with ⟨rfl,k,rfl,hk,hp,hno⟩ | ⟨rfl,-,hno⟩
 ·rw [zzX,zzY] at hp
  refine ⟨?_,rfl⟩
  have h1:=(hs _ ((hm _).2 ⟨k,hk,hp.1,rfl⟩)).1 hp.2
  rcases Nat.lt_or_ge k0 k with h2 | h2
  ·have h3:(q k0 && decide (s≤(k0:Int)))=false:=hno k0 h2
   rw [hq0,zzZ (by omega)] at h3; cases h3
  ·omega
 ·have h3:(q k0 && decide (s≤(k0:Int)))=false:=hno k0 hk0
  rw [hq0,zzZ (by omega)] at h3; cases h3
theorem yfQ {q:Nat→Bool} {at':Int} {ok:Bool} (hj:0 < (secL q).length) (h:FirstOf (fun k=>q k && decide ((0:Int)≤(k:Int))) at' ok):at' = (secL q)[0]∧ok=true:=by
 refine yje hj (fun x hx=>?_) h
 have hp:(secL q).Pairwise (·< ·):=yaH _ _
 constructor
 ·intro _
  obtain ⟨i,hi,rfl⟩:=List.mem_iff_getElem.1 hx
  rcases Nat.eq_zero_or_pos i with h1 | h1
  ·subst h1; exact Int.le_refl _
  ·have:=(yjD hp hj hi).2 h1; omega
 ·intro _
  rw [secL,sel_mem] at hx
  obtain ⟨k,-,-,rfl⟩:=hx
  omega
theorem yka {q:Nat→Bool} {at':Int} {ok:Bool} {j:Nat} (hj:j+1 < (secL q).length) (h:FirstOf (fun k=>q k && decide ((secL q)[j]+1≤(k:Int))) at' ok):at' = (secL q)[j+1]∧ok=true:=by
 refine yje hj (fun x hx=>?_) h
 have hp:(secL q).Pairwise (·< ·):=yaH _ _
 obtain ⟨i,hi,rfl⟩:=List.mem_iff_getElem.1 hx
 have h1:=yjD hp (show j < (secL q).length by omega) hi
 have h2:=yjD hp hi hj
 constructor
 ·intro h3
  have:=h1.1 (by omega)
  apply Int.le_of_not_gt
  intro h4
  have:=h2.1 h4
  omega
 ·intro h3
  have:¬i < j+1:=fun h4=>by have:=h2.2 h4; omega
  have:=h1.2 (by omega)
  omega
theorem nth_hit {l:List Cl} {d n:Int} {k p:Nat} (hd:(dayS l (yao 0 146096))[k]? =some d) (hp:p < (secL (dayQ l d)).length) (h0:0≤d) (h1:d < 146097):(allI l)[cntI l 0 12622780799 (dayS l (yao 0 146096)) k+p]? =some (86400 * d+(secL (dayQ l d))[p]):=by
 have e:allI l=ycA l 0 12622780799 (dayS l (yao 0 146096)):=rfl
 rw [e]
 refine inst_at hd ?_
 rw [dayI_all l (by omega) (by omega),List.getElem?_map,zzp hp]; rfl
theorem nth_more {l:List Cl} {d:Int} {k:Nat} (hd:(dayS l (yao 0 146096))[k]? =some d) (h0:0≤d) (h1:d < 146097):cntI l 0 12622780799 (dayS l (yao 0 146096)) (k+1)=cntI l 0 12622780799 (dayS l (yao 0 146096)) k+(secL (dayQ l d)).length:=by
 rw [cntI_snoc hd,yki l (by omega) (by omega)]
theorem nth_all (l:List Cl):cntI l 0 12622780799 (dayS l (yao 0 146096)) (dayS l (yao 0 146096)).length= (allI l).length:=by rw [cntI_all]; rfl
end
section
open Go.RowKit Go.Maps
attribute [local irreducible] secL
def lowF (r:Ru):Cl:=if 0 < r.co∧(nthP [lowC r] r.co).2=0 then {lowC r with un:=(nthP [lowC r] r.co).1} else lowC r
theorem yg8 {r:Ru} (hc:yaf r=0):yaR [lowC r]=0:=by
 have h:mayL [lowC r]=true:=by simp [mayL,ye7 hc]
 rw [ydG,zzY] at h; exact h
theorem low_nth {r:Ru} (hc:yaf r=0) (hn:1≤r.co):(∃x,nthP [lowC r] r.co= (x,0)∧hasC (lowC r) x=true)∨nthP [lowC r] r.co= (0,15):=by
 rcases nth_cases (yg8 hc) hn with ⟨x,e,h,-⟩ | ⟨e,-⟩
 ·exact .inl ⟨x,e,by simpa [ycM] using h⟩
 ·exact .inr e
theorem lowF_ok {r:Ru} (hn:r.Num) (hc:yaf r=0):(lowF r).Ok:=by
 have h:=low_ok hn
 rw [lowF]
 split
 ·rename_i hp
  rcases low_nth hc (by omega) with ⟨x,e,hx⟩ | e
  ·refine {h with un:=?_}
   have hw:=(Bool.and_eq_true_iff.1 (by rw [hasC] at hx; exact hx)).1
   have:=ydx hw
   show i64B (nthP [lowC r] r.co).1
   rw [e]; unfold i64B; simp only []; omega
  ·rw [e] at hp; exact absurd hp.2 (by decide)
 ·exact h
theorem lowF_may {r:Ru} (hc:yaf r=0):mayC (lowF r)=true:=by
 have h:=ye7 hc
 rw [lowF]
 split
 ·exact h
 ·exact h
def ru0:Ru:={st:=0,fq:=3,iv:=1,co:=3,un:=-1,l5:= [],a5:=none,c5:=0,l6:= [],a6:=none,c6:=0,l7:= [],a7:=none,c7:=0,l8:= [],a8:=none,c8:=0,l9:= [],a9:=none,c9:=0,lx:= [],ax:=none,cx:=0}
theorem ygW:yaf ru0=0:=by kernel_rfl
theorem ru0_has (t:Int):hasC (lowC ru0) t= (winB t && decide (t % 86400=0)):=by
 rw [low_has ygW,ye6]
 by_cases ht:winB t=true
 ·obtain ⟨t0,t1⟩:=ydx ht
  have e1:yfD ru0 (shF (t / 86400))=true:=rfl
  have e2:onB ru0.fq ru0.iv ru0.st t=true:=by
   show onB 3 1 0 t=true
   rw [onB,yaZ,yaZ,ht,ybR]; simp
   decide
  have e3:yeP ru0 (t % 86400)=decide (t % 86400=0):=by
   rw [yeP,ycz,ycz,ycz]
   show (((true && (decide ((3:Int) < 3) || decide (t % 86400 / 3600=0 % 86400 / 3600))) || decide (t % 86400 / 3600∈([]:List Int))) && (((true && (decide ((3:Int) < 2) || decide (t % 86400 % 3600 / 60=0 % 86400 / 60 % 60))) || decide (t % 86400 % 3600 / 60∈([]:List Int))) && ((true && (decide ((3:Int) < 1) || decide (t % 86400 % 60=0 % 86400 % 60))) || decide (t % 86400 % 60∈([]:List Int)))))= _
   rw [zze]
   simp
   omega
  rw [ht,e1,e2,e3]
  show (true && ((decide ((0:Int)≤t) && (decide ((-1:Int)= -1) || _)) && _))= _
  rw [zzZ t0]; simp
 ·have e:winB t=false:=by simpa using ht
  rw [e,Bool.false_and,Bool.false_and]
theorem ru0_all:allI [lowC ru0]= (yao 0 146096).map fun d=>86400 * d:=by
 refine ycd (yc5 _ _ _) ?_ fun t=>?_
 ·rw [yao,List.map_map]
  exact List.Pairwise.map _ (fun a b h=>by simp only [Function.comp]; omega) List.pairwise_lt_range
 ·rw [ydQ,List.mem_map,show ycM [lowC ru0] t=hasC (lowC ru0) t by simp [ycM],ru0_has,zzX,zzY]
  constructor
  ·rintro ⟨h1,h2⟩
   have:=ydx h1
   exact ⟨t / 86400,ycg.2 ⟨by omega,by omega⟩,by omega⟩
  ·rintro ⟨d,hd,rfl⟩
   have:=ycg.1 hd
   exact ⟨by rw [winB,zzY]; omega,by omega⟩
theorem ru0_nth:nthP [lowC ru0] 3= (172800,0):=by
 have hl:(allI [lowC ru0]).length=146097:=by rw [ru0_all,List.length_map,ybC]; rfl
 rw [nthP,if_neg (by rw [yg8 ygW]; simp),if_neg (by decide),hl,if_pos (by decide),ru0_all]
 have h:2 < (yao 0 146096).length:=by rw [ybC]; decide
 rw [List.getD_eq_getElem?_getD,List.getElem?_map,show (3:Int).toNat - 1=2 from rfl,zzp h,ycP]
 rfl
end
section
open Go.RowKit Go.Maps
attribute [local irreducible] secL
theorem yiq (r:Ru) (w:World) (hr:RuS w r) (hm:r.Sm 1000000):Calls Tryz.prog 21 #[ruv r] w fun e w'=>e= .returned (.int .i64 (lowE r))∧Below w.heap.size w w':=by
 have hB0:Below w.heap.size w (w.alloc (.cells (yai r).toArray 25)):=yaa (Below.refl _ _) (zG _)
 have cB:=hid (yhH r _ (hr.below hB0) hm)
 have HB0:=hid hB0
 have HRB:=hid (yaJ w r 25)
 obtain ⟨c,hc⟩:∃c,yaf r=c:=⟨_,rfl⟩
 have HE:Hid (lowE r=if c=0 then (if 100000000000 < r.iv∨1000000 < r.co then 14 else 0) else c):=by show _ = _; rw [lowE,hc]
 obtain ⟨x,hx⟩:∃x,lowE r=x:=⟨_,rfl⟩
 rw [hx] at HE⊢
 rw [hc] at cB
 clear hc hx hr hm hB0
 go_enter Tryz.func21,Tryz.ntmps21
 go_wp2_with fail
 refine cB.out.mono ?_
 rintro e w1 ⟨rfl,hB1⟩
 have HB1:=hid (HB0.out.trans (hB1.mono HB0.out.size))
 obtain ⟨⟨-,-,k2,k3,-⟩,-⟩:=(HRB.out.below hB1 (by rw [zzN]; omega)).all
 clear hB1 cB HRB
 by_cases h0:c=0
 ·have hE:=HE.out
  rw [if_pos h0] at hE
  subst h0
  by_cases h1:100000000000 < r.iv
  ·rw [if_pos (.inl h1)] at hE
   have HX:=hid hE
   clear hE
   go_wp2
   go_ret
   exact ⟨by rw [HX.out] <;> rfl,HB1.out⟩
  ·by_cases h2:1000000 < r.co
   ·rw [if_pos (.inr h2)] at hE
    have HX:=hid hE
    clear hE
    go_wp2
    go_ret
    exact ⟨by rw [HX.out] <;> rfl,HB1.out⟩
   ·rw [if_neg (by omega)] at hE
    have HX:=hid hE
    clear hE
    go_wp2
    go_ret
    exact ⟨by rw [HX.out] <;> rfl,HB1.out⟩
 ·have hE:=HE.out
  rw [if_neg h0] at hE
  have HX:=hid hE
  have q1:(c == 0)=false:=by simpa using h0
  have q2:(c != 0)=true:=by simpa using h0
  clear hE
  go_wp2
  go_ret
  exact ⟨by rw [HX.out] <;> rfl,HB1.out⟩
theorem yhC (r:Ru) (w:World) (hr:RuS w r) (hm:r.Sm 1000000):Calls Tryz.prog 9 #[ruv r] w fun e w'=>e= .returned (.int .i64 (lowE r))∧Below w.heap.size w w':=by
 have hB0:Below w.heap.size w (w.alloc (.cells (yai r).toArray 25)):=yaa (Below.refl _ _) (zG _)
 have cB:=hid (yku r _ (hr.below hB0) hm)
 have HB0:=hid hB0
 have HRB:=hid (yaJ w r 25)
 obtain ⟨c,hc⟩:∃c,yaf r=c:=⟨_,rfl⟩
 have HE:Hid (lowE r=if c=0 then (if 100000000000 < r.iv∨1000000 < r.co then 14 else 0) else c):=by show _ = _; rw [lowE,hc]
 obtain ⟨x,hx⟩:∃x,lowE r=x:=⟨_,rfl⟩
 rw [hx] at HE⊢
 rw [hc] at cB
 clear hc hx hr hm hB0
 go_enter Tryz.func9,Tryz.ntmps9
 go_wp2_with fail
 refine cB.out.mono ?_
 rintro e w1 ⟨rfl,hB1⟩
 have HB1:=hid (HB0.out.trans (hB1.mono HB0.out.size))
 obtain ⟨⟨-,-,k2,k3,-⟩,-⟩:=(HRB.out.below hB1 (by rw [zzN]; omega)).all
 clear hB1 cB HRB
 by_cases h0:c=0
 ·have hE:=HE.out
  rw [if_pos h0] at hE
  subst h0
  by_cases h1:100000000000 < r.iv
  ·rw [if_pos (.inl h1)] at hE
   have HX:=hid hE
   clear hE
   go_wp2
   go_ret
   exact ⟨by rw [HX.out] <;> rfl,HB1.out⟩
  ·by_cases h2:1000000 < r.co
   ·rw [if_pos (.inr h2)] at hE
    have HX:=hid hE
    clear hE
    go_wp2
    go_ret
    exact ⟨by rw [HX.out] <;> rfl,HB1.out⟩
   ·rw [if_neg (by omega)] at hE
    have HX:=hid hE
    clear hE
    go_wp2
    go_ret
    exact ⟨by rw [HX.out] <;> rfl,HB1.out⟩
 ·have hE:=HE.out
  rw [if_neg h0] at hE
  have HX:=hid hE
  have q1:(c == 0)=false:=by simpa using h0
  clear hE
  go_wp2
  go_ret
  exact ⟨by rw [HX.out] <;> rfl,HB1.out⟩
end
section
open Go.RowKit
structure LsB (b:Nat) (L:List Value) (W:World):Prop where
 r:W.rangeAt b 0 L
 z:∀i,W.frozen? ⟨b,i,none⟩=false
 lt:b < W.heap.size
theorem LsB.block {b:Nat} {L:List Value} {W W':World} (h:LsB b L W) (hs:W.heap.size≤W'.heap.size) (hb:W'.heap[b]? =W.heap[b]?):LsB b L W':=
 ⟨fun j v hv=>(zzJ (w:=W) (a:=⟨b,0+j,none⟩) hb).trans (h.r j v hv),fun i=>(zzM (w:=W) (a:=⟨b,i,none⟩) hb).trans (h.z i),zH h.lt hs⟩
theorem LsB.set {b:Nat} {L:List Value} {W:World} (h:LsB b L W) {k:Nat} (hk:k < L.length) (u:Value):LsB b (L.set k u) (W.setCell ⟨b,k,none⟩ u):=by
 refine ⟨fun j v hv=>?_,fun i=>by simpa [go_sem] using h.z i,by simpa using h.lt⟩
 rw [zzn]
 by_cases hj:j=k
 ·subst hj
  rw [List.getElem?_set_self hk] at hv
  have hv':u=v:=by simpa using hv
  have h6:=h.r j _ (zzp hk)
  rw [zzn] at h6
  rw [←hv']
  exact zzW _ _ _ (by rw [h6])
 ·rw [List.getElem?_set_ne (by omega)] at hv
  have h6:=h.r j v hv
  rw [zzn] at h6
  rw [zzL _ _ _ _ (by intro e; injection e with _ e2 _; exact hj (by omega))]
  exact h6
theorem LsB.at {b:Nat} {L:List Value} {W:World} (h:LsB b L W) {k:Nat} {v:Value} (e:L[k]? =some v):W.cell? ⟨b,k,none⟩=some v:=by
 have:=h.r k v e
 rwa [zzn] at this
def yge:List Value→Nat→List Value→List Value
 | L,_,[]=>L
 | L,o,v :: vs=>yge (L.set o v) (o+1) vs
@[simp] theorem putCs_len:∀(vs:List Value) (o:Nat) (L:List Value),(yge L o vs).length=L.length
 | [],_,_=>rfl
 | v :: vs,o,L=>by rw [yge,putCs_len vs,List.length_set]
theorem LsB.sets {b:Nat}:∀(vs:List Value) (o:Nat) {L:List Value} {W:World},LsB b L W→o+vs.length≤L.length→LsB b (yge L o vs) (W.setCells b o vs)
 | [],_,_,_,h,_=>h
 | v :: vs,o,L,W,h,hl=>by
   rw [yge,World.setCells]
   rw [List.length_cons] at hl
   exact LsB.sets vs (o+1) (h.set (by omega) v) (by rw [List.length_set]; omega)
theorem LsB.there {b:Nat} {L:List Value} {W:World} (h:LsB b L W) {o n:Nat} (hl:o+n≤L.length):W.there b o n:=fun j hj=>by
 have h6:=h.at (zzp (l:=L) (i:=o+j) (by omega))
 exact ⟨by rw [h6]; rfl,h.z (o+j)⟩
end
section
open Go.RowKit Go.Maps
attribute [local irreducible] secL
def ycJ (v:Value):Sem Value:=Instr.loadAt 25 v
theorem ycK (v:Value):Instr.loadAt 25 v=ycJ v:=rfl
theorem infoRu:(Tryz.prog.info? 25).map (·.size)=some 11:=by kernel_rfl
theorem RuB.ldw {W:World} {b:Nat} {r:Ru} (h:RuB W b r):(ycJ (.pointer (some ⟨b,0,none⟩))).run Tryz.prog W= .ok (ruv r) W:=by
 unfold ycJ
 simp only [Instr.loadAt,Instr.sureAddr,Sem.run_bind,Sem.run_pure,Result.andThen_ok,run_loadVar_mid W b 0 25 (yai r) _ h Tryz.underlying25 rfl infoRu]
def yf5 (v x:Value):Sem Unit:=Instr.storeAt 31 v x
theorem yjG (v x:Value):Instr.storeAt 31 v x=yf5 v x:=rfl
theorem LsB.stO {b:Nat} {L:List Value} {W:World} (h:LsB b L W) (hl:L.length=30) (oin:Int) (oback:Bool) (od:Nat→Nat):(yf5 (.pointer (some ⟨b,8,none⟩)) (ordv oin oback od)).run Tryz.prog W= .ok () (W.setCells b 8 (ybT oin oback od)):=by
 unfold yf5
 exact run_storeAt_mid W b 8 31 (ybT oin oback od).toArray (h.there (by rw [hl]; show 8+10≤30; omega)) yb6 (by simp [Value.oneCell'])
def lowU (r:Ru) (x:Int):Cl:={m:=lowM r,or:=false,oin:=woI r,oback:=woB r,od:=woD r,ys:=ybV,unit:=r.fq,step:=r.iv,anchor:=r.st,fr:=r.st,un:=x}
theorem lowC_U (r:Ru):lowC r=lowU r (if r.un= -1 then 12622780799 else r.un):=rfl
structure RwC (w:World) (r:Ru) (b1 b2 b5:Nat) (L:List Value) (W:World):Prop where
 ru:RuB W b1 r
 l:LsB b5 L W
 t:W.there b2 0 30
 be:Below w.heap.size w W
 o:w.heap.size≤b1∧b1 < b2∧b2 < b5
section
variable {w:World} {r:Ru} {b1 b2 b5:Nat} {L:List Value} {W W':World}
theorem RwC.call (h:RwC w r b1 b2 b5 L W) (hB:Below W.heap.size W W'):RwC w r b1 b2 b5 L W':=
 have hl:=h.l.lt
 have ho:=h.o
 ⟨h.ru.below hB (by omega),h.l.block hB.size (hB.block _ hl),fun j hj=>⟨by rw [hB.cell (p:=⟨b2,0+j,none⟩) (show b2 < _ by omega)]; exact (h.t j hj).1,by rw [hB.frozen (p:=⟨b2,0+j,none⟩) (show b2 < _ by omega)]; exact (h.t j hj).2⟩,h.be.trans (hB.mono h.be.size),ho⟩
theorem RwC.eff {L':List Value} (h:RwC w r b1 b2 b5 L W) (hE:Eff (fun b=>b=b5) W W') (hl':LsB b5 L' W'):RwC w r b1 b2 b5 L' W':=by
 have hl:=h.l.lt
 have ho:=h.o
 have e1:=hE.block b1 (by omega) (by omega)
 have e2:=hE.block b2 (by omega) (by omega)
 exact ⟨fun j v hv=>(zzJ (w:=W) (a:=⟨b1,0+j,none⟩) e1).trans (h.ru j v hv),hl',fun j hj=>⟨by rw [zzJ (w:=W) (a:=⟨b2,0+j,none⟩) e2]; exact (h.t j hj).1,by rw [zzM (w:=W) (a:=⟨b2,0+j,none⟩) e2]; exact (h.t j hj).2⟩,h.be.trans (hE.below (fun b e=>by omega) h.be.size),ho⟩
theorem RwC.set (h:RwC w r b1 b2 b5 L W) {k:Nat} (hk:k < L.length) (v:Value):RwC w r b1 b2 b5 (L.set k v) (W.setCell ⟨b5,k,none⟩ v):=
 h.eff ((Eff.refl (fun b=>b=b5) W).set rfl _ _) (h.l.set hk v)
theorem RwC.sets (h:RwC w r b1 b2 b5 L W) {o:Nat} {vs:List Value} (hk:o+vs.length≤L.length):RwC w r b1 b2 b5 (yge L o vs) (W.setCells b5 o vs):=
 h.eff (Eff.setCells (O:=fun x=>x=b5) rfl vs o W (Eff.refl _ _)) (h.l.sets vs o hk)
theorem RwC.nxt (h:RwC w r b1 b2 b5 L W) (hl:L.length=30) {k:Nat} (hk:k < 30) (v:Value):∃L' u,L.set k v=L'∧L'.length=30∧W.cell? ⟨b5,k,none⟩=some u∧RwC w r b1 b2 b5 L' (W.setCell ⟨b5,k,none⟩ v):=
 ⟨_,_,rfl,by rw [List.length_set]; exact hl,h.l.at (zzp (i:=k) (by omega)),h.set (by omega) v⟩
theorem RwC.nxtO (h:RwC w r b1 b2 b5 L W) (hl:L.length=30) (oin:Int) (oback:Bool) (od:Nat→Nat):∃L',yge L 8 (ybT oin oback od)=L'∧L'.length=30∧RwC w r b1 b2 b5 L' (W.setCells b5 8 (ybT oin oback od)):=
 ⟨_,rfl,by rw [putCs_len]; exact hl,h.sets (by rw [hl]; show 8+10≤30; omega)⟩
end
end
section
open Go.RowKit
section
variable {P:Program} {ops:Array Oper} {Q:Exit→Act→World→Prop} {md:Region.Mode} {S:World→Prop} {Z:List Nat}
def OrdF (P:Program) (md:Region.Mode) (ops:Array Oper) (Q:Exit→Act→World→Prop) (S:World→Prop) (Z:List Nat):Nat→Array Bool→Act→World→Prop
 | 0,l,a,w=>Region.ready md ops l= []∧Q .normal a w
 | n+1,l,a,w=>(Region.ready md ops l= []→Q .normal a w)∧∀i∈Region.ready md ops l,wpOp P ops Q i (fun a' w'=>(Z.contains i=false→S w')∧OrdF P md ops Q S Z n (l.setIfInBounds i true) a' w') a w
theorem OrdF.any:∀(n:Nat) (l:Array Bool) (a:Act) (w:World),OrdF P md ops Q S Z n l a w→wpAny P md ops Q n l a w
 | 0,_,_,_,h=>h
 | n+1,_,_,_,h=>⟨h.1,fun i hi=>wpOp_mono (fun a' w' h'=>OrdF.any n _ a' w' h'.2) (h.2 i hi)⟩
def ygN (md:Region.Mode) (ops:Array Oper) (z i:Nat):Bool:=match ops[z]? with
 | some o=>o.after.toList.any fun e=>Region.binds md e && e.on == i
 | none=>true
theorem waits_noF {z i:Nat} {l:Array Bool} (h:ygN md ops z i=true) (hi:l.getD i true=false):z ∉ Region.ready md ops l:=by
 intro hz
 obtain ⟨-,o,ho,hall⟩:=mem_ready.1 hz
 rw [ygN,ho] at h
 obtain ⟨e,he,hb⟩:=List.any_eq_true.1 h
 rw [zzX,beq_iff_eq] at hb
 have h1:=hall e (by simpa using he) hb.1
 rw [hb.2] at h1
 rcases Nat.lt_or_ge i l.size with h' | h'
 ·simp [h'] at hi h1; rw [hi] at h1; cases h1
 ·simp [Array.getElem?_eq_none h'] at h1
def yed (md:Region.Mode) (ops:Array Oper) (l:Array Bool) (i:Nat) (Z U:List Nat):Bool:=
 U.all (fun u=>!l.getD u true) && (U.all (fun u=>u == i || U.any fun v=>ygN md ops u v) && Z.all fun z=>z != i && U.contains z)
theorem OrdF.first {i:Nat} {oi:Oper} {v:Value} (U:List Nat) (hi:ops[i]? =some oi) (hsel:∀(j:Nat) (o:Oper) cs b,ops[j]? =some o→o.op≠ .select cs b) (hQ:∀c a w,Q (.panic c) (a.put oi.dst v) w→Q (.panic c) a w)
  (h2:∀u∈U,u=i∨∃v∈U,ygN md ops u v=true) (h3:∀z∈Z,z≠i∧z∈U) :
  ∀(n:Nat) (l:Array Bool) (a:Act) (w:World),(∀u∈U,l.getD u true=false)→(∀j oj,ops[j]? =some oj→j≠i→l.getD j true=false→(∀e∈oj.after,Region.binds md e=true→e.on≠i)→oi.apart ops oj=true)→
   i∈Region.ready md ops l→YieldsIf P ops S oi v a→S w→OrdF P md ops Q S Z n (l.setIfInBounds i true) (a.put oi.dst v) w→OrdF P md ops Q S Z (n+1) l a w
 | n,l,a,w,h1,hf,hr,hy,hS,H=>by
   refine ⟨fun h=>(by rw [h] at hr; cases hr),fun j hj=>?_⟩
   by_cases hji:j=i
   ·subst hji; exact hy.wpOp hi hS ⟨fun _=>hS,H⟩
   have h0:=(mem_ready.1 hr).1
   have hU:j ∉ U:=fun hu=>by
    rcases h2 j hu with e | ⟨v,hv,hw⟩
    ·exact hji e
    ·exact waits_noF hw (h1 v hv) hj
   have hZ:Z.contains j=false:=by
    cases e:Z.contains j
    ·rfl
    ·exact absurd (h3 j (by simpa using e)).2 hU
   cases n with
   | zero=>
     have:=ready_mono hj hji
     rw [H.1] at this; cases this
   | succ n=>
     obtain ⟨hju,oj,hoj,hall⟩:=mem_ready.1 hj
     have hno:∀e∈oj.after,Region.binds md e=true→e.on≠i:=fun e he hb heq=>by
      have h1:=hall e he hb
      rw [heq] at h1
      rcases Nat.lt_or_ge i l.size with h' | h'
      ·simp [h'] at h0 h1; rw [h0] at h1; cases h1
      ·simp [Array.getElem?_eq_none h'] at h1
     refine wpOp_mono (fun a' w' h4=>⟨fun _=>h4.2.1 hZ,OrdF.first U hi hsel hQ h2 h3 n (l.setIfInBounds j true) a' w' (fun u hu=>?_) (fun k ok hk hki hun hn=>?_) (ready_mono hr (Ne.symm hji)) h4.1 (h4.2.1 hZ) ?_⟩)
      (wpOp_putIf hoj (hf j oj hoj hji hju hno) (fun cs b=>hsel i oi cs b hi) (fun cs b=>hsel j oj cs b hoj) hQ hy (H.2 j (ready_mono hj hji)))
     ·rw [getD_set_ne true (fun e=>hU (by rw [e]; exact hu))]; exact h1 u hu
     ·refine hf k ok hk hki ?_ hn
      by_cases hjk:j=k
      ·subst hjk; exact hju
      ·rw [getD_set_ne true hjk] at hun; exact hun
     ·rw [Array.setIfInBounds_comm _ _ hji]; exact h4.2.2
theorem ybj {l:Array Bool} {i:Nat} {U:List Nat} (h:yed md ops l i Z U=true):(∀u∈U,l.getD u true=false)∧(∀u∈U,u=i∨∃v∈U,ygN md ops u v=true)∧∀z∈Z,z≠i∧z∈U:=by
 rw [yed,zzX,zzX,List.all_eq_true,List.all_eq_true,List.all_eq_true] at h
 refine ⟨fun u hu=>by simpa using h.1 u hu,fun u hu=>?_,fun z hz=>by simpa using h.2.2 z hz⟩
 have:=h.2.1 u hu
 rw [Bool.or_eq_true,beq_iff_eq,List.any_eq_true] at this
 exact this
theorem OrdF.take {i:Nat} {oi:Oper} {v:Value} {n:Nat} {l:Array Bool} {a:Act} {w:World} (hi:ops[i]? =some oi) (hs:Region.noSelect ops=true) (hf:Region.free md ops l i=true) (hr:(Region.ready md ops l).contains i=true) {U:List Nat} (hz:yed md ops l i Z U=true)
  (hQ:∀c a w,Q (.panic c) (a.put oi.dst v) w→Q (.panic c) a w) (hw:Region.wanted oi (yielded ops a.tmps)=true) (hS:S w) (hy:∀w,S w→(execOp a.eval oi).run P w= .ok (.value v) w)
  (h:OrdF P md ops Q S Z n (l.setIfInBounds i true) (a.put oi.dst v) w):OrdF P md ops Q S Z (n+1) l a w:=
 OrdF.first U hi (Region.noSelect_spec hs) hQ (ybj hz).2.1 (ybj hz).2.2 n l a w (ybj hz).1 (Region.free_spec hi hf) (by simpa using hr) (.inl ⟨hw,hy⟩) hS h
theorem OrdF.skip {i:Nat} {oi:Oper} {n:Nat} {l:Array Bool} {a:Act} {w:World} (hi:ops[i]? =some oi) (hs:Region.noSelect ops=true) (hf:Region.free md ops l i=true) (hr:(Region.ready md ops l).contains i=true) {U:List Nat} (hz:yed md ops l i Z U=true)
  (hQ:∀c a w,Q (.panic c) (a.put oi.dst undef) w→Q (.panic c) a w) (hw:Region.wanted oi (yielded ops a.tmps)=false) (hS:S w)
  (h:OrdF P md ops Q S Z n (l.setIfInBounds i true) (a.put oi.dst undef) w):OrdF P md ops Q S Z (n+1) l a w:=
 OrdF.first U hi (Region.noSelect_spec hs) hQ (ybj hz).2.1 (ybj hz).2.2 n l a w (ybj hz).1 (Region.free_spec hi hf) (by simpa using hr) (.inr ⟨hw,rfl⟩) hS h
theorem OrdF.one {i:Nat} {oi:Oper} {n:Nat} {l:Array Bool} {a:Act} {w:World} (hi:ops[i]? =some oi) (hr:Region.ready md ops l= [i])
  (h:∀K:Act→World→Prop,Hid (∀a w,(Z.contains i=false→S w)→OrdF P md ops Q S Z n (l.setIfInBounds i true) a w→K a w)→if Region.wanted oi (yielded ops a.tmps)=true then Oper.wp P oi a w K Q else K (a.put oi.dst undef) w):OrdF P md ops Q S Z (n+1) l a w:=
 ⟨fun h0=>(by rw [hr] at h0; cases h0),fun j hj=>by
  rw [hr,List.mem_singleton] at hj
  subst hj
  exact wpOp_step hi (fun K' hK=>h K' (fun a w h1 h2=>hK a w ⟨h1,h2⟩))⟩
theorem OrdF.two {i j:Nat} {oi oj:Oper} {n:Nat} {l:Array Bool} {a:Act} {w:World} (hi:ops[i]? =some oi) (hj:ops[j]? =some oj) (hr:Region.ready md ops l= [i,j])
  (h1:∀K:Act→World→Prop,Hid (∀a w,(Z.contains i=false→S w)→OrdF P md ops Q S Z n (l.setIfInBounds i true) a w→K a w)→if Region.wanted oi (yielded ops a.tmps)=true then Oper.wp P oi a w K Q else K (a.put oi.dst undef) w)
  (h2:∀K:Act→World→Prop,Hid (∀a w,(Z.contains j=false→S w)→OrdF P md ops Q S Z n (l.setIfInBounds j true) a w→K a w)→if Region.wanted oj (yielded ops a.tmps)=true then Oper.wp P oj a w K Q else K (a.put oj.dst undef) w):OrdF P md ops Q S Z (n+1) l a w:=
 ⟨fun h0=>(by rw [hr] at h0; cases h0),fun k hk=>by
  rw [hr] at hk
  rcases List.mem_cons.1 hk with rfl | hk
  ·exact wpOp_step hi (fun K' hK=>h1 K' (fun a w h1 h2=>hK a w ⟨h1,h2⟩))
  ·rw [List.mem_singleton] at hk
   subst hk
   exact wpOp_step hj (fun K' hK=>h2 K' (fun a w h1 h2=>hK a w ⟨h1,h2⟩))⟩
theorem OrdF.done {l:Array Bool} {a:Act} {w:World} (hr:Region.ready md ops l= []) (h:Q .normal a w):∀n,OrdF P md ops Q S Z n l a w
 | 0=>⟨hr,h⟩
 | _+1=>⟨fun _=>h,by rw [hr]; simp⟩
end
section
variable {P:Program} {ops:Array Oper} {Q:Exit→Act→World→Prop} {md:Region.Mode} {S:World→Prop} {Z:List Nat} {n:Nat} {l:Array Bool} {a:Act} {w:World} {oi:Oper}
theorem rgT (i:Nat) {v:Value} (hy:∀w,S w→(execOp a.eval oi).run P w= .ok (.value v) w) (h:OrdF P md ops Q S Z n (l.setIfInBounds i true) (a.put oi.dst v) w) (U:List Nat:=i :: Z) (hi:ops[i]? =some oi:=by rfl) (hs:Region.noSelect ops=true:=by kernel_rfl)
  (hf:Region.free md ops l i=true:=by kernel_rfl) (hr:(Region.ready md ops l).contains i=true:=by kernel_rfl) (hz:yed md ops l i Z U=true:=by kernel_rfl) (hQ:∀c a w,Q (.panic c) (a.put oi.dst v) w→Q (.panic c) a w:=by exact fun _ _ _ h=>h)
  (hw:Region.wanted oi (yielded ops a.tmps)=true:=by rfl) (hS:S w:=by assumption):OrdF P md ops Q S Z (n+1) l a w:=OrdF.take hi hs hf hr hz hQ hw hS hy h
theorem rgS (i:Nat) (h:OrdF P md ops Q S Z n (l.setIfInBounds i true) (a.put oi.dst undef) w) (U:List Nat:=i :: Z) (hi:ops[i]? =some oi:=by rfl) (hs:Region.noSelect ops=true:=by kernel_rfl)
  (hf:Region.free md ops l i=true:=by kernel_rfl) (hr:(Region.ready md ops l).contains i=true:=by kernel_rfl) (hz:yed md ops l i Z U=true:=by kernel_rfl) (hQ:∀c a w,Q (.panic c) (a.put oi.dst undef) w→Q (.panic c) a w:=by exact fun _ _ _ h=>h)
  (hw:Region.wanted oi (yielded ops a.tmps)=false:=by rfl) (hS:S w:=by assumption):OrdF P md ops Q S Z (n+1) l a w:=OrdF.skip hi hs hf hr hz hQ hw hS h
theorem rgO (i:Nat) (h:∀K:Act→World→Prop,Hid (∀a w,(Z.contains i=false→S w)→OrdF P md ops Q S Z n (l.setIfInBounds i true) a w→K a w)→if Region.wanted oi (yielded ops a.tmps)=true then Oper.wp P oi a w K Q else K (a.put oi.dst undef) w)
  (hi:ops[i]? =some oi:=by rfl) (hr:Region.ready md ops l= [i]:=by kernel_rfl):OrdF P md ops Q S Z (n+1) l a w:=OrdF.one hi hr h
end
theorem rgPut:(∀(a:Act) (d:Tmp) (v:Value),a.put (some d) v= {a with tmps:=a.tmps.setIfInBounds d v})∧(∀(a:Act) (v:Value),a.put none v=a)∧(type_of% @List.getElem_toArray.{0})∧(type_of% @List.getElem_cons_succ.{0})∧(type_of% @List.getElem_cons_zero.{0})∧(type_of% @List.setIfInBounds_toArray.{0})∧(type_of% @List.set_cons_zero.{0})∧(type_of% @List.set_cons_succ.{0}):=
 ⟨fun _ _ _=>rfl,fun _ _=>rfl,@List.getElem_toArray.{0},@List.getElem_cons_succ.{0},@List.getElem_cons_zero.{0},@List.setIfInBounds_toArray.{0},@List.set_cons_zero.{0},@List.set_cons_succ.{0}⟩
theorem regF {id:Nat} {P:Program} {ops:Array Oper} (Z:List Nat) {S:World→Prop} {Q:Exit→Act→World→Prop} {a:Act} {w:World} (hm:P.follows .mixedOrders=true) (hS:S w.drew)
  (h:S w.drew→OrdF P .any ops Q S Z ops.size (Array.replicate ops.size false) a w.drew):(Code.region id ops true).wp P Q a w:=
 wp_region_any hm (OrdF.any _ _ _ _ (h hS))
theorem zfA {P:Program} {ops:Array Oper} {Q:Exit→Act→World→Prop} {md:Region.Mode} {S:World→Prop} {Z:List Nat} {n:Nat} {l:Array Bool} {a:Act} {w:World} (i:Nat) {oi:Oper} {v:Value} {a2:Act} (h:OrdF P md ops Q S Z n (l.setIfInBounds i true) a2 w) (U:List Nat:=i :: Z) (hi:ops[i]? =some oi:=by rfl) (hy:∀w,S w→(execOp a.eval oi).run P w= .ok (.value v) w:=by intro w hSw; (try replace hSw:=hSw.out); (try have f:=hSw.3); (try have f:=hSw.4); (try have f:=hSw.5); (try have f:=hSw.6); (try have f:=hSw.7); (repeat (have f:=hSw.1; replace hSw:=hSw.2)); go_simp; (try with_reducible rfl)) (ha:a.put oi.dst v=a2:=by (try simp only [zP]); (try rfl)) (hs:Region.noSelect ops=true:=by kernel_rfl) (hf:Region.free md ops l i=true:=by kernel_rfl) (hr:(Region.ready md ops l).contains i=true:=by kernel_rfl) (hz:yed md ops l i Z U=true:=by kernel_rfl) (hQ:∀c a w,Q (.panic c) (a.put oi.dst v) w→Q (.panic c) a w:=by exact fun _ _ _ h=>h) (hw:Region.wanted oi (yielded ops a.tmps)=true:=by rfl) (hS:S w:=by assumption):OrdF P md ops Q S Z (n+1) l a w:=by subst ha; exact OrdF.take hi hs hf hr hz hQ hw hS hy h
theorem zfC {P:Program} {ops:Array Oper} {Q:Exit→Act→World→Prop} {md:Region.Mode} {S:World→Prop} {Z:List Nat} {n:Nat} {l:Array Bool} {a:Act} {w:World} (i:Nat) {oi:Oper} {v:Value} {a2:Act} (h:OrdF P md ops Q S Z n (l.setIfInBounds i true) a2 w) (U:List Nat:=i :: Z) (hi:ops[i]? =some oi:=by rfl) (hy:∀w,S w→(execOp a.eval oi).run P w= .ok (.value v) w:=by intro w hSw; cases hSw.out; clear hSw; go_simp; (try with_reducible rfl)) (ha:a.put oi.dst v=a2:=by (try simp only [zP]); (try rfl)) (hs:Region.noSelect ops=true:=by kernel_rfl) (hf:Region.free md ops l i=true:=by kernel_rfl) (hr:(Region.ready md ops l).contains i=true:=by kernel_rfl) (hz:yed md ops l i Z U=true:=by kernel_rfl) (hQ:∀c a w,Q (.panic c) (a.put oi.dst v) w→Q (.panic c) a w:=by exact fun _ _ _ h=>h) (hw:Region.wanted oi (yielded ops a.tmps)=true:=by rfl) (hS:S w:=by assumption):OrdF P md ops Q S Z (n+1) l a w:=by subst ha; exact OrdF.take hi hs hf hr hz hQ hw hS hy h
theorem zfD {P:Program} {ops:Array Oper} {Q:Exit→Act→World→Prop} {md:Region.Mode} {S:World→Prop} {Z:List Nat} {n:Nat} {l:Array Bool} {a:Act} {w:World} (i:Nat) {oi:Oper} {v:Value} {a2:Act} (h:OrdF P md ops Q S Z n (l.setIfInBounds i true) a2 w) (U:List Nat:=i :: Z) (hi:ops[i]? =some oi:=by rfl) (hy:∀w,S w→(execOp a.eval oi).run P w= .ok (.value v) w:=by intro w hSw; go_simp; (try with_reducible rfl)) (ha:a.put oi.dst v=a2:=by (try simp only [zP]); (try rfl)) (hs:Region.noSelect ops=true:=by kernel_rfl) (hf:Region.free md ops l i=true:=by kernel_rfl) (hr:(Region.ready md ops l).contains i=true:=by kernel_rfl) (hz:yed md ops l i Z U=true:=by kernel_rfl) (hQ:∀c a w,Q (.panic c) (a.put oi.dst v) w→Q (.panic c) a w:=by exact fun _ _ _ h=>h) (hw:Region.wanted oi (yielded ops a.tmps)=true:=by rfl) (hS:S w:=by assumption):OrdF P md ops Q S Z (n+1) l a w:=by subst ha; exact OrdF.take hi hs hf hr hz hQ hw hS hy h
theorem zfE {P:Program} {ops:Array Oper} {Q:Exit→Act→World→Prop} {md:Region.Mode} {S:World→Prop} {Z:List Nat} {n:Nat} {l:Array Bool} {a:Act} {w:World} (i:Nat) {oi:Oper} {v:Value} {a2:Act} (h:OrdF P md ops Q S Z n (l.setIfInBounds i true) a2 w) (U:List Nat:=i :: Z) (hi:ops[i]? =some oi:=by rfl) (hy:∀w,S w→(execOp a.eval oi).run P w= .ok (.value v) w:=by intro w hSw; clear hSw; go_simp; (try with_reducible rfl)) (ha:a.put oi.dst v=a2:=by (try simp only [zP]); (try rfl)) (hs:Region.noSelect ops=true:=by kernel_rfl) (hf:Region.free md ops l i=true:=by kernel_rfl) (hr:(Region.ready md ops l).contains i=true:=by kernel_rfl) (hz:yed md ops l i Z U=true:=by kernel_rfl) (hQ:∀c a w,Q (.panic c) (a.put oi.dst v) w→Q (.panic c) a w:=by exact fun _ _ _ h=>h) (hw:Region.wanted oi (yielded ops a.tmps)=true:=by rfl) (hS:S w:=by assumption):OrdF P md ops Q S Z (n+1) l a w:=by subst ha; exact OrdF.take hi hs hf hr hz hQ hw hS hy h
theorem zfF {P:Program} {ops:Array Oper} {Q:Exit→Act→World→Prop} {md:Region.Mode} {S:World→Prop} {Z:List Nat} {n:Nat} {l:Array Bool} {a:Act} {w:World} (i:Nat) {oi:Oper} {v:Value} {a2:Act} {R:World→Prop} (hR:∀w,S w→R w) (h:OrdF P md ops Q S Z n (l.setIfInBounds i true) a2 w) (U:List Nat:=i :: Z) (hi:ops[i]? =some oi:=by rfl) (hy:∀w,R w→(execOp a.eval oi).run P w= .ok (.value v) w:=by intro w hSw; (repeat (have f:=hSw.1; replace hSw:=hSw.2)); go_simp; (try with_reducible rfl)) (ha:a.put oi.dst v=a2:=by (try simp only [zP]); (try rfl)) (hs:Region.noSelect ops=true:=by kernel_rfl) (hf:Region.free md ops l i=true:=by kernel_rfl) (hr:(Region.ready md ops l).contains i=true:=by kernel_rfl) (hz:yed md ops l i Z U=true:=by kernel_rfl) (hQ:∀c a w,Q (.panic c) (a.put oi.dst v) w→Q (.panic c) a w:=by exact fun _ _ _ h=>h) (hw:Region.wanted oi (yielded ops a.tmps)=true:=by rfl) (hS:S w:=by assumption):OrdF P md ops Q S Z (n+1) l a w:=by subst ha; exact OrdF.take hi hs hf hr hz hQ hw hS (fun w h=>hy w (hR w h)) h
theorem zfS {P:Program} {ops:Array Oper} {Q:Exit→Act→World→Prop} {md:Region.Mode} {S:World→Prop} {Z:List Nat} {n:Nat} {l:Array Bool} {a:Act} {w:World} (i:Nat) {oi:Oper} {a2:Act} (h:OrdF P md ops Q S Z n (l.setIfInBounds i true) a2 w) (U:List Nat:=i :: Z) (hi:ops[i]? =some oi:=by rfl) (ha:a.put oi.dst undef=a2:=by (try simp only [zP]); (try rfl)) (hs:Region.noSelect ops=true:=by kernel_rfl) (hf:Region.free md ops l i=true:=by kernel_rfl) (hr:(Region.ready md ops l).contains i=true:=by kernel_rfl) (hz:yed md ops l i Z U=true:=by kernel_rfl) (hQ:∀c a w,Q (.panic c) (a.put oi.dst undef) w→Q (.panic c) a w:=by exact fun _ _ _ h=>h) (hw:Region.wanted oi (yielded ops a.tmps)=false:=by rfl) (hS:S w:=by assumption):OrdF P md ops Q S Z (n+1) l a w:=by subst ha; exact OrdF.skip hi hs hf hr hz hQ hw hS h
theorem zzO {P:Program} {ops:Array Oper} {Q:Exit→Act→World→Prop} {md:Region.Mode} {S:World→Prop} {Z:List Nat} {n:Nat} {l:Array Bool} {a:Act} {w:World} (i:Nat) {oi:Oper} (h:∀K:Act→World→Prop,Hid (∀a w,(Z.contains i=false→S w)→OrdF P md ops Q S Z n (l.setIfInBounds i true) a w→K a w)→Oper.wp P oi a w K Q) (hi:ops[i]? =some oi:=by rfl) (hr:Region.ready md ops l= [i]:=by kernel_rfl) (hw:Region.wanted oi (yielded ops a.tmps)=true:=by rfl):OrdF P md ops Q S Z (n+1) l a w:=OrdF.one hi hr fun K hK=>by rw [if_pos hw]; exact h K hK
end
end Go.Proofs.YtjahgimnfliooaaGreatDoor
