/-
  The box of a face (plain).
  cast.Box: the clause of a face.
-/
import Derived.Test.YtkpgfmonhfnhdaaGreatDoorQeb0891
import Derived.Test.YtkpgfmonhfnhdaaGreatDoorQe30e88
import Derived.Test.YtkpgfmonhfnhdaaGreatDoorQ79096b
import Derived.Test.YtkpgfmonhfnhdaaGreatDoorQf49d9a
import Derived.Test.YtkpgfmonhfnhdaaGreatDoorQ284183
import Derived.Test.YtkpgfmonhfnhdaaGreatDoorQb0eb1f
set_option maxRecDepth 100000
set_option maxHeartbeats 25600000
namespace Go.Proofs.YtkpgfmonhfnhdaaGreatDoor
set_option linter.unusedVariables false
section
open Go.RowKit Go.Maps
attribute [local irreducible] secL
def boxC (u:Nat→Nat) (fi la:Int):Cl:={m:=u,or:=false,oin:=0,oback:=false,od:=fun _=>0,ys:=ybm [fun i=>u (7+i)],unit:=0,step:=1,anchor:=0,fr:=fi,un:=la}
abbrev allD (l:List Cl):List Int:=dayS l (yaf 0 146096)
theorem xInst {l:List Cl} {t:Int} (h:yaK l t=true):0≤t∧t < 12622780800∧t % 86400∈secL (dayQ l (t / 86400))∧t / 86400∈allD l:=by
 obtain ⟨h0,h1⟩:=yij h
 have hm:t % 86400∈secL (dayQ l (t / 86400)):=yas.2 ⟨(t % 86400).toNat,by omega,by
  rw [yb1,show 86400 * (t / 86400)+(((t % 86400).toNat:Nat):Int)=t by omega]; exact h,by omega⟩
 exact ⟨h0,h1,hm,yeb.2 ⟨_,hm⟩⟩
theorem xSec {l:List Cl} {D s:Int} (h:s∈secL (dayQ l D)):yaK l (86400 * D+s)=true∧0≤s∧s < 86400:=by
 obtain ⟨j,hj,hq,rfl⟩:=yas.1 h
 rw [yb1] at hq
 exact ⟨hq,by omega,by omega⟩
section
variable {l:List Cl} {u:Nat→Nat} {fi la n:Int} {ev sq:Bool}
theorem fldT (h:FaceP l u fi la n ev sq) {i:Nat} (h3:3≤i) (h7:i < 7) (k:Nat):(u i).testBit k=true↔k < 64∧∃D∈allD l,shF D (i - 1)= (k:Int):=by
 rw [h.us i h3 (by omega),fcU,if_neg (by omega),if_neg (by omega),if_neg (by omega),if_pos h7,ycs,zzX,zzY,zzY,List.mem_map]
theorem fldB (h:FaceP l u fi la n ev sq) {i:Nat} (h3:3≤i) (h7:i < 7) {x:Int} (h0:0≤x) (h1:x < 64):hasB (u i) x=true↔∃D∈allD l,shF D (i - 1)=x:=by
 rw [hasB,zzZ h0,zzo,fldT h h3 h7,Int.toNat_of_nonneg h0]
 exact ⟨fun h=>h.2,fun h=>⟨by omega,h⟩⟩
theorem yrB (h:FaceP l u fi la n ev sq) {x:Int} (h0:0≤x) (h1:x < 400):hasW (fun i=>u (7+i)) x=true↔∃D∈allD l,shF D 1 - 1970=x:=by
 have hi:x.toNat / 64 < 7:=by omega
 have e:u (7+x.toNat / 64)=wof ((allD l).map fun D=>shF D 1 - 1970) (x.toNat / 64):=by
  rw [h.us _ (by omega) (by omega),fcU,if_neg (by omega),if_neg (by omega),if_neg (by omega),if_neg (by omega),if_pos (by omega),Nat.add_sub_cancel_left]
 rw [hasW,mayB,zzZ h0,zzZ h1,zzo,zzo,bitW,e,wof,yax,inWB,show 64 * (x.toNat / 64)+x.toNat % 64=x.toNat by omega,Int.toNat_of_nonneg h0,zzX,zzX,zzY,zzY,zzY,List.mem_map]
 exact ⟨fun h=>h.2.1,fun h=>⟨by omega,h,by omega⟩⟩
theorem yib (s:Nat→Nat) {x:Int} (h0:0≤x) (h1:x < 400):hasW (ybm [s]) x=hasW s x:=by
 have hf:=ygC h0 h1
 rw [hasW,mayB,zzZ h0,zzZ h1,zzo,zzo,bitW] at hf
 rw [hasW,hasW,mayB,zzZ h0,zzZ h1,zzo,zzo,zzo,bitW,bitW,show ybm [s] (x.toNat / 64)=ybA (x.toNat / 64) &&& s (x.toNat / 64) from rfl,Nat.testBit_and,hf,zzo]
theorem one_may (s:Nat→Nat):eqW (inW (ybm [s])) (ybm [s])=true:=by
 rw [yhv]
 intro i hi
 rw [inW,show ybm [s] i=ybA i &&& s i from rfl]
 apply Nat.eq_of_testBit_eq
 intro k
 simp only [Nat.testBit_and]
 cases (ybA i).testBit k <;> cases (s i).testBit k <;> rfl
theorem shp_rng {D:Int} (h0:0≤D) (h1:D≤146096):(1≤shF D 2∧shF D 2≤12)∧(1≤shF D 3∧shF D 3≤31)∧(1≤shF D 4∧shF D 4≤31)∧(1≤shF D 5∧shF D 5≤7)∧(0≤shF D 1 - 1970∧shF D 1 - 1970 < 400):=by
 obtain ⟨y0,y1,m0,m1,d0,d1⟩:=yay h0 (show D < 146097 by omega)
 obtain ⟨l0,l1⟩:=ybT (fY D) (fMo D)
 refine ⟨⟨m0,m1⟩,⟨d0,by show fD D≤31; omega⟩,⟨by show 1≤lenI (fY D) (fMo D) - fD D+1; omega,by show lenI (fY D) (fMo D) - fD D+1≤31; omega⟩,yh3 D,by show 0≤fY D - 1970; omega,by show fY D - 1970 < 400; omega⟩
theorem yeo {D:Int} (h:D∈allD l):(1≤shF D 2∧shF D 2≤12)∧(1≤shF D 3∧shF D 3≤31)∧(1≤shF D 4∧shF D 4≤31)∧(1≤shF D 5∧shF D 5≤7)∧(0≤shF D 1 - 1970∧shF D 1 - 1970 < 400):=
 have h:=yhx l D h
 shp_rng h.1 h.2
theorem box_mask (h:FaceP l u fi la n ev sq):ycU u=true:=by
 simp only [ycU,zzX]
 refine ⟨bitsB_iff.2 fun k hk hb=>?_,bitsB_iff.2 fun k hk hb=>?_,bitsB_iff.2 fun k hk hb=>?_,bitsB_iff.2 fun k hk hb=>?_,bitsB_iff.2 fun k hk hb=>?_,bitsB_iff.2 fun k hk hb=>?_,bitsB_iff.2 fun k hk hb=>?_⟩
 ·obtain ⟨s,-,e⟩:=h.hm.s k hb; omega
 ·obtain ⟨s,-,e⟩:=h.hm.m k hb; omega
 ·obtain ⟨s,hs,e⟩:=h.hm.h k hb; have:=h.hm.rng s hs; omega
 ·obtain ⟨-,D,hD,e⟩:=(fldT h (by omega) (by omega) k).1 hb
  have:=(yeo hD).1; rw [←e]; exact this
 ·obtain ⟨-,D,hD,e⟩:=(fldT h (by omega) (by omega) k).1 hb
  have:=(yeo hD).2.1; rw [←e]; exact this
 ·obtain ⟨-,D,hD,e⟩:=(fldT h (by omega) (by omega) k).1 hb
  have:=(yeo hD).2.2.1; rw [←e]; exact this
 ·obtain ⟨-,D,hD,e⟩:=(fldT h (by omega) (by omega) k).1 hb
  have:=(yeo hD).2.2.2.1; rw [←e]; exact this
theorem yhB (h:FaceP l u fi la n ev sq):mayC (boxC u fi la)=true:=by
 simp only [mayC,zzX,zzY]
 exact ⟨box_mask h,show ordB 0 false (fun _=>0)=true by decide,one_may _,rfl,Int.le_refl 1,rfl⟩
theorem box_ok (h:FaceP l u fi la n ev sq):(boxC u fi la).Ok:=by
 have hl:=h.lt
 have hb:=h.bd
 refine ⟨fun i hi=>hl i (by omega),fun i hi=>by show 0 < _; omega,fun i hi=>?_,by unfold i64B; show _≤(0:Int)∧(0:Int)≤_; omega,by unfold i64B; show _≤(0:Int)∧(0:Int)≤_; omega,by unfold i64B; show _≤(1:Int)∧(1:Int)≤_; omega,by unfold i64B; show _≤(0:Int)∧(0:Int)≤_; omega,hb.1,hb.2.1⟩
 show ybA i &&& u (7+i) < _
 rw [Nat.and_comm]
 exact ya0 (hl _ (by omega))
theorem ydI (c:Cl) (t:Int):hasC c t=true↔(winB t=true∧mayC c=true∧betB c.fr c.un t=true∧ybp (t % 86400) (c.m 2) (c.m 1) (c.m 0)=true∧onB c.unit c.step c.anchor t=true∧dayC c (t / 86400)=true):=by
 simp only [hasC,zzX]
theorem ydv (s:Int) (x y z:Nat):ybp s x y z=true↔(dayB s=true∧hasB x (s / 3600)=true∧hasB y (s / 60 % 60)=true∧hasB z (s % 60)=true):=by
 simp only [ybp,zzX]
theorem ycx {c:Cl} (ho:c.or=false) (hi:c.oin=0) (D:Int):dayC c D=true↔(mayC c=true∧(hasB (c.m 4) (shF D 3)=true∧hasB (c.m 6) (shF D 5)=true∧hasB (c.m 3) (shF D 2)=true∧hasB (c.m 5) (shF D 4)=true∧hasW c.ys (shF D 1 - 1970)=true)∧yb2 c.unit c.step c.anchor D=true):=by
 simp only [dayC,yjq,domB,nthB,ho,hi,zzX,Bool.false_eq_true,if_false,if_true,and_true,and_assoc]
theorem win_iff (t:Int):winB t=true↔0≤t∧t < 12622780800:=by rw [winB,zzY]
theorem on_one {v a t:Int} (hv:unB v=true) (ha:winB a=true) (ht:winB t=true):onB v 1 a t=true:=by
 rw [onB,ya4,ya4,hv,ha,ht,stepB]; simp
theorem yfd {v a D:Int} (hv:unB v=true) (ha:winB a=true):yb2 v 1 a D=true:=by
 rw [yb2,ya4,hv,ha,zzZ (show 0 < yam v∨(1:Int)=1 from .inr rfl)]; rfl
theorem ycZ {L:List Int} (h:L.Pairwise (·< ·)) {x:Int} (hx:x∈L):fstI L≤x∧x≤lstI L:=by
 obtain ⟨i,hi,rfl⟩:=List.getElem_of_mem hx
 have h0:0 < L.length:=by omega
 have hl:L.length - 1 < L.length:=by omega
 rw [fstI,lstI,zzp h0,zzp hl,Option.getD_some,Option.getD_some]
 constructor
 ·by_cases e:i=0
  ·subst e; exact Int.le_refl _
  ·exact Int.le_of_lt ((List.pairwise_iff_getElem.1 h) 0 i h0 hi (by omega))
 ·by_cases e:i=L.length - 1
  ·subst e; exact Int.le_refl _
  ·exact Int.le_of_lt ((List.pairwise_iff_getElem.1 h) i (L.length - 1) hi hl (by omega))
theorem yhs {L:List Int} (h:0 < L.length):fstI L∈L∧lstI L∈L:=by
 have hl:L.length - 1 < L.length:=by omega
 rw [fstI,lstI,zzp h,zzp hl,Option.getD_some,Option.getD_some]
 exact ⟨zzr _,zzr _⟩
theorem fi_is {X:List Int} (h:0 < X.length):fiV l X=86400 * fstI X+fstI (secL (dayQ l (fstI X))):=by
 unfold fiV
 rw [fstI,zzp h]; rfl
theorem la_is {X:List Int} (h:0 < X.length):laV l X=86400 * lstI X+lstI (secL (dayQ l (lstI X))):=by
 unfold laV
 rw [lstI,zzp (show X.length - 1 < X.length by omega)]; rfl
theorem fl_is (h:FaceP l u fi la n ev sq) (h0:0 < (allD l).length):yaK l fi=true∧yaK l la=true∧∀t,yaK l t=true→fi≤t∧t≤la:=by
 have e1:fi=86400 * fstI (allD l)+fstI (secL (dayQ l (fstI (allD l)))):=h.fi.trans (fi_is h0)
 have e2:la=86400 * lstI (allD l)+lstI (secL (dayQ l (lstI (allD l)))):=h.la.trans (la_is h0)
 obtain ⟨hf,hl⟩:=yhs h0
 have sec:∀D∈allD l,0 < (secL (dayQ l D)).length:=fun D hD=>by
  obtain ⟨s,hs⟩:=yeb.1 hD
  exact List.length_pos_of_mem hs
 have f1:=xSec (yhs (sec _ hf)).1
 have f2:=xSec (yhs (sec _ hl)).2
 refine ⟨by rw [e1]; exact f1.1,by rw [e2]; exact f2.1,fun t ht=>?_⟩
 obtain ⟨t0,t1,hs,hD⟩:=xInst ht
 have hd:fstI (allD l)≤t / 86400∧t / 86400≤lstI (allD l):=ycZ (day_rise l 0 146096) hD
 constructor
 ·rw [e1]
  by_cases e:fstI (allD l)=t / 86400
  ·have:=(ycZ (yco _) hs).1
   rw [e]; omega
  ·have:=hd.1; omega
 ·rw [e2]
  by_cases e:lstI (allD l)=t / 86400
  ·have:=(ycZ (yco _) hs).2
   rw [e]; omega
  ·have:=hd.2; omega
theorem box_in (h:FaceP l u fi la n ev sq) {t:Int} (ht:yaK l t=true):hasC (boxC u fi la) t=true:=by
 obtain ⟨t0,t1,hs,hD⟩:=xInst ht
 have hb:=(fl_is h (List.length_pos_of_mem hD)).2.2 t ht
 have hw:winB t=true:=(win_iff t).2 ⟨t0,t1⟩
 obtain ⟨b2,b1,b0⟩:=h.hm.inn (t % 86400) ⟨_,hs⟩
 have r:=yeo hD
 have hf:∀{i:Nat} (h3:3≤i) (h7:i < 7),1≤shF (t / 86400) (i - 1)→shF (t / 86400) (i - 1)≤31→hasB (u i) (shF (t / 86400) (i - 1))=true:=fun h3 h7 h0 h1=>(fldB h h3 h7 (by omega) (by omega)).2 ⟨_,hD,rfl⟩
 rw [ydI]
 refine ⟨hw,yhB h,?_,(ydv _ _ _ _).2 ⟨zzZ (by omega),?_,?_,?_⟩,on_one rfl rfl hw,(ycx rfl rfl _).2 ⟨yhB h,⟨hf (i:=4) (by omega) (by omega) r.2.1.1 r.2.1.2,hf (i:=6) (by omega) (by omega) r.2.2.2.1.1 (by have:=r.2.2.2.1.2; show shF _ 5≤31; omega),hf (i:=3) (by omega) (by omega) r.1.1 (by have:=r.1.2; show shF _ 2≤31; omega),hf (i:=5) (by omega) (by omega) r.2.2.1.1 r.2.2.1.2,?_⟩,yfd rfl rfl⟩⟩
 ·show betB fi la t=true
  rw [betB,zzZ hb.1,zzZ hb.2]; rfl
 ·show hasB (u 2) _ =true
  rw [hasB,zzZ (by omega),b2]; rfl
 ·show hasB (u 1) _ =true
  rw [hasB,zzZ (by omega),b1]; rfl
 ·show hasB (u 0) _ =true
  rw [hasB,zzZ (by omega),b0]; rfl
 ·show hasW (ybm [_]) _ =true
  rw [yib _ r.2.2.2.2.1 r.2.2.2.2.2]
  exact (yrB h r.2.2.2.2.1 r.2.2.2.2.2).2 ⟨_,hD,rfl⟩
theorem box_out (h:FaceP l u fi la n ev sq) (h0:0 < (allD l).length) {c:Cl} (ho:c.or=false) (hi:c.oin=0) (hst:c.step=1) (hc:∀t,yaK l t=true→hasC c t=true) {t:Int} (ht:hasC (boxC u fi la) t=true):hasC c t=true:=by
 obtain ⟨f1,f2,-⟩:=fl_is h h0
 obtain ⟨w0,m0,bf,-,-,-⟩:=(ydI c fi).1 (hc fi f1)
 obtain ⟨-,-,bl,-,-,-⟩:=(ydI c la).1 (hc la f2)
 obtain ⟨hw,-,hb,htod,-,hday⟩:=(ydI _ t).1 ht
 obtain ⟨d0,t2,t1,t0⟩:=(ydv _ _ _ _).1 htod
 obtain ⟨-,⟨q4,q6,q3,q5,qy⟩,-⟩:=(ycx rfl rfl _).1 hday
 have hT:=(win_iff t).1 hw
 have hm:=m0
 simp only [mayC,zzX,zzY] at hm
 obtain ⟨-,-,-,mu,-,ma⟩:=hm
 have key:∀D s,s∈secL (dayQ l D)→(ybp s (c.m 2) (c.m 1) (c.m 0)=true∧dayC c D=true):=fun D s hs=>by
  obtain ⟨k1,k2,k3⟩:=xSec hs
  obtain ⟨-,-,-,g1,-,g2⟩:=(ydI c _).1 (hc _ k1)
  rw [show (86400 * D+s) % 86400=s by omega] at g1
  rw [show (86400 * D+s) / 86400=D by omega] at g2
  exact ⟨g1,g2⟩
 have bit:∀{m:Nat} {x:Int},hasB m x=true→0≤x∧m.testBit x.toNat=true:=fun h=>by
  rw [hasB,zzX,zzY] at h; exact h
 have fld:∀{i:Nat} (h3:3≤i) (h7:i < 7),0≤shF (t / 86400) (i - 1)→shF (t / 86400) (i - 1) < 64→hasB (u i) (shF (t / 86400) (i - 1))=true→∃D,dayC c D=true∧shF D (i - 1)=shF (t / 86400) (i - 1):=fun h3 h7 a0 a1 hh=>by
  obtain ⟨D,hD,e⟩:=(fldB h h3 h7 a0 a1).1 hh
  obtain ⟨s,hs⟩:=yeb.1 hD
  exact ⟨D,(key D s hs).2,e⟩
 have r:=shp_rng (D:=t / 86400) (by omega) (by omega)
 rw [ydI,hst]
 refine ⟨hw,m0,?_,(ydv _ _ _ _).2 ⟨d0,?_,?_,?_⟩,on_one mu ma hw,(ycx ho hi _).2 ⟨m0,⟨?_,?_,?_,?_,?_⟩,by rw [hst]; exact yfd mu ma⟩⟩
 ·change betB fi la t=true at hb
  rw [betB,zzX,zzY,zzY] at hb bf bl⊢
  exact ⟨by omega,by omega⟩
 ·obtain ⟨s,⟨D,hs⟩,e⟩:=h.hm.h _ (bit t2).2
  have g:=((ydv _ _ _ _).1 (key D s hs).1).2.1
  have hr:=h.hm.rng s ⟨D,hs⟩
  rwa [show s / 3600=t % 86400 / 3600 by omega] at g
 ·obtain ⟨s,⟨D,hs⟩,e⟩:=h.hm.m _ (bit t1).2
  have g:=((ydv _ _ _ _).1 (key D s hs).1).2.2.1
  rwa [show s / 60 % 60=t % 86400 / 60 % 60 by omega] at g
 ·obtain ⟨s,⟨D,hs⟩,e⟩:=h.hm.s _ (bit t0).2
  have g:=((ydv _ _ _ _).1 (key D s hs).1).2.2.2
  rwa [show s % 60=t % 86400 % 60 by omega] at g
 ·obtain ⟨D,hd,e⟩:=fld (i:=4) (by omega) (by omega) (by show 0≤shF _ 3; omega) (by show shF _ 3 < 64; omega) q4
  have g:=((ycx ho hi _).1 hd).2.1.1
  change shF D 3= _ at e
  rwa [e] at g
 ·obtain ⟨D,hd,e⟩:=fld (i:=6) (by omega) (by omega) (by show 0≤shF _ 5; omega) (by show shF _ 5 < 64; omega) q6
  have g:=((ycx ho hi _).1 hd).2.1.2.1
  change shF D 5= _ at e
  rwa [e] at g
 ·obtain ⟨D,hd,e⟩:=fld (i:=3) (by omega) (by omega) (by show 0≤shF _ 2; omega) (by show shF _ 2 < 64; omega) q3
  have g:=((ycx ho hi _).1 hd).2.1.2.2.1
  change shF D 2= _ at e
  rwa [e] at g
 ·obtain ⟨D,hd,e⟩:=fld (i:=5) (by omega) (by omega) (by show 0≤shF _ 4; omega) (by show shF _ 4 < 64; omega) q5
  have g:=((ycx ho hi _).1 hd).2.1.2.2.2.1
  change shF D 4= _ at e
  rwa [e] at g
 ·change hasW (ybm [_]) _ =true at qy
  rw [yib _ r.2.2.2.2.1 r.2.2.2.2.2] at qy
  obtain ⟨D,hD,e⟩:=(yrB h r.2.2.2.2.1 r.2.2.2.2.2).1 qy
  obtain ⟨s,hs⟩:=yeb.1 hD
  have g:=((ycx ho hi _).1 (key D s hs).2).2.1.2.2.2.2
  rwa [e] at g
end
end
section
open Go.RowKit Go.Maps
attribute [local irreducible] secL
def yfJ (v:Value):Sem Value:=Instr.loadAt 25 v
theorem yi7 (v:Value):Instr.loadAt 25 v=yfJ v:=rfl
def yfr (v x:Value):Sem Unit:=Instr.storeAt 25 v x
theorem yiZ (v x:Value):Instr.storeAt 25 v x=yfr v x:=rfl
theorem infoB7:(Tryz.prog.info? 25).map (·.size)=some 7:=by kernel_rfl
def l7w (f:Nat→Nat):List Value:= [.int .u64 (f 0:Nat), .int .u64 (f 1:Nat), .int .u64 (f 2:Nat), .int .u64 (f 3:Nat), .int .u64 (f 4:Nat), .int .u64 (f 5:Nat), .int .u64 (f 6:Nat)]
theorem FcB.ld7 {b:Nat} {u:Nat→Nat} {fi la n:Int} {ev sq:Bool} {W:World} (h:FcB b u fi la n ev sq W):(yfJ (.pointer (some ⟨b,7,none⟩))).run Tryz.prog W= .ok (wv fun i=>u (7+i)) W:=by
 have hr:W.rangeAt b 7 (l7w fun i=>u (7+i)):=fun j v hv=>by
  obtain ⟨hj,e⟩:=zzq.1 hv
  have hj7:j < 7:=hj
  rw [h.c (7+j) (by omega),←e]
  rcases yep hj7 with rfl | rfl | rfl | rfl | rfl | rfl | rfl <;> rfl
 unfold yfJ
 simp only [Instr.loadAt,Instr.sureAddr,Sem.run_bind,Sem.run_pure,Result.andThen_ok,run_loadVar_mid W b 7 25 (l7w fun i=>u (7+i)) _ hr Tryz.underlying25 rfl infoB7]
 rfl
structure LsB (b:Nat) (L:List Value) (W:World):Prop where
 r:W.rangeAt b 0 L
 z:∀i,W.frozen? ⟨b,i,none⟩=false
 lt:b < W.heap.size
theorem LsB.block {b:Nat} {L:List Value} {W W':World} (h:LsB b L W) (hs:W.heap.size≤W'.heap.size) (hb:W'.heap[b]? =W.heap[b]?):LsB b L W':=
 ⟨fun j v hv=>(zzJ (w:=W) (a:=⟨b,0+j,none⟩) hb).trans (h.r j v hv),fun i=>(zzM (w:=W) (a:=⟨b,i,none⟩) hb).trans (h.z i),zH h.lt hs⟩
theorem LsB.set {b:Nat} {L:List Value} {W:World} (h:LsB b L W) {k:Nat} (hk:k < L.length) (u:Value):LsB b (L.set k u) (W.setCell ⟨b,k,none⟩ u):=by
 refine ⟨fun j v hv=>?_,fun i=>by simpa [go_sem] using h.z i,by simpa using h.lt⟩
 rw [zzn]
 by_cases hj:j=k
 ·subst hj
  rw [List.getElem?_set_self hk] at hv
  have hv':u=v:=by simpa using hv
  have h6:=h.r j _ (zzp hk)
  rw [zzn] at h6
  rw [←hv']
  exact zzW _ _ _ (by rw [h6])
 ·rw [List.getElem?_set_ne (by omega)] at hv
  have h6:=h.r j v hv
  rw [zzn] at h6
  rw [zzL _ _ _ _ (by intro e; injection e with _ e2 _; exact hj (by omega))]
  exact h6
theorem LsB.at {b:Nat} {L:List Value} {W:World} (h:LsB b L W) {k:Nat} {v:Value} (e:L[k]? =some v):W.cell? ⟨b,k,none⟩=some v:=by
 have:=h.r k v e
 rwa [zzn] at this
theorem LsB.st7 {b:Nat} {L:List Value} {W:World} (h:LsB b L W) (hl:L.length=30) (f:Nat→Nat):(yfr (.pointer (some ⟨b,18,none⟩)) (wv f)).run Tryz.prog W= .ok () (W.setCells b 18 (l7w f)):=by
 have ht:W.there b 18 (l7w f).toArray.size:=fun j hj=>by
  have hj7:j < 7:=by simpa [l7w] using hj
  have h6:=h.at (zzp (l:=L) (i:=18+j) (by omega))
  exact ⟨by rw [h6]; rfl,h.z (18+j)⟩
 unfold yfr
 exact run_storeAt_mid W b 18 25 (l7w f).toArray ht infoB7 (by simp [l7w,Value.oneCell'])
theorem LsB.put7 {b:Nat} {L:List Value} {W:World} (h:LsB b L W) (hl:L.length=30) (f:Nat→Nat):LsB b (((((((L.set 18 (.int .u64 (f 0:Nat))).set 19 (.int .u64 (f 1:Nat))).set 20 (.int .u64 (f 2:Nat))).set 21 (.int .u64 (f 3:Nat))).set 22 (.int .u64 (f 4:Nat))).set 23 (.int .u64 (f 5:Nat))).set 24 (.int .u64 (f 6:Nat))) (W.setCells b 18 (l7w f)):=by
 simp only [l7w,World.setCells]
 exact ((((((h.set (k:=18) (by omega) _).set (k:=19) (by simp; omega) _).set (k:=20) (by simp; omega) _).set (k:=21) (by simp; omega) _).set (k:=22) (by simp; omega) _).set (k:=23) (by simp; omega) _).set (k:=24) (by simp; omega) _
attribute [local go_sem ↓] yan ya1 yi7 yiZ
attribute [local go_sem] yaz
theorem CBox_any (u:Nat→Nat) (fi la n:Int) (ev sq:Bool) (w:World) (hu:∀i,i < 46→u i < 18446744073709551616) :
  Calls Tryz.prog 11 #[fcv u fi la n ev sq] w fun e w'=>e= .returned (clv (boxC u fi la))∧Below w.heap.size w w':=by
 have hA0:FcB w.heap.size u fi la n ev sq (w.alloc (.cells (fcL u fi la n ev sq).toArray 28)):=by
  have hr:=yaw w (fcL u fi la n ev sq) 28
  have key:∀j v,(fcL u fi la n ev sq)[j]? =some v→(w.alloc (.cells (fcL u fi la n ev sq).toArray 28)).cell? ⟨w.heap.size,j,none⟩=some v:=fun j v hv=>by
   have:=hr j v hv
   rwa [zzn] at this
  refine ⟨fun i hi=>key i _ ?_,key 46 _ rfl,key 47 _ rfl,key 48 _ rfl,key 49 _ rfl,key 50 _ rfl,fun i=>yau w _ _ i,by simp⟩
  simp only [fcL]
  rw [List.getElem?_append_left (by simpa using hi)]; simp [hi]
 have hB0:Below w.heap.size w (w.alloc (.cells (fcL u fi la n ev sq).toArray 28)):=yaa (Below.refl _ _) (zG _)
 have s0:(w.alloc (.cells (fcL u fi la n ev sq).toArray 28)).heap.size=w.heap.size+1:=by simp
 rw [fcv_L]
 obtain ⟨A,hA⟩:∃A,(fcL u fi la n ev sq).toArray=A:=⟨_,rfl⟩
 rw [hA] at hA0 hB0 s0⊢
 obtain ⟨W0,hW0⟩:∃W,w.alloc (.cells A 28)=W:=⟨_,rfl⟩
 rw [hW0] at hA0 hB0 s0
 have hz:W0.alloc (.cells zL.toArray 36)=W0.alloc (.cells zL.toArray 36):=rfl
 have ht2:(W0.alloc (.cells zL.toArray 36)).there W0.heap.size 0 30:=ybq W0 _ _
 have hB2:Below w.heap.size w (W0.alloc (.cells zL.toArray 36)):=yaa hB0 hB0.size
 have hA2:FcB w.heap.size u fi la n ev sq (W0.alloc (.cells zL.toArray 36)):=hA0.block (by simp) ((yaa (Below.refl W0.heap.size W0) (zG _)).block _ hA0.lt)
 obtain ⟨W1,hW1⟩:∃W,W0.alloc (.cells zL.toArray 36)=W:=⟨_,rfl⟩
 rw [hW1] at ht2 hB2 hA2
 have s1:W1.heap.size=w.heap.size+2:=by rw [←hW1,zzN,s0]
 have cF:=hid (ygb W1)
 have cBo:Hid (∀g (W:World),Sl W (some ⟨g,0,none⟩) (sets [fun i=>u (7+i)])→Calls Tryz.prog 38 #[.slice (some ⟨g,0,none⟩) 1 1] W fun e w'=>e= .returned (wv (ybm [fun i=>u (7+i)]))∧Below W.heap.size W w'):=
  fun g W hs=>WBoth_any (some ⟨g,0,none⟩) 1 [fun i=>u (7+i)] W (by simp) hs (fun s hs i hi=>by
   have e:s=fun i=>u (7+i):=by simpa using hs
   rw [e]; exact hu (7+i) (by omega))
 obtain ⟨bf,ebf⟩:∃b,w.heap.size=b:=⟨_,rfl⟩
 obtain ⟨b2,eb2⟩:∃b,W0.heap.size=b:=⟨_,rfl⟩
 rw [ebf] at hA2
 rw [eb2] at ht2
 have HA:=hid hA2
 have HT:=hid ht2
 have HB2:=hid hB2
 have HW0:=hid hW0
 have HW1:=hid hW1
 have Ef:=hid ebf
 have E2:=hid eb2
 have S1:=hid s1
 have S0:=hid s0
 have H21:Hid (bf+1=b2):=by show _ = _; rw [←eb2,s0,ebf]
 clear hA hA0 hB0 hA2 hB2 ht2 hW0 hW1 hz s0 s1 ebf eb2 hu
 go_enter Tryz.func11,Tryz.ntmps11
 go_upto_region 1 with fail
 rw [HW0.out,HW1.out,Ef.out,H21.out]
 go_wp2_with fail
 refine cF.out.mono ?_
 rintro e w2 ⟨rfl,hB⟩
 have hth3:(w2.alloc (.cells zL.toArray 36)).there w2.heap.size 0 30:=ybq w2 _ _
 have hn3:=yaa (o:= .cells zL.toArray 36) (Below.refl w2.heap.size w2) (zG _)
 obtain ⟨FC,hFC⟩:∃F,fullCl=F:=⟨_,rfl⟩
 rw [hFC]
 obtain ⟨W3,hW3⟩:∃W,yby (w2.alloc (.cells zL.toArray 36)) w2.heap.size (yac FC)=W:=⟨_,rfl⟩
 have hL3:LsB w2.heap.size (yac fullCl) W3:=by
  rw [←hW3,hFC]
  exact ⟨yaV _ rfl hth3,fun i=>by rw [yfA,World.frozen?_setCells]; exact yau w2 _ _ i,by rw [yfA,ybe,zzN]; omega⟩
 have hB3:Below w2.heap.size w2 W3:=by rw [←hW3]; exact yaW hn3 (zG _) _
 obtain ⟨b3,eb3⟩:∃b,w2.heap.size=b:=⟨_,rfl⟩
 have hlt:bf < b2∧b2 < b3:=by have:=hB.size; have h1:=Ef.out; have h2:=E2.out; have h3:=S1.out; have h0:=S0.out; omega
 have HL3:Hid (LsB b3 (yac fullCl) W3):=by rw [←eb3]; exact hL3
 have hA3:=(HA.out.block hB.size (hB.block _ (by have:=HA.out.lt; omega))).block hB3.size (hB3.block _ (by omega))
 have hT3:W3.there b2 0 30:=fun j hj=>by
  have h:=HT.out j hj
  have q:b2 < W1.heap.size:=by have h2:=E2.out; have h3:=S1.out; have h0:=S0.out; omega
  exact ⟨by rw [hB3.cell (p:=⟨b2,0+j,none⟩) (show b2 < w2.heap.size by omega),hB.cell (p:=⟨b2,0+j,none⟩) q]; exact h.1,by rw [hB3.frozen (p:=⟨b2,0+j,none⟩) (show b2 < w2.heap.size by omega),hB.frozen (p:=⟨b2,0+j,none⟩) q]; exact h.2⟩
 have HB3:Hid (Below w.heap.size w W3):=HB2.out.trans ((hB.trans (hB3.mono hB.size)).mono HB2.out.size)
 have HA3:=hid hA3
 have HT3:=hid hT3
 have HW3:=hid hW3
 have E3:=hid eb3
 have Hlt:=hid hlt
 clear hB hL3 hB3 hA3 hT3 hn3 hW3 eb3 hlt hFC cF
 go_upto_region 2 with fail
 rw [HW3.out,E3.out]
 clear hth3
 have HK:Hid (∀W,Eff (fun b=>b=b3) W3 W→FcB bf u fi la n ev sq W):=fun W hE=>HA3.out.block hE.size (hE.block _ HA3.out.lt (by have:=Hlt.out; omega))
 have HKT:Hid (∀W,Eff (fun b=>b=b3) W3 W→W.there b2 0 30):=fun W hE j hj=>by
  have h:=HT3.out j hj
  have q:b2 < W3.heap.size:=by have:=Hlt.out; have:=HL3.out.lt; omega
  exact ⟨by rw [zzJ (w:=W3) (a:=⟨b2,0+j,none⟩) (hE.block b2 q (by have:=Hlt.out; omega))]; exact h.1,by rw [zzM (w:=W3) (a:=⟨b2,0+j,none⟩) (hE.block b2 q (by have:=Hlt.out; omega))]; exact h.2⟩
 have HP0:Hid (LsB b3 (yac fullCl) W3.drew∧Eff (fun b=>b=b3) W3 W3.drew):=⟨HL3.out.block (zG _) rfl,Eff.of_below (Below.refl W3.heap.size W3).drew⟩
 have HC2:Hid (∀W,Eff (fun b=>b=b3) W3 W→Hid (W.cell? ⟨bf,0,none⟩=some (.int .u64 (u 0:Nat))∧W.cell? ⟨bf,1,none⟩=some (.int .u64 (u 1:Nat))∧W.cell? ⟨bf,2,none⟩=some (.int .u64 (u 2:Nat)))):=fun W hE=>
  have h:=HK.out W hE
  ⟨h.c 0 (by omega),h.c 1 (by omega),h.c 2 (by omega)⟩
 go_upto_region 2 with fail
 refine regF [] (S:=fun W=>Hid (W.cell? ⟨bf,0,none⟩=some (.int .u64 (u 0:Nat))∧W.cell? ⟨bf,1,none⟩=some (.int .u64 (u 1:Nat))∧W.cell? ⟨bf,2,none⟩=some (.int .u64 (u 2:Nat)))) (by kernel_rfl) (HC2.out _ HP0.out.2) (fun hHeld=>?_)
 obtain ⟨D2,eD⟩:∃Z,W3.drew=Z:=⟨_,rfl⟩
 rw [eD] at HP0 hHeld⊢
 clear eD
 refine zfA 0 ?_
 refine zfA 1 ?_
 refine zfA 2 ?_
 refine zfA 3 ?_
 refine zfA 4 ?_
 refine zfA 5 ?_
 have hSHP1:=hid (HC2.out _ HP0.out.2)
 refine zzO 6 (fun K hK=>?_)
 go_simp
 refine hK.out _ _ (fun _=>hSHP1.out) ?_
 clear hK hSHP1
 try simp only [rgPut]
 have HP1:Hid (LsB b3 ((yac fullCl).set 0 (.int .u64 (u 0:Nat))) (D2.setCell ⟨b3,0,none⟩ (.int .u64 (u 0:Nat)))∧Eff (fun b=>b=b3) W3 (D2.setCell ⟨b3,0,none⟩ (.int .u64 (u 0:Nat)))):=⟨HP0.out.1.set (k:=0) (by simp) _,HP0.out.2.set rfl _ _⟩
 have hSHP1:=hid (HC2.out _ HP1.out.2)
 have cc:=HP0.out.1.at (k:=0) rfl
 have cz:=HP0.out.1.z 0
 refine zzO 7 (fun K hK=>?_)
 go_simp
 refine hK.out _ _ (fun _=>hSHP1.out) ?_
 clear hK hSHP1 cc cz
 try simp only [rgPut]
 obtain ⟨HP1W,eHP1⟩:∃Z,D2.setCell ⟨b3,0,none⟩ (.int .u64 (u 0:Nat))=Z:=⟨_,rfl⟩
 rw [eHP1] at HP1⊢
 clear eHP1
 have hSHP2:=hid (HC2.out _ HP1.out.2)
 refine zzO 8 (fun K hK=>?_)
 go_simp
 refine hK.out _ _ (fun _=>hSHP2.out) ?_
 clear hK hSHP2
 try simp only [rgPut]
 have HP2:Hid (LsB b3 (((yac fullCl).set 0 (.int .u64 (u 0:Nat))).set 1 (.int .u64 (u 1:Nat))) (HP1W.setCell ⟨b3,1,none⟩ (.int .u64 (u 1:Nat)))∧Eff (fun b=>b=b3) W3 (HP1W.setCell ⟨b3,1,none⟩ (.int .u64 (u 1:Nat)))):=⟨HP1.out.1.set (k:=1) (by simp) _,HP1.out.2.set rfl _ _⟩
 have hSHP2:=hid (HC2.out _ HP2.out.2)
 have cc:=HP1.out.1.at (k:=1) rfl
 have cz:=HP1.out.1.z 1
 refine zzO 9 (fun K hK=>?_)
 go_simp
 refine hK.out _ _ (fun _=>hSHP2.out) ?_
 clear hK hSHP2 cc cz
 try simp only [rgPut]
 obtain ⟨HP2W,eHP2⟩:∃Z,HP1W.setCell ⟨b3,1,none⟩ (.int .u64 (u 1:Nat))=Z:=⟨_,rfl⟩
 rw [eHP2] at HP2⊢
 clear eHP2
 have hSHP3:=hid (HC2.out _ HP2.out.2)
 refine zzO 10 (fun K hK=>?_)
 go_simp
 refine hK.out _ _ (fun _=>hSHP3.out) ?_
 clear hK hSHP3
 try simp only [rgPut]
 have HP3:Hid (LsB b3 ((((yac fullCl).set 0 (.int .u64 (u 0:Nat))).set 1 (.int .u64 (u 1:Nat))).set 2 (.int .u64 (u 2:Nat))) (HP2W.setCell ⟨b3,2,none⟩ (.int .u64 (u 2:Nat)))∧Eff (fun b=>b=b3) W3 (HP2W.setCell ⟨b3,2,none⟩ (.int .u64 (u 2:Nat)))):=⟨HP2.out.1.set (k:=2) (by simp) _,HP2.out.2.set rfl _ _⟩
 have hSHP3:=hid (HC2.out _ HP3.out.2)
 have cc:=HP2.out.1.at (k:=2) rfl
 have cz:=HP2.out.1.z 2
 refine zzO 11 (fun K hK=>?_)
 go_simp
 refine hK.out _ _ (fun _=>hSHP3.out) ?_
 clear hK hSHP3 cc cz
 try simp only [rgPut]
 obtain ⟨HP3W,eHP3⟩:∃Z,HP2W.setCell ⟨b3,2,none⟩ (.int .u64 (u 2:Nat))=Z:=⟨_,rfl⟩
 rw [eHP3] at HP3⊢
 clear eHP3
 refine OrdF.done (by kernel_rfl) ?_ _
 clear hHeld HC2
 have HP4:Hid (LsB b3 ((((yac fullCl).set 0 (.int .u64 (u 0:Nat))).set 1 (.int .u64 (u 1:Nat))).set 2 (.int .u64 (u 2:Nat))) HP3W.drew∧Eff (fun b=>b=b3) W3 HP3W.drew):=⟨HP3.out.1.block (zG _) rfl,HP3.out.2.trans (Eff.of_below (Below.refl HP3W.heap.size HP3W).drew) (fun b hb=> .inl hb)⟩
 have HC3:Hid (∀W,Eff (fun b=>b=b3) W3 W→Hid (W.cell? ⟨bf,3,none⟩=some (.int .u64 (u 3:Nat))∧W.cell? ⟨bf,4,none⟩=some (.int .u64 (u 4:Nat))∧W.cell? ⟨bf,5,none⟩=some (.int .u64 (u 5:Nat))∧W.cell? ⟨bf,6,none⟩=some (.int .u64 (u 6:Nat)))):=fun W hE=>
  have h:=HK.out W hE
  ⟨h.c 3 (by omega),h.c 4 (by omega),h.c 5 (by omega),h.c 6 (by omega)⟩
 go_upto_region 3 with fail
 refine regF [] (S:=fun W=>Hid (W.cell? ⟨bf,3,none⟩=some (.int .u64 (u 3:Nat))∧W.cell? ⟨bf,4,none⟩=some (.int .u64 (u 4:Nat))∧W.cell? ⟨bf,5,none⟩=some (.int .u64 (u 5:Nat))∧W.cell? ⟨bf,6,none⟩=some (.int .u64 (u 6:Nat)))) (by kernel_rfl) (HC3.out _ HP4.out.2) (fun hHeld=>?_)
 obtain ⟨D3,eD⟩:∃Z,HP3W.drew=Z:=⟨_,rfl⟩
 rw [eD] at HP4 hHeld⊢
 clear eD
 refine zfA 0 ?_
 refine zfA 1 ?_
 refine zfA 2 ?_
 refine zfA 3 ?_
 refine zfA 4 ?_
 refine zfA 5 ?_
 refine zfA 6 ?_
 refine zfA 7 ?_
 have hSHP5:=hid (HC3.out _ HP4.out.2)
 refine zzO 8 (fun K hK=>?_)
 go_simp
 refine hK.out _ _ (fun _=>hSHP5.out) ?_
 clear hK hSHP5
 try simp only [rgPut]
 have HP5:Hid (LsB b3 (((((yac fullCl).set 0 (.int .u64 (u 0:Nat))).set 1 (.int .u64 (u 1:Nat))).set 2 (.int .u64 (u 2:Nat))).set 3 (.int .u64 (u 3:Nat))) (D3.setCell ⟨b3,3,none⟩ (.int .u64 (u 3:Nat)))∧Eff (fun b=>b=b3) W3 (D3.setCell ⟨b3,3,none⟩ (.int .u64 (u 3:Nat)))):=⟨HP4.out.1.set (k:=3) (by simp) _,HP4.out.2.set rfl _ _⟩
 have hSHP5:=hid (HC3.out _ HP5.out.2)
 have cc:=HP4.out.1.at (k:=3) rfl
 have cz:=HP4.out.1.z 3
 refine zzO 9 (fun K hK=>?_)
 go_simp
 refine hK.out _ _ (fun _=>hSHP5.out) ?_
 clear hK hSHP5 cc cz
 try simp only [rgPut]
 obtain ⟨HP5W,eHP5⟩:∃Z,D3.setCell ⟨b3,3,none⟩ (.int .u64 (u 3:Nat))=Z:=⟨_,rfl⟩
 rw [eHP5] at HP5⊢
 clear eHP5
 have hSHP6:=hid (HC3.out _ HP5.out.2)
 refine zzO 10 (fun K hK=>?_)
 go_simp
 refine hK.out _ _ (fun _=>hSHP6.out) ?_
 clear hK hSHP6
 try simp only [rgPut]
 have HP6:Hid (LsB b3 ((((((yac fullCl).set 0 (.int .u64 (u 0:Nat))).set 1 (.int .u64 (u 1:Nat))).set 2 (.int .u64 (u 2:Nat))).set 3 (.int .u64 (u 3:Nat))).set 4 (.int .u64 (u 4:Nat))) (HP5W.setCell ⟨b3,4,none⟩ (.int .u64 (u 4:Nat)))∧Eff (fun b=>b=b3) W3 (HP5W.setCell ⟨b3,4,none⟩ (.int .u64 (u 4:Nat)))):=⟨HP5.out.1.set (k:=4) (by simp) _,HP5.out.2.set rfl _ _⟩
 have hSHP6:=hid (HC3.out _ HP6.out.2)
 have cc:=HP5.out.1.at (k:=4) rfl
 have cz:=HP5.out.1.z 4
 refine zzO 11 (fun K hK=>?_)
 go_simp
 refine hK.out _ _ (fun _=>hSHP6.out) ?_
 clear hK hSHP6 cc cz
 try simp only [rgPut]
 obtain ⟨HP6W,eHP6⟩:∃Z,HP5W.setCell ⟨b3,4,none⟩ (.int .u64 (u 4:Nat))=Z:=⟨_,rfl⟩
 rw [eHP6] at HP6⊢
 clear eHP6
 have hSHP7:=hid (HC3.out _ HP6.out.2)
 refine zzO 12 (fun K hK=>?_)
 go_simp
 refine hK.out _ _ (fun _=>hSHP7.out) ?_
 clear hK hSHP7
 try simp only [rgPut]
 have HP7:Hid (LsB b3 (((((((yac fullCl).set 0 (.int .u64 (u 0:Nat))).set 1 (.int .u64 (u 1:Nat))).set 2 (.int .u64 (u 2:Nat))).set 3 (.int .u64 (u 3:Nat))).set 4 (.int .u64 (u 4:Nat))).set 5 (.int .u64 (u 5:Nat))) (HP6W.setCell ⟨b3,5,none⟩ (.int .u64 (u 5:Nat)))∧Eff (fun b=>b=b3) W3 (HP6W.setCell ⟨b3,5,none⟩ (.int .u64 (u 5:Nat)))):=⟨HP6.out.1.set (k:=5) (by simp) _,HP6.out.2.set rfl _ _⟩
 have hSHP7:=hid (HC3.out _ HP7.out.2)
 have cc:=HP6.out.1.at (k:=5) rfl
 have cz:=HP6.out.1.z 5
 refine zzO 13 (fun K hK=>?_)
 go_simp
 refine hK.out _ _ (fun _=>hSHP7.out) ?_
 clear hK hSHP7 cc cz
 try simp only [rgPut]
 obtain ⟨HP7W,eHP7⟩:∃Z,HP6W.setCell ⟨b3,5,none⟩ (.int .u64 (u 5:Nat))=Z:=⟨_,rfl⟩
 rw [eHP7] at HP7⊢
 clear eHP7
 have hSHP8:=hid (HC3.out _ HP7.out.2)
 refine zzO 14 (fun K hK=>?_)
 go_simp
 refine hK.out _ _ (fun _=>hSHP8.out) ?_
 clear hK hSHP8
 try simp only [rgPut]
 have HP8:Hid (LsB b3 ((((((((yac fullCl).set 0 (.int .u64 (u 0:Nat))).set 1 (.int .u64 (u 1:Nat))).set 2 (.int .u64 (u 2:Nat))).set 3 (.int .u64 (u 3:Nat))).set 4 (.int .u64 (u 4:Nat))).set 5 (.int .u64 (u 5:Nat))).set 6 (.int .u64 (u 6:Nat))) (HP7W.setCell ⟨b3,6,none⟩ (.int .u64 (u 6:Nat)))∧Eff (fun b=>b=b3) W3 (HP7W.setCell ⟨b3,6,none⟩ (.int .u64 (u 6:Nat)))):=⟨HP7.out.1.set (k:=6) (by simp) _,HP7.out.2.set rfl _ _⟩
 have hSHP8:=hid (HC3.out _ HP8.out.2)
 have cc:=HP7.out.1.at (k:=6) rfl
 have cz:=HP7.out.1.z 6
 refine zzO 15 (fun K hK=>?_)
 go_simp
 refine hK.out _ _ (fun _=>hSHP8.out) ?_
 clear hK hSHP8 cc cz
 try simp only [rgPut]
 obtain ⟨HP8W,eHP8⟩:∃Z,HP7W.setCell ⟨b3,6,none⟩ (.int .u64 (u 6:Nat))=Z:=⟨_,rfl⟩
 rw [eHP8] at HP8⊢
 clear eHP8
 refine OrdF.done (by kernel_rfl) ?_ _
 clear hHeld HC3
 have hfc:=HK.out _ HP8.out.2
 have ld7:=hfc.ld7
 obtain ⟨FY,hFY⟩:∃f:Nat→Nat,(fun i=>u (7+i))=f:=⟨_,rfl⟩
 rw [hFY] at ld7 cBo
 have HFY:=hid hFY
 have hs7:=yaw HP8W (set7 FY) 25
 have hsl7:Sl (HP8W.alloc (.cells (set7 FY).toArray 25)) (some ⟨HP8W.heap.size,0,none⟩) (sets [FY]):=by
  rw [sets,List.flatMap_cons,List.flatMap_nil,List.append_nil]
  exact ycK hs7 (by simp)
 have hbn:Below HP8W.heap.size HP8W (HP8W.alloc (.cells (set7 FY).toArray 25)):=yaa (Below.refl _ _) (zG _)
 have cB7:=hid (cBo.out _ _ hsl7)
 have Hbn:=hid hbn
 clear hs7 hsl7 hbn hFY hfc
 go_wp2_with fail
 refine cB7.out.mono ?_
 rintro e w5 ⟨rfl,hB⟩
 have hB5:=Hbn.out.trans (hB.mono Hbn.out.size)
 have HP9:Hid (LsB b3 ((((((((yac fullCl).set 0 (.int .u64 (u 0:Nat))).set 1 (.int .u64 (u 1:Nat))).set 2 (.int .u64 (u 2:Nat))).set 3 (.int .u64 (u 3:Nat))).set 4 (.int .u64 (u 4:Nat))).set 5 (.int .u64 (u 5:Nat))).set 6 (.int .u64 (u 6:Nat))) w5∧Eff (fun b=>b=b3) W3 w5):=⟨HP8.out.1.block hB5.size (hB5.block _ HP8.out.1.lt),HP8.out.2.trans (Eff.of_below hB5) (fun b hb=> .inl hb)⟩
 obtain ⟨GY,hGY⟩:∃f:Nat→Nat,ybm [FY]=f:=⟨_,rfl⟩
 rw [hGY]
 have HGY:=hid hGY
 have cst:=HP9.out.1.st7 (by simp) GY
 have HP10:Hid (LsB b3 (((((((((((((((yac fullCl).set 0 (.int .u64 (u 0:Nat))).set 1 (.int .u64 (u 1:Nat))).set 2 (.int .u64 (u 2:Nat))).set 3 (.int .u64 (u 3:Nat))).set 4 (.int .u64 (u 4:Nat))).set 5 (.int .u64 (u 5:Nat))).set 6 (.int .u64 (u 6:Nat))).set 18 (.int .u64 (GY 0:Nat))).set 19 (.int .u64 (GY 1:Nat))).set 20 (.int .u64 (GY 2:Nat))).set 21 (.int .u64 (GY 3:Nat))).set 22 (.int .u64 (GY 4:Nat))).set 23 (.int .u64 (GY 5:Nat))).set 24 (.int .u64 (GY 6:Nat))) (w5.setCells b3 18 (l7w GY))∧Eff (fun b=>b=b3) W3 (w5.setCells b3 18 (l7w GY))):=⟨HP9.out.1.put7 (by simp) GY,Eff.setCells (O:=fun x=>x=b3) rfl (l7w GY) 18 _ HP9.out.2⟩
 obtain ⟨w6,hw6⟩:∃W,w5.setCells b3 18 (l7w GY)=W:=⟨_,rfl⟩
 rw [hw6] at HP10 cst
 clear hB hB5 Hbn cB7 ld7 hw6 hGY cBo
 go_upto_region 5 with fail
 clear cst
 have HP11:Hid (LsB b3 (((((((((((((((yac fullCl).set 0 (.int .u64 (u 0:Nat))).set 1 (.int .u64 (u 1:Nat))).set 2 (.int .u64 (u 2:Nat))).set 3 (.int .u64 (u 3:Nat))).set 4 (.int .u64 (u 4:Nat))).set 5 (.int .u64 (u 5:Nat))).set 6 (.int .u64 (u 6:Nat))).set 18 (.int .u64 (GY 0:Nat))).set 19 (.int .u64 (GY 1:Nat))).set 20 (.int .u64 (GY 2:Nat))).set 21 (.int .u64 (GY 3:Nat))).set 22 (.int .u64 (GY 4:Nat))).set 23 (.int .u64 (GY 5:Nat))).set 24 (.int .u64 (GY 6:Nat))) w6.drew∧Eff (fun b=>b=b3) W3 w6.drew):=⟨HP10.out.1.block (zG _) rfl,HP10.out.2.trans (Eff.of_below (Below.refl w6.heap.size w6).drew) (fun b hb=> .inl hb)⟩
 have HC5:Hid (∀W,Eff (fun b=>b=b3) W3 W→Hid (W.cell? ⟨bf,46,none⟩=some (.int .i64 fi)∧W.cell? ⟨bf,47,none⟩=some (.int .i64 la))):=fun W hE=>
  have h:=HK.out W hE
  ⟨h.c46,h.c47⟩
 go_upto_region 5 with fail
 refine regF [] (S:=fun W=>Hid (W.cell? ⟨bf,46,none⟩=some (.int .i64 fi)∧W.cell? ⟨bf,47,none⟩=some (.int .i64 la))) (by kernel_rfl) (HC5.out _ HP11.out.2) (fun hHeld=>?_)
 obtain ⟨D5,eD⟩:∃Z,w6.drew=Z:=⟨_,rfl⟩
 rw [eD] at HP11 hHeld⊢
 clear eD
 refine zfA 0 ?_
 refine zfA 1 ?_
 refine zfA 2 ?_
 refine zfA 3 ?_
 have hSHP12:=hid (HC5.out _ HP11.out.2)
 refine zzO 4 (fun K hK=>?_)
 go_simp
 refine hK.out _ _ (fun _=>hSHP12.out) ?_
 clear hK hSHP12
 try simp only [rgPut]
 have HP12:Hid (LsB b3 ((((((((((((((((yac fullCl).set 0 (.int .u64 (u 0:Nat))).set 1 (.int .u64 (u 1:Nat))).set 2 (.int .u64 (u 2:Nat))).set 3 (.int .u64 (u 3:Nat))).set 4 (.int .u64 (u 4:Nat))).set 5 (.int .u64 (u 5:Nat))).set 6 (.int .u64 (u 6:Nat))).set 18 (.int .u64 (GY 0:Nat))).set 19 (.int .u64 (GY 1:Nat))).set 20 (.int .u64 (GY 2:Nat))).set 21 (.int .u64 (GY 3:Nat))).set 22 (.int .u64 (GY 4:Nat))).set 23 (.int .u64 (GY 5:Nat))).set 24 (.int .u64 (GY 6:Nat))).set 28 (.int .i64 fi)) (D5.setCell ⟨b3,28,none⟩ (.int .i64 fi))∧Eff (fun b=>b=b3) W3 (D5.setCell ⟨b3,28,none⟩ (.int .i64 fi))):=⟨HP11.out.1.set (k:=28) (by simp) _,HP11.out.2.set rfl _ _⟩
 have hSHP12:=hid (HC5.out _ HP12.out.2)
 have cc:=HP11.out.1.at (k:=28) rfl
 have cz:=HP11.out.1.z 28
 refine zzO 5 (fun K hK=>?_)
 go_simp
 refine hK.out _ _ (fun _=>hSHP12.out) ?_
 clear hK hSHP12 cc cz
 try simp only [rgPut]
 obtain ⟨HP12W,eHP12⟩:∃Z,D5.setCell ⟨b3,28,none⟩ (.int .i64 fi)=Z:=⟨_,rfl⟩
 rw [eHP12] at HP12⊢
 clear eHP12
 have hSHP13:=hid (HC5.out _ HP12.out.2)
 refine zzO 6 (fun K hK=>?_)
 go_simp
 refine hK.out _ _ (fun _=>hSHP13.out) ?_
 clear hK hSHP13
 try simp only [rgPut]
 have HP13:Hid (LsB b3 (((((((((((((((((yac fullCl).set 0 (.int .u64 (u 0:Nat))).set 1 (.int .u64 (u 1:Nat))).set 2 (.int .u64 (u 2:Nat))).set 3 (.int .u64 (u 3:Nat))).set 4 (.int .u64 (u 4:Nat))).set 5 (.int .u64 (u 5:Nat))).set 6 (.int .u64 (u 6:Nat))).set 18 (.int .u64 (GY 0:Nat))).set 19 (.int .u64 (GY 1:Nat))).set 20 (.int .u64 (GY 2:Nat))).set 21 (.int .u64 (GY 3:Nat))).set 22 (.int .u64 (GY 4:Nat))).set 23 (.int .u64 (GY 5:Nat))).set 24 (.int .u64 (GY 6:Nat))).set 28 (.int .i64 fi)).set 29 (.int .i64 la)) (HP12W.setCell ⟨b3,29,none⟩ (.int .i64 la))∧Eff (fun b=>b=b3) W3 (HP12W.setCell ⟨b3,29,none⟩ (.int .i64 la))):=⟨HP12.out.1.set (k:=29) (by simp) _,HP12.out.2.set rfl _ _⟩
 have hSHP13:=hid (HC5.out _ HP13.out.2)
 have cc:=HP12.out.1.at (k:=29) rfl
 have cz:=HP12.out.1.z 29
 refine zzO 7 (fun K hK=>?_)
 go_simp
 refine hK.out _ _ (fun _=>hSHP13.out) ?_
 clear hK hSHP13 cc cz
 try simp only [rgPut]
 obtain ⟨HP13W,eHP13⟩:∃Z,HP12W.setCell ⟨b3,29,none⟩ (.int .i64 la)=Z:=⟨_,rfl⟩
 rw [eHP13] at HP13⊢
 clear eHP13
 refine OrdF.done (by kernel_rfl) ?_ _
 clear hHeld HC5
 have hCl:ClB HP13W b3 (boxC u fi la):=by
  have h:=HP13.out.1.r
  rw [←HGY.out,←HFY.out] at h
  exact h
 have ht9:=HKT.out _ HP13.out.2
 have HE9:=hid HP13.out.2
 have hld:=hCl.ld
 obtain ⟨c,hc⟩:∃c,boxC u fi la=c:=⟨_,rfl⟩
 rw [hc] at hld
 have HC:=hid hc
 have hPr:(yby HP13W b2 (yac c)).rangeAt b2 0 (yac c):=yaV _ rfl ht9
 have HPr:=hid hPr
 have HBf:Hid (Below w.heap.size w (yby HP13W b2 (yac c))):=yaW (HB3.out.trans (HE9.out.below (by rintro b rfl; have:=Hlt.out; have h1:=Ef.out; have h2:=E2.out; omega) HB3.out.size)) (by have:=Hlt.out; have h1:=Ef.out; omega) _
 obtain ⟨W9,hW9⟩:∃W,yby HP13W b2 (yac c)=W:=⟨_,rfl⟩
 rw [hW9] at HPr HBf
 have HW9:=hid hW9
 clear hCl hPr hc hW9
 go_wp2
 (try rw [HW9.out])
 exact bodyPost_ret (yad (p:=2) rfl _ _ b2 0 _ _ rfl HPr.out Tryz.underlying36 rfl ygA) rfl ⟨by rw [HC.out],HBf.out⟩
end
end Go.Proofs.YtkpgfmonhfnhdaaGreatDoor
