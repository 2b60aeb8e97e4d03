/-
  A set held to one hour, month, second or year (plain).
  cast.Box: the clause of a face.
  pulse.Of: a set's pulse in each unit.
-/
import Derived.Test.YtkpgfmonhfnhdaaGreatDoorQ5d8002
import Derived.Test.YtkpgfmonhfnhdaaGreatDoorQeca3d8
import Derived.Test.YtkpgfmonhfnhdaaGreatDoorQ02743d
import Derived.Test.YtkpgfmonhfnhdaaGreatDoorQfea719
import Derived.Test.YtkpgfmonhfnhdaaGreatDoorQ0be0eb
import Derived.Test.YtkpgfmonhfnhdaaGreatDoorQ98c01e
import Derived.Deep.CutRange
set_option maxRecDepth 100000
set_option maxHeartbeats 25600000
namespace Go.Proofs.YtkpgfmonhfnhdaaGreatDoor
set_option linter.unusedVariables false
section
open Go.RowKit Go.Maps
attribute [local irreducible] secL
def mset (i v:Nat) (c:Cl):Cl:={c with m:=fun j=>if j=i then v else c.m j}
def rstC (k:Nat) (h:Int) (c:Cl):Cl:=
 if k=0 then mset 2 (c.m 2 &&& ofM [h]) c else if k=1 then mset 3 (c.m 3 &&& ofM [h]) c else if k=2 then mset 0 (c.m 0 &&& ofM [h]) c
 else {c with ys:=wof (if hasW c.ys h then [h] else [])}
def fldI (k:Nat) (t:Int):Int:=if k=0 then t % 86400 / 3600 else if k=1 then shF (t / 86400) 2 else if k=2 then t % 86400 % 60 else shF (t / 86400) 1 - 1970
def inF (k:Nat) (h:Int) (u:Nat→Nat):Bool:=if k=0 then hasB (u 2) h else if k=1 then hasB (u 3) h else if k=2 then hasB (u 0) h else hasW (fun i=>u (7+i)) h
def fldR (k:Nat) (h:Int):Prop:=0≤h∧(k=3→h < 400)∧(k < 3→h < 64)∧k < 4
theorem four {k:Nat} (h:k < 4):k=0∨k=1∨k=2∨k=3:=by omega
theorem cbAnd (x y:Nat) (n:Int):hasB (x &&& y) n= (hasB x n && hasB y n):=by
 rw [hasB,hasB,hasB,Nat.testBit_and]
 cases decide (0≤n) <;> simp
theorem cbOne {x y:Int} (h0:0≤y) (h1:y < 64):hasB (ofM [x]) y=decide (y=x):=by
 rw [hasB,ych,zzZ h0,zzZ (show y.toNat < 64 by omega),zzo,zzo,Int.toNat_of_nonneg h0]
 simp
theorem cbBits {x y:Nat} {lo hi:Int} (h:ybc x lo hi=true):ybc (x &&& y) lo hi=true:=by
 rw [bitsB_iff] at h⊢
 intro k hk hb
 rw [Nat.testBit_and,zzX] at hb
 exact h k hk hb.1
theorem cbYrs (l:List Int) {x:Int} (h0:0≤x) (h1:x < 400):hasW (wof l) x=decide (x∈l):=by
 rw [hasW,mayB,zzZ h0,zzZ h1,zzo,zzo,bitW,wof,yaw,inWB,show 64 * (x.toNat / 64)+x.toNat % 64=x.toNat by omega,Int.toNat_of_nonneg h0,zzZ (show x.toNat % 64 < 64 by omega),zzZ (show x.toNat < 400 by omega),zzo,Bool.and_true]
theorem wof_full (l:List Int) (i:Nat):inW (wof l) i=wof l i:=by
 apply Nat.eq_of_testBit_eq
 intro k
 rw [inW,Nat.testBit_and,wof,yaw,inWB]
 by_cases h:k < 64∧64 * i+k < 400
 ·have hf:=yg6 (n:=((64 * i+k:Nat):Int)) (by omega) (by omega)
  rw [hasW,zzX,bitW,Int.toNat_natCast,show (64 * i+k) / 64=i by omega,show (64 * i+k) % 64=k by omega] at hf
  rw [hf.2,Bool.and_true]
 ·have e:(decide (k < 64) && (decide (((64 * i+k:Nat):Int)∈l) && decide (64 * i+k < 400)))=false:=by
   cases hd:decide (k < 64)
   ·rfl
   ·have h1:k < 64:=by simpa using hd
    rw [zzd (show¬64 * i+k < 400 by omega)]; simp
  rw [e,Bool.false_and]
theorem rst_may {k:Nat} {h:Int} (hk:k < 4) {c:Cl} (hm:mayC c=true):mayC (rstC k h c)=true:=by
 simp only [mayC,yb9,zzX,zzY] at hm
 obtain ⟨⟨m0,m1,m2,m3,m4,m5,m6⟩,ho,hy,hu,hs,ha⟩:=hm
 rcases four hk with rfl | rfl | rfl | rfl
 ·simp only [mayC,yb9,zzX,zzY]
  exact ⟨⟨m0,m1,cbBits m2,m3,m4,m5,m6⟩,ho,hy,hu,hs,ha⟩
 ·simp only [mayC,yb9,zzX,zzY]
  exact ⟨⟨m0,m1,m2,cbBits m3,m4,m5,m6⟩,ho,hy,hu,hs,ha⟩
 ·simp only [mayC,yb9,zzX,zzY]
  exact ⟨⟨cbBits m0,m1,m2,m3,m4,m5,m6⟩,ho,hy,hu,hs,ha⟩
 ·simp only [mayC,yb9,zzX,zzY]
  exact ⟨⟨m0,m1,m2,m3,m4,m5,m6⟩,ho,(yhX _ _).2 fun i _=>wof_full _ i,hu,hs,ha⟩
theorem rst_ok {k:Nat} {h:Int} (hk:k < 4) {c:Cl} (hc:c.Ok):(rstC k h c).Ok:=by
 rcases four hk with rfl | rfl | rfl | rfl
 ·exact ⟨fun i hi=>by show (if i=2 then _ else _) < _; split; exact yaU (hc.m 2 (by omega)); exact hc.m i hi,hc.od,hc.ys,hc.oin,hc.unit,hc.step,hc.anchor,hc.fr,hc.un⟩
 ·exact ⟨fun i hi=>by show (if i=3 then _ else _) < _; split; exact yaU (hc.m 3 (by omega)); exact hc.m i hi,hc.od,hc.ys,hc.oin,hc.unit,hc.step,hc.anchor,hc.fr,hc.un⟩
 ·exact ⟨fun i hi=>by show (if i=0 then _ else _) < _; split; exact yaU (hc.m 0 (by omega)); exact hc.m i hi,hc.od,hc.ys,hc.oin,hc.unit,hc.step,hc.anchor,hc.fr,hc.un⟩
 ·exact ⟨hc.m,hc.od,fun i hi=>wof_lt _ i,hc.oin,hc.unit,hc.step,hc.anchor,hc.fr,hc.un⟩
theorem rst_has {k:Nat} {h:Int} (hr:fldR k h) {c:Cl} (hm:mayC c=true) (t:Int):hasC (rstC k h c) t=true↔hasC c t=true∧fldI k t=h:=by
 obtain ⟨h0,h3,h2,h4⟩:=hr
 by_cases hw:winB t=true
 ·have hT:=(win_iff t).1 hw
  have r:=shp_rng (D:=t / 86400) (by omega) (by omega)
  have hm':=rst_may (k:=k) (h:=h) h4 hm
  rw [ygd,ygd,hm',hm]
  rcases four h4 with rfl | rfl | rfl | rfl
  ·have e:yaW (t % 86400) ((rstC 0 h c).m 2) ((rstC 0 h c).m 1) ((rstC 0 h c).m 0)= (yaW (t % 86400) (c.m 2) (c.m 1) (c.m 0) && decide (t % 86400 / 3600=h)):=by
    show yaW (t % 86400) (c.m 2 &&& ofM [h]) (c.m 1) (c.m 0)= _
    rw [yaW,yaW,cbAnd,cbOne (by omega) (by omega)]
    generalize dayB (t % 86400)=a0; generalize hasB (c.m 2) (t % 86400 / 3600)=a1; generalize decide (t % 86400 / 3600=h)=a2; generalize hasB (c.m 1) (t % 86400 / 60 % 60)=a3; generalize hasB (c.m 0) (t % 86400 % 60)=a4
    cases a0 <;> cases a1 <;> cases a2 <;> cases a3 <;> cases a4 <;> rfl
   have ed:dayC (rstC 0 h c) (t / 86400)=dayC c (t / 86400):=by rw [dayC,dayC,hm',hm]; rfl
   rw [e,ed,zzX,zzY]
   show (_∧_∧betB c.fr c.un t=true∧_∧onB c.unit c.step c.anchor t=true∧_)↔_∧t % 86400 / 3600=h
   constructor
   ·rintro ⟨a,b,d,⟨e1,e2⟩,f,g⟩; exact ⟨⟨a,b,d,e1,f,g⟩,e2⟩
   ·rintro ⟨⟨a,b,d,e1,f,g⟩,e2⟩; exact ⟨a,b,d,⟨e1,e2⟩,f,g⟩
  ·have ed:dayC (rstC 1 h c) (t / 86400)= (dayC c (t / 86400) && decide (shF (t / 86400) 2=h)):=by
    rw [dayC,dayC,hm',hm]
    show (true && ((domB c _ && (hasB (c.m 3 &&& ofM [h]) (shF (t / 86400) 2) && (_ && (_ && _)))) && _))= _
    rw [cbAnd,cbOne (by omega) (by omega),yhZ]
    generalize domB c (shF (t / 86400))=a0; generalize hasB (c.m 3) (shF (t / 86400) 2)=a1; generalize decide (shF (t / 86400) 2=h)=a2
    cases a0 <;> cases a1 <;> cases a2 <;> simp
    all_goals rfl
   rw [ed,zzX,zzY]
   show (_∧_∧betB c.fr c.un t=true∧yaW (t % 86400) (c.m 2) (c.m 1) (c.m 0)=true∧onB c.unit c.step c.anchor t=true∧_)↔_∧shF (t / 86400) 2=h
   constructor
   ·rintro ⟨a,b,d,e1,f,g,e2⟩; exact ⟨⟨a,b,d,e1,f,g⟩,e2⟩
   ·rintro ⟨⟨a,b,d,e1,f,g⟩,e2⟩; exact ⟨a,b,d,e1,f,g,e2⟩
  ·have e:yaW (t % 86400) ((rstC 2 h c).m 2) ((rstC 2 h c).m 1) ((rstC 2 h c).m 0)= (yaW (t % 86400) (c.m 2) (c.m 1) (c.m 0) && decide (t % 86400 % 60=h)):=by
    show yaW (t % 86400) (c.m 2) (c.m 1) (c.m 0 &&& ofM [h])= _
    rw [yaW,yaW,cbAnd,cbOne (by omega) (by omega)]
    generalize dayB (t % 86400)=a0; generalize hasB (c.m 2) (t % 86400 / 3600)=a1; generalize decide (t % 86400 % 60=h)=a2; generalize hasB (c.m 1) (t % 86400 / 60 % 60)=a3; generalize hasB (c.m 0) (t % 86400 % 60)=a4
    cases a0 <;> cases a1 <;> cases a2 <;> cases a3 <;> cases a4 <;> rfl
   have ed:dayC (rstC 2 h c) (t / 86400)=dayC c (t / 86400):=by rw [dayC,dayC,hm',hm]; rfl
   rw [e,ed,zzX,zzY]
   show (_∧_∧betB c.fr c.un t=true∧_∧onB c.unit c.step c.anchor t=true∧_)↔_∧t % 86400 % 60=h
   constructor
   ·rintro ⟨a,b,d,⟨e1,e2⟩,f,g⟩; exact ⟨⟨a,b,d,e1,f,g⟩,e2⟩
   ·rintro ⟨⟨a,b,d,e1,f,g⟩,e2⟩; exact ⟨a,b,d,⟨e1,e2⟩,f,g⟩
  ·have ey:hasW (wof (if hasW c.ys h then [h] else [])) (shF (t / 86400) 1 - 1970)= (hasW c.ys (shF (t / 86400) 1 - 1970) && decide (shF (t / 86400) 1 - 1970=h)):=by
    rw [cbYrs _ r.2.2.2.2.1 r.2.2.2.2.2]
    by_cases e:shF (t / 86400) 1 - 1970=h
    ·rw [e,zzZ (rfl:h=h),Bool.and_true]
     cases hasW c.ys h <;> simp
    ·rw [zzd e,Bool.and_false]
     cases hasW c.ys h <;> simp [e]
   have ed:dayC (rstC 3 h c) (t / 86400)= (dayC c (t / 86400) && decide (shF (t / 86400) 1 - 1970=h)):=by
    rw [dayC,dayC,hm',hm]
    show (true && ((domB c (shF (t / 86400)) && (hasB (c.m 3) (shF (t / 86400) 2) && (hasB (c.m 5) (shF (t / 86400) 4) && (hasW (wof (if hasW c.ys h then [h] else [])) (shF (t / 86400) 1 - 1970) && nthB c.oin c.oback c.od (shF (t / 86400)))))) && ycs c.unit c.step c.anchor (t / 86400)))= _
    rw [ey,yhZ]
    ac_rfl
   rw [ed,zzX,zzY]
   show (_∧_∧betB c.fr c.un t=true∧yaW (t % 86400) (c.m 2) (c.m 1) (c.m 0)=true∧onB c.unit c.step c.anchor t=true∧_)↔_∧shF (t / 86400) 1 - 1970=h
   constructor
   ·rintro ⟨a,b,d,e1,f,g,e2⟩; exact ⟨⟨a,b,d,e1,f,g⟩,e2⟩
   ·rintro ⟨⟨a,b,d,e1,f,g⟩,e2⟩; exact ⟨a,b,d,e1,f,g,e2⟩
 ·constructor
  ·intro h; exact absurd ((ygd _ _).1 h).1 hw
  ·intro h; exact absurd ((ygd _ _).1 h.1).1 hw
section
variable {l:List Cl} {u:Nat→Nat} {fi la n:Int} {ev sq:Bool}
theorem inF_iff (hp:FaceP l u fi la n ev sq) {k:Nat} {h:Int} (hr:fldR k h):inF k h u=true↔∃t,yam l t=true∧fldI k t=h:=by
 obtain ⟨h0,h3,h2,h4⟩:=hr
 have sec:∀{D s:Int},s∈secL (dayQ l D)→yam l (86400 * D+s)=true∧(86400 * D+s) % 86400=s∧(86400 * D+s) / 86400=D:=fun hs=>by
  obtain ⟨a,b,c⟩:=xSec hs
  exact ⟨a,by omega,by omega⟩
 have bit:∀{m:Nat},hasB m h=true↔m.testBit h.toNat=true:=by
  intro m; rw [hasB,zzZ h0,zzo]
 rcases four h4 with rfl | rfl | rfl | rfl
 ·show hasB (u 2) h=true↔∃t,yam l t=true∧t % 86400 / 3600=h
  constructor
  ·intro hb
   obtain ⟨s,⟨D,hs⟩,e⟩:=hp.hm.h _ (bit.1 hb)
   obtain ⟨a,b,c⟩:=sec hs
   have:=hp.hm.rng s ⟨D,hs⟩
   exact ⟨_,a,by rw [b]; omega⟩
  ·rintro ⟨t,ht,rfl⟩
   obtain ⟨-,-,hs,-⟩:=yjr ht
   exact bit.2 (hp.hm.inn _ ⟨_,hs⟩).1
 ·show hasB (u 3) h=true↔∃t,yam l t=true∧shF (t / 86400) 2=h
  rw [fldB hp (by omega) (by omega) h0 (h2 (by omega))]
  constructor
  ·rintro ⟨D,hD,e⟩
   obtain ⟨s,hs⟩:=ydw.1 hD
   obtain ⟨a,b,c⟩:=sec hs
   exact ⟨_,a,by rw [c]; exact e⟩
  ·rintro ⟨t,ht,e⟩
   exact ⟨_,(yjr ht).2.2.2,e⟩
 ·show hasB (u 0) h=true↔∃t,yam l t=true∧t % 86400 % 60=h
  constructor
  ·intro hb
   obtain ⟨s,⟨D,hs⟩,e⟩:=hp.hm.s _ (bit.1 hb)
   obtain ⟨a,b,c⟩:=sec hs
   have:=hp.hm.rng s ⟨D,hs⟩
   exact ⟨_,a,by rw [b]; omega⟩
  ·rintro ⟨t,ht,rfl⟩
   obtain ⟨-,-,hs,-⟩:=yjr ht
   exact bit.2 (hp.hm.inn _ ⟨_,hs⟩).2.2
 ·show hasW (fun i=>u (7+i)) h=true↔∃t,yam l t=true∧shF (t / 86400) 1 - 1970=h
  rw [yrB hp h0 (h3 rfl)]
  constructor
  ·rintro ⟨D,hD,e⟩
   obtain ⟨s,hs⟩:=ydw.1 hD
   obtain ⟨a,b,c⟩:=sec hs
   exact ⟨_,a,by rw [c]; exact e⟩
  ·rintro ⟨t,ht,e⟩
   exact ⟨_,(yjr ht).2.2.2,e⟩
theorem yiD {k:Nat} {h:Int} (hr:fldR k h) (hm:∀c∈l,mayC c=true) (t:Int):yam (l.map (rstC k h)) t=true↔yam l t=true∧fldI k t=h:=by
 rw [yam,yam,List.any_eq_true,List.any_eq_true]
 constructor
 ·rintro ⟨d,hd,ht⟩
  obtain ⟨c,hc,rfl⟩:=List.mem_map.1 hd
  obtain ⟨h1,h2⟩:=(rst_has hr (hm c hc) t).1 ht
  exact ⟨⟨c,hc,h1⟩,h2⟩
 ·rintro ⟨⟨c,hc,h1⟩,h2⟩
  exact ⟨_,List.mem_map.2 ⟨c,hc,rfl⟩,(rst_has hr (hm c hc) t).2 ⟨h1,h2⟩⟩
theorem rst_none (hp:FaceP l u fi la n ev sq) {k:Nat} {h:Int} (hr:fldR k h) (hm:∀c∈l,mayC c=true) {y:Bool} {t:Int} {f:Bool} (hv:VerP (fun p q=>p && !q) (l.map (rstC k h)) [] y t f):y= !inF k h u:=by
 have e:y=true↔NoneP (fun p q=>p && !q) (l.map (rstC k h)) []:=by
  rcases hv with ⟨h,rfl,-,-⟩ | ⟨h,rfl,-⟩
  ·exact ⟨fun _=>h,fun _=>rfl⟩
  ·exact ⟨fun h=>(by cases h),fun k=>by have:=h.2.2.1; rw [k t] at this; cases this⟩
 have g:NoneP (fun p q=>p && !q) (l.map (rstC k h)) []↔¬inF k h u=true:=by
  rw [inF_iff hp hr]
  constructor
  ·rintro hn ⟨t,ht,e⟩
   have h1:=hn t
   simp only [(yiD hr hm t).2 ⟨ht,e⟩,zzo] at h1
   revert h1
   show (!false)=false→False
   intro h; cases h
  ·intro hn t
   cases ht:yam (l.map (rstC k h)) t
   ·rfl
   ·exact absurd ⟨t,(yiD hr hm t).1 ht⟩ hn
 cases hi:inF k h u
 ·exact e.2 (g.2 (by rw [hi]; simp))
 ·cases y
  ·rfl
  ·exact absurd hi (g.1 (e.1 rfl))
theorem rst_mayL {k:Nat} (h:Int) (hk:k < 4) (hm:mayL l=true):mayL (l.map (rstC k h))=true:=by
 rw [mayL,zzX,zzY,List.all_eq_true] at hm⊢
 refine ⟨by rw [List.length_map]; exact hm.1,fun d hd=>?_⟩
 obtain ⟨c,hc,rfl⟩:=List.mem_map.1 hd
 exact rst_may hk (hm.2 c hc)
theorem ends_are (hp:FaceP l u fi la n ev sq) (hf:yah l=0):(0 < n∧ydn l (-1)= (fi,0)∧ydm l 12622780800= (la,0))∨(ydn l (-1)= (0,15)∧ydm l 12622780800= (0,15)∧fcv u fi la n ev sq=fcv (fun _=>0) 0 0 0 true true):=by
 rcases Nat.eq_zero_or_pos (allD l).length with h0 | h0
 ·have hX:allD l= []:=List.eq_nil_of_length_eq_zero h0
  have hno:∀t,yam l t=false:=fun t=>by
   cases e:yam l t
   ·rfl
   ·have:=(yjr e).2.2.2
    rw [hX] at this; cases this
  have hP:∀s,¬∃D,s∈secL (dayQ l D):=fun s ⟨D,hs⟩=>by
   have:=ydw.2 ⟨s,hs⟩
   rw [show dayS l (yac 0 146096)= [] from hX] at this; cases this
  have hu:∀i,i < 46→u i= (fun _=>0) i:=fun i hi=>by
   by_cases e:i < 3
   ·apply Nat.eq_of_testBit_eq
    intro k
    rw [Nat.zero_testBit]
    cases hb:(u i).testBit k
    ·rfl
    ·exfalso
     have:i=0∨i=1∨i=2:=by omega
     rcases this with rfl | rfl | rfl
     ·obtain ⟨s,hs,-⟩:=hp.hm.s k hb; exact hP s hs
     ·obtain ⟨s,hs,-⟩:=hp.hm.m k hb; exact hP s hs
     ·obtain ⟨s,hs,-⟩:=hp.hm.h k hb; exact hP s hs
   ·have h3:=hp.us i (by omega) hi
    rw [h3,show dayS l (yac 0 146096)= [] from hX]
    have z:ofM []=0:=by rw [ofM,←ybu]; exact yaC fun i _=>by simp [inB]
    rw [fcU,if_neg (by omega),if_neg (by omega),if_neg (by omega)]
    simp only [List.map_nil,List.filter_nil,z,wof_nil]
    split
    ·rfl
    ·split
     ·rfl
     ·split
      ·rfl
      ·split
       ·rfl
       ·split <;> rfl
  have e1:fi=0:=by rw [hp.fi,show dayS l (yac 0 146096)= [] from hX]; rfl
  have e2:la=0:=by rw [hp.la,show dayS l (yac 0 146096)= [] from hX]; rfl
  have e3:n=0:=by rw [hp.n,show dayS l (yac 0 146096)= [] from hX]; rfl
  have e4:ev=true:=by rw [hp.ev,show dayS l (yac 0 146096)= [] from hX]; rfl
  have e5:sq=true:=by rw [hp.sq,show dayS l (yac 0 146096)= [] from hX]; rfl
  refine .inr ⟨?_,?_,by rw [e1,e2,e3,e4,e5]; exact fcv_same _ _ _ _ _ hu⟩
  ·rcases yfq (t:=-1) hf with ⟨y,e,h1,-,-⟩ | ⟨e,-⟩
   ·rw [hno y] at h1; cases h1
   ·exact e
  ·rcases yfn (t:=12622780800) hf with ⟨y,e,h1,-,-⟩ | ⟨e,-⟩
   ·rw [hno y] at h1; cases h1
   ·exact e
 ·obtain ⟨f1,f2,f3⟩:=fl_is hp h0
  refine .inl ⟨by have e:n= ((allD l).length:Nat):=hp.n; omega,nextP_is hf ⟨f1,by have:=(ybJ f1).1; omega,fun y h1 h2=>?_⟩,prevP_is hf ⟨f2,by have:=(ybJ f2).2; omega,fun y h1 h2=>?_⟩⟩
  ·cases e:yam l y
   ·rfl
   ·have:=(f3 y e).1; omega
  ·cases e:yam l y
   ·rfl
   ·have:=(f3 y e).2; omega
end
end
section
open Go.RowKit Go.Maps
attribute [local irreducible] secL
def ydp (v:Value):Sem Value:=Instr.loadAt 25 v
theorem yjH (v:Value):Instr.loadAt 25 v=ydp v:=rfl
def yfO (v x:Value):Sem Unit:=Instr.storeAt 25 v x
theorem yjy (v x:Value):Instr.storeAt 25 v x=yfO v x:=rfl
theorem infoB7:(Tryz.prog.info? 25).map (·.size)=some 7:=by kernel_rfl
def l7w (f:Nat→Nat):List Value:= [.int .u64 (f 0:Nat), .int .u64 (f 1:Nat), .int .u64 (f 2:Nat), .int .u64 (f 3:Nat), .int .u64 (f 4:Nat), .int .u64 (f 5:Nat), .int .u64 (f 6:Nat)]
theorem FcB.ld7 {b:Nat} {u:Nat→Nat} {fi la n:Int} {ev sq:Bool} {W:World} (h:FcB b u fi la n ev sq W):(ydp (.pointer (some ⟨b,7,none⟩))).run Tryz.prog W= .ok (wv fun i=>u (7+i)) W:=by
 have hr:W.rangeAt b 7 (l7w fun i=>u (7+i)):=fun j v hv=>by
  obtain ⟨hj,e⟩:=zzq.1 hv
  have hj7:j < 7:=hj
  rw [h.c (7+j) (by omega),←e]
  rcases ye9 hj7 with rfl | rfl | rfl | rfl | rfl | rfl | rfl <;> rfl
 unfold ydp
 simp only [Instr.loadAt,Instr.sureAddr,Sem.run_bind,Sem.run_pure,Result.andThen_ok,run_loadVar_mid W b 7 25 (l7w fun i=>u (7+i)) _ hr Tryz.underlying25 rfl infoB7]
 rfl
structure LsB (b:Nat) (L:List Value) (W:World):Prop where
 r:W.rangeAt b 0 L
 z:∀i,W.frozen? ⟨b,i,none⟩=false
 lt:b < W.heap.size
theorem LsB.block {b:Nat} {L:List Value} {W W':World} (h:LsB b L W) (hs:W.heap.size≤W'.heap.size) (hb:W'.heap[b]? =W.heap[b]?):LsB b L W':=
 ⟨fun j v hv=>(zzJ (w:=W) (a:=⟨b,0+j,none⟩) hb).trans (h.r j v hv),fun i=>(zzM (w:=W) (a:=⟨b,i,none⟩) hb).trans (h.z i),zH h.lt hs⟩
theorem LsB.set {b:Nat} {L:List Value} {W:World} (h:LsB b L W) {k:Nat} (hk:k < L.length) (u:Value):LsB b (L.set k u) (W.setCell ⟨b,k,none⟩ u):=by
 refine ⟨fun j v hv=>?_,fun i=>by simpa [go_sem] using h.z i,by simpa using h.lt⟩
 rw [zzn]
 by_cases hj:j=k
 ·subst hj
  rw [List.getElem?_set_self hk] at hv
  have hv':u=v:=by simpa using hv
  have h6:=h.r j _ (zzp hk)
  rw [zzn] at h6
  rw [←hv']
  exact zzW _ _ _ (by rw [h6])
 ·rw [List.getElem?_set_ne (by omega)] at hv
  have h6:=h.r j v hv
  rw [zzn] at h6
  rw [zzL _ _ _ _ (by intro e; injection e with _ e2 _; exact hj (by omega))]
  exact h6
theorem LsB.at {b:Nat} {L:List Value} {W:World} (h:LsB b L W) {k:Nat} {v:Value} (e:L[k]? =some v):W.cell? ⟨b,k,none⟩=some v:=by
 have:=h.r k v e
 rwa [zzn] at this
theorem LsB.st7 {b:Nat} {L:List Value} {W:World} (h:LsB b L W) (hl:L.length=30) (f:Nat→Nat):(yfO (.pointer (some ⟨b,18,none⟩)) (wv f)).run Tryz.prog W= .ok () (W.setCells b 18 (l7w f)):=by
 have ht:W.there b 18 (l7w f).toArray.size:=fun j hj=>by
  have hj7:j < 7:=by simpa [l7w] using hj
  have h6:=h.at (zzp (l:=L) (i:=18+j) (by omega))
  exact ⟨by rw [h6]; rfl,h.z (18+j)⟩
 unfold yfO
 exact run_storeAt_mid W b 18 25 (l7w f).toArray ht infoB7 (by simp [l7w,Value.oneCell'])
theorem LsB.put7 {b:Nat} {L:List Value} {W:World} (h:LsB b L W) (hl:L.length=30) (f:Nat→Nat):LsB b (((((((L.set 18 (.int .u64 (f 0:Nat))).set 19 (.int .u64 (f 1:Nat))).set 20 (.int .u64 (f 2:Nat))).set 21 (.int .u64 (f 3:Nat))).set 22 (.int .u64 (f 4:Nat))).set 23 (.int .u64 (f 5:Nat))).set 24 (.int .u64 (f 6:Nat))) (W.setCells b 18 (l7w f)):=by
 simp only [l7w,World.setCells]
 exact ((((((h.set (k:=18) (by omega) _).set (k:=19) (by simp; omega) _).set (k:=20) (by simp; omega) _).set (k:=21) (by simp; omega) _).set (k:=22) (by simp; omega) _).set (k:=23) (by simp; omega) _).set (k:=24) (by simp; omega) _
end
section
open Go.RowKit Go.Maps
attribute [local irreducible] secL
attribute [local go_sem ↓] yaq ya8
attribute [local go_sem] yaJ
theorem may_all {l:List Cl} (h:yah l=0):∀c∈l,mayC c=true:=by
 have h1:=ycC l
 rw [h,zzZ rfl,mayL,zzX,List.all_eq_true] at h1
 exact h1.2
theorem Ar7.set {b:Nat} {f:Nat→Int} {W:World} (h:Ar7 b f W) {u:Nat} (hu:u < 7) (v:Int):Ar7 b (fun i=>if i=u then v else f i) (W.setCell ⟨b,u,none⟩ (.int .i64 v)):=
 ⟨fun i hi=>by
  by_cases e:i=u
  ·subst e; have:=h.c i hi; simp [go_sem,this]
  ·rw [zzL _ _ _ _ (fun e2=>by injection e2 with _ e3; exact e e3.symm),h.c i hi,if_neg e],fun i=>by simpa [go_sem] using h.z i,by simpa using h.lt⟩
end
end Go.Proofs.YtkpgfmonhfnhdaaGreatDoor
