/-
  The law of a range over a function that has a state of its own: while it tells it turns the blocks M, and reads those of F.
  week.Days makes a function that tells the shapes of days, from one to another one.
  What roll.All and roll.Back tell, and of which blocks they are good.
  roll.All and roll.Back: which function they hand back, with which boxes; the days outside of a set's hull have nothing.
  feriaref16.Of and All: the seconds of a day that have a clause, and those that have one of clauses.
  ferialaw18.RollDays answers true for every clauses and days.
  The instants of a set between two instants, day by day.
  The least second that two rising lists tell of (plain).
  seek.All's function, walked: it tells the instants of a set, from one to another one.
  seek.held and seek.All.
  seek.Next and seek.First.
  tally.counter (and its function) and tally.part.
  Keys that are two pointers: what meet.asked keeps.
-/
import Derived.Test.YthimhfmnikfgaaaGreatDoorQ10a661
import Derived.Test.YthimhfmnikfgaaaGreatDoorQa2f158
import Derived.Test.YthimhfmnikfgaaaGreatDoorQ2ff76c
import Derived.BigQuiet
import Derived.Deep.CutRange
import Derived.Test.YthimhfmnikfgaaaGreatDoorQc24191
import Derived.Test.YthimhfmnikfgaaaGreatDoorQ617c56
import Derived.Test.YthimhfmnikfgaaaGreatDoorQba836d
import Derived.Deep.RegionHeld3
import Derived.Deep.AppendLies
import Derived.Test.YthimhfmnikfgaaaGreatDoorQb53e87
import Derived.Test.YthimhfmnikfgaaaGreatDoorQ7a4f8b
import Derived.BigRegion
import Derived.LaidEql
import Derived.Laws.EntriesVeiled
import Derived.Test.YthimhfmnikfgaaaGreatDoorQ034676
namespace Go.Proofs.YthimhfmnikfgaaaGreatDoor
set_option linter.unusedVariables false
section
open Go.RowKit
abbrev OwnF:=Nat→Blk→Blk→World→Prop
abbrev atF (I:OwnF) (F:Blk):OwnP:=fun k O W=>I k O F W
def StabF (M:Blk) (I:OwnF):Prop:=∀k O F F' W W',I k O F W→W.heap.size≤W'.heap.size→(∀b,F b→F' b)→(∀b,O b∨(F b∧¬M b)→W'.heap[b]? =W.heap[b]?)→I k O F' W'
def LtF (I:OwnF):Prop:=∀k O F W,I k O F W→∀b,O b→b < W.heap.size
theorem StabF.of {M:Blk} {I:OwnP} (h:StabO I):StabF M (fun k O _ W=>I k O W):=fun k O F F' W W' hi hs _ hO=>h k O W W' hi hs (fun b hb=>hO b (.inl hb))
theorem LtF.of {I:OwnP} (h:LtO I):LtF (fun k O _ W=>I k O W):=fun k O _ W hi=>h k O W hi
structure GrowM (M O O':Blk) (W W':World):Prop where
 sub:∀b,O b→O' b
 new:∀b,O' b→O b∨W.heap.size≤b
 eff:Eff (fun b=>O b∨M b) W W'
theorem GrowM.refl (M O:Blk) (W:World):GrowM M O O W W:=⟨fun _ h=>h,fun _ h=> .inl h,Eff.refl _ _⟩
theorem GrowM.trans {M O O' O2:Blk} {A B C:World} (h:GrowM M O O' A B) (k:GrowM M O' O2 B C):GrowM M O O2 A C:=
 ⟨fun b hb=>k.sub b (h.sub b hb),fun b hb=>by
  rcases k.new b hb with h1 | h1
  ·exact h.new b h1
  ·exact .inr (zI h.eff.size h1),h.eff.trans k.eff fun b hb=>by
  rcases hb with h1 | h1
  ·rcases h.new b h1 with h2 | h2
   ·exact .inl (.inl h2)
   ·exact .inr h2
  ·exact .inl (.inr h1)⟩
structure HostOk (H:Blk→World→Prop) (M:Blk):Prop where
 stab:∀F W W',H F W→W.heap.size≤W'.heap.size→(∀b,F b→W'.heap[b]? =W.heap[b]?)→H F W'
 lt:∀F W,H F W→∀b,F b→b < W.heap.size
 sub:∀F W,H F W→∀b,M b→F b
theorem HostOk.eff {H:Blk→World→Prop} {M F O:Blk} {W W':World} (h:HostOk H M) (hF:H F W) (he:Eff O W W') (hd:∀b,F b→¬O b):H F W':=
 h.stab F W W' hF he.size (fun b hb=>he.block b (h.lt F W hF b hb) (hd b hb))
def RJF (rc:Loop) (l:Nat) (Dk:Option Nat) (I:OwnF):OwnF:=fun k O F W=>RJ rc l Dk (atF I F) k O W
theorem RJF.stab {rc:Loop} {l:Nat} {Dk:Option Nat} {M:Blk} {I:OwnF} (hI:StabF M I):StabF M (RJF rc l Dk I):=by
 rintro k O F F' W W' ⟨O1,h1,h2,h3,h4,h5⟩ hs hF hO
 exact ⟨O1,h1,h2,fun d hd=>⟨(h3 d hd).1,(h3 d hd).2.1,(hO d (.inl ((h1 d).mpr (.inr (.inr hd))))).trans (h3 d hd).2.2⟩,hI k O1 F F' W W' h4 hs hF (fun b hb=>hO b (hb.imp (fun h=>(h1 b).mpr (.inl h)) id)),(hO l (.inl ((h1 l).mpr (.inr (.inl rfl))))).trans h5⟩
theorem RJF.lt {rc:Loop} {l:Nat} {Dk:Option Nat} {I:OwnF} (hI:LtF I):LtF (RJF rc l Dk I):=fun k O F W h=>RJ.lt (I:=atF I F) (fun k O W=>hI k O F W) k O W h
end
section
open Go.RowKit
set_option maxHeartbeats 1600000 in
theorem WDays_any (a b:Int) (w:World):Calls Tryz.prog 111 #[.int .i64 a, .int .i64 b] w fun e w'=>e= .returned (.func (.func 158) #[] #[.pointer (some ⟨w.heap.size,0,none⟩), .pointer (some ⟨w.heap.size+1,0,none⟩)])∧
  w'.cell? ⟨w.heap.size,0,none⟩=some (.int .i64 (max a 0))∧w'.cell? ⟨w.heap.size+1,0,none⟩=some (.int .i64 (min b 146096))∧Below w.heap.size w w'∧w.heap.size+1 < w'.heap.size:=by
 go_enter Tryz.func111,Tryz.ntmps111
 go_upto_region 1 with fail
 go_region
 go_wp2
 all_goals
  go_ret
  refine ⟨rfl,?_,?_,(below_new (below_new (Below.refl _ _) (zG _)) (by simp)).drew,by simp⟩
 ·simp [go_sem]; omega
 ·simp [go_sem]; omega
 ·simp [go_sem]; omega
 ·simp [go_sem]; omega
 ·simp [go_sem]; omega
 ·simp [go_sem]; omega
 ·simp [go_sem]; omega
 ·simp [go_sem]; omega
def shTell (l:List Int):List (Array Value):=l.map fun n=>#[shN n]
theorem shTell_len (l:List Int):(shTell l).length=l.length:=by simp [shTell]
theorem shTell_get {l:List Int} {k:Nat} (h:k < (shTell l).length):(shTell l)[k]= #[shN (l[k]'(by rw [shTell_len] at h; exact h))]:=by simp [shTell]
theorem week_start {f:Int} (h0:0≤f) (h1:f < 146097):∃y m d o:Int,(y=fY f∧m=fMo f∧d=fD f∧o=fOr f)∧
  (∀W,Calls Tryz.prog 159 #[.int .i64 f] W fun e w'=>e= .returned (.tuple #[.int .i64 y, .int .i64 m, .int .i64 d, .bool true])∧Below W.heap.size W w')∧
  (∀W,Calls Tryz.prog 160 #[.int .i64 y, .int .i64 m, .int .i64 d] W fun e w'=>e= .returned (.tuple #[.int .i64 o, .bool true])∧Below W.heap.size W w'):=by
 obtain ⟨y0,y1,m0,m1,d0,d1⟩:=fDate_year h0 h1
 obtain ⟨g1,g2,g3⟩:=fOr_ms h0 h1
 have hm:((fMo f).toNat:Int)=fMo f:=by omega
 refine ⟨_,_,_,_,⟨rfl,rfl,rfl,rfl⟩,fun W=>CDate_any f W h0 h1,fun W=>?_⟩
 have:=COrd_any (fY f) (fMo f).toNat (fD f) W (by omega) (by omega) (by omega) (by omega) d0 (by rw [hm]; exact d1)
 rw [hm,g1] at this; exact this
theorem week_round {n y m d o:Int} (h0:0≤n) (h1:n < 146097) (hv:y=fY n∧m=fMo n∧d=fD n∧o=fOr n) :
  (∀W,Calls Tryz.prog 161 #[.int .i64 n, .int .i64 y, .int .i64 m, .int .i64 d, .int .i64 o] W fun e w'=>e= .returned (shN n)∧Below W.heap.size W w')∧
  (∀W,Calls Tryz.prog 162 #[.int .i64 y, .int .i64 m] W fun e w'=>e= .returned (.int .i64 (lenI y m))∧Below W.heap.size W w')∧
  0≤y∧y≤3000∧1≤m∧m≤12∧1≤d∧d≤31∧1≤o∧o≤366:=by
 obtain ⟨rfl,rfl,rfl,rfl⟩:=hv
 obtain ⟨y0,y1,m0,m1,d0,d1⟩:=fDate_year h0 h1
 obtain ⟨g1,g2,g3⟩:=fOr_ms h0 h1
 have hl:=lenI_bd (fY n) (fMo n)
 have hp:=leapI_bd (fY n)
 exact ⟨fun W=>shaped_any n _ _ _ _ W h0 (by omega) y0 (by omega) m0 m1 d0 d1 g2 g3,fun W=>Length_any _ _ W (by omega) m0 m1,by omega,by omega,m0,m1,d0,by omega,g2,by omega⟩
theorem week_next {n y m d o:Int} (h0:0≤n) (h1:n < 146097) (hv:y=fY n∧m=fMo n∧d=fD n∧o=fOr n) :
  (d+1≤lenI y m→n+1 < 146097→y=fY (n+1)∧m=fMo (n+1)∧d+1=fD (n+1)∧o+1=fOr (n+1))∧
  (¬d+1≤lenI y m→m+1≤12→n+1 < 146097→y=fY (n+1)∧m+1=fMo (n+1)∧1=fD (n+1)∧o+1=fOr (n+1))∧
  (¬d+1≤lenI y m→¬m+1≤12→n+1 < 146097→y+1=fY (n+1)∧1=fMo (n+1)∧1=fD (n+1)∧1=fOr (n+1)):=by
 obtain ⟨rfl,rfl,rfl,rfl⟩:=hv
 refine ⟨fun h hn=>?_,fun h h2 hn=>?_,fun h h2 hn=>?_⟩
 ·obtain ⟨a,b,c,e⟩:=(next_date h0 hn).1 h; exact ⟨a.symm,b.symm,c.symm,e.symm⟩
 ·obtain ⟨a,b,c,e⟩:=(next_date h0 hn).2.1 h h2; exact ⟨a.symm,b.symm,c.symm,e.symm⟩
 ·obtain ⟨a,b,c,e⟩:=(next_date h0 hn).2.2 h h2; exact ⟨a.symm,b.symm,c.symm,e.symm⟩
set_option maxRecDepth 100000 in
set_option maxHeartbeats 3200000 in
theorem WeekIter_any (f t:Int) (b1 b2:Nat) (y:Value) (J Jx:OwnP) (O:Nat→Prop) (W:World) (h0:0≤f) (hf1:f≤146097) (h1:t≤146096) (ht0:-1≤t)
  (hC:ClientV Tryz.prog y (shTell (daysL f t)) J Jx O W) (hJ:J 0 O W) (hb1:b1 < W.heap.size) (hb2:b2 < W.heap.size) (n1:¬O b1) (n2:¬O b2)
  (c1:W.cell? ⟨b1,0,none⟩=some (.int .i64 f)) (c2:W.cell? ⟨b2,0,none⟩=some (.int .i64 t)) :
  Calls Tryz.prog 158 #[y, .pointer (some ⟨b1,0,none⟩), .pointer (some ⟨b2,0,none⟩)] W fun e W'=>(∃v,e= .returned v)∧ToldV (shTell (daysL f t)) J Jx O W W':=by
 obtain ⟨yf,yi,yc,rfl⟩:=hC.form
 have HC:=hid hC
 have HJ:=hid hJ
 have HN:=hid (And.intro n1 n2)
 refine (wf_calls (r:=none) (n:=1)).mp ?_
 by_cases hft:t < f
 ·have hx:daysL f t= []:=daysL_nil hft
  rw [hx]
  clear hC hJ n1 n2 hx HC
  gi_enter Tryz.func158,Tryz.ntmps158
  gi_wp2
  refine bodyPost_ret (results_none rfl _ _ _) rfl ?_
  exact ⟨⟨_,rfl⟩,O,fun _ h=>h,fun _ h=> .inl h,Eff.refl _ _, .inl HJ.out⟩
 ·obtain ⟨L,hL⟩:∃L,(daysL f t).length=L:=⟨_,rfl⟩
  have hLe:f+(L:Int)=t+1:=by rw [←hL,daysL_len]; omega
  have HL:Hid ((shTell (daysL f t)).length=L):=by show _ = _; rw [shTell_len,hL]
  have hget:Hid (∀k (hk:k < (shTell (daysL f t)).length),(shTell (daysL f t))[k]= #[shN (f+k)]):=fun k hk=>by rw [shTell_get hk,daysL_get]
  obtain ⟨xs,hxs⟩:∃xs,shTell (daysL f t)=xs:=⟨_,rfl⟩
  rw [hxs] at HL hget HC⊢
  obtain ⟨vy,vm,vd,vo,hv,cD,cO⟩:=week_start h0 (show f < 146097 by omega)
  have HV:=hid hv
  have CD:=hid cD
  have CO:=hid cO
  have HC1:=hid c1
  have HC2:=hid c2
  clear hC hJ n1 n2 hxs hL hv cD cO
  gi_enter Tryz.func158,Tryz.ntmps158
  gi_wp2_with fail
  refine (wf_calls.mpr (CD.out _)).mono ?_
  rintro e w1 ⟨rfl,hB1⟩
  have HB1:=hid hB1
  clear hB1
  gi_wp2_with fail
  refine (wf_calls.mpr (CO.out _)).mono ?_
  rintro e w2 ⟨rfl,hB2⟩
  have hB2':Below W.heap.size W w2:=HB1.out.trans (hB2.mono HB1.out.size)
  have HB2:=hid hB2'
  have k1:=(hB2'.cell (p:=⟨b1,0,none⟩) hb1).trans HC1.out
  have HJ2:Hid (J 0 O w2):=HC.out.stab 0 O W w2 HJ.out hB2'.size (fun b hb=>hB2'.block b (HC.out.lt 0 O W HJ.out b hb))
  clear hB2 hB2' c1 c2
  gi_wp2_with fail
  gi_loopw [4,5,6,8,10] (fun y4 m5 d6 o8 n10 wr=>∃(k:Nat) (vy vm vd vo:Int) (O':Nat→Prop),y4= .int .i64 vy∧m5= .int .i64 vm∧d6= .int .i64 vd∧o8= .int .i64 vo∧n10= .int .i64 (f+k)∧k≤L∧
   Hid (k < L→vy=fY (f+k)∧vm=fMo (f+k)∧vd=fD (f+k)∧vo=fOr (f+k))∧Hid (J k O' wr∧(∀b,O b→O' b)∧(∀b,O' b→O b∨W.heap.size≤b)∧Eff O W wr)) (fun y4 m5 d6 o8 n10 wr=>(t+1 - intOf n10).toNat)
  case atStart=>exact ⟨0,vy,vm,vd,vo,O,rfl,rfl,rfl,rfl,by simp,by omega,fun _=>by simpa using HV.out,HJ2.out,fun _ h=>h,fun _ h=> .inl h,Eff.of_below HB2.out⟩
  case round=>
   obtain ⟨k,vy,vm,vd,vo,O',rfl,rfl,rfl,rfl,rfl,hk,hvv,hI⟩:=hrel
   have q2:=(hI.out.2.2.2.cell (p:=⟨b2,0,none⟩) hb2 HN.out.2).trans HC2.out
   by_cases hlt:k < L
   ·obtain ⟨cS,cL,v0,v1,v2,v3,v4,v5,v6,v7⟩:=week_round (show 0≤f+k by omega) (show f+k < 146097 by omega) (hvv.out hlt)
    obtain ⟨x1,x2,x3⟩:=week_next (show 0≤f+k by omega) (show f+k < 146097 by omega) (hvv.out hlt)
    have X1:=hid x1
    have X2:=hid x2
    have X3:=hid x3
    have CS:=hid cS
    have CL:=hid cL
    obtain ⟨ln,hln⟩:∃ln,lenI vy vm=ln:=⟨_,rfl⟩
    rw [hln] at X1 X2 X3 CL
    have hkx:k < xs.length:=by rw [HL.out]; exact hlt
    have Hkx:=hid hkx
    clear x1 x2 x3 cS cL hln hvv hkx
    gi_wp2_with fail
    refine (wf_calls.mpr (CS.out _)).mono ?_
    rintro e w3 ⟨rfl,hB3⟩
    have hE3:Eff O W w3:=hI.out.2.2.2.trans (Eff.of_below (O:=O') hB3) hI.out.2.2.1
    have hJ3:J k O' w3:=HC.out.stab k O' wr w3 hI.out.1 hB3.size (fun b hb=>hB3.block b (HC.out.lt k O' wr hI.out.1 b hb))
    have hcall:=HC.out.call k O' w3 Hkx.out hJ3 ⟨hI.out.2.1,hI.out.2.2.1,hE3⟩
    rw [hget.out k Hkx.out] at hcall
    have Hcall:=hid hcall
    have HE3:=hid hE3
    clear hB3 hE3 hJ3 hcall
    gi_wp2_with (refine callv (.tmp 34) (.tmp 40) _ rfl rfl rfl rfl Hcall.out ?_)
    rintro e W4 O4 hOO hO4 hE4 hend
    have hE44:Eff O W W4:=HE3.out.trans hE4 hI.out.2.2.1
    have hOs:Hid ((∀b,O b→O4 b)∧(∀b,O4 b→O b∨W.heap.size≤b)∧Eff O W W4):=⟨fun b h=>hOO b (hI.out.2.1 b h),fun b h=>by
     rcases hO4 b h with h1 | h1
     ·exact hI.out.2.2.1 b h1
     ·have:=HE3.out.size; exact .inr (by omega),hE44⟩
    clear hOO hO4 hE4 hE44 q2
    rcases hend with ⟨rfl,hJ4⟩ | ⟨rfl,hJ4⟩
    ·have HJ4:=hid hJ4
     clear hJ4
     refine ⟨_,rfl,?_⟩
     have stab:Hid (∀w5,Below W4.heap.size W4 w5→J (k+1) O4 w5∧(∀b,O b→O4 b)∧(∀b,O4 b→O b∨W.heap.size≤b)∧Eff O W w5):=fun w5 hB5=>
      ⟨HC.out.stab (k+1) O4 W4 w5 HJ4.out hB5.size (fun b hb=>hB5.block b (HC.out.lt (k+1) O4 W4 HJ4.out b hb)),hOs.out.1,hOs.out.2.1,hOs.out.2.2.trans (Eff.of_below (O:=O4) hB5) hOs.out.2.1⟩
     gi_wp2_with fail
     refine (wf_calls.mpr (CL.out _)).mono ?_
     rintro e w5 ⟨rfl,hB5⟩
     have HB5:=hid hB5
     clear hB5
     by_cases g1:vd+1≤ln
     ·gi_wp2
      refine ⟨⟨k+1,_,_,_,_,O4,rfl,rfl,rfl,rfl,by go_num,by omega,fun hk1=>?_,stab.out _ HB5.out⟩,by simp [intOf]; omega⟩
      have:=X1.out g1 (by omega)
      rwa [show f+(k:Int)+1=f+((k+1:Nat):Int) by omega] at this
     ·by_cases g2:vm+1≤12
      ·gi_wp2
       refine ⟨⟨k+1,_,_,_,_,O4,rfl,rfl,rfl,rfl,by go_num,by omega,fun hk1=>?_,stab.out _ HB5.out⟩,by simp [intOf]; omega⟩
       have:=X2.out g1 g2 (by omega)
       rwa [show f+(k:Int)+1=f+((k+1:Nat):Int) by omega] at this
      ·gi_wp2
       refine ⟨⟨k+1,_,_,_,_,O4,rfl,rfl,rfl,rfl,by go_num,by omega,fun hk1=>?_,stab.out _ HB5.out⟩,by simp [intOf]; omega⟩
       have:=X3.out g1 g2 (by omega)
       rwa [show f+(k:Int)+1=f+((k+1:Nat):Int) by omega] at this
    ·have HJ4:=hid hJ4
     clear hJ4
     refine ⟨_,rfl,?_⟩
     gi_wp2
     refine bodyPost_ret (results_none rfl _ _ _) rfl ?_
     exact ⟨⟨_,rfl⟩,O4,hOs.out.1,hOs.out.2.1,hOs.out.2.2, .inr ⟨k+1,by omega,by rw [HL.out]; omega,HJ4.out⟩⟩
   ·obtain rfl:k=L:=by omega
    gi_wp2
    go_end0
    exact ⟨⟨_,rfl⟩,O',hI.out.2.1,hI.out.2.2.1,hI.out.2.2.2, .inl (by rw [HL.out]; exact hI.out.1)⟩
theorem week_tells (f t:Int) (b1 b2:Nat) (Ow:Nat→Prop) (w:World) (h0:0≤f) (hf1:f≤146097) (h1:t≤146096) (ht0:-1≤t) (hb1:b1 < w.heap.size) (hb2:b2 < w.heap.size) (n1:¬Ow b1) (n2:¬Ow b2)
  (c1:w.cell? ⟨b1,0,none⟩=some (.int .i64 f)) (c2:w.cell? ⟨b2,0,none⟩=some (.int .i64 t)) :
  TellsV Tryz.prog 158 #[.pointer (some ⟨b1,0,none⟩), .pointer (some ⟨b2,0,none⟩)] (shTell (daysL f t)) Ow w:=by
 intro y J Jx O W hO hB hC hJ
 exact WeekIter_any f t b1 b2 y J Jx O W h0 hf1 h1 ht0 hC hJ (zH hb1 hB.size) (zH hb2 hB.size) (fun h=>by rcases hO b1 h with h1 | h1; exact n1 h1; omega) (fun h=>by rcases hO b2 h with h1 | h1; exact n2 h1; omega)
  ((hB.cell (p:=⟨b1,0,none⟩) hb1).trans c1) ((hB.cell (p:=⟨b2,0,none⟩) hb2).trans c2)
theorem week_enters (args:Array Value) (w:World):(callFunc 158 args).run Tryz.prog w= .ok (.enter 158 args) w:=by simp [go_sem]
end
section
open Go.RowKit Go.Maps
theorem shS_put {W:World} {b l:Nat} {s:Nat→Int} {o:Obj} (h:ShS W b s) (hr:∃r,W.heap[l]? =some (.loop r)):ShS (W.putObj l o) b s:=by
 obtain ⟨h0,h1,h2,h3,h4,h5,h6,h7,h8,h9⟩:=h
 exact ⟨putObj_cell hr h0,putObj_cell hr h1,putObj_cell hr h2,putObj_cell hr h3,putObj_cell hr h4,putObj_cell hr h5,putObj_cell hr h6,putObj_cell hr h7,putObj_cell hr h8,putObj_cell hr h9⟩
def dayS (cs:List Cl) (l:List Int):List Int:=l.filter fun n=>anyQ (dayQ cs n)
structure HA (cs:List Cl) (br bk:Nat) (bps:List Nat) (x1 x2 x3:Nat) (f t:Int) (Inv:(Nat→Bool)→Nat→Prop) (F:Blk) (W:World):Prop where
 roll:∃ws m,RollS W cs br bk bps F ws m∧Inv ws m
 inF:F x1∧F x2∧F x3
 out:¬RM br bk bps x1∧¬RM br bk bps x2∧¬RM br bk bps x3
 c1:W.cell? ⟨x1,0,none⟩=some (.int .i64 f)
 c2:W.cell? ⟨x2,0,none⟩=some (.int .i64 t)
 c3:W.cell? ⟨x3,0,none⟩=some (.pointer (some ⟨br,0,none⟩))
section
variable {cs:List Cl} {br bk:Nat} {bps:List Nat} {x1 x2 x3:Nat} {f t:Int} {Inv Inv':(Nat→Bool)→Nat→Prop} {F F':Blk} {W W':World}
theorem HA.keep (h:HA cs br bk bps x1 x2 x3 f t Inv F W) (hs:W.heap.size≤W'.heap.size) (hb:∀b,F b→W'.heap[b]? =W.heap[b]?):HA cs br bk bps x1 x2 x3 f t Inv F W':=by
 obtain ⟨ws,m,h1,h2⟩:=h.roll
 have c:∀b,F b→W'.cell? ⟨b,0,none⟩=W.cell? ⟨b,0,none⟩:=fun b hF=>World.cell?_of_block (w:=W) (a:=⟨b,0,none⟩) (hb b hF)
 exact ⟨⟨ws,m,h1.keep hs hb,h2⟩,h.inF,h.out,(c _ h.inF.1).trans h.c1,(c _ h.inF.2.1).trans h.c2,(c _ h.inF.2.2).trans h.c3⟩
theorem HA.lt (h:HA cs br bk bps x1 x2 x3 f t Inv F W):∀b,F b→b < W.heap.size:=by
 obtain ⟨ws,m,h1,h2⟩:=h.roll; exact h1.x.lt
theorem HA.sub (h:HA cs br bk bps x1 x2 x3 f t Inv F W):∀b,RM br bk bps b→F b:=by
 obtain ⟨ws,m,h1,h2⟩:=h.roll; exact h1.x.sub
theorem HA.step {ws':Nat→Bool} {m':Nat} (h:HA cs br bk bps x1 x2 x3 f t Inv F W) (hR:RollS W' cs br bk bps F' ws' m') (hF:∀b,F b→F' b) (hE:Eff (RM br bk bps) W W') (hI:Inv' ws' m'):HA cs br bk bps x1 x2 x3 f t Inv' F' W':=by
 have hlt:=h.lt
 have c:∀b,F b→¬RM br bk bps b→W'.cell? ⟨b,0,none⟩=W.cell? ⟨b,0,none⟩:=fun b hF hn=>hE.cell (p:=⟨b,0,none⟩) (hlt b hF) hn
 exact ⟨⟨ws',m',hR,hI⟩,⟨hF _ h.inF.1,hF _ h.inF.2.1,hF _ h.inF.2.2⟩,h.out,(c _ h.inF.1 h.out.1).trans h.c1,(c _ h.inF.2.1 h.out.2.1).trans h.c2,(c _ h.inF.2.2 h.out.2.2).trans h.c3⟩
end
def IG (M O F:Blk) (W:World) (R:Blk→Blk→World→Prop) (O2:Blk) (W':World):Prop:=
 ∃O1 F1:Blk,(∀b,O2 b↔O1 b∨F1 b)∧(∀b,F1 b→¬O1 b)∧R O1 F1 W'∧(∀b,O b→O1 b)∧(∀b,O1 b→O b∨W.heap.size≤b)∧(∀b,F b→F1 b)∧(∀b,F1 b→F b∨W.heap.size≤b)∧(∀b,F b→¬M b→W'.heap[b]? =W.heap[b]?)
section
variable {M O F:Blk} {W W1 W':World} {R R':Blk→Blk→World→Prop} {O2:Blk}
theorem IG.keep (h:IG M O F W R O2 W1) (hs:W1.heap.size≤W'.heap.size) (hb:∀b,O2 b→W'.heap[b]? =W1.heap[b]?)
  (hR:∀O1 F1,R O1 F1 W1→W1.heap.size≤W'.heap.size→(∀b,O1 b∨F1 b→W'.heap[b]? =W1.heap[b]?)→R O1 F1 W'):IG M O F W R O2 W':=by
 obtain ⟨O1,F1,e,h1,h2,h3,h4,h5,h6,h7⟩:=h
 exact ⟨O1,F1,e,h1,hR O1 F1 h2 hs (fun b g=>hb b ((e b).2 g)),h3,h4,h5,h6,fun b g n=>(hb b ((e b).2 (.inr (h5 b g)))).trans (h7 b g n)⟩
theorem IG.lt (h:IG M O F W R O2 W1) (hR:∀O1 F1,R O1 F1 W1→∀b,O1 b∨F1 b→b < W1.heap.size):∀b,O2 b→b < W1.heap.size:=by
 obtain ⟨O1,F1,e,h1,h2,h3⟩:=h
 exact fun b hb=>hR O1 F1 h2 b ((e b).1 hb)
end
theorem shS_blk {W W':World} {b:Nat} {s:Nat→Int} (h:ShS W b s) (hb:W'.heap[b]? =W.heap[b]?):ShS W' b s:=by
 have c:∀i,W'.cell? ⟨b,i,none⟩=W.cell? ⟨b,i,none⟩:=fun i=>World.cell?_of_block (w:=W) (a:=⟨b,i,none⟩) hb
 obtain ⟨h0,h1,h2,h3,h4,h5,h6,h7,h8,h9⟩:=h
 exact ⟨(c _).trans h0,(c _).trans h1,(c _).trans h2,(c _).trans h3,(c _).trans h4,(c _).trans h5,(c _).trans h6,(c _).trans h7,(c _).trans h8,(c _).trans h9⟩
end
section
open Go.RowKit Go.Maps
theorem has_held {c:Cl} {t:Int} (h:hasC c t=true):heldB c.fr c.un=true∧heldF c.fr c.un≤t∧t≤heldU c.fr c.un∧0≤t∧t < 12622780800:=by
 rw [hasC,Bool.and_eq_true,Bool.and_eq_true,Bool.and_eq_true,winB,betB,Bool.and_eq_true,decide_eq_true_eq,decide_eq_true_eq,decide_eq_true_eq] at h
 obtain ⟨⟨h1,h2⟩,-,⟨h3,h4⟩,-⟩:=h
 have hb:heldB c.fr c.un=true:=decide_eq_true (by omega)
 refine ⟨hb,?_⟩
 rw [heldF,heldU,hb,if_pos rfl,if_pos rfl]
 omega
end
section
open Go.RowKit
attribute [local go_sem ↓] loadAt_cl
abbrev LrS (w:World) (c:Cl) (W:World):Prop:=(loadClS (.pointer (some ⟨w.heap.size,0,none⟩))).run Tryz.prog W= .ok (clv c) W∧ClB W w.heap.size c∧Below w.heap.size w W∧w.heap.size < W.heap.size
theorem LrS.of {w W:World} {c:Cl} (h:ClB W w.heap.size c) (hb:Below w.heap.size w W) (hs:w.heap.size < W.heap.size):LrS w c W:=⟨h.ld,h,hb,hs⟩
theorem LrS.keep {w W W':World} {c:Cl} (h:LrS w c W) (hb:Below W.heap.size W W'):LrS w c W':=
 LrS.of (h.2.1.below hb h.2.2.2) (h.2.2.1.trans (hb.mono (Nat.le_of_lt h.2.2.2))) (zH h.2.2.2 hb.size)
end
section
open Go.RowKit Go.Maps
def RdS (w:World) (l:List Cl) (br bk:Nat) (bps:List Nat) (k:Nat) (wr:World):Prop:=∃F ws m,RollS wr l br bk bps F ws m∧m≤k∧Below w.heap.size w wr
theorem RdS.below {w wr w':World} {l:List Cl} {br bk:Nat} {bps:List Nat} {k:Nat} (h:RdS w l br bk bps k wr) (hB:Below wr.heap.size wr w'):RdS w l br bk bps k w':=by
 obtain ⟨F,ws,m,h1,h2,h3⟩:=h
 exact ⟨F,ws,m,h1.below hB,h2,h3.trans (hB.mono h3.size)⟩
end
section
open Go.RowKit Go.Maps
def instB (cs:List Cl) (t:Int):Bool:=cs.any fun c=>hasC c t
theorem dayQ_inst (cs:List Cl) (n:Int) (k:Nat):dayQ cs n k=instB cs (86400 * n+k):=rfl
theorem inst_win {cs:List Cl} {t:Int} (h:instB cs t=true):0≤t∧t < 12622780800:=by
 rw [instB,List.any_eq_true] at h
 obtain ⟨c,-,hc⟩:=h
 obtain ⟨-,-,-,h1,h2⟩:=has_held hc
 exact ⟨h1,h2⟩
def remQ (cs:List Cl) (n u s:Int) (k:Nat):Bool:=dayQ cs n k && (decide (s≤k) && decide (86400 * n+k≤u))
def remI (cs:List Cl) (n u s:Int):List Int:=secL (remQ cs n u s)
theorem remI_mem {cs:List Cl} {n u s x:Int}:x∈remI cs n u s↔∃k:Nat,k < 86400∧x=k∧dayQ cs n k=true∧s≤k∧86400 * n+k≤u:=by
 rw [remI,secL,sel_mem]
 constructor
 ·rintro ⟨k,h1,h2,h3⟩
  rw [remQ,Bool.and_eq_true,Bool.and_eq_true,decide_eq_true_eq,decide_eq_true_eq] at h2
  exact ⟨k,h1,h3,h2.1,h2.2.1,h2.2.2⟩
 ·rintro ⟨k,h1,h3,h2,h4,h5⟩
  exact ⟨k,h1,by rw [remQ,h2,decide_eq_true h4,decide_eq_true h5]; rfl,h3⟩
theorem remI_pair (cs:List Cl) (n u s:Int):(remI cs n u s).Pairwise (·< ·):=sel_rising _ _
def dayI (cs:List Cl) (f u n:Int):List Int:=(remI cs n u (max 0 (f - 86400 * n))).map fun x=>86400 * n+x
theorem dayI_mem {cs:List Cl} {f u n t:Int}:t∈dayI cs f u n↔t / 86400=n∧f≤t∧t≤u∧instB cs t=true:=by
 rw [dayI,List.mem_map]
 constructor
 ·rintro ⟨x,hx,rfl⟩
  obtain ⟨k,h1,rfl,h2,h3,h4⟩:=remI_mem.1 hx
  exact ⟨by omega,by omega,h4,h2⟩
 ·rintro ⟨rfl,h1,h2,h3⟩
  have e:(((t % 86400).toNat:Nat):Int)=t % 86400:=Int.toNat_of_nonneg (by omega)
  refine ⟨t % 86400,remI_mem.2 ⟨(t % 86400).toNat,by omega,e.symm,?_,by omega,by omega⟩,by omega⟩
  rw [dayQ_inst,e,show 86400 * (t / 86400)+t % 86400=t by omega]; exact h3
theorem dayI_pair (cs:List Cl) (f u n:Int):(dayI cs f u n).Pairwise (·< ·):=by
 rw [dayI,List.pairwise_map]
 exact (remI_pair _ _ _ _).imp fun h=>by omega
def instL (cs:List Cl) (f u:Int) (ds:List Int):List Int:=ds.flatMap (dayI cs f u)
theorem daysL_up (a b:Int):(daysL a b).Pairwise (·< ·):=by
 rw [daysL,List.pairwise_map]
 exact List.Pairwise.imp (fun h=>by omega) List.pairwise_lt_range
theorem dayS_up (cs:List Cl) (a b:Int):(dayS cs (daysL a b)).Pairwise (·< ·):=(daysL_up a b).filter _
def instA (cs:List Cl) (f u:Int):List Int:=instL cs f u (dayS cs (daysL (f / 86400) (u / 86400)))
theorem instA_mem {cs:List Cl} {f u t:Int}:t∈instA cs f u↔f≤t∧t≤u∧instB cs t=true:=by
 rw [instA,instL,List.mem_flatMap]
 constructor
 ·rintro ⟨n,-,h⟩
  obtain ⟨-,h1,h2,h3⟩:=dayI_mem.1 h
  exact ⟨h1,h2,h3⟩
 ·rintro ⟨h1,h2,h3⟩
  refine ⟨t / 86400,?_,dayI_mem.2 ⟨rfl,h1,h2,h3⟩⟩
  rw [dayS,List.mem_filter,daysL_mem]
  refine ⟨⟨by omega,by omega⟩,anyQ_true.2 ⟨(t % 86400).toNat,by omega,?_⟩⟩
  rw [dayQ_inst,Int.toNat_of_nonneg (by omega),show 86400 * (t / 86400)+t % 86400=t by omega]; exact h3
theorem instA_up (cs:List Cl) (f u:Int):(instA cs f u).Pairwise (·< ·):=by
 have key:∀ds:List Int,ds.Pairwise (·< ·)→(instL cs f u ds).Pairwise (·< ·):=by
  intro ds
  induction ds with
  | nil=>intro _; exact List.Pairwise.nil
  | cons n ds ih=>
    intro hp
    rw [List.pairwise_cons] at hp
    rw [instL,List.flatMap_cons,List.pairwise_append]
    refine ⟨dayI_pair _ _ _ _,ih hp.2,fun a ha b hb=>?_⟩
    rw [List.mem_flatMap] at hb
    obtain ⟨n',hn',hb⟩:=hb
    obtain ⟨h1,-⟩:=dayI_mem.1 ha
    obtain ⟨h2,-⟩:=dayI_mem.1 hb
    have:=hp.1 n' hn'
    omega
 exact key _ (dayS_up _ _ _)
end
section
open Go.RowKit
attribute [local irreducible] secL
def WantN (r:Nat→Bool) (n:Int):Prop:=∃m ok,FirstOf r m ok∧n=if ok then m else -1
theorem WantN.congr {r r':Nat→Bool} {n:Int} (h:WantN r n) (he:∀k,k < 86400→r k=r' k):WantN r' n:=by
 obtain ⟨m,ok,h1,h2⟩:=h
 refine ⟨m,ok,?_,h2⟩
 rcases h1 with ⟨rfl,k,rfl,hk,g1,g2⟩ | ⟨rfl,rfl,g2⟩
 ·exact .inl ⟨rfl,k,rfl,hk,by rw [←he k hk]; exact g1,fun j hj=>by rw [←he j (by omega)]; exact g2 j hj⟩
 ·exact .inr ⟨rfl,rfl,fun j hj=>by rw [←he j hj]; exact g2 j hj⟩
theorem WantN.some {r:Nat→Bool} {k:Nat} (hk:k < 86400) (h:r k=true) (hn:∀j,j < k→r j=false):WantN r (k:Int):=⟨k,true, .inl ⟨rfl,k,rfl,hk,h,hn⟩,rfl⟩
theorem WantN.none {r:Nat→Bool} (h:∀j,j < 86400→r j=false):WantN r (-1):=⟨0,false, .inr ⟨rfl,rfl,h⟩,rfl⟩
theorem WantN.unique {r:Nat→Bool} {n n':Int} (h:WantN r n) (h':WantN r n'):n=n':=by
 obtain ⟨m,ok,h1,rfl⟩:=h
 obtain ⟨m',ok',h1',rfl⟩:=h'
 obtain ⟨rfl,rfl⟩:=h1.unique h1'
 rfl
theorem secL_mem {q:Nat→Bool} {x:Int}:x∈secL q↔∃k:Nat,k < 86400∧q k=true∧x= (k:Int):=by rw [secL]; exact sel_mem
theorem secL_lt {q:Nat→Bool} {i j:Nat} (hi:i < (secL q).length) (hj:j < (secL q).length) (h:i < j):(secL q)[i] < (secL q)[j]:=by
 have hp:(secL q).Pairwise (·< ·):=by rw [secL]; exact sel_rising q _
 exact List.pairwise_iff_getElem.1 hp i j hi hj h
theorem secL_at {q:Nat→Bool} {i:Nat} (hi:i < (secL q).length):∃k:Nat,k < 86400∧q k=true∧(secL q)[i]= (k:Int):=secL_mem.1 (List.getElem_mem hi)
theorem secL_ix {q:Nat→Bool} {k:Nat} (hk:k < 86400) (h:q k=true):∃i,∃hi:i < (secL q).length,(secL q)[i]= (k:Int):=by
 obtain ⟨i,hi,e⟩:=List.getElem_of_mem (secL_mem.2 ⟨k,hk,h,rfl⟩)
 exact ⟨i,hi,e⟩
structure LkI (p q:Nat→Bool) (i k:Nat):Prop where
 ki:k≤(secL q).length
 low:∀m,(hm:m < (secL q).length)→m < k→∀h:i < (secL p).length,(secL q)[m] < (secL p)[i]
theorem LkI.start (p q:Nat→Bool):LkI p q 0 0:=⟨Nat.zero_le _,fun m hm h=>by omega⟩
theorem LkI.more {p q:Nat→Bool} {i k:Nat} (h:LkI p q i k) (hk:k < (secL q).length) (hi:i < (secL p).length) (hl:(secL q)[k] < (secL p)[i]):LkI p q i (k+1):=
 ⟨hk,fun m hm hmk h'=>by
  rcases Nat.lt_succ_iff_lt_or_eq.1 hmk with h1 | h1
  ·exact h.low m hm h1 h'
  ·subst h1; exact hl⟩
theorem LkI.next {p q:Nat→Bool} {i k:Nat} (h:LkI p q i k) (hi:i < (secL p).length):LkI p q (i+1) k:=
 ⟨h.ki,fun m hm hmk h'=>by have:=h.low m hm hmk hi; have:=secL_lt hi h' (Nat.lt_succ_self i); omega⟩
theorem LkI.has {p q:Nat→Bool} {i k:Nat} (h:LkI p q i k) (hi:i < (secL p).length) (hk:∀hk:k < (secL q).length,(secL p)[i]≤(secL q)[k]) {v:Nat} (hv:v < 86400) (e:(secL p)[i]= (v:Int)):q v=true↔∃hk:k < (secL q).length,(secL q)[k]= (v:Int):=by
 constructor
 ·intro hq
  obtain ⟨m,hm,em⟩:=secL_ix hv hq
  rcases Nat.lt_trichotomy m k with h1 | h1 | h1
  ·have:=h.low m hm h1 hi; omega
  ·subst h1; exact ⟨hm,em⟩
  ·have h2:=hk (by omega); have:=secL_lt (by omega) hm h1; omega
 ·rintro ⟨hk',e2⟩
  obtain ⟨j,hj,hq,ej⟩:=secL_at hk'
  have:j=v:=by omega
  subst this; exact hq
end
section
open Go.RowKit Go.Maps
attribute [local go_sem] Oper.semAt_some
structure BxF (M:Blk) (xf xu:Nat) (f u:Int) (F:Blk) (W:World):Prop where
 inf:F xf∧¬M xf
 inu:F xu∧¬M xu
 cf:W.cell? ⟨xf,0,none⟩=some (.int .i64 f)
 cu:W.cell? ⟨xu,0,none⟩=some (.int .i64 u)
theorem BxF.keep {M:Blk} {xf xu:Nat} {f u:Int} {F F':Blk} {W W':World} (h:BxF M xf xu f u F W) (hF:∀b,F b→F' b) (hb:∀b,F b∧¬M b→W'.heap[b]? =W.heap[b]?):BxF M xf xu f u F' W':=
 ⟨⟨hF _ h.inf.1,h.inf.2⟩,⟨hF _ h.inu.1,h.inu.2⟩,(World.cell?_of_block (w:=W) (a:=⟨xf,0,none⟩) (hb _ h.inf)).trans h.cf,(World.cell?_of_block (w:=W) (a:=⟨xu,0,none⟩) (hb _ h.inu)).trans h.cu⟩
structure HSk (cs:List Cl) (br bk:Nat) (bps:List Nat) (xe xf xu xr:Nat) (f u:Int) (Inv:(Nat→Bool)→Nat→Prop) (F:Blk) (W:World):Prop where
 roll:∃ws m,RollS W cs br bk bps F ws m∧Inv ws m
 bx:BxF (RM br bk bps) xf xu f u F W
 ine:F xe∧¬RM br bk bps xe
 inr:F xr∧¬RM br bk bps xr
 ce:W.cell? ⟨xe,0,none⟩=some (.int .i64 0)
 cr:W.cell? ⟨xr,0,none⟩=some (.pointer (some ⟨br,0,none⟩))
section
variable {cs:List Cl} {br bk:Nat} {bps:List Nat} {xe xf xu xr:Nat} {f u:Int} {Inv Inv':(Nat→Bool)→Nat→Prop} {F F':Blk} {W W':World}
theorem HSk.keep (h:HSk cs br bk bps xe xf xu xr f u Inv F W) (hs:W.heap.size≤W'.heap.size) (hb:∀b,F b→W'.heap[b]? =W.heap[b]?):HSk cs br bk bps xe xf xu xr f u Inv F W':=by
 obtain ⟨ws,m,h1,h2⟩:=h.roll
 exact ⟨⟨ws,m,h1.keep hs hb,h2⟩,h.bx.keep (fun _ h=>h) (fun b hF=>hb b hF.1),h.ine,h.inr,(World.cell?_of_block (w:=W) (a:=⟨xe,0,none⟩) (hb _ h.ine.1)).trans h.ce,(World.cell?_of_block (w:=W) (a:=⟨xr,0,none⟩) (hb _ h.inr.1)).trans h.cr⟩
theorem HSk.lt (h:HSk cs br bk bps xe xf xu xr f u Inv F W):∀b,F b→b < W.heap.size:=by
 obtain ⟨ws,m,h1,h2⟩:=h.roll; exact h1.x.lt
theorem HSk.sub (h:HSk cs br bk bps xe xf xu xr f u Inv F W):∀b,RM br bk bps b→F b:=by
 obtain ⟨ws,m,h1,h2⟩:=h.roll; exact h1.x.sub
theorem HSk.step (h:HSk cs br bk bps xe xf xu xr f u Inv F W) {ws:Nat→Bool} {m:Nat} (hR:RollS W' cs br bk bps F' ws m) (hI:Inv' ws m) (hF:∀b,F b→F' b) (hb:∀b,F b→¬RM br bk bps b→W'.heap[b]? =W.heap[b]?):HSk cs br bk bps xe xf xu xr f u Inv' F' W':=
 ⟨⟨ws,m,hR,hI⟩,h.bx.keep hF (fun b hF=>hb b hF.1 hF.2),⟨hF _ h.ine.1,h.ine.2⟩,⟨hF _ h.inr.1,h.inr.2⟩,(World.cell?_of_block (w:=W) (a:=⟨xe,0,none⟩) (hb _ h.ine.1 h.ine.2)).trans h.ce,(World.cell?_of_block (w:=W) (a:=⟨xr,0,none⟩) (hb _ h.inr.1 h.inr.2)).trans h.cr⟩
end
structure SkD (cs:List Cl) (M:Blk) (n:Int) (d bx:Nat) (O F:Blk) (W:World):Prop where
 dj:∀b,F b→¬O b
 di:DiF W F M d (dayQ cs n)
 tab:Tab W∧F 0
 lt:∀b,F b→b < W.heap.size
 lx:bx < W.heap.size
 nx:¬O bx∧¬F bx
 sh:ShS W bx (shF n)
theorem SkD.put {cs:List Cl} {M:Blk} {n:Int} {d bx l:Nat} {O F:Blk} {W:World} {o:Obj} (h:SkD cs M n d bx O F W) (hr:∃r,W.heap[l]? =some (.loop r)) (hF:¬F l):SkD cs M n d bx O F (W.putObj l o):=by
 have ps:(W.putObj l o).heap.size=W.heap.size:=World.putObj_size
 have ko:∀b,F b→(W.putObj l o).heap[b]? =W.heap[b]?:=fun b hb=>World.putObj_heap_other (fun e=>hF (e ▸ hb))
 exact ⟨h.dj,⟨h.di.1,h.di.2.1,h.di.2.2.block (by rw [ps]; exact zG _) (ko _ h.di.1)⟩,⟨⟨by rw [ps]; exact h.tab.1.1,fun i hi=>(World.cell?_of_block (w:=W) (a:=⟨0,i,none⟩) (ko _ h.tab.2)).trans (h.tab.1.2 i hi)⟩,h.tab.2⟩,by rw [ps]; exact h.lt,by rw [ps]; exact h.lx,h.nx,shS_put h.sh hr⟩
def SkT (h0 h1 h2 h3 h4 h5 h6 h7:Value) (ds:List Deferred) (a:Act):Prop:=∃V:Nat→Value,a= {tmps:=#[h0,h1,h2,h3,h4,h5,h6,h7,V 8,V 9,V 10,V 11,V 12,V 13,V 14,V 15,V 16,V 17,V 18,V 19,V 20,V 21,V 22,V 23,V 24,V 25,V 26,V 27,V 28,V 29,V 30,V 31,V 32,V 33,V 34,V 35,V 36,V 37,V 38,V 39,V 40,V 41,V 42,V 43,V 44,V 45,V 46,V 47,V 48,V 49,V 50,V 51,V 52,V 53,V 54,V 55,V 56,V 57,V 58],defers:=ds}
theorem SkT.of {h0 h1 h2 h3 h4 h5 h6 h7 u8 u9 u10 u11 u12 u13 u14 u15 u16 u17 u18 u19 u20 u21 u22 u23 u24 u25 u26 u27 u28 u29 u30 u31 u32 u33 u34 u35 u36 u37 u38 u39 u40 u41 u42 u43 u44 u45 u46 u47 u48 u49 u50 u51 u52 u53 u54 u55 u56 u57 u58:Value} {ds:List Deferred}:SkT h0 h1 h2 h3 h4 h5 h6 h7 ds {tmps:=#[h0,h1,h2,h3,h4,h5,h6,h7,u8,u9,u10,u11,u12,u13,u14,u15,u16,u17,u18,u19,u20,u21,u22,u23,u24,u25,u26,u27,u28,u29,u30,u31,u32,u33,u34,u35,u36,u37,u38,u39,u40,u41,u42,u43,u44,u45,u46,u47,u48,u49,u50,u51,u52,u53,u54,u55,u56,u57,u58],defers:=ds}:=⟨fun i=>(#[u8,u9,u10,u11,u12,u13,u14,u15,u16,u17,u18,u19,u20,u21,u22,u23,u24,u25,u26,u27,u28,u29,u30,u31,u32,u33,u34,u35,u36,u37,u38,u39,u40,u41,u42,u43,u44,u45,u46,u47,u48,u49,u50,u51,u52,u53,u54,u55,u56,u57,u58]:Array Value).getD (#[0,0,0,0,0,0,0,0,0,1,2,3,4,5,6,7,8,9,10,11,12,13,14,15,16,17,18,19,20,21,22,23,24,25,26,27,28,29,30,31,32,33,34,35,36,37,38,39,40,41,42,43,44,45,46,47,48,49,50].getD i 0) undef,rfl⟩
end
section
open Go.RowKit Go.Maps
def heldI (t:Int):Int:=min (max t (-1)) 12622780800
end
section
open Go.RowKit Go.Maps
attribute [local go_sem] Oper.semAt_some
def headP:List Int→Int × Int
 | []=>(0,15)
 | x :: _=>(x,0)
def nextP (l:List Cl) (t:Int):Int × Int:=if faultL l≠0 then (0,faultL l) else headP (instA l (heldI t+1) 12622780799)
structure TwoC (b:Nat) (x y:Int) (O:Blk) (W:World):Prop where
 c4:W.cell? ⟨b,0,none⟩=some (.int .i64 x)
 c5:W.cell? ⟨b+1,0,none⟩=some (.int .i64 y)
 f4:W.frozen? ⟨b,0,none⟩=false
 f5:W.frozen? ⟨b+1,0,none⟩=false
 o4:O b
 o5:O (b+1)
 lt:∀c,O c→c < W.heap.size
theorem TwoC.keep {b:Nat} {x y:Int} {O:Blk} {W W':World} (h:TwoC b x y O W) (hs:W.heap.size≤W'.heap.size) (hb:∀c,O c→W'.heap[c]? =W.heap[c]?):TwoC b x y O W':=
 ⟨(World.cell?_of_block (w:=W) (a:=⟨b,0,none⟩) (hb _ h.o4)).trans h.c4,(World.cell?_of_block (w:=W) (a:=⟨b+1,0,none⟩) (hb _ h.o5)).trans h.c5,
  (World.frozen?_of_block (w:=W) (a:=⟨b,0,none⟩) (hb _ h.o4)).trans h.f4,(World.frozen?_of_block (w:=W) (a:=⟨b+1,0,none⟩) (hb _ h.o5)).trans h.f5,h.o4,h.o5,fun c hc=>zH (h.lt c hc) hs⟩
theorem TwoC.set {b:Nat} {x y x' y':Int} {O:Blk} {W:World} (h:TwoC b x y O W):TwoC b x' y' O ((W.setCell ⟨b,0,none⟩ (.int .i64 x')).setCell ⟨b+1,0,none⟩ (.int .i64 y')):=by
 obtain ⟨h1,h2,h3,h4,h5,h6,h7⟩:=h
 refine ⟨?_,?_,?_,?_,h5,h6,fun c hc=>by simpa using h7 c hc⟩ <;> simp [go_sem,h1,h2,h3,h4]
end
section
open Go.RowKit Go.Maps
theorem run_same_diff {P:Program} {w:World} {d x:Nat} (cd:(w.cell? ⟨d,0,none⟩).isSome=true) (cx:(w.cell? ⟨x,0,none⟩).isSome=true) (hd:∀i,w.frozen? ⟨d,i,none⟩=false) (hx:∀i,w.frozen? ⟨x,i,none⟩=false) (hne:d≠x) :
  (sameAddr ⟨d,0,none⟩ ⟨x,0,none⟩).run P w= .ok false w:=by
 have key:∀b,(w.cell? ⟨b,0,none⟩).isSome=true→∃c t s,w.heap[b]? =some (.cells c t s):=fun b h=>by
  unfold World.cell? at h
  split at h
  ·exact ⟨_,_,_,by assumption⟩
  ·cases h
 obtain ⟨c1,t1,s1,e1⟩:=key d cd
 obtain ⟨c2,t2,s2,e2⟩:=key x cx
 have sd:w.shape? d=some (t1,c1.size):=by unfold World.shape?; rw [e1]
 have sx:w.shape? x=some (t2,c2.size):=by unfold World.shape?; rw [e2]
 simp [sameAddr,hne,noView,viewAt,mayBeOne,stringish,hd,hx,sd,sx]
structure CntC (bl:Nat) (c:Option Nat) (m:Int) (W:World):Prop where
 cl:W.cell? ⟨bl,0,none⟩=some (dptr c)
 cm:W.cell? ⟨bl+1,0,none⟩=some (.int .i64 m)
 fl:W.frozen? ⟨bl,0,none⟩=false
 fm:W.frozen? ⟨bl+1,0,none⟩=false
 lt:bl+1 < W.heap.size
theorem CntC.block {bl:Nat} {c:Option Nat} {m:Int} {W W':World} (h:CntC bl c m W) (hs:W.heap.size≤W'.heap.size) (h0:W'.heap[bl]? =W.heap[bl]?) (h1:W'.heap[bl+1]? =W.heap[bl+1]?):CntC bl c m W':=
 ⟨(World.cell?_of_block (w:=W) (a:=⟨bl,0,none⟩) h0).trans h.cl,(World.cell?_of_block (w:=W) (a:=⟨bl+1,0,none⟩) h1).trans h.cm,
  (World.frozen?_of_block (w:=W) (a:=⟨bl,0,none⟩) h0).trans h.fl,(World.frozen?_of_block (w:=W) (a:=⟨bl+1,0,none⟩) h1).trans h.fm,zH h.lt hs⟩
theorem CntC.set {bl:Nat} {c c':Option Nat} {m m':Int} {W:World} (h:CntC bl c m W):CntC bl c' m' ((W.setCell ⟨bl,0,none⟩ (dptr c')).setCell ⟨bl+1,0,none⟩ (.int .i64 m')):=by
 obtain ⟨h1,h2,h3,h4,h5⟩:=h
 refine ⟨?_,?_,?_,?_,by simpa using h5⟩ <;> simp [go_sem,h1,h2,h3,h4]
def Knows (c:Option Nat) (m:Int) (M F:Blk) (W:World):Prop:=∀x,c=some x→F x∧¬M x∧∃q,DiscAt W x q∧m= ((secL q).length:Nat)
theorem Knows.none {m:Int} {M F:Blk} {W:World}:Knows none m M F W:=fun x h=>by cases h
theorem Knows.keep {c:Option Nat} {m:Int} {M F F':Blk} {W W':World} (h:Knows c m M F W) (hs:W.heap.size≤W'.heap.size) (hF:∀b,F b→F' b) (hb:∀b,F b∧¬M b→W'.heap[b]? =W.heap[b]?):Knows c m M F' W':=fun x hx=>by
 obtain ⟨h1,h2,q,h3,h4⟩:=h x hx
 exact ⟨hF x h1,h2,q,h3.block hs (hb x ⟨h1,h2⟩),h4⟩
end
section
open Go.RowKit Go.Maps
def PtrOk (w:World) (d:Option Nat):Prop:=∀x,d=some x→(w.cell? ⟨x,0,none⟩).isSome=true∧∀i,w.frozen? ⟨x,i,none⟩=false
theorem PtrOk.disc {w:World} {d:Option Nat} {q:Nat→Bool} (h:DiscO w d q):PtrOk w d:=fun x hx=>by
 subst hx
 obtain ⟨f,h1,h2,-⟩:=h
 exact ⟨by rw [h1 0 (by omega)]; rfl,h2⟩
theorem PtrOk.block {w w':World} {d:Option Nat} (h:PtrOk w d) (hb:∀x,d=some x→w'.heap[x]? =w.heap[x]?):PtrOk w' d:=fun x hx=>by
 obtain ⟨h1,h2⟩:=h x hx
 exact ⟨by rw [World.cell?_of_block (w:=w) (a:=⟨x,0,none⟩) (hb x hx)]; exact h1,fun i=>(World.frozen?_of_block (w:=w) (a:=⟨x,i,none⟩) (hb x hx)).trans (h2 i)⟩
def PairK (w:World) (v:Value):Prop:=∃d e,v= .agg #[dptr d,dptr e]∧PtrOk w d∧PtrOk w e
theorem ptrEq_run {w:World} {d e:Option Nat} (hd:PtrOk w d) (he:PtrOk w e) (n:Nat):(Op.equalIn (n+1) 125 (dptr d) (dptr e)).run Tryz.prog w= .ok (decide (d=e)) w:=by
 have hp:=Tryz.underlying125
 cases d with
 | none=>
   cases e with
   | none=>simp [Op.equalIn,run_underlying hp,dptr]
   | some y=>simp [Op.equalIn,run_underlying hp,dptr]
 | some x=>
   cases e with
   | none=>simp [Op.equalIn,run_underlying hp,dptr]
   | some y=>
     have hi:((Tryz.prog.info? 205).map fun i=>decide (i.size≠0))=some true:=by kernel_rfl
     cases hj:Tryz.prog.info? 205 with
     | none=>rw [hj] at hi; cases hi
     | some j=>
       rw [hj] at hi
       have hsz:j.size≠0:=by simpa using hi
       have hs:(sameAddr ⟨x,0,none⟩ ⟨y,0,none⟩).run Tryz.prog w= .ok (decide (x=y)) w:=by
        by_cases hne:x=y
        ·subst hne; rw [run_sameAddr_same]; simp
        ·rw [run_same_diff (hd x rfl).1 (he y rfl).1 (hd x rfl).2 (he y rfl).2 hne]; simp [hne]
       simp [Op.equalIn,run_underlying hp,sizeOf,typeInfo,hj,hsz,hs,dptr]
theorem part0 (w:World) (x y:Value):(part 125 #[x,y] 0).run Tryz.prog w= .ok x w:=by kernel_rfl
theorem part1 (w:World) (x y:Value):(part 125 #[x,y] 1).run Tryz.prog w= .ok y w:=by kernel_rfl
theorem pairEq_run {w:World} {d e d' e':Option Nat} (h1:PtrOk w d) (h2:PtrOk w e) (h3:PtrOk w d') (h4:PtrOk w e') :
  (Op.equal 240 (.agg #[dptr d,dptr e]) (.agg #[dptr d',dptr e'])).run Tryz.prog w= .ok (decide (d=d') && decide (e=e')) w:=by
 have g1:=ptrEq_run h1 h3 9998
 have g2:=ptrEq_run h2 h4 9998
 have hp:=Tryz.underlying240
 have hi:((Tryz.prog.info? 125).map fun i=>i.size)=some 1:=by kernel_rfl
 cases hj:Tryz.prog.info? 125 with
 | none=>rw [hj] at hi; cases hi
 | some j=>
   rw [hj] at hi
   have hsz:j.size=1:=by simpa using hi
   unfold Op.equal Op.maxDepth
   rw [Op.equalIn]
   simp only [Sem.run_bind,run_underlying hp,Result.andThen_ok,sizeOf,typeInfo]
   have g1':(Op.equalIn 9999 125 (dptr d) (dptr d')).run Tryz.prog w= .ok (decide (d=d')) w:=g1
   have g2':(Op.equalIn 9999 125 (dptr e) (dptr e')).run Tryz.prog w= .ok (decide (e=e')) w:=g2
   simp [hj,hsz]
   rw [show List.range' 0 2= [0,1] from rfl]
   obtain ⟨b1,hb1⟩:∃b,decide (d=d')=b:=⟨_,rfl⟩
   obtain ⟨b2,hb2⟩:∃b,decide (e=e')=b:=⟨_,rfl⟩
   rw [hb1] at g1'⊢
   rw [hb2] at g2'⊢
   cases b1 <;> cases b2 <;> simp [part0,part1,g1',g2',List.forIn_cons]
theorem pairT (w:World):KeyT Tryz.prog 240 (PairK w) w:=by
 refine KeyT.ask Tryz.underlying240 ?_ ?_ ?_ ?_
 ·rintro _ _ ⟨d,e,rfl,-,-⟩ ⟨d',e',rfl,-,-⟩; rfl
 ·rintro em _ ⟨d,e,rfl,-,-⟩
  cases d <;> cases e <;> kernel_rfl
 ·rintro _ _ ⟨d,e,rfl,h1,h2⟩ ⟨d',e',rfl,h3,h4⟩
  refine ⟨_,pairEq_run h1 h2 h3 h4,fun h=>?_⟩
  simp only [Bool.and_eq_true,decide_eq_true_eq] at h
  rw [h.1,h.2]
 ·rintro _ ⟨d,e,rfl,-,-⟩
  cases d <;> cases e <;> simp [Instr.sameBits,dptr]
end
end Go.Proofs.YthimhfmnikfgaaaGreatDoor
