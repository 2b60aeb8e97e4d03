/-
  The law of a range over a function that has a state of its own: while it tells it turns the blocks M, and reads those of F.
  week.Days makes a function that tells the shapes of days, from one to another one.
  What roll.All and roll.Back tell, and of which blocks they are good.
  roll.All and roll.Back: which function they hand back, with which boxes; the days outside of a set's hull have nothing.
  The seconds of a disc, told and collected in a list: ferialaw15.Told.
  ferialaw18.Same, and the chapter's example: ferialaw18.lives.
  What feriaref07.All computes: the seconds of three masks.
-/
import Derived.Test.YtmjljpdeohbfbaaGreatDoorQc4e361
import Derived.Test.YtmjljpdeohbfbaaGreatDoorQcbcfbe
import Derived.Test.YtmjljpdeohbfbaaGreatDoorQ8286e5
import Derived.BigQuiet
import Derived.Deep.CutRange
import Derived.Test.YtmjljpdeohbfbaaGreatDoorQ1d4734
import Derived.Test.YtmjljpdeohbfbaaGreatDoorQ97d08b
import Derived.Test.YtmjljpdeohbfbaaGreatDoorQd874f6
import Derived.Test.YtmjljpdeohbfbaaGreatDoorQ9b227a
import Derived.Test.YtmjljpdeohbfbaaGreatDoorQ67deb9
import Derived.Deep.RegionHeld3
import Derived.Deep.AppendLies
namespace Go.Proofs.YtmjljpdeohbfbaaGreatDoor
set_option linter.unusedVariables false
section
open Go.RowKit
abbrev OwnF:=Nat→Blk→Blk→World→Prop
abbrev atF (I:OwnF) (F:Blk):OwnP:=fun k O W=>I k O F W
def StabF (M:Blk) (I:OwnF):Prop:=∀k O F F' W W',I k O F W→W.heap.size≤W'.heap.size→(∀b,F b→F' b)→(∀b,O b∨(F b∧¬M b)→W'.heap[b]? =W.heap[b]?)→I k O F' W'
def LtF (I:OwnF):Prop:=∀k O F W,I k O F W→∀b,O b→b < W.heap.size
theorem StabF.of {M:Blk} {I:OwnP} (h:StabO I):StabF M (fun k O _ W=>I k O W):=fun k O F F' W W' hi hs _ hO=>h k O W W' hi hs (fun b hb=>hO b (.inl hb))
theorem LtF.of {I:OwnP} (h:LtO I):LtF (fun k O _ W=>I k O W):=fun k O _ W hi=>h k O W hi
structure GrowM (M O O':Blk) (W W':World):Prop where
 sub:∀b,O b→O' b
 new:∀b,O' b→O b∨W.heap.size≤b
 eff:Eff (fun b=>O b∨M b) W W'
theorem GrowM.refl (M O:Blk) (W:World):GrowM M O O W W:=⟨fun _ h=>h,fun _ h=> .inl h,Eff.refl _ _⟩
theorem GrowM.trans {M O O' O2:Blk} {A B C:World} (h:GrowM M O O' A B) (k:GrowM M O' O2 B C):GrowM M O O2 A C:=
 ⟨fun b hb=>k.sub b (h.sub b hb),fun b hb=>by
  rcases k.new b hb with h1 | h1
  ·exact h.new b h1
  ·exact .inr (zI h.eff.size h1),h.eff.trans k.eff fun b hb=>by
  rcases hb with h1 | h1
  ·rcases h.new b h1 with h2 | h2
   ·exact .inl (.inl h2)
   ·exact .inr h2
  ·exact .inl (.inr h1)⟩
structure HostOk (H:Blk→World→Prop) (M:Blk):Prop where
 stab:∀F W W',H F W→W.heap.size≤W'.heap.size→(∀b,F b→W'.heap[b]? =W.heap[b]?)→H F W'
 lt:∀F W,H F W→∀b,F b→b < W.heap.size
 sub:∀F W,H F W→∀b,M b→F b
theorem HostOk.eff {H:Blk→World→Prop} {M F O:Blk} {W W':World} (h:HostOk H M) (hF:H F W) (he:Eff O W W') (hd:∀b,F b→¬O b):H F W':=
 h.stab F W W' hF he.size (fun b hb=>he.block b (h.lt F W hF b hb) (hd b hb))
def RJF (rc:Loop) (l:Nat) (Dk:Option Nat) (I:OwnF):OwnF:=fun k O F W=>RJ rc l Dk (atF I F) k O W
theorem RJF.stab {rc:Loop} {l:Nat} {Dk:Option Nat} {M:Blk} {I:OwnF} (hI:StabF M I):StabF M (RJF rc l Dk I):=by
 rintro k O F F' W W' ⟨O1,h1,h2,h3,h4,h5⟩ hs hF hO
 exact ⟨O1,h1,h2,fun d hd=>⟨(h3 d hd).1,(h3 d hd).2.1,(hO d (.inl ((h1 d).mpr (.inr (.inr hd))))).trans (h3 d hd).2.2⟩,hI k O1 F F' W W' h4 hs hF (fun b hb=>hO b (hb.imp (fun h=>(h1 b).mpr (.inl h)) id)),(hO l (.inl ((h1 l).mpr (.inr (.inl rfl))))).trans h5⟩
theorem RJF.lt {rc:Loop} {l:Nat} {Dk:Option Nat} {I:OwnF} (hI:LtF I):LtF (RJF rc l Dk I):=fun k O F W h=>RJ.lt (I:=atF I F) (fun k O W=>hI k O F W) k O W h
end
section
open Go.RowKit
set_option maxHeartbeats 1600000 in
theorem WDays_any (a b:Int) (w:World):Calls Tryz.prog 104 #[.int .i64 a, .int .i64 b] w fun e w'=>e= .returned (.func (.func 167) #[] #[.pointer (some ⟨w.heap.size,0,none⟩), .pointer (some ⟨w.heap.size+1,0,none⟩)])∧
  w'.cell? ⟨w.heap.size,0,none⟩=some (.int .i64 (max a 0))∧w'.cell? ⟨w.heap.size+1,0,none⟩=some (.int .i64 (min b 146096))∧Below w.heap.size w w'∧w.heap.size+1 < w'.heap.size:=by
 go_enter Tryz.func104,Tryz.ntmps104
 go_upto_region 1 with fail
 go_region
 go_wp2
 all_goals
  go_ret
  refine ⟨rfl,?_,?_,(below_new (below_new (Below.refl _ _) (zG _)) (by simp)).drew,by simp⟩
 ·simp [go_sem]; omega
 ·simp [go_sem]; omega
 ·simp [go_sem]; omega
 ·simp [go_sem]; omega
 ·simp [go_sem]; omega
 ·simp [go_sem]; omega
 ·simp [go_sem]; omega
 ·simp [go_sem]; omega
def shTell (l:List Int):List (Array Value):=l.map fun n=>#[shN n]
theorem shTell_len (l:List Int):(shTell l).length=l.length:=by simp [shTell]
theorem shTell_get {l:List Int} {k:Nat} (h:k < (shTell l).length):(shTell l)[k]= #[shN (l[k]'(by rw [shTell_len] at h; exact h))]:=by simp [shTell]
theorem week_start {f:Int} (h0:0≤f) (h1:f < 146097):∃y m d o:Int,(y=fY f∧m=fMo f∧d=fD f∧o=fOr f)∧
  (∀W,Calls Tryz.prog 168 #[.int .i64 f] W fun e w'=>e= .returned (.tuple #[.int .i64 y, .int .i64 m, .int .i64 d, .bool true])∧Below W.heap.size W w')∧
  (∀W,Calls Tryz.prog 169 #[.int .i64 y, .int .i64 m, .int .i64 d] W fun e w'=>e= .returned (.tuple #[.int .i64 o, .bool true])∧Below W.heap.size W w'):=by
 obtain ⟨y0,y1,m0,m1,d0,d1⟩:=fDate_year h0 h1
 obtain ⟨g1,g2,g3⟩:=fOr_ms h0 h1
 have hm:((fMo f).toNat:Int)=fMo f:=by omega
 refine ⟨_,_,_,_,⟨rfl,rfl,rfl,rfl⟩,fun W=>CDate_any f W h0 h1,fun W=>?_⟩
 have:=COrd_any (fY f) (fMo f).toNat (fD f) W (by omega) (by omega) (by omega) (by omega) d0 (by rw [hm]; exact d1)
 rw [hm,g1] at this; exact this
theorem week_round {n y m d o:Int} (h0:0≤n) (h1:n < 146097) (hv:y=fY n∧m=fMo n∧d=fD n∧o=fOr n) :
  (∀W,Calls Tryz.prog 170 #[.int .i64 n, .int .i64 y, .int .i64 m, .int .i64 d, .int .i64 o] W fun e w'=>e= .returned (shN n)∧Below W.heap.size W w')∧
  (∀W,Calls Tryz.prog 171 #[.int .i64 y, .int .i64 m] W fun e w'=>e= .returned (.int .i64 (lenI y m))∧Below W.heap.size W w')∧
  0≤y∧y≤3000∧1≤m∧m≤12∧1≤d∧d≤31∧1≤o∧o≤366:=by
 obtain ⟨rfl,rfl,rfl,rfl⟩:=hv
 obtain ⟨y0,y1,m0,m1,d0,d1⟩:=fDate_year h0 h1
 obtain ⟨g1,g2,g3⟩:=fOr_ms h0 h1
 have hl:=lenI_bd (fY n) (fMo n)
 have hp:=leapI_bd (fY n)
 exact ⟨fun W=>shaped_any n _ _ _ _ W h0 (by omega) y0 (by omega) m0 m1 d0 d1 g2 g3,fun W=>Length_any _ _ W (by omega) m0 m1,by omega,by omega,m0,m1,d0,by omega,g2,by omega⟩
theorem week_next {n y m d o:Int} (h0:0≤n) (h1:n < 146097) (hv:y=fY n∧m=fMo n∧d=fD n∧o=fOr n) :
  (d+1≤lenI y m→n+1 < 146097→y=fY (n+1)∧m=fMo (n+1)∧d+1=fD (n+1)∧o+1=fOr (n+1))∧
  (¬d+1≤lenI y m→m+1≤12→n+1 < 146097→y=fY (n+1)∧m+1=fMo (n+1)∧1=fD (n+1)∧o+1=fOr (n+1))∧
  (¬d+1≤lenI y m→¬m+1≤12→n+1 < 146097→y+1=fY (n+1)∧1=fMo (n+1)∧1=fD (n+1)∧1=fOr (n+1)):=by
 obtain ⟨rfl,rfl,rfl,rfl⟩:=hv
 refine ⟨fun h hn=>?_,fun h h2 hn=>?_,fun h h2 hn=>?_⟩
 ·obtain ⟨a,b,c,e⟩:=(next_date h0 hn).1 h; exact ⟨a.symm,b.symm,c.symm,e.symm⟩
 ·obtain ⟨a,b,c,e⟩:=(next_date h0 hn).2.1 h h2; exact ⟨a.symm,b.symm,c.symm,e.symm⟩
 ·obtain ⟨a,b,c,e⟩:=(next_date h0 hn).2.2 h h2; exact ⟨a.symm,b.symm,c.symm,e.symm⟩
set_option maxRecDepth 100000 in
set_option maxHeartbeats 3200000 in
theorem WeekIter_any (f t:Int) (b1 b2:Nat) (y:Value) (J Jx:OwnP) (O:Nat→Prop) (W:World) (h0:0≤f) (hf1:f≤146097) (h1:t≤146096) (ht0:-1≤t)
  (hC:ClientV Tryz.prog y (shTell (daysL f t)) J Jx O W) (hJ:J 0 O W) (hb1:b1 < W.heap.size) (hb2:b2 < W.heap.size) (n1:¬O b1) (n2:¬O b2)
  (c1:W.cell? ⟨b1,0,none⟩=some (.int .i64 f)) (c2:W.cell? ⟨b2,0,none⟩=some (.int .i64 t)) :
  Calls Tryz.prog 167 #[y, .pointer (some ⟨b1,0,none⟩), .pointer (some ⟨b2,0,none⟩)] W fun e W'=>(∃v,e= .returned v)∧ToldV (shTell (daysL f t)) J Jx O W W':=by
 obtain ⟨yf,yi,yc,rfl⟩:=hC.form
 have HC:=hid hC
 have HJ:=hid hJ
 have HN:=hid (And.intro n1 n2)
 refine (wf_calls (r:=none) (n:=1)).mp ?_
 by_cases hft:t < f
 ·have hx:daysL f t= []:=daysL_nil hft
  rw [hx]
  clear hC hJ n1 n2 hx HC
  gi_enter Tryz.func167,Tryz.ntmps167
  gi_wp2
  refine bodyPost_ret (results_none rfl _ _ _) rfl ?_
  exact ⟨⟨_,rfl⟩,O,fun _ h=>h,fun _ h=> .inl h,Eff.refl _ _, .inl HJ.out⟩
 ·obtain ⟨L,hL⟩:∃L,(daysL f t).length=L:=⟨_,rfl⟩
  have hLe:f+(L:Int)=t+1:=by rw [←hL,daysL_len]; omega
  have HL:Hid ((shTell (daysL f t)).length=L):=by show _ = _; rw [shTell_len,hL]
  have hget:Hid (∀k (hk:k < (shTell (daysL f t)).length),(shTell (daysL f t))[k]= #[shN (f+k)]):=fun k hk=>by rw [shTell_get hk,daysL_get]
  obtain ⟨xs,hxs⟩:∃xs,shTell (daysL f t)=xs:=⟨_,rfl⟩
  rw [hxs] at HL hget HC⊢
  obtain ⟨vy,vm,vd,vo,hv,cD,cO⟩:=week_start h0 (show f < 146097 by omega)
  have HV:=hid hv
  have CD:=hid cD
  have CO:=hid cO
  have HC1:=hid c1
  have HC2:=hid c2
  clear hC hJ n1 n2 hxs hL hv cD cO
  gi_enter Tryz.func167,Tryz.ntmps167
  gi_wp2_with fail
  refine (wf_calls.mpr (CD.out _)).mono ?_
  rintro e w1 ⟨rfl,hB1⟩
  have HB1:=hid hB1
  clear hB1
  gi_wp2_with fail
  refine (wf_calls.mpr (CO.out _)).mono ?_
  rintro e w2 ⟨rfl,hB2⟩
  have hB2':Below W.heap.size W w2:=HB1.out.trans (hB2.mono HB1.out.size)
  have HB2:=hid hB2'
  have k1:=(hB2'.cell (p:=⟨b1,0,none⟩) hb1).trans HC1.out
  have HJ2:Hid (J 0 O w2):=HC.out.stab 0 O W w2 HJ.out hB2'.size (fun b hb=>hB2'.block b (HC.out.lt 0 O W HJ.out b hb))
  clear hB2 hB2' c1 c2
  gi_wp2_with fail
  gi_loopw [4,5,6,8,10] (fun y4 m5 d6 o8 n10 wr=>∃(k:Nat) (vy vm vd vo:Int) (O':Nat→Prop),y4= .int .i64 vy∧m5= .int .i64 vm∧d6= .int .i64 vd∧o8= .int .i64 vo∧n10= .int .i64 (f+k)∧k≤L∧
   Hid (k < L→vy=fY (f+k)∧vm=fMo (f+k)∧vd=fD (f+k)∧vo=fOr (f+k))∧Hid (J k O' wr∧(∀b,O b→O' b)∧(∀b,O' b→O b∨W.heap.size≤b)∧Eff O W wr)) (fun y4 m5 d6 o8 n10 wr=>(t+1 - intOf n10).toNat)
  case atStart=>exact ⟨0,vy,vm,vd,vo,O,rfl,rfl,rfl,rfl,by simp,by omega,fun _=>by simpa using HV.out,HJ2.out,fun _ h=>h,fun _ h=> .inl h,Eff.of_below HB2.out⟩
  case round=>
   obtain ⟨k,vy,vm,vd,vo,O',rfl,rfl,rfl,rfl,rfl,hk,hvv,hI⟩:=hrel
   have q2:=(hI.out.2.2.2.cell (p:=⟨b2,0,none⟩) hb2 HN.out.2).trans HC2.out
   by_cases hlt:k < L
   ·obtain ⟨cS,cL,v0,v1,v2,v3,v4,v5,v6,v7⟩:=week_round (show 0≤f+k by omega) (show f+k < 146097 by omega) (hvv.out hlt)
    obtain ⟨x1,x2,x3⟩:=week_next (show 0≤f+k by omega) (show f+k < 146097 by omega) (hvv.out hlt)
    have X1:=hid x1
    have X2:=hid x2
    have X3:=hid x3
    have CS:=hid cS
    have CL:=hid cL
    obtain ⟨ln,hln⟩:∃ln,lenI vy vm=ln:=⟨_,rfl⟩
    rw [hln] at X1 X2 X3 CL
    have hkx:k < xs.length:=by rw [HL.out]; exact hlt
    have Hkx:=hid hkx
    clear x1 x2 x3 cS cL hln hvv hkx
    gi_wp2_with fail
    refine (wf_calls.mpr (CS.out _)).mono ?_
    rintro e w3 ⟨rfl,hB3⟩
    have hE3:Eff O W w3:=hI.out.2.2.2.trans (Eff.of_below (O:=O') hB3) hI.out.2.2.1
    have hJ3:J k O' w3:=HC.out.stab k O' wr w3 hI.out.1 hB3.size (fun b hb=>hB3.block b (HC.out.lt k O' wr hI.out.1 b hb))
    have hcall:=HC.out.call k O' w3 Hkx.out hJ3 ⟨hI.out.2.1,hI.out.2.2.1,hE3⟩
    rw [hget.out k Hkx.out] at hcall
    have Hcall:=hid hcall
    have HE3:=hid hE3
    clear hB3 hE3 hJ3 hcall
    gi_wp2_with (refine callv (.tmp 34) (.tmp 40) _ rfl rfl rfl rfl Hcall.out ?_)
    rintro e W4 O4 hOO hO4 hE4 hend
    have hE44:Eff O W W4:=HE3.out.trans hE4 hI.out.2.2.1
    have hOs:Hid ((∀b,O b→O4 b)∧(∀b,O4 b→O b∨W.heap.size≤b)∧Eff O W W4):=⟨fun b h=>hOO b (hI.out.2.1 b h),fun b h=>by
     rcases hO4 b h with h1 | h1
     ·exact hI.out.2.2.1 b h1
     ·have:=HE3.out.size; exact .inr (by omega),hE44⟩
    clear hOO hO4 hE4 hE44 q2
    rcases hend with ⟨rfl,hJ4⟩ | ⟨rfl,hJ4⟩
    ·have HJ4:=hid hJ4
     clear hJ4
     refine ⟨_,rfl,?_⟩
     have stab:Hid (∀w5,Below W4.heap.size W4 w5→J (k+1) O4 w5∧(∀b,O b→O4 b)∧(∀b,O4 b→O b∨W.heap.size≤b)∧Eff O W w5):=fun w5 hB5=>
      ⟨HC.out.stab (k+1) O4 W4 w5 HJ4.out hB5.size (fun b hb=>hB5.block b (HC.out.lt (k+1) O4 W4 HJ4.out b hb)),hOs.out.1,hOs.out.2.1,hOs.out.2.2.trans (Eff.of_below (O:=O4) hB5) hOs.out.2.1⟩
     gi_wp2_with fail
     refine (wf_calls.mpr (CL.out _)).mono ?_
     rintro e w5 ⟨rfl,hB5⟩
     have HB5:=hid hB5
     clear hB5
     by_cases g1:vd+1≤ln
     ·gi_wp2
      refine ⟨⟨k+1,_,_,_,_,O4,rfl,rfl,rfl,rfl,by go_num,by omega,fun hk1=>?_,stab.out _ HB5.out⟩,by simp [intOf]; omega⟩
      have:=X1.out g1 (by omega)
      rwa [show f+(k:Int)+1=f+((k+1:Nat):Int) by omega] at this
     ·by_cases g2:vm+1≤12
      ·gi_wp2
       refine ⟨⟨k+1,_,_,_,_,O4,rfl,rfl,rfl,rfl,by go_num,by omega,fun hk1=>?_,stab.out _ HB5.out⟩,by simp [intOf]; omega⟩
       have:=X2.out g1 g2 (by omega)
       rwa [show f+(k:Int)+1=f+((k+1:Nat):Int) by omega] at this
      ·gi_wp2
       refine ⟨⟨k+1,_,_,_,_,O4,rfl,rfl,rfl,rfl,by go_num,by omega,fun hk1=>?_,stab.out _ HB5.out⟩,by simp [intOf]; omega⟩
       have:=X3.out g1 g2 (by omega)
       rwa [show f+(k:Int)+1=f+((k+1:Nat):Int) by omega] at this
    ·have HJ4:=hid hJ4
     clear hJ4
     refine ⟨_,rfl,?_⟩
     gi_wp2
     refine bodyPost_ret (results_none rfl _ _ _) rfl ?_
     exact ⟨⟨_,rfl⟩,O4,hOs.out.1,hOs.out.2.1,hOs.out.2.2, .inr ⟨k+1,by omega,by rw [HL.out]; omega,HJ4.out⟩⟩
   ·obtain rfl:k=L:=by omega
    gi_wp2
    go_end0
    exact ⟨⟨_,rfl⟩,O',hI.out.2.1,hI.out.2.2.1,hI.out.2.2.2, .inl (by rw [HL.out]; exact hI.out.1)⟩
theorem week_tells (f t:Int) (b1 b2:Nat) (Ow:Nat→Prop) (w:World) (h0:0≤f) (hf1:f≤146097) (h1:t≤146096) (ht0:-1≤t) (hb1:b1 < w.heap.size) (hb2:b2 < w.heap.size) (n1:¬Ow b1) (n2:¬Ow b2)
  (c1:w.cell? ⟨b1,0,none⟩=some (.int .i64 f)) (c2:w.cell? ⟨b2,0,none⟩=some (.int .i64 t)) :
  TellsV Tryz.prog 167 #[.pointer (some ⟨b1,0,none⟩), .pointer (some ⟨b2,0,none⟩)] (shTell (daysL f t)) Ow w:=by
 intro y J Jx O W hO hB hC hJ
 exact WeekIter_any f t b1 b2 y J Jx O W h0 hf1 h1 ht0 hC hJ (zH hb1 hB.size) (zH hb2 hB.size) (fun h=>by rcases hO b1 h with h1 | h1; exact n1 h1; omega) (fun h=>by rcases hO b2 h with h1 | h1; exact n2 h1; omega)
  ((hB.cell (p:=⟨b1,0,none⟩) hb1).trans c1) ((hB.cell (p:=⟨b2,0,none⟩) hb2).trans c2)
theorem week_enters (args:Array Value) (w:World):(callFunc 167 args).run Tryz.prog w= .ok (.enter 167 args) w:=by simp [go_sem]
end
section
open Go.RowKit Go.Maps
theorem shS_put {W:World} {b l:Nat} {s:Nat→Int} {o:Obj} (h:ShS W b s) (hr:∃r,W.heap[l]? =some (.loop r)):ShS (W.putObj l o) b s:=by
 obtain ⟨h0,h1,h2,h3,h4,h5,h6,h7,h8,h9⟩:=h
 exact ⟨putObj_cell hr h0,putObj_cell hr h1,putObj_cell hr h2,putObj_cell hr h3,putObj_cell hr h4,putObj_cell hr h5,putObj_cell hr h6,putObj_cell hr h7,putObj_cell hr h8,putObj_cell hr h9⟩
structure HA (cs:List Cl) (br bk:Nat) (bps:List Nat) (x1 x2 x3:Nat) (f t:Int) (Inv:(Nat→Bool)→Nat→Prop) (F:Blk) (W:World):Prop where
 roll:∃ws m,RollS W cs br bk bps F ws m∧Inv ws m
 inF:F x1∧F x2∧F x3
 out:¬RM br bk bps x1∧¬RM br bk bps x2∧¬RM br bk bps x3
 c1:W.cell? ⟨x1,0,none⟩=some (.int .i64 f)
 c2:W.cell? ⟨x2,0,none⟩=some (.int .i64 t)
 c3:W.cell? ⟨x3,0,none⟩=some (.pointer (some ⟨br,0,none⟩))
section
variable {cs:List Cl} {br bk:Nat} {bps:List Nat} {x1 x2 x3:Nat} {f t:Int} {Inv Inv':(Nat→Bool)→Nat→Prop} {F F':Blk} {W W':World}
theorem HA.keep (h:HA cs br bk bps x1 x2 x3 f t Inv F W) (hs:W.heap.size≤W'.heap.size) (hb:∀b,F b→W'.heap[b]? =W.heap[b]?):HA cs br bk bps x1 x2 x3 f t Inv F W':=by
 obtain ⟨ws,m,h1,h2⟩:=h.roll
 have c:∀b,F b→W'.cell? ⟨b,0,none⟩=W.cell? ⟨b,0,none⟩:=fun b hF=>World.cell?_of_block (w:=W) (a:=⟨b,0,none⟩) (hb b hF)
 exact ⟨⟨ws,m,h1.keep hs hb,h2⟩,h.inF,h.out,(c _ h.inF.1).trans h.c1,(c _ h.inF.2.1).trans h.c2,(c _ h.inF.2.2).trans h.c3⟩
theorem HA.lt (h:HA cs br bk bps x1 x2 x3 f t Inv F W):∀b,F b→b < W.heap.size:=by
 obtain ⟨ws,m,h1,h2⟩:=h.roll; exact h1.x.lt
theorem HA.sub (h:HA cs br bk bps x1 x2 x3 f t Inv F W):∀b,RM br bk bps b→F b:=by
 obtain ⟨ws,m,h1,h2⟩:=h.roll; exact h1.x.sub
theorem HA.step {ws':Nat→Bool} {m':Nat} (h:HA cs br bk bps x1 x2 x3 f t Inv F W) (hR:RollS W' cs br bk bps F' ws' m') (hF:∀b,F b→F' b) (hE:Eff (RM br bk bps) W W') (hI:Inv' ws' m'):HA cs br bk bps x1 x2 x3 f t Inv' F' W':=by
 have hlt:=h.lt
 have c:∀b,F b→¬RM br bk bps b→W'.cell? ⟨b,0,none⟩=W.cell? ⟨b,0,none⟩:=fun b hF hn=>hE.cell (p:=⟨b,0,none⟩) (hlt b hF) hn
 exact ⟨⟨ws',m',hR,hI⟩,⟨hF _ h.inF.1,hF _ h.inF.2.1,hF _ h.inF.2.2⟩,h.out,(c _ h.inF.1 h.out.1).trans h.c1,(c _ h.inF.2.1 h.out.2.1).trans h.c2,(c _ h.inF.2.2 h.out.2.2).trans h.c3⟩
end
def IG (M O F:Blk) (W:World) (R:Blk→Blk→World→Prop) (O2:Blk) (W':World):Prop:=
 ∃O1 F1:Blk,(∀b,O2 b↔O1 b∨F1 b)∧(∀b,F1 b→¬O1 b)∧R O1 F1 W'∧(∀b,O b→O1 b)∧(∀b,O1 b→O b∨W.heap.size≤b)∧(∀b,F b→F1 b)∧(∀b,F1 b→F b∨W.heap.size≤b)∧(∀b,F b→¬M b→W'.heap[b]? =W.heap[b]?)
section
variable {M O F:Blk} {W W1 W':World} {R R':Blk→Blk→World→Prop} {O2:Blk}
theorem IG.keep (h:IG M O F W R O2 W1) (hs:W1.heap.size≤W'.heap.size) (hb:∀b,O2 b→W'.heap[b]? =W1.heap[b]?)
  (hR:∀O1 F1,R O1 F1 W1→W1.heap.size≤W'.heap.size→(∀b,O1 b∨F1 b→W'.heap[b]? =W1.heap[b]?)→R O1 F1 W'):IG M O F W R O2 W':=by
 obtain ⟨O1,F1,e,h1,h2,h3,h4,h5,h6,h7⟩:=h
 exact ⟨O1,F1,e,h1,hR O1 F1 h2 hs (fun b g=>hb b ((e b).2 g)),h3,h4,h5,h6,fun b g n=>(hb b ((e b).2 (.inr (h5 b g)))).trans (h7 b g n)⟩
theorem IG.lt (h:IG M O F W R O2 W1) (hR:∀O1 F1,R O1 F1 W1→∀b,O1 b∨F1 b→b < W1.heap.size):∀b,O2 b→b < W1.heap.size:=by
 obtain ⟨O1,F1,e,h1,h2,h3⟩:=h
 exact fun b hb=>hR O1 F1 h2 b ((e b).1 hb)
end
theorem shS_blk {W W':World} {b:Nat} {s:Nat→Int} (h:ShS W b s) (hb:W'.heap[b]? =W.heap[b]?):ShS W' b s:=by
 have c:∀i,W'.cell? ⟨b,i,none⟩=W.cell? ⟨b,i,none⟩:=fun i=>World.cell?_of_block (w:=W) (a:=⟨b,i,none⟩) hb
 obtain ⟨h0,h1,h2,h3,h4,h5,h6,h7,h8,h9⟩:=h
 exact ⟨(c _).trans h0,(c _).trans h1,(c _).trans h2,(c _).trans h3,(c _).trans h4,(c _).trans h5,(c _).trans h6,(c _).trans h7,(c _).trans h8,(c _).trans h9⟩
end
section
open Go.RowKit Go.Maps
theorem has_held {c:Cl} {t:Int} (h:hasC c t=true):heldB c.fr c.un=true∧heldF c.fr c.un≤t∧t≤heldU c.fr c.un∧0≤t∧t < 12622780800:=by
 rw [hasC,Bool.and_eq_true,Bool.and_eq_true,Bool.and_eq_true,winB,betB,Bool.and_eq_true,decide_eq_true_eq,decide_eq_true_eq,decide_eq_true_eq] at h
 obtain ⟨⟨h1,h2⟩,-,⟨h3,h4⟩,-⟩:=h
 have hb:heldB c.fr c.un=true:=decide_eq_true (by omega)
 refine ⟨hb,?_⟩
 rw [heldF,heldU,hb,if_pos rfl,if_pos rfl]
 omega
theorem hul_fold:∀(l:List Cl) (a b:Int),l.foldl (fun a c=>if heldB c.fr c.un then min a (heldF c.fr c.un) else a) a≤a∧b≤l.foldl (fun a c=>if heldB c.fr c.un then max a (heldU c.fr c.un) else a) b∧
  ∀c∈l,heldB c.fr c.un=true→l.foldl (fun a c=>if heldB c.fr c.un then min a (heldF c.fr c.un) else a) a≤heldF c.fr c.un∧heldU c.fr c.un≤l.foldl (fun a c=>if heldB c.fr c.un then max a (heldU c.fr c.un) else a) b
 | [],a,b=>⟨Int.le_refl _,Int.le_refl _,by simp⟩
 | d :: l,a,b=>by
   obtain ⟨h1,h2,h3⟩:=hul_fold l (if heldB d.fr d.un then min a (heldF d.fr d.un) else a) (if heldB d.fr d.un then max b (heldU d.fr d.un) else b)
   rw [List.foldl_cons,List.foldl_cons]
   have e1:(if heldB d.fr d.un then min a (heldF d.fr d.un) else a)≤a:=by split <;> omega
   have e2:b≤(if heldB d.fr d.un then max b (heldU d.fr d.un) else b):=by split <;> omega
   refine ⟨Int.le_trans h1 e1,Int.le_trans e2 h2,fun c hc hb=>?_⟩
   rcases List.mem_cons.1 hc with e | hc
   ·subst e
    have f1:(if heldB c.fr c.un then min a (heldF c.fr c.un) else a)≤heldF c.fr c.un:=by rw [if_pos hb]; omega
    have f2:heldU c.fr c.un≤(if heldB c.fr c.un then max b (heldU c.fr c.un) else b):=by rw [if_pos hb]; omega
    exact ⟨Int.le_trans h1 f1,Int.le_trans f2 h2⟩
   ·exact h3 c hc hb
theorem hul_in {cs:List Cl} {n:Int} {k:Nat} (hk:k < 86400) (h:dayQ cs n k=true):hulB cs=true∧heldF (hullF cs) (hullU cs) / 86400≤n∧n≤heldU (hullF cs) (hullU cs) / 86400∧0≤n∧n < 146097:=by
 rw [dayQ,List.any_eq_true] at h
 obtain ⟨c,hc,h⟩:=h
 obtain ⟨hb,g1,g2,g3,g4⟩:=has_held h
 obtain ⟨-,-,h3⟩:=hul_fold cs 12622780800 (-1)
 obtain ⟨k1,k2⟩:=h3 c hc hb
 have k1':hullF cs≤heldF c.fr c.un:=k1
 have k2':heldU c.fr c.un≤hullU cs:=k2
 have e:hulB cs=true:=decide_eq_true (by omega)
 refine ⟨e,?_,?_,?_,?_⟩
 ·rw [heldF,←hulB,e,if_pos rfl]; omega
 ·rw [heldU,←hulB,e,if_pos rfl]; omega
 ·omega
 ·omega
end
section
open Go.RowKit
theorem secL_len (q:Nat→Bool):(secL q).length≤86400:=sel_len q 86400
end
section
open Go.RowKit Go.Maps
theorem fault_full:faultL [fullCl]=0:=by
 rw [faultL,if_neg (by simp),if_pos (by simp [may_full])]
theorem full_okL:∀c∈ [fullCl],c.Ok:=fun c hc=>by rw [List.mem_singleton.1 hc]; exact full_ok
end
section
open Go.RowKit
theorem secs_snoc (H M S:List Int) (i:Nat) (hi:i < H.length):secs (H.take (i+1)) M S=secs (H.take i) M S ++ secHour H[i] M S:=by
 unfold secs; rw [take_snoc H i hi,List.flatMap_append,List.flatMap_cons,List.flatMap_nil,List.append_nil]
theorem secHour_snoc (h:Int) (M S:List Int) (i:Nat) (hi:i < M.length):secHour h (M.take (i+1)) S=secHour h (M.take i) S ++ secRow h M[i] S:=by
 unfold secHour; rw [take_snoc M i hi,List.flatMap_append,List.flatMap_cons,List.flatMap_nil,List.append_nil]
theorem secRow_snoc (h m:Int) (S:List Int) (i:Nat) (hi:i < S.length):secRow h m (S.take (i+1))=secRow h m (S.take i) ++ [3600 * h+60 * m+S[i]]:=by
 unfold secRow; rw [take_snoc S i hi,List.map_append,List.map_cons,List.map_nil]
set_option maxRecDepth 100000 in
set_option maxHeartbeats 3200000 in
theorem RAll_any (hs ms ss:Nat) (w:World) (hh:hs < 18446744073709551616) (hm:ms < 18446744073709551616) (hss:ss < 18446744073709551616) :
  Calls Tryz.prog 94 #[.int .u64 hs, .int .u64 ms, .int .u64 ss] w fun e w'=>∃v,e= .returned v∧
   w'.ownsRow w.heap.size 3 1 v (secs (sel (cutM hs 23).testBit 64) (sel (cutM ms 59).testBit 64) (sel (cutM ss 59).testBit 64)).length (ints (secs (sel (cutM hs 23).testBit 64) (sel (cutM ms 59).testBit 64) (sel (cutM ss 59).testBit 64)))∧Below w.heap.size w w':=by
 have c1:Hid (∀W,Calls Tryz.prog 159 #[.int .u64 hs, .int .i64 23] W fun e w'=>e= .returned (.int .u64 (cutM hs 23))∧Below W.heap.size W w'):=fun W=>RHeld_any hs 23 W hh (by omega)
 have c2:Hid (∀W,Calls Tryz.prog 159 #[.int .u64 ms, .int .i64 59] W fun e w'=>e= .returned (.int .u64 (cutM ms 59))∧Below W.heap.size W w'):=fun W=>RHeld_any ms 59 W hm (by omega)
 have c3:Hid (∀W,Calls Tryz.prog 159 #[.int .u64 ss, .int .i64 59] W fun e w'=>e= .returned (.int .u64 (cutM ss 59))∧Below W.heap.size W w'):=fun W=>RHeld_any ss 59 W hss (by omega)
 have d1:=hid (fun W=>own_ret (RList_any (cutM hs 23) W (cutM_lt 23 hh)))
 have d2:=hid (fun W=>own_ret (RList_any (cutM ms 59) W (cutM_lt 59 hm)))
 have d3:=hid (fun W=>own_ret (RList_any (cutM ss 59) W (cutM_lt 59 hss)))
 have lH:=sel_len (cutM hs 23).testBit 64
 have lM:=sel_len (cutM ms 59).testBit 64
 have lS:=sel_len (cutM ss 59).testBit 64
 have bH:=hid (fun k hk=>sel_bd (p:=(cutM hs 23).testBit) k hk)
 have bM:=hid (fun k hk=>sel_bd (p:=(cutM ms 59).testBit) k hk)
 have bS:=hid (fun k hk=>sel_bd (p:=(cutM ss 59).testBit) k hk)
 obtain ⟨H,eH⟩:∃l,sel (cutM hs 23).testBit 64=l:=⟨_,rfl⟩
 obtain ⟨M,eM⟩:∃l,sel (cutM ms 59).testBit 64=l:=⟨_,rfl⟩
 obtain ⟨S,eS⟩:∃l,sel (cutM ss 59).testBit 64=l:=⟨_,rfl⟩
 rw [eH] at lH bH d1⊢
 rw [eM] at lM bM d2⊢
 rw [eS] at lS bS d3⊢
 clear eH eM eS hh hm hss
 obtain ⟨x,ex⟩:∃x,cutM hs 23=x:=⟨_,rfl⟩
 obtain ⟨y,ey⟩:∃x,cutM ms 59=x:=⟨_,rfl⟩
 obtain ⟨z,ez⟩:∃x,cutM ss 59=x:=⟨_,rfl⟩
 rw [ex] at c1 d1
 rw [ey] at c2 d2
 rw [ez] at c3 d3
 clear ex ey ez
 obtain ⟨i0,hi0,hz0,hz1,hz2⟩:=info_parts eInt.hi
 go_enter Tryz.func94,Tryz.ntmps94
 go_wp2_with fail
 refine (c1.out w).mono ?_
 rintro e w1 ⟨rfl,hB1⟩
 go_wp2_with fail
 refine (d1.out w1).mono ?_
 rintro e w2 ⟨aH,nH,cH,rfl,hnH,hsH,hoH,hB2⟩
 have HB2:Hid (Below w.heap.size w w2):=hB1.trans (hB2.mono hB1.size)
 clear hoH hB1 hB2
 go_wp2_with fail
 refine (c2.out w2).mono ?_
 rintro e w3 ⟨rfl,hB3⟩
 go_wp2_with fail
 refine (d2.out w3).mono ?_
 rintro e w4 ⟨aM,nM,cM,rfl,hnM,hsM,hoM,hB4⟩
 have hBB:Below w2.heap.size w2 w4:=hB3.trans (hB4.mono hB3.size)
 have HB4:Hid (Below w.heap.size w w4):=HB2.out.trans (hBB.mono HB2.out.size)
 have hsH4:=hsH.below hBB
 clear hoM hB3 hB4 hBB hsH
 go_wp2_with fail
 refine (c3.out w4).mono ?_
 rintro e w5 ⟨rfl,hB5⟩
 go_wp2_with fail
 refine (d3.out w5).mono ?_
 rintro e W0 ⟨aS,nS,cS,rfl,hnS,hsS,hoS,hB6⟩
 have hBB:Below w4.heap.size w4 W0:=hB5.trans (hB6.mono hB5.size)
 have HB0:Hid (Below w.heap.size w W0):=HB4.out.trans (hBB.mono HB4.out.size)
 have HsH:=hid (hsH4.below hBB)
 have HsM:=hid (hsM.below hBB)
 have HsS:=hid hsS
 obtain rfl:=hnH.out
 obtain rfl:=hnM.out
 obtain rfl:=hnS.out
 clear hoS hB5 hB6 hBB hsH4 hsM hsS HB2 HB4 hnH hnM hnS d1 d2 d3 c1 c2 c3
 go_wp2_with fail
 go_loopw [10,11,12,13] (fun v i _ _ wr=>∃(n q cq:Nat) (aq:Option Addr),i= .int .i64 n∧n≤H.length∧v= .slice aq q cq∧q≤4096 * n∧Hid (q= (secs (H.take n) M S).length)∧wr.ownsRow W0.heap.size 3 1 (.slice aq q cq) q (ints (secs (H.take n) M S))∧Below W0.heap.size W0 wr) (fun _ i _ _ _=>H.length - (intOf i).toNat)
 case atStart=>exact ⟨0,0,0,none,rfl,by omega,rfl,by omega,(rfl:(0:Nat)=0),World.ownsRow_nil _ _ _ _,Below.refl _ _⟩
 case round=>
  obtain ⟨n,q,cq,aq,rfl,hn,rfl,hq,Hq,hown,hB⟩:=hrel
  by_cases hlt:n < H.length
  ·obtain ⟨bh,oh,rfl,hbh,hch⟩:=HsH.out.atInt hlt
   have eh:=hch n hlt
   have fh:=bH.out n hlt
   have Hsn:=hid (secs_snoc H M S n hlt)
   obtain ⟨h,hh⟩:∃h,H[n]=h:=⟨_,rfl⟩
   rw [hh] at eh fh Hsn
   obtain ⟨fh1,fh2⟩:=fh
   clear hch hh
   go_wp2_with fail
   go_loopw [10,12,13] (fun v i _ wr=>∃(m q cq:Nat) (aq:Option Addr),i= .int .i64 m∧m≤M.length∧v= .slice aq q cq∧q≤4096 * n+64 * m∧Hid (q= (secs (H.take n) M S ++ secHour h (M.take m) S).length)∧wr.ownsRow W0.heap.size 3 1 (.slice aq q cq) q (ints (secs (H.take n) M S ++ secHour h (M.take m) S))∧Below W0.heap.size W0 wr) (fun _ i _ _=>M.length - (intOf i).toNat)
   case atStart=>exact ⟨0,q,cq,aq,rfl,by omega,rfl,by omega,by simpa [secHour] using Hq,by simpa [secHour] using hown,hB⟩
   case round=>
    clear hown hB Hq hq
    obtain ⟨m,q,cq,aq,rfl,hm,rfl,hq,Hq,hown,hB⟩:=hrel
    by_cases hlt2:m < M.length
    ·obtain ⟨bm,om,rfl,hbm,hcm⟩:=HsM.out.atInt hlt2
     have em:=hcm m hlt2
     have fm:=bM.out m hlt2
     have Hsm:=hid (secHour_snoc h M S m hlt2)
     obtain ⟨mm,hmm⟩:∃h,M[m]=h:=⟨_,rfl⟩
     rw [hmm] at em fm Hsm
     obtain ⟨fm1,fm2⟩:=fm
     clear hcm hmm
     go_wp2_with fail
     go_loopw [10,13] (fun v i wr=>∃(j q cq:Nat) (aq:Option Addr),i= .int .i64 j∧j≤S.length∧v= .slice aq q cq∧q≤4096 * n+64 * m+j∧Hid (q= ((secs (H.take n) M S ++ secHour h (M.take m) S) ++ secRow h mm (S.take j)).length)∧wr.ownsRow W0.heap.size 3 1 (.slice aq q cq) q (ints ((secs (H.take n) M S ++ secHour h (M.take m) S) ++ secRow h mm (S.take j)))∧Below W0.heap.size W0 wr) (fun _ i _=>S.length - (intOf i).toNat)
     case atStart=>exact ⟨0,q,cq,aq,rfl,by omega,rfl,by omega,by simpa [secRow] using Hq,by simpa [secRow] using hown,hB⟩
     case round=>
      clear hown hB Hq hq
      obtain ⟨j,q,cq,aq,rfl,hj,rfl,hq,Hq,hown,hB⟩:=hrel
      by_cases hlt3:j < S.length
      ·obtain ⟨bs,os,rfl,hbs,hcs⟩:=HsS.out.atInt hlt3
       have es:=(hB.cell (p:=⟨bs,os+j,none⟩) hbs).trans (hcs j hlt3)
       have eh':=(hB.cell (p:=⟨bh,oh+n,none⟩) hbh).trans eh
       have em':=(hB.cell (p:=⟨bm,om+m,none⟩) hbm).trans em
       have fs:=bS.out j hlt3
       have Hss:=hid (secRow_snoc h mm S j hlt3)
       obtain ⟨s,hs⟩:∃h,S[j]=h:=⟨_,rfl⟩
       rw [hs] at es fs Hss
       obtain ⟨fs1,fs2⟩:=fs
       clear hcs hs eh em
       have ag:(Value.slice aq q cq).ownBlock≠some bh:=fun e=>by have:=(owns_lt hown e).1; omega
       have ak:(Value.slice aq q cq).ownBlock≠some bm:=fun e=>by have:=(owns_lt hown e).1; omega
       have av:(Value.slice aq q cq).ownBlock≠some bs:=fun e=>by have:=(owns_lt hown e).1; omega
       have Hown:=hid hown
       have hsz:=hB.size
       have HB:=hid hB
       clear hown hB
       go_wp2_with fail
       go_region_held3 (fun w'=>w'.cell? ⟨bh,oh+n,none⟩=some (.int .i64 h)∧w'.cell? ⟨bm,om+m,none⟩=some (.int .i64 mm)∧w'.cell? ⟨bs,os+j,none⟩=some (.int .i64 s))
        (first
          | go_keep
          | (go_split_ands
             refine ⟨?_,?_,?_⟩
             ·(rw [hgrow.cell_far _ (by simp; omega) (Ne.symm ag)]; assumption)
             ·(rw [hgrow.cell_far _ (by simp; omega) (Ne.symm ak)]; assumption)
             ·(rw [hgrow.cell_far _ (by simp; omega) (Ne.symm av)]; assumption)))
        ((refine step_append_lies _ (by rfl) _ _ _ (by rfl) W0.heap.size 3 i0 _ 1 8 Tryz.underlying57 hi0 hz0 hz1 hz2 rfl (by omega) (.slice aq q cq) q _ (by rfl) ((Hown.out.alloc _).drew)
           ⟨wr.heap.size,0,none⟩ 1 1 [.int .i64 (IntKind.i64.wrap (IntKind.i64.wrap (IntKind.i64.wrap (3600 * h)+IntKind.i64.wrap (60 * mm))+s))] (by rfl) (by rfl) (World.news_of_block (cs:=#[.int .i64 (IntKind.i64.wrap (IntKind.i64.wrap (IntKind.i64.wrap (3600 * h)+IntKind.i64.wrap (60 * mm))+s))]) (t:=3) (fr:=(0,0)) (heap_alloc_new wr _)) (by simp [Value.oneCell'])
           (by omega) (by unfold maxLen; omega) (by omega) (by simp; omega) (wr.heap.size+1) (by simp) ?_; intro gg cap w1 hown1 hgrow hat hlt))
       have hV:IntKind.i64.wrap (IntKind.i64.wrap (IntKind.i64.wrap (3600 * h)+IntKind.i64.wrap (60 * mm))+s)=3600 * h+60 * mm+s:=by
        simp only [IntKind.wrap_i64]
        omega
       rw [hV,←ints_one,←ints_append,List.append_assoc,←Hss.out] at hown1
       have hb1:Below W0.heap.size W0 w1:=(below_new HB.out hsz).drew.trans (Below.of_grown hgrow (by simp; omega) (fun k hk=>(owns_lt Hown.out hk).1))
       have hq1:Hid (q+1= (secs (H.take n) M S ++ secHour h (M.take m) S ++ secRow h mm (S.take (j+1))).length):=by
        show q+1= _
        rw [Hss.out,←List.append_assoc,List.length_append,←Hq.out]; rfl
       have HOwn1:=hid hown1
       have HB1:=hid hb1
       clear hV hown1 hb1 hgrow ag ak av hat
       go_wp2
       exact ⟨⟨j+1,q+1,cap,some ⟨gg,0,none⟩,by go_num,by omega,rfl,by omega,hq1,HOwn1.out,HB1.out⟩,by simp [intOf]; omega⟩
      ·obtain rfl:j=S.length:=by omega
       rw [List.take_length] at Hq hown
       have hq1:Hid (q= (secs (H.take n) M S ++ secHour h (M.take (m+1)) S).length):=by rw [Hsm.out,←List.append_assoc]; exact Hq
       have ho1:Hid (wr.ownsRow W0.heap.size 3 1 (.slice aq q cq) q (ints (secs (H.take n) M S ++ secHour h (M.take (m+1)) S))):=by rw [Hsm.out,←List.append_assoc]; exact hown
       clear hown Hq em eh
       go_wp2
       exact ⟨⟨m+1,q,cq,aq,by go_num,by omega,rfl,by omega,hq1,ho1.out,hB⟩,by simp [intOf]; omega⟩
    ·obtain rfl:m=M.length:=by omega
     rw [List.take_length] at Hq hown
     rw [←Hsn.out] at Hq hown
     have ho1:=hid hown
     clear hown eh
     go_wp2
     exact ⟨⟨n+1,q,cq,aq,by go_num,by omega,rfl,by omega,Hq,ho1.out,hB⟩,by simp [intOf]; omega⟩
  ·obtain rfl:n=H.length:=by omega
   rw [List.take_length] at Hq hown
   have ho1:=hid hown
   clear hown
   go_wp2
   go_ret
   exact ⟨_,rfl,by rw [←Hq.out]; exact owns_base ho1.out HB0.out.size,HB0.out.trans (hB.mono HB0.out.size)⟩
end
end Go.Proofs.YtmjljpdeohbfbaaGreatDoor
