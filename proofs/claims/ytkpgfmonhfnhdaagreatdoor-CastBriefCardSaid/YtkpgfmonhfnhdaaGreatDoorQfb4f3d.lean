/-
  roll.All's function, walked: it tells the days of a set, each with its disc.
  roll.All and roll.Back: which function they hand back, with which boxes; the days outside of a set's hull have nothing.
  The seconds of a disc, told and collected in a list: ferialaw15.Told.
  What feriaref02.Ints computes.
  ferialaw18.Same, and the chapter's example: ferialaw18.lives.
  What feriaref07.All computes: the seconds of three masks.
-/
import Derived.Test.YtkpgfmonhfnhdaaGreatDoorQ5ae103
import Derived.Test.YtkpgfmonhfnhdaaGreatDoorQc54c6b
import Derived.Test.YtkpgfmonhfnhdaaGreatDoorQe2101f
import Derived.Test.YtkpgfmonhfnhdaaGreatDoorQ060903
import Derived.Test.YtkpgfmonhfnhdaaGreatDoorQ6d5c78
import Derived.Test.YtkpgfmonhfnhdaaGreatDoorQ9a3e48
import Derived.Deep.RegionHeld3
import Derived.Deep.AppendLies
namespace Go.Proofs.YtkpgfmonhfnhdaaGreatDoor
set_option linter.unusedVariables false
section
open Go.RowKit Go.Maps
attribute [local go_sem] Oper.semAt_some
set_option maxRecDepth 100000 in
set_option maxHeartbeats 3200000 in
theorem yg5 {cs:List Cl} {br bk:Nat} {bps:List Nat} (Inv:Nat→(Nat→Bool)→Nat→Prop) (x1 x2 x3:Nat) (f t:Int) (f0:0≤f) (f1:f≤146097) (t0:-1≤t) (t1:t≤146096)
  (hstep:∀j n ws m ws' m',(yae f t)[j]? =some n→Inv j ws m→yhe cs n ws m ws' m'→Inv (j+1) ws' m') (hbd:∀j ws m,Inv j ws m→j < (yae f t).length→m < 4611686018427387904) :
  TellsH Tryz.prog 63 #[.pointer (some ⟨x1,0,none⟩), .pointer (some ⟨x2,0,none⟩), .pointer (some ⟨x3,0,none⟩)] (dayS cs (yae f t)).length (VRoll cs (RM br bk bps) (dayS cs (yae f t)))
   (HA cs br bk bps x1 x2 x3 f t (Inv 0)) (HA cs br bk bps x1 x2 x3 f t (Inv (yae f t).length)) (fun F W=>∃j,HA cs br bk bps x1 x2 x3 f t (Inv j) F W) (RM br bk bps):=by
 intro y J Jx O F W hH hFO hC hJ
 obtain ⟨yf,yi,yc,rfl⟩:=hC.form
 show Calls Tryz.prog 63 #[.func yf yi yc, .pointer (some ⟨x1,0,none⟩), .pointer (some ⟨x2,0,none⟩), .pointer (some ⟨x3,0,none⟩)] W _
 obtain ⟨W1,hW1⟩:∃W1,W.alloc (.cells #[.func yf yi yc] 124)=W1:=⟨_,rfl⟩
 have q3:W1.heap.size=W.heap.size+1:=by rw [←hW1]; simp
 have q4:Below W.heap.size W W1:=by rw [←hW1]; exact yaa (Below.refl _ _) (zG _)
 have q5:W1.cell? ⟨W.heap.size,0,none⟩=some (.func yf yi yc):=by rw [←hW1]; simp [go_sem]
 have hFlt:=hH.lt
 have hOlt:=hC.lt 0 O F W hJ
 have hH1:HA cs br bk bps x1 x2 x3 f t (Inv 0) F W1:=hH.keep q4.size (fun b hb=>q4.block b (hFlt b hb))
 have HH1:=hid hH1
 have HJ1:Hid (J 0 O F W1):=hC.stab 0 O F F W W1 hJ q4.size (fun _ h=>h) (fun b hb=>q4.block b (hb.elim (hOlt b) (fun h=>hFlt b h.1)))
 have HRM:=hid hH.sub
 have HF:=hid hFlt
 have HO:=hid hOlt
 have HFO:=hid hFO
 have HC:=hid hC
 have Hst:=hid hstep
 have Hbd:=hid hbd
 have k1:=hH1.c1
 have k2:=hH1.c2
 have HW1:=hid hW1
 have Q4:=hid q4
 have Q3:=hid q3
 have ey:=hid q5
 obtain ⟨L,hL⟩:∃L,(yae f t).length=L:=⟨_,rfl⟩
 rw [hL] at Hbd⊢
 have HL:=hid hL
 clear hH hFO hC hJ hW1 q3 q4 q5 hFlt hOlt hH1 hstep hbd hL
 refine (wf_calls (r:=none) (n:=1)).mp ?_
 refine callsIn_of_wp_marks Tryz.func63 rfl trivial ?_ rfl
 simp only [Tryz.ntmps63,List.size_toArray,List.length_cons,List.length_nil,Nat.reduceAdd,Nat.reduceSub,Array.replicate_succ,Array.replicate_zero,List.push_toArray,List.append_toArray,List.nil_append,List.cons_append]
 gi_wp2_with fail
 refine ycT ?_
 rw [HW1.out]
 gi_wp2_with fail
 refine wpIn_label ?_
 gi_wp2_with fail
 refine (wf_calls.mpr (WDays_any _ _ _)).mono ?_
 rintro e w2 ⟨rfl,hk1,hk2,hB2,hs2⟩
 have hk1':w2.cell? ⟨W1.heap.size,0,none⟩=some (.int .i64 f):=by rw [hk1,show max f 0=f by omega]
 have hk2':w2.cell? ⟨W1.heap.size+1,0,none⟩=some (.int .i64 t):=by rw [hk2,show min t 146096=t by omega]
 have s12:=hB2.size
 have hB02:Below W.heap.size W w2:=Q4.out.trans (hB2.mono Q4.out.size)
 have hI2:IG (RM br bk bps) O F W (fun O1 F1 W'=>J (cntA cs (yae f t) 0) O1 F1 W'∧HA cs br bk bps x1 x2 x3 f t (Inv 0) F1 W') (fun b=>O b∨F b) w2:=
  ⟨O,F,fun b=>Iff.rfl,HFO.out,⟨HC.out.stab 0 O F F W1 w2 HJ1.out hB2.size (fun _ h=>h) (fun b hb=>hB2.block b (by have:=hb.elim (HO.out b) (fun h=>HF.out b h.1); have:=Q3.out; omega)),HH1.out.keep hB2.size (fun b hb=>hB2.block b (by have:=HF.out b hb; have:=Q3.out; omega))⟩,fun _ h=>h,fun _ h=> .inl h,fun _ h=>h,fun _ h=> .inl h,fun b hb _=>hB02.block b (HF.out b hb)⟩
 have tl:=hid (yi1 f t W1.heap.size (W1.heap.size+1) (fun b=>O b∨F b) w2 f0 f1 t1 t0 (by omega) hs2 (fun h=>by have:=h.elim (HO.out _) (HF.out _); have:=Q3.out; omega) (fun h=>by have:=h.elim (HO.out _) (HF.out _); have:=Q3.out; omega) hk1' hk2')
 have ey2:=hid ((hB2.cell (p:=⟨W.heap.size,0,none⟩) (by have:=Q3.out; simp only []; omega)).trans ey.out)
 have nOy:Hid (¬(O W.heap.size∨F W.heap.size)):=fun h=>by have:=h.elim (HO.out _) (HF.out _); omega
 have szW:W.heap.size < w2.heap.size:=by have:=Q3.out; omega
 have HB02:=hid hB02
 have HI2:=hid hI2
 clear hk1 hk2 hk1' hk2' hB2 hB02 hI2 k1 k2
 gi_wp2_with fail
 refine ygx (gf:=111) (lb:=#[.pointer (some ⟨W1.heap.size,0,none⟩), .pointer (some ⟨W1.heap.size+1,0,none⟩)]) rfl yhh (ybZ (yae f t)) (fun b=>O b∨F b) (fun x hx=>by simp only [ybZ,List.mem_map] at hx; obtain ⟨_,_,rfl⟩:=hx; rfl) tl.out
  (fun k O2 W'=>IG (RM br bk bps) O F W (fun O1 F1 W'=>J (cntA cs (yae f t) k) O1 F1 W'∧HA cs br bk bps x1 x2 x3 f t (Inv k) F1 W') O2 W')
  (fun c k O2 W'=>c= .exit 0∧IG (RM br bk bps) O F W (fun O1 F1 W'=>(∃q,1≤q∧q≤(dayS cs (yae f t)).length∧Jx q O1 F1 W')∧HA cs br bk bps x1 x2 x3 f t (Inv k) F1 W') O2 W')
  ?stab ?stabx ?lt ?ltx HI2.out
  (fun k O2 a' W'=>IG (RM br bk bps) O F W (fun O1 F1 W'=>J (cntA cs (yae f t) k) O1 F1 W'∧HA cs br bk bps x1 x2 x3 f t (Inv k) F1 W') O2 W'∧∃bx n,(yae f t)[k]? =some n∧bx < W'.heap.size∧¬O2 bx∧ShS W' bx (shF n)∧∃(u6 u7 u8 u9 u10 u11 u12 u13 u14 u15 u16 u17 u18 u19 u20 u21:Value),a' = {tmps:=#[.func yf yi yc, .pointer (some ⟨x1,0,none⟩), .pointer (some ⟨x2,0,none⟩), .pointer (some ⟨x3,0,none⟩), .pointer (some ⟨W.heap.size,0,none⟩), .pointer (some ⟨bx,0,none⟩),u6,u7,u8,u9,u10,u11,u12,u13,u14,u15,u16,u17,u18,u19,u20,u21],defers:= []})
  ?putl ?assign ?body ?done ?stop
 case stab=>
  intro k O2 W' W2 h hs hO
  exact h.keep hs hO (fun O1 F1 ⟨g1,g2⟩ g3 g4=>⟨HC.out.stab _ O1 F1 F1 W' W2 g1 g3 (fun _ h=>h) (fun b hb=>g4 b (hb.imp id And.left)),g2.keep g3 (fun b hb=>g4 b (.inr hb))⟩)
 case stabx=>
  rintro c k O2 W' W2 ⟨rfl,h⟩ hs hO
  exact ⟨rfl,h.keep hs hO (fun O1 F1 ⟨⟨q,q1,q2,g1⟩,g2⟩ g3 g4=>⟨⟨q,q1,q2,HC.out.stabx _ O1 F1 F1 W' W2 g1 g3 (fun _ h=>h) (fun b hb=>g4 b (hb.imp id And.left))⟩,g2.keep g3 (fun b hb=>g4 b (.inr hb))⟩)⟩
 case lt=>
  intro k O2 W' h
  exact h.lt (fun O1 F1 ⟨g1,g2⟩ b hb=>hb.elim (HC.out.lt _ _ _ _ g1 b) (g2.lt b))
 case ltx=>
  rintro c k O2 W' ⟨rfl,h⟩
  exact h.lt (fun O1 F1 ⟨⟨q,q1,q2,g1⟩,g2⟩ b hb=>hb.elim (HC.out.ltx _ _ _ _ g1 b) (g2.lt b))
 case putl=>
  rintro l' o k O2 a' W' hr hn ⟨h,bx,n,h1,h2,h3,h4,h5⟩
  exact ⟨h.keep (by rw [World.putObj_size]; exact zG _) (fun b hb=>World.putObj_heap_other (fun e=>hn (e ▸ hb))) (fun O1 F1 ⟨g1,g2⟩ g3 g4=>⟨HC.out.stab _ O1 F1 F1 W' _ g1 g3 (fun _ h=>h) (fun b hb=>g4 b (hb.imp id And.left)),g2.keep g3 (fun b hb=>g4 b (.inr hb))⟩),bx,n,h1,by rw [World.putObj_size]; exact h2,h3,shS_put h4 hr,h5⟩
 case assign=>
  intro l' k O6 W6 K hk hI6 hG6 hK
  have hk2:k < (yae f t).length:=by rw [yc0] at hk; exact hk
  have hx:=ye8 hk
  obtain ⟨n,hn⟩:∃n,(yae f t)[k]=n:=⟨_,rfl⟩
  have Hn':Hid ((yae f t)[k]? =some n):=by show _ = _; rw [List.getElem?_eq_getElem hk2,hn]
  rw [hn,←yaZ] at hx
  rw [hx]
  obtain ⟨s,hs⟩:∃s,shF n=s:=⟨_,rfl⟩
  rw [hs,shq]
  have Hs:=hid hs
  have hlt6:∀b,O6 b→b < W6.heap.size:=hI6.lt (fun O1 F1 ⟨g1,g2⟩ b hb=>hb.elim (HC.out.lt _ _ _ _ g1 b) (g2.lt b))
  have Hlt6:=hid hlt6
  have HI6:=hid hI6
  clear hx hn hs hlt6 hk2 hI6 hG6
  gi_wp2
  have hbel:=yaa (o:= .cells (ya0 s).toArray 71) (Below.refl W6.heap.size W6) (zG _)
  exact hK _ O6 _ (Grow.of_below hbel) ⟨HI6.out.keep hbel.size (fun b hb=>hbel.block b (Hlt6.out b hb)) (fun O1 F1 ⟨g1,g2⟩ g3 g4=>⟨HC.out.stab _ O1 F1 F1 W6 _ g1 g3 (fun _ h=>h) (fun b hb=>g4 b (hb.imp id And.left)),g2.keep g3 (fun b hb=>g4 b (.inr hb))⟩),W6.heap.size,n,Hn'.out,by simp,fun h=>by have:=Hlt6.out _ h; omega,by rw [Hs.out]; exact ydc W6 71 _ _ _ _ _ _ _ _ _ _,_,_,_,_,_,_,_,_,_,_,_,_,_,_,_,_,rfl⟩
 case done=>
  intro O9 w9 hG9 hI9 hD hnD
  rw [yc0,cntA_all,HL.out] at hI9
  obtain ⟨O1,F1,e,h1,⟨hJ9,hH9⟩,h3,h4,h5,h6,h7⟩:=hI9
  have hE:Eff (fun b=>O b∨F b) W w9:=(Eff.of_below HB02.out).trans hG9.eff (fun _ h=> .inl h)
  have n1:¬O1 w2.heap.size:=fun h=>hnD ((e _).2 (.inl h))
  have n2:¬F1 w2.heap.size:=fun h=>hnD ((e _).2 (.inr h))
  have sz:W.heap.size≤w2.heap.size:=HB02.out.size
  have hfin:Hid (∀o:Obj,ToldH (dayS cs (yae f t)).length (HA cs br bk bps x1 x2 x3 f t (Inv L)) (fun F W=>∃j,HA cs br bk bps x1 x2 x3 f t (Inv j) F W) (RM br bk bps) J Jx O F W (w9.putObj w2.heap.size o)):=fun o=>by
   have pb:∀b,b≠w2.heap.size→(w9.putObj w2.heap.size o).heap[b]? =w9.heap[b]?:=fun b hb=>World.putObj_heap_other hb
   have ps:(w9.putObj w2.heap.size o).heap.size=w9.heap.size:=World.putObj_size
   refine ⟨O1,F1,IG.growM (F:=F) HRM.out HF.out h3 h4 (fun b g n=>(pb b (fun e'=>n2 (e' ▸ h5 b g))).trans (h7 b g n)) (hE.putObj (.inr sz) o),h5,h6,h1, .inl ⟨hH9.keep (by rw [ps]; exact zG _) (fun b hb=>pb b (fun e'=>n2 (e' ▸ hb))),?_⟩⟩
   exact HC.out.stab _ O1 F1 F1 w9 _ hJ9 (by rw [ps]; exact zG _) (fun _ h=>h) (fun b hb=>pb b (fun e'=>hb.elim (fun h=>n1 (e' ▸ h)) (fun h=>n2 (e' ▸ h.1))))
  have HD9:=hid hD
  clear e h1 hJ9 hH9 h3 h4 h5 h6 h7 hE n1 n2 sz hG9 hD
  gi_wp2
  rw [Exit.noGoto_normal]
  refine ⟨by simp, .inl ⟨_,_,rfl,run_takeDeferred HD9.out,?_⟩⟩
  exact ⟨_,results_none rfl _ _ _,⟨_,rfl⟩,hfin.out _⟩
 case stop=>
  rintro c k O9 w9 hk1 hk2 hG9 ⟨rfl,hI9⟩ hD hnD
  obtain ⟨O1,F1,e,h1,⟨⟨q,hq1,hq2,hJ9⟩,hH9⟩,h3,h4,h5,h6,h7⟩:=hI9
  have hE:Eff (fun b=>O b∨F b) W w9:=(Eff.of_below HB02.out).trans hG9.eff (fun _ h=> .inl h)
  have n1:¬O1 w2.heap.size:=fun h=>hnD ((e _).2 (.inl h))
  have n2:¬F1 w2.heap.size:=fun h=>hnD ((e _).2 (.inr h))
  have sz:W.heap.size≤w2.heap.size:=HB02.out.size
  have hfin:Hid (∀o:Obj,ToldH (dayS cs (yae f t)).length (HA cs br bk bps x1 x2 x3 f t (Inv L)) (fun F W=>∃j,HA cs br bk bps x1 x2 x3 f t (Inv j) F W) (RM br bk bps) J Jx O F W (w9.putObj w2.heap.size o)):=fun o=>by
   have pb:∀b,b≠w2.heap.size→(w9.putObj w2.heap.size o).heap[b]? =w9.heap[b]?:=fun b hb=>World.putObj_heap_other hb
   have ps:(w9.putObj w2.heap.size o).heap.size=w9.heap.size:=World.putObj_size
   refine ⟨O1,F1,IG.growM (F:=F) HRM.out HF.out h3 h4 (fun b g n=>(pb b (fun e'=>n2 (e' ▸ h5 b g))).trans (h7 b g n)) (hE.putObj (.inr sz) o),h5,h6,h1, .inr ⟨⟨k,hH9.keep (by rw [ps]; exact zG _) (fun b hb=>pb b (fun e'=>n2 (e' ▸ hb)))⟩,q,hq1,hq2,?_⟩⟩
   exact HC.out.stabx _ O1 F1 F1 w9 _ hJ9 (by rw [ps]; exact zG _) (fun _ h=>h) (fun b hb=>pb b (fun e'=>hb.elim (fun h=>n1 (e' ▸ h)) (fun h=>n2 (e' ▸ h.1))))
  have HD9:=hid hD
  clear e h1 hJ9 hH9 h3 h4 h5 h6 h7 hE n1 n2 sz hG9 hD
  gi_wp2
  rw [Exit.noGoto_normal]
  refine ⟨by simp, .inl ⟨_,_,rfl,run_takeDeferred HD9.out,?_⟩⟩
  exact ⟨_,results_none rfl _ _ _,⟨_,rfl⟩,hfin.out _⟩
 case body=>
  rintro l3 k O6 a' W6 hk hG6 hl3 hrec6 hnl3 ⟨hI6,bx,n,en,lx,nx,hsh,u6,u7,u8,u9,u10,u11,u12,u13,u14,u15,u16,u17,u18,u19,u20,u21,rfl⟩
  have hmem:=yaP.1 (List.mem_of_getElem? en)
  have n0:0≤n:=by omega
  have n1:n < 146097:=by omega
  have hkL:k < (yae f t).length:=(List.getElem?_eq_some_iff.1 en).1
  obtain ⟨O1,F1,e,h1,⟨hJ6,hH6⟩,h3,h4,h5,h6,h7⟩:=hI6
  have ey6:=(hG6.cell (b:=W.heap.size) szW nOy.out 0).trans ey2.out
  have k3:=hH6.c3
  obtain ⟨ws,m,hR6,hInv⟩:=hH6.roll
  have hm:=Hbd.out k ws m hInv (by have:=HL.out; omega)
  have cA:=hid (RAt_any n n0 n1 hm hR6)
  have cS:=hid (fun d q w hT h=>Some_any d q w hT h)
  rw [←yaZ] at cA
  obtain ⟨s,hs⟩:∃s,shF n=s:=⟨_,rfl⟩
  rw [hs] at cA hsh
  rw [shq] at cA
  obtain ⟨s0,s1,s2,s3,s4,s5,s6,s7,s8,s9⟩:=hsh
  have Sh6:Hid (ShS W6 bx s):=⟨s0,s1,s2,s3,s4,s5,s6,s7,s8,s9⟩
  have Hs:=hid hs
  have En:=hid en
  have N01:=hid (And.intro n0 n1)
  have HI6:=hid (show IG (RM br bk bps) O F W (fun O1 F1 W'=>J (cntA cs (yae f t) k) O1 F1 W'∧HA cs br bk bps x1 x2 x3 f t (Inv k) F1 W') O6 W6 from ⟨O1,F1,e,h1,⟨hJ6,hH6⟩,h3,h4,h5,h6,h7⟩)
  have Hparts:=hid (And.intro e (And.intro h1 (And.intro hJ6 (And.intro hH6 (And.intro h3 (And.intro h4 (And.intro h5 (And.intro h6 h7))))))))
  have HR6:=hid hR6
  have HInv:=hid hInv
  have sz6:=hG6.eff.size
  have HE06:Hid (Eff (fun b=>O b∨F b) W W6):=(Eff.of_below HB02.out).trans hG6.eff (fun _ h=> .inl h)
  clear e h1 hJ6 hH6 h3 h4 h5 h6 h7 hR6 hInv hm hs en hmem n0 n1 hG6
  gi_wp2_with fail
  refine (wf_calls.mpr cA.out).mono ?_
  rintro e w7 ⟨d,F2,ws',m',rfl,hR7,hGr,hE7,hst7,hnone,hsome⟩
  obtain ⟨e,h1,hJ6,hH6,h3,h4,h5,h6,h7⟩:=Hparts.out
  have hlt1:∀b,O1 b→b < W6.heap.size:=HC.out.lt _ _ _ _ hJ6
  have hHA7:HA cs br bk bps x1 x2 x3 f t (Inv (k+1)) F2 w7:=hH6.step hR7 hGr.sub hE7 (Hst.out k n ws m ws' m' En.out HInv.out hst7)
  obtain ⟨g1,g5,g6,g7,gk,gG⟩:=ig_step (F:=F) h1 h5 h6 h7 hlt1 hH6.lt hH6.sub hGr hE7 HE06.out.size
  have hJ7:J (cntA cs (yae f t) k) O1 F2 w7:=HC.out.stab _ O1 F1 F2 W6 w7 hJ6 hE7.size hGr.sub gk
  have h8:cs.length≤8:=by have:=hR7.x.may; rw [mayL,Bool.and_eq_true,decide_eq_true_eq] at this; exact this.1
  have hd7:=day_disc h8 N01.out.1 N01.out.2 hnone hsome
  have HT7:=hid hR7.x.tab
  have cS7:=hid (cS.out d (dayQ cs n) w7 hR7.x.tab.1 hd7)
  have HG67:=hid (gG O6 e)
  have Hp7:=hid (And.intro g1 (And.intro hJ7 (And.intro hHA7 (And.intro h3 (And.intro h4 (And.intro g5 (And.intro g6 g7)))))))
  have HE07:Hid (Eff (fun b=>O b∨F b) W w7):=HE06.out.trans hE7 (fun b hb=>(h6 b (hH6.sub b hb)).imp .inr id)
  have Hsn:=hid (cntA_snoc (cs:=cs) En.out)
  have Hsome:=hid hsome
  have Hnd:Hid (d=none→∀j,j < 86400→dayQ cs n j=false):=fun hd j hj=>yiF h8 N01.out.1 N01.out.2 (hnone hd) hj
  have ey7:=(hE7.cell (p:=⟨W.heap.size,0,none⟩) (by simp only []; omega) (fun hM=>nOy.out (.inr (HRM.out _ hM)))).trans ey6
  have Sh7:=hid (shS_blk Sh6.out (hE7.block bx lx (fun hM=>nx ((e bx).2 (.inr (hH6.sub bx hM))))))
  obtain ⟨qv,hqv⟩:∃qv,anyQ (dayQ cs n)=qv:=⟨_,rfl⟩
  have Hqv:=hid hqv
  rw [hqv] at cS7 Hsn
  clear hR7 hGr hE7 hst7 hnone e h1 hJ6 hH6 h3 h4 h5 h6 h7 hlt1 hHA7 g1 g5 g6 g7 gk gG hJ7 h8 hd7 hsome hqv s0 s1 s2 s3 s4 s5 s6 s7 s8 s9 ey6 k3
  gi_wp2_with fail
  refine (wf_calls.mpr cS7.out).mono ?_
  rintro e w8 ⟨rfl,rfl⟩
  cases qv
  ·have hfin:Hid (Grow O6 (fun b=>O1 b∨F2 b) W6 w7∧IG (RM br bk bps) O F W (fun O1 F1 W'=>J (cntA cs (yae f t) (k+1)) O1 F1 W'∧HA cs br bk bps x1 x2 x3 f t (Inv (k+1)) F1 W') (fun b=>O1 b∨F2 b) w7):=by
    obtain ⟨g1,hJ7,hHA7,h3,h4,g5,g6,g7⟩:=Hp7.out
    refine ⟨HG67.out,O1,F2,fun b=>Iff.rfl,g1,⟨?_,hHA7⟩,h3,h4,g5,g6,g7⟩
    rw [Hsn.out]; exact hJ7
   clear Hp7 HG67
   gi_wp2
   exact ⟨_,hfin.out.1,hfin.out.2⟩
  ·obtain ⟨b,rfl⟩:∃b,d=some b:=by
    cases d with
    | none=>
      exfalso
      obtain ⟨j,hj,hj2⟩:=ybW.1 Hqv.out
      exact absurd hj2 (by simp [Hnd.out rfl j hj])
    | some b=>exact ⟨b,rfl⟩
   have hat:=cntA_at (cs:=cs) En.out Hqv.out
   obtain ⟨g1,hJ7,hHA7,h3,h4,g5,g6,g7⟩:=Hp7.out
   have hidx:=(List.getElem?_eq_some_iff.1 hat).1
   have hltF2:=hHA7.lt
   have hcall:=HC.out.call _ O1 F2 w7 #[shN n, .pointer (some ⟨b,0,none⟩)] hidx hJ7 g1 ⟨n,b,hat,N01.out.1,N01.out.2,rfl,Hsome.out b rfl,HT7.out,hltF2⟩ (IG.growM HRM.out HF.out h3 h4 g7 HE07.out)
   rw [←yaZ,Hs.out,shq] at hcall
   have Hcall:=hid hcall
   have Hidx:=hid hidx
   have sz7:Hid (W.heap.size≤w7.heap.size):=HE07.out.size
   obtain ⟨r0,r1,r2,r3,r4,r5,r6,r7,r8,r9⟩:=Sh7.out
   clear hcall hidx hat g1 hJ7 hHA7 h3 h4 g5 g6 g7 hltF2
   gi_wp2_with (refine callv2 (.tmp 17) (.tmp 18) (.tmp 19) _ _ rfl rfl rfl rfl rfl Hcall.out ?_)
   rintro e W8 O8 y1 y2 y3 hend
   obtain ⟨g1,hJ7,hHA7,h3,h4,g5,g6,g7⟩:=Hp7.out
   obtain ⟨p1,p3,p4,p7,pk,pG⟩:=ig_yield (F:=F) g1 h3 h4 g5 g7 hHA7.lt y1 y2 y3 sz7.out
   have hHA8:HA cs br bk bps x1 x2 x3 f t (Inv (k+1)) F2 W8:=hHA7.keep y3.size pk
   have HG8:=hid (HG67.out.trans pG)
   rcases hend with ⟨rfl,hJ8⟩ | ⟨rfl,hJ8⟩
   ·have hfin:Hid (IG (RM br bk bps) O F W (fun O1 F1 W'=>J (cntA cs (yae f t) (k+1)) O1 F1 W'∧HA cs br bk bps x1 x2 x3 f t (Inv (k+1)) F1 W') (fun b=>O8 b∨F2 b) W8):=
     ⟨O8,F2,fun b=>Iff.rfl,p1,⟨by rw [Hsn.out]; exact hJ8,hHA8⟩,p3,p4,g5,g6,p7⟩
    clear g1 hJ7 hHA7 h3 h4 g5 g6 g7 p1 p3 p4 p7 pk pG hHA8 hJ8 y1 y2 y3
    refine ⟨_,rfl,?_⟩
    gi_wp2
    exact ⟨_,HG8.out,hfin.out⟩
   ·have hfin:Hid (IG (RM br bk bps) O F W (fun O1 F1 W'=>(∃q,1≤q∧q≤(dayS cs (yae f t)).length∧Jx q O1 F1 W')∧HA cs br bk bps x1 x2 x3 f t (Inv (k+1)) F1 W') (fun b=>O8 b∨F2 b) W8):=
     ⟨O8,F2,fun b=>Iff.rfl,p1,⟨⟨_,by omega,Nat.succ_le_of_lt Hidx.out,hJ8⟩,hHA8⟩,p3,p4,g5,g6,p7⟩
    clear g1 hJ7 hHA7 h3 h4 g5 g6 g7 p1 p3 p4 p7 pk pG hHA8 hJ8 y1 y2 y3
    refine ⟨_,rfl,?_⟩
    gi_wp2
    exact ⟨_,HG8.out,rfl,hfin.out⟩
end
section
open Go.RowKit Go.Maps
theorem has_held {c:Cl} {t:Int} (h:hasC c t=true):yar c.fr c.un=true∧yal c.fr c.un≤t∧t≤yak c.fr c.un∧0≤t∧t < 12622780800:=by
 rw [hasC,Bool.and_eq_true,Bool.and_eq_true,Bool.and_eq_true,winB,betB,Bool.and_eq_true,decide_eq_true_eq,decide_eq_true_eq,decide_eq_true_eq] at h
 obtain ⟨⟨h1,h2⟩,-,⟨h3,h4⟩,-⟩:=h
 have hb:yar c.fr c.un=true:=decide_eq_true (by omega)
 refine ⟨hb,?_⟩
 rw [yal,yak,hb,if_pos rfl,if_pos rfl]
 omega
theorem yiq:∀(l:List Cl) (a b:Int),l.foldl (fun a c=>if yar c.fr c.un then min a (yal c.fr c.un) else a) a≤a∧b≤l.foldl (fun a c=>if yar c.fr c.un then max a (yak c.fr c.un) else a) b∧
  ∀c∈l,yar c.fr c.un=true→l.foldl (fun a c=>if yar c.fr c.un then min a (yal c.fr c.un) else a) a≤yal c.fr c.un∧yak c.fr c.un≤l.foldl (fun a c=>if yar c.fr c.un then max a (yak c.fr c.un) else a) b
 | [],a,b=>⟨Int.le_refl _,Int.le_refl _,by simp⟩
 | d :: l,a,b=>by
   obtain ⟨h1,h2,h3⟩:=yiq l (if yar d.fr d.un then min a (yal d.fr d.un) else a) (if yar d.fr d.un then max b (yak d.fr d.un) else b)
   rw [List.foldl_cons,List.foldl_cons]
   have e1:(if yar d.fr d.un then min a (yal d.fr d.un) else a)≤a:=by split <;> omega
   have e2:b≤(if yar d.fr d.un then max b (yak d.fr d.un) else b):=by split <;> omega
   refine ⟨Int.le_trans h1 e1,Int.le_trans e2 h2,fun c hc hb=>?_⟩
   rcases List.mem_cons.1 hc with e | hc
   ·subst e
    have f1:(if yar c.fr c.un then min a (yal c.fr c.un) else a)≤yal c.fr c.un:=by rw [if_pos hb]; omega
    have f2:yak c.fr c.un≤(if yar c.fr c.un then max b (yak c.fr c.un) else b):=by rw [if_pos hb]; omega
    exact ⟨Int.le_trans h1 f1,Int.le_trans f2 h2⟩
   ·exact h3 c hc hb
theorem hul_in {cs:List Cl} {n:Int} {k:Nat} (hk:k < 86400) (h:dayQ cs n k=true):hulB cs=true∧yal (ybE cs) (ybD cs) / 86400≤n∧n≤yak (ybE cs) (ybD cs) / 86400∧0≤n∧n < 146097:=by
 rw [dayQ,List.any_eq_true] at h
 obtain ⟨c,hc,h⟩:=h
 obtain ⟨hb,g1,g2,g3,g4⟩:=has_held h
 obtain ⟨-,-,h3⟩:=yiq cs 12622780800 (-1)
 obtain ⟨k1,k2⟩:=h3 c hc hb
 have k1':ybE cs≤yal c.fr c.un:=k1
 have k2':yak c.fr c.un≤ybD cs:=k2
 have e:hulB cs=true:=decide_eq_true (by omega)
 refine ⟨e,?_,?_,?_,?_⟩
 ·rw [yal,←hulB,e,if_pos rfl]; omega
 ·rw [yak,←hulB,e,if_pos rfl]; omega
 ·omega
 ·omega
theorem ygO (cs:List Cl) (f t:Int):dayS cs (yae (bndF cs f) (bndU cs t))=dayS cs (yae f t):=by
 rw [dayS,dayS,bndF,bndU]
 cases e:hulB cs
 ·rw [if_neg (by simp),if_neg (by simp),yeV (by omega)]
  rw [ydz fun n _ _=>?_]; rfl
  refine yfn.2 fun k hk=>?_
  cases hq:dayQ cs n k
  ·rfl
  ·rw [(hul_in hk hq).1] at e; cases e
 ·rw [if_pos rfl,if_pos rfl]
  refine yjy fun n hn=>?_
  obtain ⟨k,hk,hq⟩:=ybW.1 hn
  obtain ⟨-,g1,g2,-⟩:=hul_in hk hq
  exact ⟨g1,g2⟩
theorem bnd_rng (cs:List Cl) {f t:Int} (hf:f≤146097) (ht:-1≤t):0≤bndF cs f∧bndF cs f≤146097∧-1≤bndU cs t∧bndU cs t≤146096:=by
 rw [bndF,bndU]
 cases e:hulB cs
 ·simp
 ·obtain ⟨h1,h2,h3⟩:=yir e
  rw [if_pos rfl,if_pos rfl]
  omega
abbrev F3 (F:Blk) (n:Nat):Blk:=fun b=>F b∨b=n∨b=n+1∨b=n+2
theorem ha_boxes {W W':World} {cs:List Cl} {br bk:Nat} {bps:List Nat} {F:Blk} {ws:Nat→Bool} {m:Nat} (h:RollS W cs br bk bps F ws m) (hB:Below W.heap.size W W') (hl:W.heap.size+2 < W'.heap.size) (x1 x2 x3:Nat) (hx:x1=W.heap.size+1∧x2=W.heap.size+2∧x3=W.heap.size∨x1=W.heap.size+2∧x2=W.heap.size+1∧x3=W.heap.size)
  (a b:Int) (c1:W'.cell? ⟨x1,0,none⟩=some (.int .i64 a)) (c2:W'.cell? ⟨x2,0,none⟩=some (.int .i64 b)) (c3:W'.cell? ⟨x3,0,none⟩=some (.pointer (some ⟨br,0,none⟩))) (Inv:(Nat→Bool)→Nat→Prop) (hI:Inv ws m) :
  HA cs br bk bps x1 x2 x3 a b Inv (F3 F W.heap.size) W':=by
 have no:∀b,W.heap.size≤b→¬RM br bk bps b:=fun b hb hM=>by have:=h.x.lt b (h.x.sub b hM); omega
 refine ⟨⟨ws,m,(h.below hB).wide (fun b hb=> .inl hb) (fun b hb=>?_),hI⟩,?_,?_,c1,c2,c3⟩
 ·rcases hb with h1 | h1 | h1 | h1
  ·exact zH (h.x.lt b h1) hB.size
  ·omega
  ·omega
  ·omega
 ·rcases hx with ⟨rfl,rfl,rfl⟩ | ⟨rfl,rfl,rfl⟩
  ·exact ⟨.inr (.inr (.inl rfl)), .inr (.inr (.inr rfl)), .inr (.inl rfl)⟩
  ·exact ⟨.inr (.inr (.inr rfl)), .inr (.inr (.inl rfl)), .inr (.inl rfl)⟩
 ·rcases hx with ⟨rfl,rfl,rfl⟩ | ⟨rfl,rfl,rfl⟩ <;> exact ⟨no _ (by omega),no _ (by omega),no _ (by omega)⟩
set_option maxHeartbeats 1600000 in
theorem yg6 {W:World} {cs:List Cl} {br bk:Nat} {bps:List Nat} {F:Blk} {ws:Nat→Bool} {m:Nat} (f t:Int) (h:RollS W cs br bk bps F ws m) (Inv:(Nat→Bool)→Nat→Prop) (hI:Inv ws m) :
  Calls Tryz.prog 25 #[.pointer (some ⟨br,0,none⟩), .int .i64 f, .int .i64 t] W fun e W'=>e= .returned (.func (.func 63) #[] #[.pointer (some ⟨W.heap.size+1,0,none⟩), .pointer (some ⟨W.heap.size+2,0,none⟩), .pointer (some ⟨W.heap.size,0,none⟩)])∧Below W.heap.size W W'∧W.heap.size+2 < W'.heap.size∧
   HA cs br bk bps (W.heap.size+1) (W.heap.size+2) W.heap.size (bndF cs f) (bndU cs t) Inv (F3 F W.heap.size) W':=by
 obtain ⟨W3,hW3⟩:∃W3,((W.alloc (.cells #[.pointer (some ⟨br,0,none⟩)] 61)).alloc (.cells #[.int .i64 f] 2)).alloc (.cells #[.int .i64 t] 2)=W3:=⟨_,rfl⟩
 have hB3:Below W.heap.size W W3:=by rw [←hW3]; exact yaa (yaa (yaa (Below.refl _ _) (zG _)) (by simp)) (by simp; omega)
 have s3:W3.heap.size=W.heap.size+3:=by rw [←hW3]; simp
 have cB:=hid (yhN f t (h.below hB3))
 have k0:W3.cell? ⟨W.heap.size,0,none⟩=some (.pointer (some ⟨br,0,none⟩)):=by rw [←hW3]; simp [go_sem]
 have k1:W3.cell? ⟨W.heap.size+1,0,none⟩=some (.int .i64 f):=by rw [←hW3]; simp [go_sem]
 have k2:W3.cell? ⟨W.heap.size+2,0,none⟩=some (.int .i64 t):=by rw [←hW3]; simp [go_sem]
 have z1:W3.frozen? ⟨W.heap.size+1,0,none⟩=false:=by rw [←hW3]; simp [go_sem]
 have z2:W3.frozen? ⟨W.heap.size+2,0,none⟩=false:=by rw [←hW3]; simp [go_sem]
 have H:=hid h
 have HI:=hid hI
 have HB3:=hid hB3
 have HW3:=hid hW3
 have S3:=hid s3
 obtain ⟨X,hX⟩:∃X,bndF cs f=X:=⟨_,rfl⟩
 obtain ⟨Y,hY⟩:∃Y,bndU cs t=Y:=⟨_,rfl⟩
 rw [hX,hY] at cB
 rw [hX,hY]
 clear hW3 hB3 h hI s3 hX hY
 go_enter Tryz.func25,Tryz.ntmps25
 go_wp2_with fail
 rw [HW3.out]
 refine cB.out.mono ?_
 rintro e w4 ⟨rfl,hB4⟩
 have j0:=(hB4.cell (p:=⟨W.heap.size,0,none⟩) (by have:=S3.out; simp only []; omega)).trans k0
 have j1:=(hB4.cell (p:=⟨W.heap.size+1,0,none⟩) (by have:=S3.out; simp only []; omega)).trans k1
 have j2:=(hB4.cell (p:=⟨W.heap.size+2,0,none⟩) (by have:=S3.out; simp only []; omega)).trans k2
 have y1:=(hB4.frozen (p:=⟨W.heap.size+1,0,none⟩) (by have:=S3.out; simp only []; omega)).trans z1
 have y2:=(hB4.frozen (p:=⟨W.heap.size+2,0,none⟩) (by have:=S3.out; simp only []; omega)).trans z2
 have HB4:Hid (Below W.heap.size W w4):=HB3.out.trans (hB4.mono HB3.out.size)
 have S4:Hid (W.heap.size+2 < w4.heap.size):=by have:=hB4.size; have:=S3.out; show _ < _; omega
 have hfin:Hid (∀w5,w5= (w4.setCell ⟨W.heap.size+1,0,none⟩ (.int .i64 X)).setCell ⟨W.heap.size+2,0,none⟩ (.int .i64 Y)→Below W.heap.size W w5∧W.heap.size+2 < w5.heap.size∧HA cs br bk bps (W.heap.size+1) (W.heap.size+2) W.heap.size X Y Inv (F3 F W.heap.size) w5):=by
  rintro w5 rfl
  have hB5:Below W.heap.size W ((w4.setCell ⟨W.heap.size+1,0,none⟩ (.int .i64 X)).setCell ⟨W.heap.size+2,0,none⟩ (.int .i64 Y)):=yab (yab HB4.out (by omega)) (by omega)
  have s5:W.heap.size+2 < ((w4.setCell ⟨W.heap.size+1,0,none⟩ (.int .i64 X)).setCell ⟨W.heap.size+2,0,none⟩ (.int .i64 Y)).heap.size:=by simpa using S4.out
  have z1:((w4.setCell ⟨W.heap.size+1,0,none⟩ (.int .i64 X)).setCell ⟨W.heap.size+2,0,none⟩ (.int .i64 Y)).cell? ⟨W.heap.size+1,0,none⟩=some (.int .i64 X):=by simp [go_sem,j1]
  have z2:((w4.setCell ⟨W.heap.size+1,0,none⟩ (.int .i64 X)).setCell ⟨W.heap.size+2,0,none⟩ (.int .i64 Y)).cell? ⟨W.heap.size+2,0,none⟩=some (.int .i64 Y):=by simp [go_sem,j2]
  have z3:((w4.setCell ⟨W.heap.size+1,0,none⟩ (.int .i64 X)).setCell ⟨W.heap.size+2,0,none⟩ (.int .i64 Y)).cell? ⟨W.heap.size,0,none⟩=some (.pointer (some ⟨br,0,none⟩)):=by simp [go_sem,j0]
  exact ⟨hB5,s5,ha_boxes H.out hB5 s5 _ _ _ (.inl ⟨rfl,rfl,rfl⟩) _ _ z1 z2 z3 Inv HI.out⟩
 clear hB4 k0 k1 k2 z1 z2 HB4
 go_wp2
 go_ret
 exact ⟨rfl,hfin.out _ rfl⟩
end
section
open Go.RowKit
set_option maxRecDepth 100000 in
set_option maxHeartbeats 1600000 in
theorem yha (w:World) :
  Calls Tryz.prog 104 #[.pointer none] w fun e w'=>e= .returned (.func (.func 148) #[] #[.pointer (some ⟨w.heap.size,0,none⟩)])∧DC w' w.heap.size (fun _=>0)∧Below w.heap.size w w'∧w.heap.size < w'.heap.size:=by
 obtain ⟨W1,hW1⟩:∃W1,w.alloc (.cells Tryz.zeroCells129 129)=W1:=⟨_,rfl⟩
 have q1:DC W1 w.heap.size (fun _=>0):=by rw [←hW1]; exact dc_new' w
 have q3:Below w.heap.size w W1:=by rw [←hW1]; exact yaa (Below.refl _ _) (zG _)
 have q4:W1.heap.size=w.heap.size+1:=by rw [←hW1]; simp
 have Q:=hid (And.intro q1 (And.intro q3 (show w.heap.size < W1.heap.size by omega)))
 have HW1:=hid hW1
 clear hW1 q1 q3 q4
 go_enter Tryz.func104,Tryz.ntmps104
 go_wp2_with fail
 try rw [HW1.out]
 try go_wp2
 go_ret
 exact ⟨rfl,Q.out⟩
theorem yjU (d:Option Nat) (q:Nat→Bool) (w:World) (h:DiscO w d q) :
  Calls Tryz.prog 104 #[dptr d] w fun e w'=>e= .returned (.func (.func 148) #[] #[.pointer (some ⟨w.heap.size,0,none⟩)])∧Hid (∃t,DC w' w.heap.size t∧(∀i,i < 1350→t i < 18446744073709551616)∧ybi t 1350=secL q)∧Below w.heap.size w w'∧w.heap.size < w'.heap.size:=by
 have key:∀t:Nat→Nat,(∀k,k < 86400→bitW t k=q k)→ybi t 1350=secL q:=fun t ht=>by
  rw [yeo,secL,show 64 * 1350=86400 from by decide]
  exact ydp fun k hk=>ht k hk
 cases d with
 | none=>exact (yha w).mono fun e w' ⟨h1,h2,h3,h4⟩=>⟨h1,⟨_,h2,fun i _=>by omega,key _ fun k hk=>by rw [h k hk]; simp [bitW]⟩,h3,h4⟩
 | some b=>
   obtain ⟨f,g1,g2,g3,g4,g5⟩:=h
   exact (DcAll_any b f w g1 g5).mono fun e w' ⟨h1,h2,h3,h4⟩=>⟨h1,⟨_,h2,g3,key _ g4⟩,h3,h4⟩
theorem secL_len (q:Nat→Bool):(secL q).length≤86400:=ya1 q 86400
end
section
open Go.RowKit
set_option maxHeartbeats 400000 in
theorem Ints_any (a b:Option Addr) (cn cm:Nat) (x y:List Int) (w:World)
  (hxl:x.length≤9223372036854775807) (hyl:y.length≤9223372036854775807)
  (hx:Sl w a (ints x)) (hy:Sl w b (ints y)) :
   Calls Tryz.prog 33 #[.slice a x.length cn, .slice b y.length cm] w fun e w'=>e= .returned (.bool (decide (x=y)))∧Below w.heap.size w w':=by
 by_cases hnm:x.length=y.length
 ·have hb':((x.length:Int) != (y.length:Int))=false:=by simp; omega
  have HH:=hid hnm
  clear hnm
  go_enter Tryz.func33,Tryz.ntmps33
  go_wp2
  go_loopw [5] (fun i wr=>∃k:Nat,i= .int .i64 k∧k≤x.length∧x.take k=y.take k∧Below w.heap.size w wr) (fun i _=>x.length - (intOf i).toNat)
  case atStart=>exact ⟨0,rfl,by omega,rfl,Below.refl _ _⟩
  case round=>
   obtain ⟨k,rfl,hk,ht,hB⟩:=hrel
   by_cases hlt:k < x.length
   ·obtain ⟨b1,o1,rfl,hb1,hc1⟩:=hx.atInt hlt
    have hy':k < y.length:=by rw [←HH.out]; exact hlt
    obtain ⟨b2,o2,rfl,hb2,hc2⟩:=hy.atInt hy'
    have e1:=(hB.cell (p:=⟨b1,o1+k,none⟩) hb1).trans (hc1 k hlt)
    have e2:=(hB.cell (p:=⟨b2,o2+k,none⟩) hb2).trans (hc2 k hy')
    have hT:=hid ht
    clear hc1 hc2 ht hx hy
    go_wp2
    go_quiet (fail)
    go_wp2
    ·have hne:(x[k] != y[k])=true:=by assumption
     go_ret
     refine ⟨yaz ?_,yaK hB _⟩
     symm
     rw [decide_eq_false_iff_not]
     intro e
     subst e
     simp at hne
    ·have hne:(x[k] != y[k])=false:=by assumption
     refine ⟨⟨k+1,by go_num,by omega,?_,yaK hB _⟩,by simp [intOf]; omega⟩
     rw [yai _ _ hlt,yai _ _ hy',hT.out]
     simp at hne
     rw [hne]
   ·have hT:=hid ht
    clear ht hx hy
    have hge:x.length≤k:=by omega
    go_wp2
    go_ret
    refine ⟨yaz ?_,hB⟩
    symm
    rw [decide_eq_true_eq]
    have:=hT.out
    rwa [List.take_of_length_le hge,List.take_of_length_le (by rw [←HH.out]; exact hge)] at this
 ·have hb':((x.length:Int) != (y.length:Int))=true:=by simp; omega
  have hf:decide (x=y)=false:=by
   rw [decide_eq_false_iff_not]; intro e; subst e; exact hnm rfl
  rw [hf]
  clear hf
  go_enter Tryz.func33,Tryz.ntmps33
  go_wp2
  go_ret
  exact ⟨rfl,Below.refl _ _⟩
end
section
open Go.RowKit Go.Maps
theorem any_full {n:Int} (h0:0≤n) (h1:n < 146097):anyQ (dayQ [fullCl] n)=true:=by
 refine ybW.2 ⟨0,by omega,?_⟩
 rw [dayQ,List.any_cons,yiv (by rw [winB,decide_eq_true_eq]; omega)]; rfl
theorem ygN {f t:Int} (h0:0≤f) (h1:t < 146097):dayS [fullCl] (yae f t)=yae f t:=by
 rw [dayS,List.filter_eq_self]
 intro n hn
 have:=yaP.1 hn
 exact any_full (by omega) (by omega)
theorem yjv:yaG [fullCl]=0:=by
 rw [yaG,if_neg (by simp),if_pos (by simp [yfP])]
theorem full_okL:∀c∈ [fullCl],c.Ok:=fun c hc=>by rw [List.mem_singleton.1 hc]; exact full_ok
end
section
open Go.RowKit
theorem secs_snoc (H M S:List Int) (i:Nat) (hi:i < H.length):secs (H.take (i+1)) M S=secs (H.take i) M S ++ yaj H[i] M S:=by
 unfold secs; rw [yai H i hi,List.flatMap_append,List.flatMap_cons,List.flatMap_nil,List.append_nil]
theorem ygv (h:Int) (M S:List Int) (i:Nat) (hi:i < M.length):yaj h (M.take (i+1)) S=yaj h (M.take i) S ++ ya5 h M[i] S:=by
 unfold yaj; rw [yai M i hi,List.flatMap_append,List.flatMap_cons,List.flatMap_nil,List.append_nil]
theorem yhn (h m:Int) (S:List Int) (i:Nat) (hi:i < S.length):ya5 h m (S.take (i+1))=ya5 h m (S.take i) ++ [3600 * h+60 * m+S[i]]:=by
 unfold ya5; rw [yai S i hi,List.map_append,List.map_cons,List.map_nil]
set_option maxRecDepth 100000 in
set_option maxHeartbeats 3200000 in
theorem yiS (hs ms ss:Nat) (w:World) (hh:hs < 18446744073709551616) (hm:ms < 18446744073709551616) (hss:ss < 18446744073709551616) :
  Calls Tryz.prog 35 #[.int .u64 hs, .int .u64 ms, .int .u64 ss] w fun e w'=>∃v,e= .returned v∧
   w'.ownsRow w.heap.size 3 1 v (secs (sel (cutM hs 23).testBit 64) (sel (cutM ms 59).testBit 64) (sel (cutM ss 59).testBit 64)).length (ints (secs (sel (cutM hs 23).testBit 64) (sel (cutM ms 59).testBit 64) (sel (cutM ss 59).testBit 64)))∧Below w.heap.size w w':=by
 have c1:Hid (∀W,Calls Tryz.prog 79 #[.int .u64 hs, .int .i64 23] W fun e w'=>e= .returned (.int .u64 (cutM hs 23))∧Below W.heap.size W w'):=fun W=>yeX hs 23 W hh (by omega)
 have c2:Hid (∀W,Calls Tryz.prog 79 #[.int .u64 ms, .int .i64 59] W fun e w'=>e= .returned (.int .u64 (cutM ms 59))∧Below W.heap.size W w'):=fun W=>yeX ms 59 W hm (by omega)
 have c3:Hid (∀W,Calls Tryz.prog 79 #[.int .u64 ss, .int .i64 59] W fun e w'=>e= .returned (.int .u64 (cutM ss 59))∧Below W.heap.size W w'):=fun W=>yeX ss 59 W hss (by omega)
 have d1:=hid (fun W=>ybC (ycl (cutM hs 23) W (yb7 23 hh)))
 have d2:=hid (fun W=>ybC (ycl (cutM ms 59) W (yb7 59 hm)))
 have d3:=hid (fun W=>ybC (ycl (cutM ss 59) W (yb7 59 hss)))
 have lH:=ya1 (cutM hs 23).testBit 64
 have lM:=ya1 (cutM ms 59).testBit 64
 have lS:=ya1 (cutM ss 59).testBit 64
 have bH:=hid (fun k hk=>yd3 (p:=(cutM hs 23).testBit) k hk)
 have bM:=hid (fun k hk=>yd3 (p:=(cutM ms 59).testBit) k hk)
 have bS:=hid (fun k hk=>yd3 (p:=(cutM ss 59).testBit) k hk)
 obtain ⟨H,eH⟩:∃l,sel (cutM hs 23).testBit 64=l:=⟨_,rfl⟩
 obtain ⟨M,eM⟩:∃l,sel (cutM ms 59).testBit 64=l:=⟨_,rfl⟩
 obtain ⟨S,eS⟩:∃l,sel (cutM ss 59).testBit 64=l:=⟨_,rfl⟩
 rw [eH] at lH bH d1⊢
 rw [eM] at lM bM d2⊢
 rw [eS] at lS bS d3⊢
 clear eH eM eS hh hm hss
 obtain ⟨x,ex⟩:∃x,cutM hs 23=x:=⟨_,rfl⟩
 obtain ⟨y,ey⟩:∃x,cutM ms 59=x:=⟨_,rfl⟩
 obtain ⟨z,ez⟩:∃x,cutM ss 59=x:=⟨_,rfl⟩
 rw [ex] at c1 d1
 rw [ey] at c2 d2
 rw [ez] at c3 d3
 clear ex ey ez
 obtain ⟨i0,hi0,hz0,hz1,hz2⟩:=info_parts eInt.hi
 go_enter Tryz.func35,Tryz.ntmps35
 go_wp2_with fail
 refine (c1.out w).mono ?_
 rintro e w1 ⟨rfl,hB1⟩
 go_wp2_with fail
 refine (d1.out w1).mono ?_
 rintro e w2 ⟨aH,nH,cH,rfl,hnH,hsH,hoH,hB2⟩
 have HB2:Hid (Below w.heap.size w w2):=hB1.trans (hB2.mono hB1.size)
 clear hoH hB1 hB2
 go_wp2_with fail
 refine (c2.out w2).mono ?_
 rintro e w3 ⟨rfl,hB3⟩
 go_wp2_with fail
 refine (d2.out w3).mono ?_
 rintro e w4 ⟨aM,nM,cM,rfl,hnM,hsM,hoM,hB4⟩
 have hBB:Below w2.heap.size w2 w4:=hB3.trans (hB4.mono hB3.size)
 have HB4:Hid (Below w.heap.size w w4):=HB2.out.trans (hBB.mono HB2.out.size)
 have hsH4:=hsH.below hBB
 clear hoM hB3 hB4 hBB hsH
 go_wp2_with fail
 refine (c3.out w4).mono ?_
 rintro e w5 ⟨rfl,hB5⟩
 go_wp2_with fail
 refine (d3.out w5).mono ?_
 rintro e W0 ⟨aS,nS,cS,rfl,hnS,hsS,hoS,hB6⟩
 have hBB:Below w4.heap.size w4 W0:=hB5.trans (hB6.mono hB5.size)
 have HB0:Hid (Below w.heap.size w W0):=HB4.out.trans (hBB.mono HB4.out.size)
 have HsH:=hid (hsH4.below hBB)
 have HsM:=hid (hsM.below hBB)
 have HsS:=hid hsS
 obtain rfl:=hnH.out
 obtain rfl:=hnM.out
 obtain rfl:=hnS.out
 clear hoS hB5 hB6 hBB hsH4 hsM hsS HB2 HB4 hnH hnM hnS d1 d2 d3 c1 c2 c3
 go_wp2_with fail
 go_loopw [10,11,12,13] (fun v i _ _ wr=>∃(n q cq:Nat) (aq:Option Addr),i= .int .i64 n∧n≤H.length∧v= .slice aq q cq∧q≤4096 * n∧Hid (q= (secs (H.take n) M S).length)∧wr.ownsRow W0.heap.size 3 1 (.slice aq q cq) q (ints (secs (H.take n) M S))∧Below W0.heap.size W0 wr) (fun _ i _ _ _=>H.length - (intOf i).toNat)
 case atStart=>exact ⟨0,0,0,none,rfl,by omega,rfl,by omega,(rfl:(0:Nat)=0),World.ownsRow_nil _ _ _ _,Below.refl _ _⟩
 case round=>
  obtain ⟨n,q,cq,aq,rfl,hn,rfl,hq,Hq,hown,hB⟩:=hrel
  by_cases hlt:n < H.length
  ·obtain ⟨bh,oh,rfl,hbh,hch⟩:=HsH.out.atInt hlt
   have eh:=hch n hlt
   have fh:=bH.out n hlt
   have Hsn:=hid (secs_snoc H M S n hlt)
   obtain ⟨h,hh⟩:∃h,H[n]=h:=⟨_,rfl⟩
   rw [hh] at eh fh Hsn
   obtain ⟨fh1,fh2⟩:=fh
   clear hch hh
   go_wp2_with fail
   go_loopw [10,12,13] (fun v i _ wr=>∃(m q cq:Nat) (aq:Option Addr),i= .int .i64 m∧m≤M.length∧v= .slice aq q cq∧q≤4096 * n+64 * m∧Hid (q= (secs (H.take n) M S ++ yaj h (M.take m) S).length)∧wr.ownsRow W0.heap.size 3 1 (.slice aq q cq) q (ints (secs (H.take n) M S ++ yaj h (M.take m) S))∧Below W0.heap.size W0 wr) (fun _ i _ _=>M.length - (intOf i).toNat)
   case atStart=>exact ⟨0,q,cq,aq,rfl,by omega,rfl,by omega,by simpa [yaj] using Hq,by simpa [yaj] using hown,hB⟩
   case round=>
    clear hown hB Hq hq
    obtain ⟨m,q,cq,aq,rfl,hm,rfl,hq,Hq,hown,hB⟩:=hrel
    by_cases hlt2:m < M.length
    ·obtain ⟨bm,om,rfl,hbm,hcm⟩:=HsM.out.atInt hlt2
     have em:=hcm m hlt2
     have fm:=bM.out m hlt2
     have Hsm:=hid (ygv h M S m hlt2)
     obtain ⟨mm,hmm⟩:∃h,M[m]=h:=⟨_,rfl⟩
     rw [hmm] at em fm Hsm
     obtain ⟨fm1,fm2⟩:=fm
     clear hcm hmm
     go_wp2_with fail
     go_loopw [10,13] (fun v i wr=>∃(j q cq:Nat) (aq:Option Addr),i= .int .i64 j∧j≤S.length∧v= .slice aq q cq∧q≤4096 * n+64 * m+j∧Hid (q= ((secs (H.take n) M S ++ yaj h (M.take m) S) ++ ya5 h mm (S.take j)).length)∧wr.ownsRow W0.heap.size 3 1 (.slice aq q cq) q (ints ((secs (H.take n) M S ++ yaj h (M.take m) S) ++ ya5 h mm (S.take j)))∧Below W0.heap.size W0 wr) (fun _ i _=>S.length - (intOf i).toNat)
     case atStart=>exact ⟨0,q,cq,aq,rfl,by omega,rfl,by omega,by simpa [ya5] using Hq,by simpa [ya5] using hown,hB⟩
     case round=>
      clear hown hB Hq hq
      obtain ⟨j,q,cq,aq,rfl,hj,rfl,hq,Hq,hown,hB⟩:=hrel
      by_cases hlt3:j < S.length
      ·obtain ⟨bs,os,rfl,hbs,hcs⟩:=HsS.out.atInt hlt3
       have es:=(hB.cell (p:=⟨bs,os+j,none⟩) hbs).trans (hcs j hlt3)
       have eh':=(hB.cell (p:=⟨bh,oh+n,none⟩) hbh).trans eh
       have em':=(hB.cell (p:=⟨bm,om+m,none⟩) hbm).trans em
       have fs:=bS.out j hlt3
       have Hss:=hid (yhn h mm S j hlt3)
       obtain ⟨s,hs⟩:∃h,S[j]=h:=⟨_,rfl⟩
       rw [hs] at es fs Hss
       obtain ⟨fs1,fs2⟩:=fs
       clear hcs hs eh em
       have ag:(Value.slice aq q cq).ownBlock≠some bh:=fun e=>by have:=(yaB hown e).1; omega
       have ak:(Value.slice aq q cq).ownBlock≠some bm:=fun e=>by have:=(yaB hown e).1; omega
       have av:(Value.slice aq q cq).ownBlock≠some bs:=fun e=>by have:=(yaB hown e).1; omega
       have Hown:=hid hown
       have hsz:=hB.size
       have HB:=hid hB
       clear hown hB
       go_wp2_with fail
       go_region_held3 (fun w'=>w'.cell? ⟨bh,oh+n,none⟩=some (.int .i64 h)∧w'.cell? ⟨bm,om+m,none⟩=some (.int .i64 mm)∧w'.cell? ⟨bs,os+j,none⟩=some (.int .i64 s))
        (first
          | go_keep
          | (go_split_ands
             refine ⟨?_,?_,?_⟩
             ·(rw [hgrow.cell_far _ (by simp; omega) (Ne.symm ag)]; assumption)
             ·(rw [hgrow.cell_far _ (by simp; omega) (Ne.symm ak)]; assumption)
             ·(rw [hgrow.cell_far _ (by simp; omega) (Ne.symm av)]; assumption)))
        ((refine step_append_lies _ (by rfl) _ _ _ (by rfl) W0.heap.size 3 i0 _ 1 8 Tryz.underlying53 hi0 hz0 hz1 hz2 rfl (by omega) (.slice aq q cq) q _ (by rfl) ((Hown.out.alloc _).drew)
           ⟨wr.heap.size,0,none⟩ 1 1 [.int .i64 (IntKind.i64.wrap (IntKind.i64.wrap (IntKind.i64.wrap (3600 * h)+IntKind.i64.wrap (60 * mm))+s))] (by rfl) (by rfl) (World.news_of_block (cs:=#[.int .i64 (IntKind.i64.wrap (IntKind.i64.wrap (IntKind.i64.wrap (3600 * h)+IntKind.i64.wrap (60 * mm))+s))]) (t:=3) (fr:=(0,0)) (heap_alloc_new wr _)) (by simp [Value.oneCell'])
           (by omega) (by unfold maxLen; omega) (by omega) (by simp; omega) (wr.heap.size+1) (by simp) ?_; intro gg cap w1 hown1 hgrow hat hlt))
       have hV:IntKind.i64.wrap (IntKind.i64.wrap (IntKind.i64.wrap (3600 * h)+IntKind.i64.wrap (60 * mm))+s)=3600 * h+60 * mm+s:=by
        simp only [IntKind.wrap_i64]
        omega
       rw [hV,←yb1,←yaJ,List.append_assoc,←Hss.out] at hown1
       have hb1:Below W0.heap.size W0 w1:=(yaa HB.out hsz).drew.trans (Below.of_grown hgrow (by simp; omega) (fun k hk=>(yaB Hown.out hk).1))
       have hq1:Hid (q+1= (secs (H.take n) M S ++ yaj h (M.take m) S ++ ya5 h mm (S.take (j+1))).length):=by
        show q+1= _
        rw [Hss.out,←List.append_assoc,List.length_append,←Hq.out]; rfl
       have HOwn1:=hid hown1
       have HB1:=hid hb1
       clear hV hown1 hb1 hgrow ag ak av hat
       go_wp2
       exact ⟨⟨j+1,q+1,cap,some ⟨gg,0,none⟩,by go_num,by omega,rfl,by omega,hq1,HOwn1.out,HB1.out⟩,by simp [intOf]; omega⟩
      ·obtain rfl:j=S.length:=by omega
       rw [List.take_length] at Hq hown
       have hq1:Hid (q= (secs (H.take n) M S ++ yaj h (M.take (m+1)) S).length):=by rw [Hsm.out,←List.append_assoc]; exact Hq
       have ho1:Hid (wr.ownsRow W0.heap.size 3 1 (.slice aq q cq) q (ints (secs (H.take n) M S ++ yaj h (M.take (m+1)) S))):=by rw [Hsm.out,←List.append_assoc]; exact hown
       clear hown Hq em eh
       go_wp2
       exact ⟨⟨m+1,q,cq,aq,by go_num,by omega,rfl,by omega,hq1,ho1.out,hB⟩,by simp [intOf]; omega⟩
    ·obtain rfl:m=M.length:=by omega
     rw [List.take_length] at Hq hown
     rw [←Hsn.out] at Hq hown
     have ho1:=hid hown
     clear hown eh
     go_wp2
     exact ⟨⟨n+1,q,cq,aq,by go_num,by omega,rfl,by omega,Hq,ho1.out,hB⟩,by simp [intOf]; omega⟩
  ·obtain rfl:n=H.length:=by omega
   rw [List.take_length] at Hq hown
   have ho1:=hid hown
   clear hown
   go_wp2
   go_ret
   exact ⟨_,rfl,by rw [←Hq.out]; exact ybx ho1.out HB0.out.size,HB0.out.trans (hB.mono HB0.out.size)⟩
end
end Go.Proofs.YtkpgfmonhfnhdaaGreatDoor
