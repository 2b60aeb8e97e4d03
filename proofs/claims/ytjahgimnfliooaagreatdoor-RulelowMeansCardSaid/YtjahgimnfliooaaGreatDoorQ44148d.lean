/-
  roll.All's function, walked: it tells the days of a set, each with its disc.
  roll.All and roll.Back: which function they hand back, with which boxes; the days outside of a set's hull have nothing.
  The seconds of a disc, told and collected in a list: ferialaw15.Told.
  feriaref16.Of and All: the seconds of a day that have a clause, and those that have one of clauses.
  ferialaw18.RollDays answers true for every clauses and days.
  The instants of a set between two instants, day by day.
-/
import Derived.Test.YtjahgimnfliooaaGreatDoorQ639de2
import Derived.Test.YtjahgimnfliooaaGreatDoorQ7eaca1
import Derived.Test.YtjahgimnfliooaaGreatDoorQ903a1a
import Derived.Test.YtjahgimnfliooaaGreatDoorQ383ebe
import Derived.Test.YtjahgimnfliooaaGreatDoorQe56d57
import Derived.Deep.RegionHeld3
import Derived.Deep.AppendLies
import Derived.Test.YtjahgimnfliooaaGreatDoorQ4951b9
set_option maxRecDepth 100000
set_option maxHeartbeats 25600000
namespace Go.Proofs.YtjahgimnfliooaaGreatDoor
set_option linter.unusedVariables false
section
open Go.RowKit Go.Maps
attribute [local go_sem] Oper.semAt_some
theorem RAllF_any {cs:List Cl} {br bk:Nat} {bps:List Nat} (Inv:Nat→(Nat→Bool)→Nat→Prop) (x1 x2 x3:Nat) (f t:Int) (f0:0≤f) (f1:f≤146097) (t0:-1≤t) (t1:t≤146096)
  (hstep:∀j n ws m ws' m',(yao f t)[j]? =some n→Inv j ws m→yhK cs n ws m ws' m'→Inv (j+1) ws' m') (hbd:∀j ws m,Inv j ws m→j < (yao f t).length→m < 4611686018427387904) :
  TellsH Tryz.prog 104 #[.pointer (some ⟨x1,0,none⟩), .pointer (some ⟨x2,0,none⟩), .pointer (some ⟨x3,0,none⟩)] (dayS cs (yao f t)).length (VRoll cs (RM br bk bps) (dayS cs (yao f t)))
   (HA cs br bk bps x1 x2 x3 f t (Inv 0)) (HA cs br bk bps x1 x2 x3 f t (Inv (yao f t).length)) (fun F W=>∃j,HA cs br bk bps x1 x2 x3 f t (Inv j) F W) (RM br bk bps):=by
 intro y J Jx O F W hH hFO hC hJ
 obtain ⟨yf,yi,yc,rfl⟩:=hC.form
 show Calls Tryz.prog 104 #[.func yf yi yc, .pointer (some ⟨x1,0,none⟩), .pointer (some ⟨x2,0,none⟩), .pointer (some ⟨x3,0,none⟩)] W _
 obtain ⟨W1,hW1⟩:∃W1,W.alloc (.cells #[.func yf yi yc] 160)=W1:=⟨_,rfl⟩
 have q3:W1.heap.size=W.heap.size+1:=by rw [←hW1]; simp
 have q4:Below W.heap.size W W1:=by rw [←hW1]; exact yaa (Below.refl _ _) (zG _)
 have q5:W1.cell? ⟨W.heap.size,0,none⟩=some (.func yf yi yc):=by rw [←hW1]; simp [go_sem]
 have hFlt:=hH.lt
 have hOlt:=hC.lt 0 O F W hJ
 have hH1:HA cs br bk bps x1 x2 x3 f t (Inv 0) F W1:=hH.keep q4.size (fun b hb=>q4.block b (hFlt b hb))
 have HH1:=hid hH1
 have HJ1:Hid (J 0 O F W1):=hC.stab 0 O F F W W1 hJ q4.size (fun _ h=>h) (fun b hb=>q4.block b (hb.elim (hOlt b) (fun h=>hFlt b h.1)))
 have HRM:=hid hH.sub
 have HF:=hid hFlt
 have HO:=hid hOlt
 have HFO:=hid hFO
 have HC:=hid hC
 have Hst:=hid hstep
 have Hbd:=hid hbd
 have k1:=hH1.c1
 have k2:=hH1.c2
 have HW1:=hid hW1
 have Q4:=hid q4
 have Q3:=hid q3
 have ey:=hid q5
 obtain ⟨L,hL⟩:∃L,(yao f t).length=L:=⟨_,rfl⟩
 rw [hL] at Hbd⊢
 have HL:=hid hL
 clear hH hFO hC hJ hW1 q3 q4 q5 hFlt hOlt hH1 hstep hbd hL
 refine (wf_calls (r:=none) (n:=1)).mp ?_
 refine callsIn_of_wp_marks Tryz.func104 rfl trivial ?_ rfl
 simp only [Tryz.ntmps104,List.size_toArray,List.length_cons,List.length_nil,Nat.reduceAdd,Nat.reduceSub,Array.replicate_succ,Array.replicate_zero,List.push_toArray,List.append_toArray,List.nil_append,List.cons_append]
 gi_wp2_with fail
 refine ydX ?_
 rw [HW1.out]
 gi_wp2_with fail
 refine wpIn_label ?_
 gi_wp2_with fail
 refine (wf_calls.mpr (WDays_any _ _ _)).mono ?_
 rintro e w2 ⟨rfl,hk1,hk2,hB2,hs2⟩
 have hk1':w2.cell? ⟨W1.heap.size,0,none⟩=some (.int .i64 f):=by rw [hk1,show max f 0=f by omega]
 have hk2':w2.cell? ⟨W1.heap.size+1,0,none⟩=some (.int .i64 t):=by rw [hk2,show min t 146096=t by omega]
 have s12:=hB2.size
 have hB02:Below W.heap.size W w2:=Q4.out.trans (hB2.mono Q4.out.size)
 have hI2:IG (RM br bk bps) O F W (fun O1 F1 W'=>J (cntA cs (yao f t) 0) O1 F1 W'∧HA cs br bk bps x1 x2 x3 f t (Inv 0) F1 W') (fun b=>O b∨F b) w2:=
  ⟨O,F,fun b=>Iff.rfl,HFO.out,⟨HC.out.stab 0 O F F W1 w2 HJ1.out hB2.size (fun _ h=>h) (fun b hb=>hB2.block b (by have:=hb.elim (HO.out b) (fun h=>HF.out b h.1); have:=Q3.out; omega)),HH1.out.keep hB2.size (fun b hb=>hB2.block b (by have:=HF.out b hb; have:=Q3.out; omega))⟩,fun _ h=>h,fun _ h=> .inl h,fun _ h=>h,fun _ h=> .inl h,fun b hb _=>hB02.block b (HF.out b hb)⟩
 have tl:=hid (yjy f t W1.heap.size (W1.heap.size+1) (fun b=>O b∨F b) w2 f0 f1 t1 t0 (by omega) hs2 (fun h=>by have:=h.elim (HO.out _) (HF.out _); have:=Q3.out; omega) (fun h=>by have:=h.elim (HO.out _) (HF.out _); have:=Q3.out; omega) hk1' hk2')
 have ey2:=hid ((hB2.cell (p:=⟨W.heap.size,0,none⟩) (by have:=Q3.out; simp only []; omega)).trans ey.out)
 have nOy:Hid (¬(O W.heap.size∨F W.heap.size)):=fun h=>by have:=h.elim (HO.out _) (HF.out _); omega
 have szW:W.heap.size < w2.heap.size:=by have:=Q3.out; omega
 have HB02:=hid hB02
 have HI2:=hid hI2
 clear hk1 hk2 hk1' hk2' hB2 hB02 hI2 k1 k2
 gi_wp2_with fail
 refine ygY (gf:=153) (lb:=#[.pointer (some ⟨W1.heap.size,0,none⟩), .pointer (some ⟨W1.heap.size+1,0,none⟩)]) rfl yhO (yb0 (yao f t)) (fun b=>O b∨F b) (fun x hx=>by simp only [yb0,List.mem_map] at hx; obtain ⟨_,_,rfl⟩:=hx; rfl) tl.out
  (fun k O2 W'=>IG (RM br bk bps) O F W (fun O1 F1 W'=>J (cntA cs (yao f t) k) O1 F1 W'∧HA cs br bk bps x1 x2 x3 f t (Inv k) F1 W') O2 W')
  (fun c k O2 W'=>c= .exit 0∧IG (RM br bk bps) O F W (fun O1 F1 W'=>(∃q,1≤q∧q≤(dayS cs (yao f t)).length∧Jx q O1 F1 W')∧HA cs br bk bps x1 x2 x3 f t (Inv k) F1 W') O2 W')
  ?stab ?stabx ?lt ?ltx HI2.out
  (fun k O2 a' W'=>IG (RM br bk bps) O F W (fun O1 F1 W'=>J (cntA cs (yao f t) k) O1 F1 W'∧HA cs br bk bps x1 x2 x3 f t (Inv k) F1 W') O2 W'∧∃bx n,(yao f t)[k]? =some n∧bx < W'.heap.size∧¬O2 bx∧ShS W' bx (shF n)∧∃(u6 u7 u8 u9 u10 u11 u12 u13 u14 u15 u16 u17 u18 u19 u20 u21:Value),a' = {tmps:=#[.func yf yi yc, .pointer (some ⟨x1,0,none⟩), .pointer (some ⟨x2,0,none⟩), .pointer (some ⟨x3,0,none⟩), .pointer (some ⟨W.heap.size,0,none⟩), .pointer (some ⟨bx,0,none⟩),u6,u7,u8,u9,u10,u11,u12,u13,u14,u15,u16,u17,u18,u19,u20,u21],defers:= []})
  ?putl ?assign ?body ?done ?stop
 case stab=>
  intro k O2 W' W2 h hs hO
  exact h.keep hs hO (fun O1 F1 ⟨g1,g2⟩ g3 g4=>⟨HC.out.stab _ O1 F1 F1 W' W2 g1 g3 (fun _ h=>h) (fun b hb=>g4 b (hb.imp id And.left)),g2.keep g3 (fun b hb=>g4 b (.inr hb))⟩)
 case stabx=>
  rintro c k O2 W' W2 ⟨rfl,h⟩ hs hO
  exact ⟨rfl,h.keep hs hO (fun O1 F1 ⟨⟨q,q1,q2,g1⟩,g2⟩ g3 g4=>⟨⟨q,q1,q2,HC.out.stabx _ O1 F1 F1 W' W2 g1 g3 (fun _ h=>h) (fun b hb=>g4 b (hb.imp id And.left))⟩,g2.keep g3 (fun b hb=>g4 b (.inr hb))⟩)⟩
 case lt=>
  intro k O2 W' h
  exact h.lt (fun O1 F1 ⟨g1,g2⟩ b hb=>hb.elim (HC.out.lt _ _ _ _ g1 b) (g2.lt b))
 case ltx=>
  rintro c k O2 W' ⟨rfl,h⟩
  exact h.lt (fun O1 F1 ⟨⟨q,q1,q2,g1⟩,g2⟩ b hb=>hb.elim (HC.out.ltx _ _ _ _ g1 b) (g2.lt b))
 case putl=>
  rintro l' o k O2 a' W' hr hn ⟨h,bx,n,h1,h2,h3,h4,h5⟩
  exact ⟨h.keep (by rw [World.putObj_size]; exact zG _) (fun b hb=>World.putObj_heap_other (fun e=>hn (e ▸ hb))) (fun O1 F1 ⟨g1,g2⟩ g3 g4=>⟨HC.out.stab _ O1 F1 F1 W' _ g1 g3 (fun _ h=>h) (fun b hb=>g4 b (hb.imp id And.left)),g2.keep g3 (fun b hb=>g4 b (.inr hb))⟩),bx,n,h1,by rw [World.putObj_size]; exact h2,h3,shS_put h4 hr,h5⟩
 case assign=>
  intro l' k O6 W6 K hk hI6 hG6 hK
  have hk2:k < (yao f t).length:=by rw [ycZ] at hk; exact hk
  have hx:=yfI hk
  obtain ⟨n,hn⟩:∃n,(yao f t)[k]=n:=⟨_,rfl⟩
  have Hn':Hid ((yao f t)[k]? =some n):=by show _ = _; rw [zzp hk2,hn]
  rw [hn,←ybg] at hx
  rw [hx]
  obtain ⟨s,hs⟩:∃s,shF n=s:=⟨_,rfl⟩
  rw [hs,shq]
  have Hs:=hid hs
  have hlt6:∀b,O6 b→b < W6.heap.size:=hI6.lt (fun O1 F1 ⟨g1,g2⟩ b hb=>hb.elim (HC.out.lt _ _ _ _ g1 b) (g2.lt b))
  have Hlt6:=hid hlt6
  have HI6:=hid hI6
  clear hx hn hs hlt6 hk2 hI6 hG6
  gi_wp2
  have hbel:=yaa (o:= .cells (yaV s).toArray 88) (Below.refl W6.heap.size W6) (zG _)
  exact hK _ O6 _ (Grow.of_below hbel) ⟨HI6.out.keep hbel.size (fun b hb=>hbel.block b (Hlt6.out b hb)) (fun O1 F1 ⟨g1,g2⟩ g3 g4=>⟨HC.out.stab _ O1 F1 F1 W6 _ g1 g3 (fun _ h=>h) (fun b hb=>g4 b (hb.imp id And.left)),g2.keep g3 (fun b hb=>g4 b (.inr hb))⟩),W6.heap.size,n,Hn'.out,by simp,fun h=>by have:=Hlt6.out _ h; omega,by rw [Hs.out]; exact ycF W6 88 _ _ _ _ _ _ _ _ _ _,_,_,_,_,_,_,_,_,_,_,_,_,_,_,_,_,rfl⟩
 case done=>
  intro O9 w9 hG9 hI9 hD hnD
  rw [ycZ,cntA_all,HL.out] at hI9
  obtain ⟨O1,F1,e,h1,⟨hJ9,hH9⟩,h3,h4,h5,h6,h7⟩:=hI9
  have hE:Eff (fun b=>O b∨F b) W w9:=(Eff.of_below HB02.out).trans hG9.eff (fun _ h=> .inl h)
  have n1:¬O1 w2.heap.size:=fun h=>hnD ((e _).2 (.inl h))
  have n2:¬F1 w2.heap.size:=fun h=>hnD ((e _).2 (.inr h))
  have sz:W.heap.size≤w2.heap.size:=HB02.out.size
  have hfin:Hid (∀o:Obj,ToldH (dayS cs (yao f t)).length (HA cs br bk bps x1 x2 x3 f t (Inv L)) (fun F W=>∃j,HA cs br bk bps x1 x2 x3 f t (Inv j) F W) (RM br bk bps) J Jx O F W (w9.putObj w2.heap.size o)):=fun o=>by
   have pb:∀b,b≠w2.heap.size→(w9.putObj w2.heap.size o).heap[b]? =w9.heap[b]?:=fun b hb=>World.putObj_heap_other hb
   have ps:(w9.putObj w2.heap.size o).heap.size=w9.heap.size:=World.putObj_size
   refine ⟨O1,F1,IG.growM (F:=F) HRM.out HF.out h3 h4 (fun b g n=>(pb b (fun e'=>n2 (e' ▸ h5 b g))).trans (h7 b g n)) (hE.putObj (.inr sz) o),h5,h6,h1, .inl ⟨hH9.keep (by rw [ps]; exact zG _) (fun b hb=>pb b (fun e'=>n2 (e' ▸ hb))),?_⟩⟩
   exact HC.out.stab _ O1 F1 F1 w9 _ hJ9 (by rw [ps]; exact zG _) (fun _ h=>h) (fun b hb=>pb b (fun e'=>hb.elim (fun h=>n1 (e' ▸ h)) (fun h=>n2 (e' ▸ h.1))))
  have HD9:=hid hD
  clear e h1 hJ9 hH9 h3 h4 h5 h6 h7 hE n1 n2 sz hG9 hD
  gi_wp2
  rw [Exit.noGoto_normal]
  refine ⟨by simp, .inl ⟨_,_,rfl,run_takeDeferred HD9.out,?_⟩⟩
  exact ⟨_,results_none rfl _ _ _,⟨_,rfl⟩,hfin.out _⟩
 case stop=>
  rintro c k O9 w9 hk1 hk2 hG9 ⟨rfl,hI9⟩ hD hnD
  obtain ⟨O1,F1,e,h1,⟨⟨q,hq1,hq2,hJ9⟩,hH9⟩,h3,h4,h5,h6,h7⟩:=hI9
  have hE:Eff (fun b=>O b∨F b) W w9:=(Eff.of_below HB02.out).trans hG9.eff (fun _ h=> .inl h)
  have n1:¬O1 w2.heap.size:=fun h=>hnD ((e _).2 (.inl h))
  have n2:¬F1 w2.heap.size:=fun h=>hnD ((e _).2 (.inr h))
  have sz:W.heap.size≤w2.heap.size:=HB02.out.size
  have hfin:Hid (∀o:Obj,ToldH (dayS cs (yao f t)).length (HA cs br bk bps x1 x2 x3 f t (Inv L)) (fun F W=>∃j,HA cs br bk bps x1 x2 x3 f t (Inv j) F W) (RM br bk bps) J Jx O F W (w9.putObj w2.heap.size o)):=fun o=>by
   have pb:∀b,b≠w2.heap.size→(w9.putObj w2.heap.size o).heap[b]? =w9.heap[b]?:=fun b hb=>World.putObj_heap_other hb
   have ps:(w9.putObj w2.heap.size o).heap.size=w9.heap.size:=World.putObj_size
   refine ⟨O1,F1,IG.growM (F:=F) HRM.out HF.out h3 h4 (fun b g n=>(pb b (fun e'=>n2 (e' ▸ h5 b g))).trans (h7 b g n)) (hE.putObj (.inr sz) o),h5,h6,h1, .inr ⟨⟨k,hH9.keep (by rw [ps]; exact zG _) (fun b hb=>pb b (fun e'=>n2 (e' ▸ hb)))⟩,q,hq1,hq2,?_⟩⟩
   exact HC.out.stabx _ O1 F1 F1 w9 _ hJ9 (by rw [ps]; exact zG _) (fun _ h=>h) (fun b hb=>pb b (fun e'=>hb.elim (fun h=>n1 (e' ▸ h)) (fun h=>n2 (e' ▸ h.1))))
  have HD9:=hid hD
  clear e h1 hJ9 hH9 h3 h4 h5 h6 h7 hE n1 n2 sz hG9 hD
  gi_wp2
  rw [Exit.noGoto_normal]
  refine ⟨by simp, .inl ⟨_,_,rfl,run_takeDeferred HD9.out,?_⟩⟩
  exact ⟨_,results_none rfl _ _ _,⟨_,rfl⟩,hfin.out _⟩
 case body=>
  rintro l3 k O6 a' W6 hk hG6 hl3 hrec6 hnl3 ⟨hI6,bx,n,en,lx,nx,hsh,u6,u7,u8,u9,u10,u11,u12,u13,u14,u15,u16,u17,u18,u19,u20,u21,rfl⟩
  have hmem:=ycg.1 (List.mem_of_getElem? en)
  have n0:0≤n:=by omega
  have n1:n < 146097:=by omega
  have hkL:k < (yao f t).length:=(zzq.1 en).1
  obtain ⟨O1,F1,e,h1,⟨hJ6,hH6⟩,h3,h4,h5,h6,h7⟩:=hI6
  have ey6:=(hG6.cell (b:=W.heap.size) szW nOy.out 0).trans ey2.out
  have k3:=hH6.c3
  obtain ⟨ws,m,hR6,hInv⟩:=hH6.roll
  have hm:=Hbd.out k ws m hInv (by have:=HL.out; omega)
  have cA:=hid (RAt_any n n0 n1 hm hR6)
  have cS:=hid (fun d q w hT h=>Some_any d q w hT h)
  rw [←ybg] at cA
  obtain ⟨s,hs⟩:∃s,shF n=s:=⟨_,rfl⟩
  rw [hs] at cA hsh
  rw [shq] at cA
  obtain ⟨s0,s1,s2,s3,s4,s5,s6,s7,s8,s9⟩:=hsh
  have Sh6:Hid (ShS W6 bx s):=⟨s0,s1,s2,s3,s4,s5,s6,s7,s8,s9⟩
  have Hs:=hid hs
  have En:=hid en
  have N01:=hid (And.intro n0 n1)
  have HI6:=hid (show IG (RM br bk bps) O F W (fun O1 F1 W'=>J (cntA cs (yao f t) k) O1 F1 W'∧HA cs br bk bps x1 x2 x3 f t (Inv k) F1 W') O6 W6 from ⟨O1,F1,e,h1,⟨hJ6,hH6⟩,h3,h4,h5,h6,h7⟩)
  have Hparts:=hid (And.intro e (And.intro h1 (And.intro hJ6 (And.intro hH6 (And.intro h3 (And.intro h4 (And.intro h5 (And.intro h6 h7))))))))
  have HR6:=hid hR6
  have HInv:=hid hInv
  have sz6:=hG6.eff.size
  have HE06:Hid (Eff (fun b=>O b∨F b) W W6):=(Eff.of_below HB02.out).trans hG6.eff (fun _ h=> .inl h)
  clear e h1 hJ6 hH6 h3 h4 h5 h6 h7 hR6 hInv hm hs en hmem n0 n1 hG6
  gi_wp2_with fail
  refine (wf_calls.mpr cA.out).mono ?_
  rintro e w7 ⟨d,F2,ws',m',rfl,hR7,hGr,hE7,hst7,hnone,hsome⟩
  obtain ⟨e,h1,hJ6,hH6,h3,h4,h5,h6,h7⟩:=Hparts.out
  have hlt1:∀b,O1 b→b < W6.heap.size:=HC.out.lt _ _ _ _ hJ6
  have hHA7:HA cs br bk bps x1 x2 x3 f t (Inv (k+1)) F2 w7:=hH6.step hR7 hGr.sub hE7 (Hst.out k n ws m ws' m' En.out HInv.out hst7)
  obtain ⟨g1,g5,g6,g7,gk,gG⟩:=ig_step (F:=F) h1 h5 h6 h7 hlt1 hH6.lt hH6.sub hGr hE7 HE06.out.size
  have hJ7:J (cntA cs (yao f t) k) O1 F2 w7:=HC.out.stab _ O1 F1 F2 W6 w7 hJ6 hE7.size hGr.sub gk
  have h8:cs.length≤8:=by have:=hR7.x.may; rw [mayL,zzX,zzY] at this; exact this.1
  have hd7:=day_disc h8 N01.out.1 N01.out.2 hnone hsome
  have HT7:=hid hR7.x.tab
  have cS7:=hid (cS.out d (dayQ cs n) w7 hR7.x.tab.1 hd7)
  have HG67:=hid (gG O6 e)
  have Hp7:=hid (And.intro g1 (And.intro hJ7 (And.intro hHA7 (And.intro h3 (And.intro h4 (And.intro g5 (And.intro g6 g7)))))))
  have HE07:Hid (Eff (fun b=>O b∨F b) W w7):=HE06.out.trans hE7 (fun b hb=>(h6 b (hH6.sub b hb)).imp .inr id)
  have Hsn:=hid (cntA_snoc (cs:=cs) En.out)
  have Hsome:=hid hsome
  have Hnd:Hid (d=none→∀j,j < 86400→dayQ cs n j=false):=fun hd j hj=>yji h8 N01.out.1 N01.out.2 (hnone hd) hj
  have ey7:=(hE7.cell (p:=⟨W.heap.size,0,none⟩) (by simp only []; omega) (fun hM=>nOy.out (.inr (HRM.out _ hM)))).trans ey6
  have Sh7:=hid (yhQ Sh6.out (hE7.block bx lx (fun hM=>nx ((e bx).2 (.inr (hH6.sub bx hM))))))
  obtain ⟨qv,hqv⟩:∃qv,anyQ (dayQ cs n)=qv:=⟨_,rfl⟩
  have Hqv:=hid hqv
  rw [hqv] at cS7 Hsn
  clear hR7 hGr hE7 hst7 hnone e h1 hJ6 hH6 h3 h4 h5 h6 h7 hlt1 hHA7 g1 g5 g6 g7 gk gG hJ7 h8 hd7 hsome hqv s0 s1 s2 s3 s4 s5 s6 s7 s8 s9 ey6 k3
  gi_wp2_with fail
  refine (wf_calls.mpr cS7.out).mono ?_
  rintro e w8 ⟨rfl,rfl⟩
  cases qv
  ·have hfin:Hid (Grow O6 (fun b=>O1 b∨F2 b) W6 w7∧IG (RM br bk bps) O F W (fun O1 F1 W'=>J (cntA cs (yao f t) (k+1)) O1 F1 W'∧HA cs br bk bps x1 x2 x3 f t (Inv (k+1)) F1 W') (fun b=>O1 b∨F2 b) w7):=by
    obtain ⟨g1,hJ7,hHA7,h3,h4,g5,g6,g7⟩:=Hp7.out
    refine ⟨HG67.out,O1,F2,fun b=>Iff.rfl,g1,⟨?_,hHA7⟩,h3,h4,g5,g6,g7⟩
    rw [Hsn.out]; exact hJ7
   clear Hp7 HG67
   gi_wp2
   exact ⟨_,hfin.out.1,hfin.out.2⟩
  ·obtain ⟨b,rfl⟩:∃b,d=some b:=by
    cases d with
    | none=>
      exfalso
      obtain ⟨j,hj,hj2⟩:=ydP.1 Hqv.out
      exact absurd hj2 (by simp [Hnd.out rfl j hj])
    | some b=>exact ⟨b,rfl⟩
   have hat:=cntA_at (cs:=cs) En.out Hqv.out
   obtain ⟨g1,hJ7,hHA7,h3,h4,g5,g6,g7⟩:=Hp7.out
   have hidx:=(zzq.1 hat).1
   have hltF2:=hHA7.lt
   have hcall:=HC.out.call _ O1 F2 w7 #[shN n, .pointer (some ⟨b,0,none⟩)] hidx hJ7 g1 ⟨n,b,hat,N01.out.1,N01.out.2,rfl,Hsome.out b rfl,HT7.out,hltF2⟩ (IG.growM HRM.out HF.out h3 h4 g7 HE07.out)
   rw [←ybg,Hs.out,shq] at hcall
   have Hcall:=hid hcall
   have Hidx:=hid hidx
   have sz7:Hid (W.heap.size≤w7.heap.size):=HE07.out.size
   obtain ⟨r0,r1,r2,r3,r4,r5,r6,r7,r8,r9⟩:=Sh7.out
   clear hcall hidx hat g1 hJ7 hHA7 h3 h4 g5 g6 g7 hltF2
   gi_wp2_with (refine callv2 (.tmp 17) (.tmp 18) (.tmp 19) _ _ rfl rfl rfl rfl rfl Hcall.out ?_)
   rintro e W8 O8 y1 y2 y3 hend
   obtain ⟨g1,hJ7,hHA7,h3,h4,g5,g6,g7⟩:=Hp7.out
   obtain ⟨p1,p3,p4,p7,pk,pG⟩:=ig_yield (F:=F) g1 h3 h4 g5 g7 hHA7.lt y1 y2 y3 sz7.out
   have hHA8:HA cs br bk bps x1 x2 x3 f t (Inv (k+1)) F2 W8:=hHA7.keep y3.size pk
   have HG8:=hid (HG67.out.trans pG)
   rcases hend with ⟨rfl,hJ8⟩ | ⟨rfl,hJ8⟩
   ·have hfin:Hid (IG (RM br bk bps) O F W (fun O1 F1 W'=>J (cntA cs (yao f t) (k+1)) O1 F1 W'∧HA cs br bk bps x1 x2 x3 f t (Inv (k+1)) F1 W') (fun b=>O8 b∨F2 b) W8):=
     ⟨O8,F2,fun b=>Iff.rfl,p1,⟨by rw [Hsn.out]; exact hJ8,hHA8⟩,p3,p4,g5,g6,p7⟩
    clear g1 hJ7 hHA7 h3 h4 g5 g6 g7 p1 p3 p4 p7 pk pG hHA8 hJ8 y1 y2 y3
    refine ⟨_,rfl,?_⟩
    gi_wp2
    exact ⟨_,HG8.out,hfin.out⟩
   ·have hfin:Hid (IG (RM br bk bps) O F W (fun O1 F1 W'=>(∃q,1≤q∧q≤(dayS cs (yao f t)).length∧Jx q O1 F1 W')∧HA cs br bk bps x1 x2 x3 f t (Inv (k+1)) F1 W') (fun b=>O8 b∨F2 b) W8):=
     ⟨O8,F2,fun b=>Iff.rfl,p1,⟨⟨_,by omega,Nat.succ_le_of_lt Hidx.out,hJ8⟩,hHA8⟩,p3,p4,g5,g6,p7⟩
    clear g1 hJ7 hHA7 h3 h4 g5 g6 g7 p1 p3 p4 p7 pk pG hHA8 hJ8 y1 y2 y3
    refine ⟨_,rfl,?_⟩
    gi_wp2
    exact ⟨_,HG8.out,rfl,hfin.out⟩
end
section
open Go.RowKit Go.Maps
theorem yjc {c:Cl} {t:Int} (h:hasC c t=true):yaz c.fr c.un=true∧yaq c.fr c.un≤t∧t≤yap c.fr c.un∧0≤t∧t < 12622780800:=by
 rw [hasC,zzX,zzX,zzX,winB,betB,zzX,zzY,zzY,zzY] at h
 obtain ⟨⟨h1,h2⟩,-,⟨h3,h4⟩,-⟩:=h
 have hb:yaz c.fr c.un=true:=zzZ (by omega)
 refine ⟨hb,?_⟩
 rw [yaq,yap,hb,if_pos rfl,if_pos rfl]
 omega
theorem yi9:∀(l:List Cl) (a b:Int),l.foldl (fun a c=>if yaz c.fr c.un then min a (yaq c.fr c.un) else a) a≤a∧b≤l.foldl (fun a c=>if yaz c.fr c.un then max a (yap c.fr c.un) else a) b∧
  ∀c∈l,yaz c.fr c.un=true→l.foldl (fun a c=>if yaz c.fr c.un then min a (yaq c.fr c.un) else a) a≤yaq c.fr c.un∧yap c.fr c.un≤l.foldl (fun a c=>if yaz c.fr c.un then max a (yap c.fr c.un) else a) b
 | [],a,b=>⟨Int.le_refl _,Int.le_refl _,by simp⟩
 | d :: l,a,b=>by
   obtain ⟨h1,h2,h3⟩:=yi9 l (if yaz d.fr d.un then min a (yaq d.fr d.un) else a) (if yaz d.fr d.un then max b (yap d.fr d.un) else b)
   rw [List.foldl_cons,List.foldl_cons]
   have e1:(if yaz d.fr d.un then min a (yaq d.fr d.un) else a)≤a:=by split <;> omega
   have e2:b≤(if yaz d.fr d.un then max b (yap d.fr d.un) else b):=by split <;> omega
   refine ⟨Int.le_trans h1 e1,Int.le_trans e2 h2,fun c hc hb=>?_⟩
   rcases List.mem_cons.1 hc with e | hc
   ·subst e
    have f1:(if yaz c.fr c.un then min a (yaq c.fr c.un) else a)≤yaq c.fr c.un:=by rw [if_pos hb]; omega
    have f2:yap c.fr c.un≤(if yaz c.fr c.un then max b (yap c.fr c.un) else b):=by rw [if_pos hb]; omega
    exact ⟨Int.le_trans h1 f1,Int.le_trans f2 h2⟩
   ·exact h3 c hc hb
theorem hul_in {cs:List Cl} {n:Int} {k:Nat} (hk:k < 86400) (h:dayQ cs n k=true):hulB cs=true∧yaq (ybG cs) (ybF cs) / 86400≤n∧n≤yap (ybG cs) (ybF cs) / 86400∧0≤n∧n < 146097:=by
 rw [dayQ,List.any_eq_true] at h
 obtain ⟨c,hc,h⟩:=h
 obtain ⟨hb,g1,g2,g3,g4⟩:=yjc h
 obtain ⟨-,-,h3⟩:=yi9 cs 12622780800 (-1)
 obtain ⟨k1,k2⟩:=h3 c hc hb
 have k1':ybG cs≤yaq c.fr c.un:=k1
 have k2':yap c.fr c.un≤ybF cs:=k2
 have e:hulB cs=true:=zzZ (by omega)
 refine ⟨e,?_,?_,?_,?_⟩
 ·rw [yaq,←hulB,e,if_pos rfl]; omega
 ·rw [yap,←hulB,e,if_pos rfl]; omega
 ·omega
 ·omega
theorem dayS_clip (cs:List Cl) (f t:Int):dayS cs (yao (bndF cs f) (bndU cs t))=dayS cs (yao f t):=by
 rw [dayS,dayS,bndF,bndU]
 cases e:hulB cs
 ·rw [if_neg (by simp),if_neg (by simp),yfk (by omega)]
  rw [ydL fun n _ _=>?_]; rfl
  refine yfT.2 fun k hk=>?_
  cases hq:dayQ cs n k
  ·rfl
  ·rw [(hul_in hk hq).1] at e; cases e
 ·rw [if_pos rfl,if_pos rfl]
  refine ykg fun n hn=>?_
  obtain ⟨k,hk,hq⟩:=ydP.1 hn
  obtain ⟨-,g1,g2,-⟩:=hul_in hk hq
  exact ⟨g1,g2⟩
theorem bnd_rng (cs:List Cl) {f t:Int} (hf:f≤146097) (ht:-1≤t):0≤bndF cs f∧bndF cs f≤146097∧-1≤bndU cs t∧bndU cs t≤146096:=by
 rw [bndF,bndU]
 cases e:hulB cs
 ·simp
 ·obtain ⟨h1,h2,h3⟩:=yja e
  rw [if_pos rfl,if_pos rfl]
  omega
abbrev F3 (F:Blk) (n:Nat):Blk:=fun b=>F b∨b=n∨b=n+1∨b=n+2
theorem ha_boxes {W W':World} {cs:List Cl} {br bk:Nat} {bps:List Nat} {F:Blk} {ws:Nat→Bool} {m:Nat} (h:RollS W cs br bk bps F ws m) (hB:Below W.heap.size W W') (hl:W.heap.size+2 < W'.heap.size) (x1 x2 x3:Nat) (hx:x1=W.heap.size+1∧x2=W.heap.size+2∧x3=W.heap.size∨x1=W.heap.size+2∧x2=W.heap.size+1∧x3=W.heap.size)
  (a b:Int) (c1:W'.cell? ⟨x1,0,none⟩=some (.int .i64 a)) (c2:W'.cell? ⟨x2,0,none⟩=some (.int .i64 b)) (c3:W'.cell? ⟨x3,0,none⟩=some (.pointer (some ⟨br,0,none⟩))) (Inv:(Nat→Bool)→Nat→Prop) (hI:Inv ws m) :
  HA cs br bk bps x1 x2 x3 a b Inv (F3 F W.heap.size) W':=by
 have no:∀b,W.heap.size≤b→¬RM br bk bps b:=fun b hb hM=>by have:=h.x.lt b (h.x.sub b hM); omega
 refine ⟨⟨ws,m,(h.below hB).wide (fun b hb=> .inl hb) (fun b hb=>?_),hI⟩,?_,?_,c1,c2,c3⟩
 ·rcases hb with h1 | h1 | h1 | h1
  ·exact zH (h.x.lt b h1) hB.size
  ·omega
  ·omega
  ·omega
 ·rcases hx with ⟨rfl,rfl,rfl⟩ | ⟨rfl,rfl,rfl⟩
  ·exact ⟨.inr (.inr (.inl rfl)), .inr (.inr (.inr rfl)), .inr (.inl rfl)⟩
  ·exact ⟨.inr (.inr (.inr rfl)), .inr (.inr (.inl rfl)), .inr (.inl rfl)⟩
 ·rcases hx with ⟨rfl,rfl,rfl⟩ | ⟨rfl,rfl,rfl⟩ <;> exact ⟨no _ (by omega),no _ (by omega),no _ (by omega)⟩
theorem RAllC_any {W:World} {cs:List Cl} {br bk:Nat} {bps:List Nat} {F:Blk} {ws:Nat→Bool} {m:Nat} (f t:Int) (h:RollS W cs br bk bps F ws m) (Inv:(Nat→Bool)→Nat→Prop) (hI:Inv ws m) :
  Calls Tryz.prog 56 #[.pointer (some ⟨br,0,none⟩), .int .i64 f, .int .i64 t] W fun e W'=>e= .returned (.func (.func 104) #[] #[.pointer (some ⟨W.heap.size+1,0,none⟩), .pointer (some ⟨W.heap.size+2,0,none⟩), .pointer (some ⟨W.heap.size,0,none⟩)])∧Below W.heap.size W W'∧W.heap.size+2 < W'.heap.size∧
   HA cs br bk bps (W.heap.size+1) (W.heap.size+2) W.heap.size (bndF cs f) (bndU cs t) Inv (F3 F W.heap.size) W':=by
 obtain ⟨W3,hW3⟩:∃W3,((W.alloc (.cells #[.pointer (some ⟨br,0,none⟩)] 97)).alloc (.cells #[.int .i64 f] 2)).alloc (.cells #[.int .i64 t] 2)=W3:=⟨_,rfl⟩
 have hB3:Below W.heap.size W W3:=by rw [←hW3]; exact yaa (yaa (yaa (Below.refl _ _) (zG _)) (by simp)) (by simp; omega)
 have s3:W3.heap.size=W.heap.size+3:=by rw [←hW3]; simp
 have cB:=hid (yiv f t (h.below hB3))
 have k0:W3.cell? ⟨W.heap.size,0,none⟩=some (.pointer (some ⟨br,0,none⟩)):=by rw [←hW3]; simp [go_sem]
 have k1:W3.cell? ⟨W.heap.size+1,0,none⟩=some (.int .i64 f):=by rw [←hW3]; simp [go_sem]
 have k2:W3.cell? ⟨W.heap.size+2,0,none⟩=some (.int .i64 t):=by rw [←hW3]; simp [go_sem]
 have z1:W3.frozen? ⟨W.heap.size+1,0,none⟩=false:=by rw [←hW3]; simp [go_sem]
 have z2:W3.frozen? ⟨W.heap.size+2,0,none⟩=false:=by rw [←hW3]; simp [go_sem]
 have H:=hid h
 have HI:=hid hI
 have HB3:=hid hB3
 have HW3:=hid hW3
 have S3:=hid s3
 obtain ⟨X,hX⟩:∃X,bndF cs f=X:=⟨_,rfl⟩
 obtain ⟨Y,hY⟩:∃Y,bndU cs t=Y:=⟨_,rfl⟩
 rw [hX,hY] at cB
 rw [hX,hY]
 clear hW3 hB3 h hI s3 hX hY
 go_enter Tryz.func56,Tryz.ntmps56
 go_wp2_with fail
 rw [HW3.out]
 refine cB.out.mono ?_
 rintro e w4 ⟨rfl,hB4⟩
 have j0:=(hB4.cell (p:=⟨W.heap.size,0,none⟩) (by have:=S3.out; simp only []; omega)).trans k0
 have j1:=(hB4.cell (p:=⟨W.heap.size+1,0,none⟩) (by have:=S3.out; simp only []; omega)).trans k1
 have j2:=(hB4.cell (p:=⟨W.heap.size+2,0,none⟩) (by have:=S3.out; simp only []; omega)).trans k2
 have y1:=(hB4.frozen (p:=⟨W.heap.size+1,0,none⟩) (by have:=S3.out; simp only []; omega)).trans z1
 have y2:=(hB4.frozen (p:=⟨W.heap.size+2,0,none⟩) (by have:=S3.out; simp only []; omega)).trans z2
 have HB4:Hid (Below W.heap.size W w4):=HB3.out.trans (hB4.mono HB3.out.size)
 have S4:Hid (W.heap.size+2 < w4.heap.size):=by have:=hB4.size; have:=S3.out; show _ < _; omega
 have hfin:Hid (∀w5,w5= (w4.setCell ⟨W.heap.size+1,0,none⟩ (.int .i64 X)).setCell ⟨W.heap.size+2,0,none⟩ (.int .i64 Y)→Below W.heap.size W w5∧W.heap.size+2 < w5.heap.size∧HA cs br bk bps (W.heap.size+1) (W.heap.size+2) W.heap.size X Y Inv (F3 F W.heap.size) w5):=by
  rintro w5 rfl
  have hB5:Below W.heap.size W ((w4.setCell ⟨W.heap.size+1,0,none⟩ (.int .i64 X)).setCell ⟨W.heap.size+2,0,none⟩ (.int .i64 Y)):=yab (yab HB4.out (by omega)) (by omega)
  have s5:W.heap.size+2 < ((w4.setCell ⟨W.heap.size+1,0,none⟩ (.int .i64 X)).setCell ⟨W.heap.size+2,0,none⟩ (.int .i64 Y)).heap.size:=by simpa using S4.out
  have z1:((w4.setCell ⟨W.heap.size+1,0,none⟩ (.int .i64 X)).setCell ⟨W.heap.size+2,0,none⟩ (.int .i64 Y)).cell? ⟨W.heap.size+1,0,none⟩=some (.int .i64 X):=by simp [go_sem,j1]
  have z2:((w4.setCell ⟨W.heap.size+1,0,none⟩ (.int .i64 X)).setCell ⟨W.heap.size+2,0,none⟩ (.int .i64 Y)).cell? ⟨W.heap.size+2,0,none⟩=some (.int .i64 Y):=by simp [go_sem,j2]
  have z3:((w4.setCell ⟨W.heap.size+1,0,none⟩ (.int .i64 X)).setCell ⟨W.heap.size+2,0,none⟩ (.int .i64 Y)).cell? ⟨W.heap.size,0,none⟩=some (.pointer (some ⟨br,0,none⟩)):=by simp [go_sem,j0]
  exact ⟨hB5,s5,ha_boxes H.out hB5 s5 _ _ _ (.inl ⟨rfl,rfl,rfl⟩) _ _ z1 z2 z3 Inv HI.out⟩
 clear hB4 k0 k1 k2 z1 z2 HB4
 go_wp2
 go_ret
 exact ⟨rfl,hfin.out _ rfl⟩
end
section
open Go.RowKit
theorem yiR (q:Nat→Bool):(secL q).length≤86400:=yeU q 86400
end
section
open Go.RowKit
attribute [local go_sem ↓] yaC
abbrev LrS (w:World) (c:Cl) (W:World):Prop:=(ybi (.pointer (some ⟨w.heap.size,0,none⟩))).run Tryz.prog W= .ok (clv c) W∧ClB W w.heap.size c∧Below w.heap.size w W∧w.heap.size < W.heap.size
theorem LrS.of {w W:World} {c:Cl} (h:ClB W w.heap.size c) (hb:Below w.heap.size w W) (hs:w.heap.size < W.heap.size):LrS w c W:=⟨h.ld,h,hb,hs⟩
theorem LrS.keep {w W W':World} {c:Cl} (h:LrS w c W) (hb:Below W.heap.size W W'):LrS w c W':=
 LrS.of (h.2.1.below hb h.2.2.2) (h.2.2.1.trans (hb.mono (Nat.le_of_lt h.2.2.2))) (zH h.2.2.2 hb.size)
end
section
open Go.RowKit Go.Maps
theorem at_more {cs:List Cl} {n:Int} {ws ws2:Nat→Bool} {m m2:Nat} (h1:yhK cs n ws m ws2 m2):m2≤m+1∧m≤m2:=by
 rcases h1 with ⟨-,-,e⟩ | ⟨-,-,-,e⟩ | ⟨-,-,-,e | e⟩
 ·omega
 ·rw [e]; split <;> omega
 ·omega
 ·omega
def RdS (w:World) (l:List Cl) (br bk:Nat) (bps:List Nat) (k:Nat) (wr:World):Prop:=∃F ws m,RollS wr l br bk bps F ws m∧m≤k∧Below w.heap.size w wr
theorem RdS.below {w wr w':World} {l:List Cl} {br bk:Nat} {bps:List Nat} {k:Nat} (h:RdS w l br bk bps k wr) (hB:Below wr.heap.size wr w'):RdS w l br bk bps k w':=by
 obtain ⟨F,ws,m,h1,h2,h3⟩:=h
 exact ⟨F,ws,m,h1.below hB,h2,h3.trans (hB.mono h3.size)⟩
end
section
open Go.RowKit Go.Maps
def ycM (cs:List Cl) (t:Int):Bool:=cs.any fun c=>hasC c t
theorem yho (cs:List Cl) (n:Int) (k:Nat):dayQ cs n k=ycM cs (86400 * n+k):=rfl
theorem yeD {cs:List Cl} {t:Int} (h:ycM cs t=true):0≤t∧t < 12622780800:=by
 rw [ycM,List.any_eq_true] at h
 obtain ⟨c,-,hc⟩:=h
 obtain ⟨-,-,-,h1,h2⟩:=yjc hc
 exact ⟨h1,h2⟩
def remQ (cs:List Cl) (n u s:Int) (k:Nat):Bool:=dayQ cs n k && (decide (s≤k) && decide (86400 * n+k≤u))
def remI (cs:List Cl) (n u s:Int):List Int:=secL (remQ cs n u s)
theorem yeB {cs:List Cl} {n u s x:Int}:x∈remI cs n u s↔∃k:Nat,k < 86400∧x=k∧dayQ cs n k=true∧s≤k∧86400 * n+k≤u:=by
 rw [remI,secL,sel_mem]
 constructor
 ·rintro ⟨k,h1,h2,h3⟩
  rw [remQ,zzX,zzX,zzY,zzY] at h2
  exact ⟨k,h1,h3,h2.1,h2.2.1,h2.2.2⟩
 ·rintro ⟨k,h1,h3,h2,h4,h5⟩
  exact ⟨k,h1,by rw [remQ,h2,zzZ h4,zzZ h5]; rfl,h3⟩
theorem yeZ (cs:List Cl) (n u s:Int):(remI cs n u s).Pairwise (·< ·):=yaH _ _
theorem ycd:∀{l m:List Int},l.Pairwise (·< ·)→m.Pairwise (·< ·)→(∀x,x∈l↔x∈m)→l=m
 | [],[],_,_,_=>rfl
 | [],y :: m,_,_,h=>by have:=(h y).2 (by simp); simp at this
 | x :: l,[],_,_,h=>by have:=(h x).1 (by simp); simp at this
 | x :: l,y :: m,hl,hm,h=>by
   rw [List.pairwise_cons] at hl hm
   have e:x=y:=by
    rcases List.mem_cons.1 ((h x).1 (by simp)) with e | h1
    ·exact e
    ·rcases List.mem_cons.1 ((h y).2 (by simp)) with e | h2
     ·exact e.symm
     ·have a:=hm.1 x h1; have b:=hl.1 y h2; omega
   subst e
   congr 1
   refine ycd hl.2 hm.2 (fun z=>⟨fun hz=>?_,fun hz=>?_⟩)
   ·rcases List.mem_cons.1 ((h z).1 (by simp [hz])) with e | h1
    ·subst e; have:=hl.1 z hz; omega
    ·exact h1
   ·rcases List.mem_cons.1 ((h z).2 (by simp [hz])) with e | h1
    ·subst e; have:=hm.1 z hz; omega
    ·exact h1
def dayI (cs:List Cl) (f u n:Int):List Int:=(remI cs n u (max 0 (f - 86400 * n))).map fun x=>86400 * n+x
theorem yeE {cs:List Cl} {f u n t:Int}:t∈dayI cs f u n↔t / 86400=n∧f≤t∧t≤u∧ycM cs t=true:=by
 rw [dayI,List.mem_map]
 constructor
 ·rintro ⟨x,hx,rfl⟩
  obtain ⟨k,h1,rfl,h2,h3,h4⟩:=yeB.1 hx
  exact ⟨by omega,by omega,h4,h2⟩
 ·rintro ⟨rfl,h1,h2,h3⟩
  have e:(((t % 86400).toNat:Nat):Int)=t % 86400:=Int.toNat_of_nonneg (by omega)
  refine ⟨t % 86400,yeB.2 ⟨(t % 86400).toNat,by omega,e.symm,?_,by omega,by omega⟩,by omega⟩
  rw [yho,e,show 86400 * (t / 86400)+t % 86400=t by omega]; exact h3
theorem dayI_pair (cs:List Cl) (f u n:Int):(dayI cs f u n).Pairwise (·< ·):=by
 rw [dayI,List.pairwise_map]
 exact (yeZ _ _ _ _).imp fun h=>by omega
def ycA (cs:List Cl) (f u:Int) (ds:List Int):List Int:=ds.flatMap (dayI cs f u)
def cntI (cs:List Cl) (f u:Int) (ds:List Int) (k:Nat):Nat:=(ycA cs f u (ds.take k)).length
theorem yhp (cs:List Cl) (f u:Int) (ds:List Int):cntI cs f u ds 0=0:=rfl
theorem cntI_all (cs:List Cl) (f u:Int) (ds:List Int):cntI cs f u ds ds.length= (ycA cs f u ds).length:=by rw [cntI,List.take_length]
theorem cntI_snoc {cs:List Cl} {f u n:Int} {ds:List Int} {k:Nat} (h:ds[k]? =some n):cntI cs f u ds (k+1)=cntI cs f u ds k+(dayI cs f u n).length:=by
 obtain ⟨hk,rfl⟩:=zzq.1 h
 rw [cntI,yam ds k hk,ycA,List.flatMap_append,List.length_append,cntI,ycA]; simp
theorem yj2 {cs:List Cl} {f u n:Int} {ds:List Int} {k:Nat} (h:ds[k]? =some n):ycA cs f u ds=ycA cs f u (ds.take k) ++ (dayI cs f u n ++ ycA cs f u (ds.drop (k+1))):=by
 obtain ⟨hk,rfl⟩:=zzq.1 h
 rw [ycA,ycA,ycA]
 conv=>lhs; rw [←List.take_append_drop k ds,List.drop_eq_getElem_cons hk]
 rw [List.flatMap_append,List.flatMap_cons]
theorem inst_at {cs:List Cl} {f u n x:Int} {ds:List Int} {k p:Nat} (h:ds[k]? =some n) (hx:(dayI cs f u n)[p]? =some x):(ycA cs f u ds)[cntI cs f u ds k+p]? =some x:=by
 rw [yj2 h,List.getElem?_append_right (by rw [cntI]; omega),cntI,show (ycA cs f u (ds.take k)).length+p - (ycA cs f u (ds.take k)).length=p by omega,List.getElem?_append_left (zzq.1 hx).1,hx]
theorem daysL_up (a b:Int):(yao a b).Pairwise (·< ·):=by
 rw [yao,List.pairwise_map]
 exact List.Pairwise.imp (fun h=>by omega) List.pairwise_lt_range
theorem dayS_up (cs:List Cl) (a b:Int):(dayS cs (yao a b)).Pairwise (·< ·):=(daysL_up a b).filter _
def yct (cs:List Cl) (f u:Int):List Int:=ycA cs f u (dayS cs (yao (f / 86400) (u / 86400)))
theorem ycN {cs:List Cl} {f u t:Int}:t∈yct cs f u↔f≤t∧t≤u∧ycM cs t=true:=by
 rw [yct,ycA,List.mem_flatMap]
 constructor
 ·rintro ⟨n,-,h⟩
  obtain ⟨-,h1,h2,h3⟩:=yeE.1 h
  exact ⟨h1,h2,h3⟩
 ·rintro ⟨h1,h2,h3⟩
  refine ⟨t / 86400,?_,yeE.2 ⟨rfl,h1,h2,h3⟩⟩
  rw [dayS,List.mem_filter,ycg]
  refine ⟨⟨by omega,by omega⟩,ydP.2 ⟨(t % 86400).toNat,by omega,?_⟩⟩
  rw [yho,Int.toNat_of_nonneg (by omega),show 86400 * (t / 86400)+t % 86400=t by omega]; exact h3
theorem yc5 (cs:List Cl) (f u:Int):(yct cs f u).Pairwise (·< ·):=by
 have key:∀ds:List Int,ds.Pairwise (·< ·)→(ycA cs f u ds).Pairwise (·< ·):=by
  intro ds
  induction ds with
  | nil=>intro _; exact List.Pairwise.nil
  | cons n ds ih=>
    intro hp
    rw [List.pairwise_cons] at hp
    rw [ycA,List.flatMap_cons,List.pairwise_append]
    refine ⟨dayI_pair _ _ _ _,ih hp.2,fun a ha b hb=>?_⟩
    rw [List.mem_flatMap] at hb
    obtain ⟨n',hn',hb⟩:=hb
    obtain ⟨h1,-⟩:=yeE.1 ha
    obtain ⟨h2,-⟩:=yeE.1 hb
    have:=hp.1 n' hn'
    omega
 exact key _ (dayS_up _ _ _)
end
end Go.Proofs.YtjahgimnfliooaaGreatDoor
