/-
  roll.All's function, walked: it tells the days of a set, each with its disc.
  roll.Back's function, walked: it tells the days of a set, the last one first, each with its disc.
  roll.All and roll.Back: which function they hand back, with which boxes; the days outside of a set's hull have nothing.
  The seconds of a disc, told and collected in a list: ferialaw15.Told.
  feriaref16.Of and All: the seconds of a day that have a clause, and those that have one of clauses.
-/
import Derived.Test.YtjahgimnfliooaaGreatDoorQe8e05b
import Derived.Test.YtjahgimnfliooaaGreatDoorQ3a6f10
import Derived.Test.YtjahgimnfliooaaGreatDoorQ6fdd12
import Derived.Test.YtjahgimnfliooaaGreatDoorQ2b0ff1
import Derived.Test.YtjahgimnfliooaaGreatDoorQcc8b80
import Derived.Deep.RegionHeld3
import Derived.Deep.AppendLies
import Derived.Test.YtjahgimnfliooaaGreatDoorQ21ca15
set_option maxRecDepth 100000
set_option maxHeartbeats 25600000
namespace Go.Proofs.YtjahgimnfliooaaGreatDoor
set_option linter.unusedVariables false
section
open Go.RowKit Go.Maps
attribute [local go_sem] Oper.semAt_some
theorem yhM {cs:List Cl} {br bk:Nat} {bps:List Nat} (Inv:Nat→(Nat→Bool)→Nat→Prop) (x1 x2 x3:Nat) (f t:Int) (f0:0≤f) (f1:f≤146097) (t0:-1≤t) (t1:t≤146096)
  (hstep:∀j n ws m ws' m',(yai f t)[j]? =some n→Inv j ws m→ybn cs n ws m ws' m'→Inv (j+1) ws' m') (hbd:∀j ws m,Inv j ws m→j < (yai f t).length→m < 4611686018427387904) :
  TellsH Tryz.prog 104 #[.pointer (some ⟨x1,0,none⟩), .pointer (some ⟨x2,0,none⟩), .pointer (some ⟨x3,0,none⟩)] (dayS cs (yai f t)).length (VRoll cs (RM br bk bps) (dayS cs (yai f t)))
   (HA cs br bk bps x1 x2 x3 f t (Inv 0)) (HA cs br bk bps x1 x2 x3 f t (Inv (yai f t).length)) (fun F W=>∃j,HA cs br bk bps x1 x2 x3 f t (Inv j) F W) (RM br bk bps):=by
 intro y J Jx O F W hH hFO hC hJ
 obtain ⟨yf,yi,yc,rfl⟩:=hC.form
 show Calls Tryz.prog 104 #[.func yf yi yc, .pointer (some ⟨x1,0,none⟩), .pointer (some ⟨x2,0,none⟩), .pointer (some ⟨x3,0,none⟩)] W _
 obtain ⟨W1,hW1⟩:∃W1,W.alloc (.cells #[.func yf yi yc] 160)=W1:=⟨_,rfl⟩
 have q3:W1.heap.size=W.heap.size+1:=by rw [←hW1]; simp
 have q4:Below W.heap.size W W1:=by rw [←hW1]; exact yaa (Below.refl _ _) (zG _)
 have q5:W1.cell? ⟨W.heap.size,0,none⟩=some (.func yf yi yc):=by rw [←hW1]; simp [go_sem]
 have hFlt:=hH.lt
 have hOlt:=hC.lt 0 O F W hJ
 have hH1:HA cs br bk bps x1 x2 x3 f t (Inv 0) F W1:=hH.keep q4.size (fun b hb=>q4.block b (hFlt b hb))
 have HH1:=hid hH1
 have HJ1:Hid (J 0 O F W1):=hC.stab 0 O F F W W1 hJ q4.size (fun _ h=>h) (fun b hb=>q4.block b (hb.elim (hOlt b) (fun h=>hFlt b h.1)))
 have HRM:=hid hH.sub
 have HF:=hid hFlt
 have HO:=hid hOlt
 have HFO:=hid hFO
 have HC:=hid hC
 have Hst:=hid hstep
 have Hbd:=hid hbd
 have k1:=hH1.c1
 have k2:=hH1.c2
 have HW1:=hid hW1
 have Q4:=hid q4
 have Q3:=hid q3
 have ey:=hid q5
 obtain ⟨L,hL⟩:∃L,(yai f t).length=L:=⟨_,rfl⟩
 rw [hL] at Hbd⊢
 have HL:=hid hL
 clear hH hFO hC hJ hW1 q3 q4 q5 hFlt hOlt hH1 hstep hbd hL
 refine (wf_calls (r:=none) (n:=1)).mp ?_
 refine callsIn_of_wp_marks Tryz.func104 rfl trivial ?_ rfl
 simp only [Tryz.ntmps104,List.size_toArray,List.length_cons,List.length_nil,Nat.reduceAdd,Nat.reduceSub,Array.replicate_succ,Array.replicate_zero,List.push_toArray,List.append_toArray,List.nil_append,List.cons_append]
 gi_wp2_with fail
 refine ycY ?_
 rw [HW1.out]
 gi_wp2_with fail
 refine wpIn_label ?_
 gi_wp2_with fail
 refine (wf_calls.mpr (yhE _ _ _)).mono ?_
 rintro e w2 ⟨rfl,hk1,hk2,hB2,hs2⟩
 have hk1':w2.cell? ⟨W1.heap.size,0,none⟩=some (.int .i64 f):=by rw [hk1,show max f 0=f by omega]
 have hk2':w2.cell? ⟨W1.heap.size+1,0,none⟩=some (.int .i64 t):=by rw [hk2,show min t 146096=t by omega]
 have s12:=hB2.size
 have hB02:Below W.heap.size W w2:=Q4.out.trans (hB2.mono Q4.out.size)
 have hI2:IG (RM br bk bps) O F W (fun O1 F1 W'=>J (cntA cs (yai f t) 0) O1 F1 W'∧HA cs br bk bps x1 x2 x3 f t (Inv 0) F1 W') (fun b=>O b∨F b) w2:=
  ⟨O,F,fun b=>Iff.rfl,HFO.out,⟨HC.out.stab 0 O F F W1 w2 HJ1.out hB2.size (fun _ h=>h) (fun b hb=>hB2.block b (by have:=hb.elim (HO.out b) (fun h=>HF.out b h.1); have:=Q3.out; omega)),HH1.out.keep hB2.size (fun b hb=>hB2.block b (by have:=HF.out b hb; have:=Q3.out; omega))⟩,fun _ h=>h,fun _ h=> .inl h,fun _ h=>h,fun _ h=> .inl h,fun b hb _=>hB02.block b (HF.out b hb)⟩
 have tl:=hid (yfD f t W1.heap.size (W1.heap.size+1) (fun b=>O b∨F b) w2 f0 f1 t1 t0 (by omega) hs2 (fun h=>by have:=h.elim (HO.out _) (HF.out _); have:=Q3.out; omega) (fun h=>by have:=h.elim (HO.out _) (HF.out _); have:=Q3.out; omega) hk1' hk2')
 have ey2:=hid ((hB2.cell (p:=⟨W.heap.size,0,none⟩) (by have:=Q3.out; simp only []; omega)).trans ey.out)
 have nOy:Hid (¬(O W.heap.size∨F W.heap.size)):=fun h=>by have:=h.elim (HO.out _) (HF.out _); omega
 have szW:W.heap.size < w2.heap.size:=by have:=Q3.out; omega
 have HB02:=hid hB02
 have HI2:=hid hI2
 clear hk1 hk2 hk1' hk2' hB2 hB02 hI2 k1 k2
 gi_wp2_with fail
 refine yeq (gf:=153) (lb:=#[.pointer (some ⟨W1.heap.size,0,none⟩), .pointer (some ⟨W1.heap.size+1,0,none⟩)]) rfl yeL (ybP (yai f t)) (fun b=>O b∨F b) (fun x hx=>by simp only [ybP,List.mem_map] at hx; obtain ⟨_,_,rfl⟩:=hx; rfl) tl.out
  (fun k O2 W'=>IG (RM br bk bps) O F W (fun O1 F1 W'=>J (cntA cs (yai f t) k) O1 F1 W'∧HA cs br bk bps x1 x2 x3 f t (Inv k) F1 W') O2 W')
  (fun c k O2 W'=>c= .exit 0∧IG (RM br bk bps) O F W (fun O1 F1 W'=>(∃q,1≤q∧q≤(dayS cs (yai f t)).length∧Jx q O1 F1 W')∧HA cs br bk bps x1 x2 x3 f t (Inv k) F1 W') O2 W')
  ?stab ?stabx ?lt ?ltx HI2.out
  (fun k O2 a' W'=>IG (RM br bk bps) O F W (fun O1 F1 W'=>J (cntA cs (yai f t) k) O1 F1 W'∧HA cs br bk bps x1 x2 x3 f t (Inv k) F1 W') O2 W'∧∃bx n,(yai f t)[k]? =some n∧bx < W'.heap.size∧¬O2 bx∧ShS W' bx (shF n)∧∃(u6 u7 u8 u9 u10 u11 u12 u13 u14 u15 u16 u17 u18 u19 u20 u21:Value),a' = {tmps:=#[.func yf yi yc, .pointer (some ⟨x1,0,none⟩), .pointer (some ⟨x2,0,none⟩), .pointer (some ⟨x3,0,none⟩), .pointer (some ⟨W.heap.size,0,none⟩), .pointer (some ⟨bx,0,none⟩),u6,u7,u8,u9,u10,u11,u12,u13,u14,u15,u16,u17,u18,u19,u20,u21],defers:= []})
  ?putl ?assign ?body ?done ?stop
 case stab=>
  intro k O2 W' W2 h hs hO
  exact h.keep hs hO (fun O1 F1 ⟨g1,g2⟩ g3 g4=>⟨HC.out.stab _ O1 F1 F1 W' W2 g1 g3 (fun _ h=>h) (fun b hb=>g4 b (hb.imp id And.left)),g2.keep g3 (fun b hb=>g4 b (.inr hb))⟩)
 case stabx=>
  rintro c k O2 W' W2 ⟨rfl,h⟩ hs hO
  exact ⟨rfl,h.keep hs hO (fun O1 F1 ⟨⟨q,q1,q2,g1⟩,g2⟩ g3 g4=>⟨⟨q,q1,q2,HC.out.stabx _ O1 F1 F1 W' W2 g1 g3 (fun _ h=>h) (fun b hb=>g4 b (hb.imp id And.left))⟩,g2.keep g3 (fun b hb=>g4 b (.inr hb))⟩)⟩
 case lt=>
  intro k O2 W' h
  exact h.lt (fun O1 F1 ⟨g1,g2⟩ b hb=>hb.elim (HC.out.lt _ _ _ _ g1 b) (g2.lt b))
 case ltx=>
  rintro c k O2 W' ⟨rfl,h⟩
  exact h.lt (fun O1 F1 ⟨⟨q,q1,q2,g1⟩,g2⟩ b hb=>hb.elim (HC.out.ltx _ _ _ _ g1 b) (g2.lt b))
 case putl=>
  rintro l' o k O2 a' W' hr hn ⟨h,bx,n,h1,h2,h3,h4,h5⟩
  exact ⟨h.keep (by rw [World.putObj_size]; exact zG _) (fun b hb=>World.putObj_heap_other (fun e=>hn (e ▸ hb))) (fun O1 F1 ⟨g1,g2⟩ g3 g4=>⟨HC.out.stab _ O1 F1 F1 W' _ g1 g3 (fun _ h=>h) (fun b hb=>g4 b (hb.imp id And.left)),g2.keep g3 (fun b hb=>g4 b (.inr hb))⟩),bx,n,h1,by rw [World.putObj_size]; exact h2,h3,yh1 h4 hr,h5⟩
 case assign=>
  intro l' k O6 W6 K hk hI6 hG6 hK
  have hk2:k < (yai f t).length:=by rw [ybF] at hk; exact hk
  have hx:=yd4 hk
  obtain ⟨n,hn⟩:∃n,(yai f t)[k]=n:=⟨_,rfl⟩
  have Hn':Hid ((yai f t)[k]? =some n):=by show _ = _; rw [zzp hk2,hn]
  rw [hn,←yaK] at hx
  rw [hx]
  obtain ⟨s,hs⟩:∃s,shF n=s:=⟨_,rfl⟩
  rw [hs,shq]
  have Hs:=hid hs
  have hlt6:∀b,O6 b→b < W6.heap.size:=hI6.lt (fun O1 F1 ⟨g1,g2⟩ b hb=>hb.elim (HC.out.lt _ _ _ _ g1 b) (g2.lt b))
  have Hlt6:=hid hlt6
  have HI6:=hid hI6
  clear hx hn hs hlt6 hk2 hI6 hG6
  gi_wp2
  have hbel:=yaa (o:= .cells (yaV s).toArray 88) (Below.refl W6.heap.size W6) (zG _)
  exact hK _ O6 _ (Grow.of_below hbel) ⟨HI6.out.keep hbel.size (fun b hb=>hbel.block b (Hlt6.out b hb)) (fun O1 F1 ⟨g1,g2⟩ g3 g4=>⟨HC.out.stab _ O1 F1 F1 W6 _ g1 g3 (fun _ h=>h) (fun b hb=>g4 b (hb.imp id And.left)),g2.keep g3 (fun b hb=>g4 b (.inr hb))⟩),W6.heap.size,n,Hn'.out,by simp,fun h=>by have:=Hlt6.out _ h; omega,by rw [Hs.out]; exact ybL W6 88 _ _ _ _ _ _ _ _ _ _,_,_,_,_,_,_,_,_,_,_,_,_,_,_,_,_,rfl⟩
 case done=>
  intro O9 w9 hG9 hI9 hD hnD
  rw [ybF,yjD,HL.out] at hI9
  obtain ⟨O1,F1,e,h1,⟨hJ9,hH9⟩,h3,h4,h5,h6,h7⟩:=hI9
  have hE:Eff (fun b=>O b∨F b) W w9:=(Eff.of_below HB02.out).trans hG9.eff (fun _ h=> .inl h)
  have n1:¬O1 w2.heap.size:=fun h=>hnD ((e _).2 (.inl h))
  have n2:¬F1 w2.heap.size:=fun h=>hnD ((e _).2 (.inr h))
  have sz:W.heap.size≤w2.heap.size:=HB02.out.size
  have hfin:Hid (∀o:Obj,ToldH (dayS cs (yai f t)).length (HA cs br bk bps x1 x2 x3 f t (Inv L)) (fun F W=>∃j,HA cs br bk bps x1 x2 x3 f t (Inv j) F W) (RM br bk bps) J Jx O F W (w9.putObj w2.heap.size o)):=fun o=>by
   have pb:∀b,b≠w2.heap.size→(w9.putObj w2.heap.size o).heap[b]? =w9.heap[b]?:=fun b hb=>World.putObj_heap_other hb
   have ps:(w9.putObj w2.heap.size o).heap.size=w9.heap.size:=World.putObj_size
   refine ⟨O1,F1,IG.growM (F:=F) HRM.out HF.out h3 h4 (fun b g n=>(pb b (fun e'=>n2 (e' ▸ h5 b g))).trans (h7 b g n)) (hE.putObj (.inr sz) o),h5,h6,h1, .inl ⟨hH9.keep (by rw [ps]; exact zG _) (fun b hb=>pb b (fun e'=>n2 (e' ▸ hb))),?_⟩⟩
   exact HC.out.stab _ O1 F1 F1 w9 _ hJ9 (by rw [ps]; exact zG _) (fun _ h=>h) (fun b hb=>pb b (fun e'=>hb.elim (fun h=>n1 (e' ▸ h)) (fun h=>n2 (e' ▸ h.1))))
  have HD9:=hid hD
  clear e h1 hJ9 hH9 h3 h4 h5 h6 h7 hE n1 n2 sz hG9 hD
  gi_wp2
  rw [Exit.noGoto_normal]
  refine ⟨by simp, .inl ⟨_,_,rfl,run_takeDeferred HD9.out,?_⟩⟩
  exact ⟨_,results_none rfl _ _ _,⟨_,rfl⟩,hfin.out _⟩
 case stop=>
  rintro c k O9 w9 hk1 hk2 hG9 ⟨rfl,hI9⟩ hD hnD
  obtain ⟨O1,F1,e,h1,⟨⟨q,hq1,hq2,hJ9⟩,hH9⟩,h3,h4,h5,h6,h7⟩:=hI9
  have hE:Eff (fun b=>O b∨F b) W w9:=(Eff.of_below HB02.out).trans hG9.eff (fun _ h=> .inl h)
  have n1:¬O1 w2.heap.size:=fun h=>hnD ((e _).2 (.inl h))
  have n2:¬F1 w2.heap.size:=fun h=>hnD ((e _).2 (.inr h))
  have sz:W.heap.size≤w2.heap.size:=HB02.out.size
  have hfin:Hid (∀o:Obj,ToldH (dayS cs (yai f t)).length (HA cs br bk bps x1 x2 x3 f t (Inv L)) (fun F W=>∃j,HA cs br bk bps x1 x2 x3 f t (Inv j) F W) (RM br bk bps) J Jx O F W (w9.putObj w2.heap.size o)):=fun o=>by
   have pb:∀b,b≠w2.heap.size→(w9.putObj w2.heap.size o).heap[b]? =w9.heap[b]?:=fun b hb=>World.putObj_heap_other hb
   have ps:(w9.putObj w2.heap.size o).heap.size=w9.heap.size:=World.putObj_size
   refine ⟨O1,F1,IG.growM (F:=F) HRM.out HF.out h3 h4 (fun b g n=>(pb b (fun e'=>n2 (e' ▸ h5 b g))).trans (h7 b g n)) (hE.putObj (.inr sz) o),h5,h6,h1, .inr ⟨⟨k,hH9.keep (by rw [ps]; exact zG _) (fun b hb=>pb b (fun e'=>n2 (e' ▸ hb)))⟩,q,hq1,hq2,?_⟩⟩
   exact HC.out.stabx _ O1 F1 F1 w9 _ hJ9 (by rw [ps]; exact zG _) (fun _ h=>h) (fun b hb=>pb b (fun e'=>hb.elim (fun h=>n1 (e' ▸ h)) (fun h=>n2 (e' ▸ h.1))))
  have HD9:=hid hD
  clear e h1 hJ9 hH9 h3 h4 h5 h6 h7 hE n1 n2 sz hG9 hD
  gi_wp2
  rw [Exit.noGoto_normal]
  refine ⟨by simp, .inl ⟨_,_,rfl,run_takeDeferred HD9.out,?_⟩⟩
  exact ⟨_,results_none rfl _ _ _,⟨_,rfl⟩,hfin.out _⟩
 case body=>
  rintro l3 k O6 a' W6 hk hG6 hl3 hrec6 hnl3 ⟨hI6,bx,n,en,lx,nx,hsh,u6,u7,u8,u9,u10,u11,u12,u13,u14,u15,u16,u17,u18,u19,u20,u21,rfl⟩
  have hmem:=ybw.1 (List.mem_of_getElem? en)
  have n0:0≤n:=by omega
  have n1:n < 146097:=by omega
  have hkL:k < (yai f t).length:=(zzq.1 en).1
  obtain ⟨O1,F1,e,h1,⟨hJ6,hH6⟩,h3,h4,h5,h6,h7⟩:=hI6
  have ey6:=(hG6.cell (b:=W.heap.size) szW nOy.out 0).trans ey2.out
  have k3:=hH6.c3
  obtain ⟨ws,m,hR6,hInv⟩:=hH6.roll
  have hm:=Hbd.out k ws m hInv (by have:=HL.out; omega)
  have cA:=hid (ygD n n0 n1 hm hR6)
  have cS:=hid (fun d q w hT h=>yjI d q w hT h)
  rw [←yaK] at cA
  obtain ⟨s,hs⟩:∃s,shF n=s:=⟨_,rfl⟩
  rw [hs] at cA hsh
  rw [shq] at cA
  obtain ⟨s0,s1,s2,s3,s4,s5,s6,s7,s8,s9⟩:=hsh
  have Sh6:Hid (ShS W6 bx s):=⟨s0,s1,s2,s3,s4,s5,s6,s7,s8,s9⟩
  have Hs:=hid hs
  have En:=hid en
  have N01:=hid (And.intro n0 n1)
  have HI6:=hid (show IG (RM br bk bps) O F W (fun O1 F1 W'=>J (cntA cs (yai f t) k) O1 F1 W'∧HA cs br bk bps x1 x2 x3 f t (Inv k) F1 W') O6 W6 from ⟨O1,F1,e,h1,⟨hJ6,hH6⟩,h3,h4,h5,h6,h7⟩)
  have Hparts:=hid (And.intro e (And.intro h1 (And.intro hJ6 (And.intro hH6 (And.intro h3 (And.intro h4 (And.intro h5 (And.intro h6 h7))))))))
  have HR6:=hid hR6
  have HInv:=hid hInv
  have sz6:=hG6.eff.size
  have HE06:Hid (Eff (fun b=>O b∨F b) W W6):=(Eff.of_below HB02.out).trans hG6.eff (fun _ h=> .inl h)
  clear e h1 hJ6 hH6 h3 h4 h5 h6 h7 hR6 hInv hm hs en hmem n0 n1 hG6
  gi_wp2_with fail
  refine (wf_calls.mpr cA.out).mono ?_
  rintro e w7 ⟨d,F2,ws',m',rfl,hR7,hGr,hE7,hst7,hnone,hsome⟩
  obtain ⟨e,h1,hJ6,hH6,h3,h4,h5,h6,h7⟩:=Hparts.out
  have hlt1:∀b,O1 b→b < W6.heap.size:=HC.out.lt _ _ _ _ hJ6
  have hHA7:HA cs br bk bps x1 x2 x3 f t (Inv (k+1)) F2 w7:=hH6.step hR7 hGr.sub hE7 (Hst.out k n ws m ws' m' En.out HInv.out hst7)
  obtain ⟨g1,g5,g6,g7,gk,gG⟩:=ig_step (F:=F) h1 h5 h6 h7 hlt1 hH6.lt hH6.sub hGr hE7 HE06.out.size
  have hJ7:J (cntA cs (yai f t) k) O1 F2 w7:=HC.out.stab _ O1 F1 F2 W6 w7 hJ6 hE7.size hGr.sub gk
  have h8:cs.length≤8:=by have:=hR7.x.may; rw [mayL,zzX,zzY] at this; exact this.1
  have hd7:=yjy h8 N01.out.1 N01.out.2 hnone hsome
  have HT7:=hid hR7.x.tab
  have cS7:=hid (cS.out d (dayQ cs n) w7 hR7.x.tab.1 hd7)
  have HG67:=hid (gG O6 e)
  have Hp7:=hid (And.intro g1 (And.intro hJ7 (And.intro hHA7 (And.intro h3 (And.intro h4 (And.intro g5 (And.intro g6 g7)))))))
  have HE07:Hid (Eff (fun b=>O b∨F b) W w7):=HE06.out.trans hE7 (fun b hb=>(h6 b (hH6.sub b hb)).imp .inr id)
  have Hsn:=hid (yhv (cs:=cs) En.out)
  have Hsome:=hid hsome
  have Hnd:Hid (d=none→∀j,j < 86400→dayQ cs n j=false):=fun hd j hj=>yda h8 N01.out.1 N01.out.2 (hnone hd) hj
  have ey7:=(hE7.cell (p:=⟨W.heap.size,0,none⟩) (by simp only []; omega) (fun hM=>nOy.out (.inr (HRM.out _ hM)))).trans ey6
  have Sh7:=hid (ycv Sh6.out (hE7.block bx lx (fun hM=>nx ((e bx).2 (.inr (hH6.sub bx hM))))))
  obtain ⟨qv,hqv⟩:∃qv,anyQ (dayQ cs n)=qv:=⟨_,rfl⟩
  have Hqv:=hid hqv
  rw [hqv] at cS7 Hsn
  clear hR7 hGr hE7 hst7 hnone e h1 hJ6 hH6 h3 h4 h5 h6 h7 hlt1 hHA7 g1 g5 g6 g7 gk gG hJ7 h8 hd7 hsome hqv s0 s1 s2 s3 s4 s5 s6 s7 s8 s9 ey6 k3
  gi_wp2_with fail
  refine (wf_calls.mpr cS7.out).mono ?_
  rintro e w8 ⟨rfl,rfl⟩
  cases qv
  ·have hfin:Hid (Grow O6 (fun b=>O1 b∨F2 b) W6 w7∧IG (RM br bk bps) O F W (fun O1 F1 W'=>J (cntA cs (yai f t) (k+1)) O1 F1 W'∧HA cs br bk bps x1 x2 x3 f t (Inv (k+1)) F1 W') (fun b=>O1 b∨F2 b) w7):=by
    obtain ⟨g1,hJ7,hHA7,h3,h4,g5,g6,g7⟩:=Hp7.out
    refine ⟨HG67.out,O1,F2,fun b=>Iff.rfl,g1,⟨?_,hHA7⟩,h3,h4,g5,g6,g7⟩
    rw [Hsn.out]; exact hJ7
   clear Hp7 HG67
   gi_wp2
   exact ⟨_,hfin.out.1,hfin.out.2⟩
  ·obtain ⟨b,rfl⟩:∃b,d=some b:=by
    cases d with
    | none=>
      exfalso
      obtain ⟨j,hj,hj2⟩:=yco.1 Hqv.out
      exact absurd hj2 (by simp [Hnd.out rfl j hj])
    | some b=>exact ⟨b,rfl⟩
   have hat:=cntA_at (cs:=cs) En.out Hqv.out
   obtain ⟨g1,hJ7,hHA7,h3,h4,g5,g6,g7⟩:=Hp7.out
   have hidx:=(zzq.1 hat).1
   have hltF2:=hHA7.lt
   have hcall:=HC.out.call _ O1 F2 w7 #[shN n, .pointer (some ⟨b,0,none⟩)] hidx hJ7 g1 ⟨n,b,hat,N01.out.1,N01.out.2,rfl,Hsome.out b rfl,HT7.out,hltF2⟩ (IG.growM HRM.out HF.out h3 h4 g7 HE07.out)
   rw [←yaK,Hs.out,shq] at hcall
   have Hcall:=hid hcall
   have Hidx:=hid hidx
   have sz7:Hid (W.heap.size≤w7.heap.size):=HE07.out.size
   obtain ⟨r0,r1,r2,r3,r4,r5,r6,r7,r8,r9⟩:=Sh7.out
   clear hcall hidx hat g1 hJ7 hHA7 h3 h4 g5 g6 g7 hltF2
   gi_wp2_with (refine callv2 (.tmp 17) (.tmp 18) (.tmp 19) _ _ rfl rfl rfl rfl rfl Hcall.out ?_)
   rintro e W8 O8 y1 y2 y3 hend
   obtain ⟨g1,hJ7,hHA7,h3,h4,g5,g6,g7⟩:=Hp7.out
   obtain ⟨p1,p3,p4,p7,pk,pG⟩:=yjl (F:=F) g1 h3 h4 g5 g7 hHA7.lt y1 y2 y3 sz7.out
   have hHA8:HA cs br bk bps x1 x2 x3 f t (Inv (k+1)) F2 W8:=hHA7.keep y3.size pk
   have HG8:=hid (HG67.out.trans pG)
   rcases hend with ⟨rfl,hJ8⟩ | ⟨rfl,hJ8⟩
   ·have hfin:Hid (IG (RM br bk bps) O F W (fun O1 F1 W'=>J (cntA cs (yai f t) (k+1)) O1 F1 W'∧HA cs br bk bps x1 x2 x3 f t (Inv (k+1)) F1 W') (fun b=>O8 b∨F2 b) W8):=
     ⟨O8,F2,fun b=>Iff.rfl,p1,⟨by rw [Hsn.out]; exact hJ8,hHA8⟩,p3,p4,g5,g6,p7⟩
    clear g1 hJ7 hHA7 h3 h4 g5 g6 g7 p1 p3 p4 p7 pk pG hHA8 hJ8 y1 y2 y3
    refine ⟨_,rfl,?_⟩
    gi_wp2
    exact ⟨_,HG8.out,hfin.out⟩
   ·have hfin:Hid (IG (RM br bk bps) O F W (fun O1 F1 W'=>(∃q,1≤q∧q≤(dayS cs (yai f t)).length∧Jx q O1 F1 W')∧HA cs br bk bps x1 x2 x3 f t (Inv (k+1)) F1 W') (fun b=>O8 b∨F2 b) W8):=
     ⟨O8,F2,fun b=>Iff.rfl,p1,⟨⟨_,by omega,Nat.succ_le_of_lt Hidx.out,hJ8⟩,hHA8⟩,p3,p4,g5,g6,p7⟩
    clear g1 hJ7 hHA7 h3 h4 g5 g6 g7 p1 p3 p4 p7 pk pG hHA8 hJ8 y1 y2 y3
    refine ⟨_,rfl,?_⟩
    gi_wp2
    exact ⟨_,HG8.out,rfl,hfin.out⟩
end
section
open Go.RowKit Go.Maps
attribute [local go_sem] Oper.semAt_some
theorem yht (f t:Int):(yai f t).reverse.length= (t - f+1).toNat:=by rw [List.length_reverse,yaO]
theorem daysR_get {f t:Int} {k:Nat} (h:f≤t - k):(yai f t).reverse[k]? =some (t - k):=by
 have hl:=yaO f t
 have h1:k < (yai f t).reverse.length:=by rw [List.length_reverse,hl]; omega
 rw [zzp h1,List.getElem_reverse,ybx,hl]
 congr 1
 omega
def BkG (cs:List Cl) (br bk:Nat) (bps:List Nat) (x1 x2 x3:Nat) (f t:Int) (Inv:Nat→(Nat→Bool)→Nat→Prop) (J:OwnF) (O F:Blk) (W:World) (k:Nat) (O1 F1:Blk) (wr:World):Prop:=
 (∀b,F1 b→¬O1 b)∧J (cntA cs (yai f t).reverse k) O1 F1 wr∧HA cs br bk bps x1 x2 x3 t f (Inv k) F1 wr∧(∀b,O b→O1 b)∧(∀b,O1 b→O b∨W.heap.size≤b)∧(∀b,F b→F1 b)∧(∀b,F1 b→F b∨W.heap.size≤b)∧
   (∀b,F b→¬RM br bk bps b→wr.heap[b]? =W.heap[b]?)∧Eff (fun b=>O b∨F b) W wr
theorem ykS {cs:List Cl} {br bk:Nat} {bps:List Nat} (Inv:Nat→(Nat→Bool)→Nat→Prop) (x1 x2 x3:Nat) (f t:Int) (f0:0≤f) (f1:f≤146097) (t0:-1≤t) (t1:t≤146096)
  (hstep:∀j n ws m ws' m',(yai f t).reverse[j]? =some n→Inv j ws m→ybn cs n ws m ws' m'→Inv (j+1) ws' m') (hbd:∀j ws m,Inv j ws m→j < (yai f t).reverse.length→m < 4611686018427387904) :
  TellsH Tryz.prog 144 #[.pointer (some ⟨x1,0,none⟩), .pointer (some ⟨x2,0,none⟩), .pointer (some ⟨x3,0,none⟩)] (dayS cs (yai f t).reverse).length (VRoll cs (RM br bk bps) (dayS cs (yai f t).reverse))
   (HA cs br bk bps x1 x2 x3 t f (Inv 0)) (HA cs br bk bps x1 x2 x3 t f (Inv (yai f t).reverse.length)) (fun F W=>∃j,HA cs br bk bps x1 x2 x3 t f (Inv j) F W) (RM br bk bps):=by
 intro y J Jx O F W hH hFO hC hJ
 obtain ⟨yf,yi,yc,rfl⟩:=hC.form
 show Calls Tryz.prog 144 #[.func yf yi yc, .pointer (some ⟨x1,0,none⟩), .pointer (some ⟨x2,0,none⟩), .pointer (some ⟨x3,0,none⟩)] W _
 have HRM:=hid hH.sub
 have HF:=hid hH.lt
 have HC:=hid hC
 have Hst:=hid hstep
 have Hbd:=hid hbd
 have k1:=hH.c1
 have hst0:Hid (BkG cs br bk bps x1 x2 x3 f t Inv J O F W 0 O F W):=⟨hFO,by rw [cntA_zero]; exact hJ,hH,fun _ h=>h,fun _ h=> .inl h,fun _ h=>h,fun _ h=> .inl h,fun _ _ _=>rfl,Eff.refl _ _⟩
 obtain ⟨L,hL⟩:∃L,(yai f t).reverse.length=L:=⟨_,rfl⟩
 rw [hL] at Hbd⊢
 have hLn:L= (t - f+1).toNat:=by rw [←hL,yht]
 clear hH hFO hC hJ hstep hbd hL
 refine (wf_calls (r:=none) (n:=1)).mp ?_
 gi_enter Tryz.func144,Tryz.ntmps144
 gi_wp2_with fail
 gi_loopw [5] (fun nv wr=>∃(k:Nat) (O1 F1:Blk),nv= .int .i64 (t - (k:Int))∧k≤L∧Hid (BkG cs br bk bps x1 x2 x3 f t Inv J O F W k O1 F1 wr)) (fun nv wr=>(intOf nv - f+1).toNat)
 case atStart=>exact ⟨0,O,F,by simp,by omega,hst0⟩
 case round=>
  obtain ⟨k,O1,F1,rfl,hk,HG⟩:=hrel
  have kf:wr.cell? ⟨x2,0,none⟩=some (.int .i64 f):=HG.out.2.2.1.c2
  by_cases hlt:k < L
  ·have n0:0≤t - k:=by omega
   have n1:t - k < 146097:=by omega
   have En:Hid ((yai f t).reverse[k]? =some (t - (k:Int))):=daysR_get (by omega)
   obtain ⟨n,hn⟩:∃n:Int,t - (k:Int)=n:=⟨_,rfl⟩
   have Hn:=hid hn
   rw [hn] at n0 n1 En⊢
   have hnf:f≤n:=by omega
   have N01:=hid (And.intro n0 n1)
   have cS:=hid (fun W=>ydT n W N01.out.1 N01.out.2)
   rw [←yaK] at cS
   obtain ⟨s,hs⟩:∃s,shF n=s:=⟨_,rfl⟩
   have Hs:=hid hs
   rw [hs,shq] at cS
   clear hs hn
   gi_wp2_with fail
   refine (wf_calls.mpr (cS.out _)).mono ?_
   rintro e w2 ⟨rfl,hB2⟩
   obtain ⟨w3,hw3⟩:∃w3,w2.alloc (.cells #[.int .i64 (s 0), .int .i64 (s 1), .int .i64 (s 2), .int .i64 (s 3), .int .i64 (s 4), .int .i64 (s 5), .int .i64 (s 6), .int .i64 (s 7), .int .i64 (s 8), .int .i64 (s 9)] 88)=w3:=⟨_,rfl⟩
   have hB3:Below wr.heap.size wr w3:=by rw [←hw3]; exact yaa hB2 (hB2.size)
   have hbx:w2.heap.size < w3.heap.size:=by rw [←hw3]; simp
   have Sh3:Hid (ShS w3 w2.heap.size s):=by show ShS _ _ _; rw [←hw3]; exact ybL w2 88 _ _ _ _ _ _ _ _ _ _
   have hs2:=hB2.size
   have HG3:Hid (BkG cs br bk bps x1 x2 x3 f t Inv J O F W k O1 F1 w3):=by
    obtain ⟨h1,hJ6,hH6,h3,h4,h5,h6,h7,hE⟩:=HG.out
    have hlt1:∀b,O1 b→b < wr.heap.size:=HC.out.lt _ _ _ _ hJ6
    exact ⟨h1,HC.out.stab _ O1 F1 F1 wr w3 hJ6 hB3.size (fun _ h=>h) (fun b hb=>hB3.block b (hb.elim (hlt1 b) (fun h=>hH6.lt b h.1))),hH6.keep hB3.size (fun b hb=>hB3.block b (hH6.lt b hb)),h3,h4,h5,h6,
     fun b hb hn=>(hB3.block b (hH6.lt b (h5 b hb))).trans (h7 b hb hn),hE.trans (Eff.of_below hB3) (fun _ h=> .inl h)⟩
   have hbO:Hid (¬O1 w2.heap.size∧¬F1 w2.heap.size):=⟨fun h=>by have:=HC.out.lt _ _ _ _ HG.out.2.1 _ h; omega,fun h=>by have:=HG.out.2.2.1.lt _ h; omega⟩
   have k3:(w2.alloc (.cells #[.int .i64 (s 0), .int .i64 (s 1), .int .i64 (s 2), .int .i64 (s 3), .int .i64 (s 4), .int .i64 (s 5), .int .i64 (s 6), .int .i64 (s 7), .int .i64 (s 8), .int .i64 (s 9)] 88)).cell? ⟨x3,0,none⟩=some (.pointer (some ⟨br,0,none⟩)):=by rw [hw3]; exact HG3.out.2.2.1.c3
   have hw3':=hid hw3
   obtain ⟨ws,m,hR3,hInv⟩:=HG3.out.2.2.1.roll
   have cA:=hid (ygD n N01.out.1 N01.out.2 (Hbd.out k ws m hInv (by omega)) hR3)
   rw [←yaK,Hs.out,shq] at cA
   have HInv:=hid hInv
   have cS:=hid (fun d q w hT h=>yjI d q w hT h)
   have nx:=hbO.out
   clear hw3 hB2 hB3 kf hR3 hInv
   gi_wp2_with fail
   rw [hw3'.out]
   refine (wf_calls.mpr cA.out).mono ?_
   rintro e w7 ⟨d,F2,ws',m',rfl,hR7,hGr,hE7,hst7,hnone,hsome⟩
   obtain ⟨h1,hJ6,hH6,h3,h4,h5,h6,h7,hE⟩:=HG3.out
   have hlt1:∀b,O1 b→b < w3.heap.size:=HC.out.lt _ _ _ _ hJ6
   have hHA7:HA cs br bk bps x1 x2 x3 t f (Inv (k+1)) F2 w7:=hH6.step hR7 hGr.sub hE7 (Hst.out k n ws m ws' m' En.out HInv.out hst7)
   obtain ⟨g1,g5,g6,g7,gk,gG⟩:=ig_step (F:=F) h1 h5 h6 h7 hlt1 hH6.lt hH6.sub hGr hE7 hE.size
   have hJ7:J (cntA cs (yai f t).reverse k) O1 F2 w7:=HC.out.stab _ O1 F1 F2 w3 w7 hJ6 hE7.size hGr.sub gk
   have h8:cs.length≤8:=by have:=hR7.x.may; rw [mayL,zzX,zzY] at this; exact this.1
   have hd7:=yjy h8 N01.out.1 N01.out.2 hnone hsome
   have HT7:=hid hR7.x.tab
   have cS7:=hid (cS.out d (dayQ cs n) w7 hR7.x.tab.1 hd7)
   have HE07:Hid (Eff (fun b=>O b∨F b) W w7):=hE.trans hE7 (fun b hb=>(h6 b (hH6.sub b hb)).imp .inr id)
   have Hp7:Hid ((∀b,F2 b→¬O1 b)∧J (cntA cs (yai f t).reverse k) O1 F2 w7∧HA cs br bk bps x1 x2 x3 t f (Inv (k+1)) F2 w7∧(∀b,O b→O1 b)∧(∀b,O1 b→O b∨W.heap.size≤b)∧(∀b,F b→F2 b)∧(∀b,F2 b→F b∨W.heap.size≤b)∧(∀b,F b→¬RM br bk bps b→w7.heap[b]? =W.heap[b]?)):=⟨g1,hJ7,hHA7,h3,h4,g5,g6,g7⟩
   have Hsn:=hid (yhv (cs:=cs) En.out)
   have Hsome:=hid hsome
   have Hnd:Hid (d=none→∀j,j < 86400→dayQ cs n j=false):=fun hd j hj=>yda h8 N01.out.1 N01.out.2 (hnone hd) hj
   have Sh7:=hid (ycv Sh3.out (hE7.block w2.heap.size hbx (fun hM=>nx.2 (hH6.sub _ hM))))
   obtain ⟨qv,hqv⟩:∃qv,anyQ (dayQ cs n)=qv:=⟨_,rfl⟩
   have Hqv:=hid hqv
   rw [hqv] at cS7 Hsn
   clear hR7 hGr hE7 hst7 hnone h1 hJ6 hH6 h3 h4 h5 h6 h7 hE hlt1 hHA7 g1 g5 g6 g7 gk gG hJ7 h8 hd7 hsome hqv k3
   gi_wp2_with fail
   refine (wf_calls.mpr cS7.out).mono ?_
   rintro e w8 ⟨rfl,rfl⟩
   cases qv
   ·have hfin:Hid (BkG cs br bk bps x1 x2 x3 f t Inv J O F W (k+1) O1 F2 w7):=by
     obtain ⟨g1,hJ7,hHA7,h3,h4,g5,g6,g7⟩:=Hp7.out
     exact ⟨g1,by rw [Hsn.out]; exact hJ7,hHA7,h3,h4,g5,g6,g7,HE07.out⟩
    clear Hp7
    gi_wp2
    exact ⟨⟨k+1,O1,F2,by rw [←Hn.out]; congr 1; omega,by omega,hfin.out⟩,by simp [intOf]; omega⟩
   ·obtain ⟨b,rfl⟩:∃b,d=some b:=by
     cases d with
     | none=>
       exfalso
       obtain ⟨j,hj,hj2⟩:=yco.1 Hqv.out
       exact absurd hj2 (by simp [Hnd.out rfl j hj])
     | some b=>exact ⟨b,rfl⟩
    have hat:=cntA_at (cs:=cs) En.out Hqv.out
    obtain ⟨g1,hJ7,hHA7,h3,h4,g5,g6,g7⟩:=Hp7.out
    have hidx:=(zzq.1 hat).1
    have hltF2:=hHA7.lt
    have hcall:=HC.out.call _ O1 F2 w7 #[shN n, .pointer (some ⟨b,0,none⟩)] hidx hJ7 g1 ⟨n,b,hat,N01.out.1,N01.out.2,rfl,Hsome.out b rfl,HT7.out,hltF2⟩ (IG.growM HRM.out HF.out h3 h4 g7 HE07.out)
    rw [←yaK,Hs.out,shq] at hcall
    have Hcall:=hid hcall
    have Hidx:=hid hidx
    have sz7:Hid (W.heap.size≤w7.heap.size):=HE07.out.size
    obtain ⟨r0,r1,r2,r3,r4,r5,r6,r7,r8,r9⟩:=Sh7.out
    clear hcall hidx hat g1 hJ7 hHA7 h3 h4 g5 g6 g7 hltF2
    gi_wp2_with (refine callv2w (.tmp 28) (.tmp 29) (.tmp 30) _ _ (by rfl) rfl rfl rfl rfl Hcall.out ?_)
    rintro e W8 O8 y1 y2 y3 hend
    obtain ⟨g1,hJ7,hHA7,h3,h4,g5,g6,g7⟩:=Hp7.out
    obtain ⟨p1,p3,p4,p7,pk,pG⟩:=yjl (F:=F) g1 h3 h4 g5 g7 hHA7.lt y1 y2 y3 sz7.out
    have hHA8:HA cs br bk bps x1 x2 x3 t f (Inv (k+1)) F2 W8:=hHA7.keep y3.size pk
    have hE8:Hid (Eff (fun b=>O b∨F b) W W8):=HE07.out.trans y3 (fun b hb=>(h4 b hb).imp .inl id)
    rcases hend with ⟨rfl,hJ8⟩ | ⟨rfl,hJ8⟩
    ·have hfin:Hid (BkG cs br bk bps x1 x2 x3 f t Inv J O F W (k+1) O8 F2 W8):=⟨p1,by rw [Hsn.out]; exact hJ8,hHA8,p3,p4,g5,g6,p7,hE8.out⟩
     clear g1 hJ7 hHA7 h3 h4 g5 g6 g7 p1 p3 p4 p7 pk pG hHA8 hJ8 y1 y2 y3
     refine ⟨_,rfl,?_⟩
     gi_wp2
     exact ⟨⟨k+1,O8,F2,by rw [←Hn.out]; congr 1; omega,by omega,hfin.out⟩,by simp [intOf]; omega⟩
    ·have hfin:Hid (ToldH (dayS cs (yai f t).reverse).length (HA cs br bk bps x1 x2 x3 t f (Inv L)) (fun F W=>∃j,HA cs br bk bps x1 x2 x3 t f (Inv j) F W) (RM br bk bps) J Jx O F W W8):=
      ⟨O8,F2,IG.growM (F:=F) HRM.out HF.out p3 p4 p7 hE8.out,g5,g6,p1, .inr ⟨⟨_,hHA8⟩,_,by omega,Nat.succ_le_of_lt Hidx.out,hJ8⟩⟩
     clear g1 hJ7 hHA7 h3 h4 g5 g6 g7 p1 p3 p4 p7 pk pG hHA8 hJ8 y1 y2 y3
     refine ⟨_,rfl,?_⟩
     gi_wp2
     refine bodyPost_ret (results_none rfl _ _ _) rfl ?_
     exact ⟨⟨_,rfl⟩,hfin.out⟩
  ·obtain rfl:k=L:=by omega
   have hnf:¬f≤t - (k:Int):=by omega
   have hfin:Hid (ToldH (dayS cs (yai f t).reverse).length (HA cs br bk bps x1 x2 x3 t f (Inv k)) (fun F W=>∃j,HA cs br bk bps x1 x2 x3 t f (Inv j) F W) (RM br bk bps) J Jx O F W wr):=by
    obtain ⟨h1,hJ6,hH6,h3,h4,h5,h6,h7,hE⟩:=HG.out
    refine ⟨O1,F1,IG.growM (F:=F) HRM.out HF.out h3 h4 h7 hE,h5,h6,h1, .inl ⟨hH6,?_⟩⟩
    have e:=yjD cs (yai f t).reverse
    rw [yht,←hLn] at e
    rw [←e]; exact hJ6
   clear hLn
   gi_wp2
   go_end0
   exact ⟨⟨_,rfl⟩,hfin.out⟩
end
section
open Go.RowKit Go.Maps
theorem yjq {c:Cl} {t:Int} (h:hasC c t=true):yat c.fr c.un=true∧yaq c.fr c.un≤t∧t≤yap c.fr c.un∧0≤t∧t < 12622780800:=by
 rw [hasC,zzX,zzX,zzX,winB,betB,zzX,zzY,zzY,zzY] at h
 obtain ⟨⟨h1,h2⟩,-,⟨h3,h4⟩,-⟩:=h
 have hb:yat c.fr c.un=true:=zzZ (by omega)
 refine ⟨hb,?_⟩
 rw [yaq,yap,hb,if_pos rfl,if_pos rfl]
 omega
theorem yjo:∀(l:List Cl) (a b:Int),l.foldl (fun a c=>if yat c.fr c.un then min a (yaq c.fr c.un) else a) a≤a∧b≤l.foldl (fun a c=>if yat c.fr c.un then max a (yap c.fr c.un) else a) b∧
  ∀c∈l,yat c.fr c.un=true→l.foldl (fun a c=>if yat c.fr c.un then min a (yaq c.fr c.un) else a) a≤yaq c.fr c.un∧yap c.fr c.un≤l.foldl (fun a c=>if yat c.fr c.un then max a (yap c.fr c.un) else a) b
 | [],a,b=>⟨Int.le_refl _,Int.le_refl _,by simp⟩
 | d :: l,a,b=>by
   obtain ⟨h1,h2,h3⟩:=yjo l (if yat d.fr d.un then min a (yaq d.fr d.un) else a) (if yat d.fr d.un then max b (yap d.fr d.un) else b)
   rw [List.foldl_cons,List.foldl_cons]
   have e1:(if yat d.fr d.un then min a (yaq d.fr d.un) else a)≤a:=by split <;> omega
   have e2:b≤(if yat d.fr d.un then max b (yap d.fr d.un) else b):=by split <;> omega
   refine ⟨Int.le_trans h1 e1,Int.le_trans e2 h2,fun c hc hb=>?_⟩
   rcases List.mem_cons.1 hc with e | hc
   ·subst e
    have f1:(if yat c.fr c.un then min a (yaq c.fr c.un) else a)≤yaq c.fr c.un:=by rw [if_pos hb]; omega
    have f2:yap c.fr c.un≤(if yat c.fr c.un then max b (yap c.fr c.un) else b):=by rw [if_pos hb]; omega
    exact ⟨Int.le_trans h1 f1,Int.le_trans f2 h2⟩
   ·exact h3 c hc hb
theorem hul_in {cs:List Cl} {n:Int} {k:Nat} (hk:k < 86400) (h:dayQ cs n k=true):hulB cs=true∧yaq (ybg cs) (ybf cs) / 86400≤n∧n≤yap (ybg cs) (ybf cs) / 86400∧0≤n∧n < 146097:=by
 rw [dayQ,List.any_eq_true] at h
 obtain ⟨c,hc,h⟩:=h
 obtain ⟨hb,g1,g2,g3,g4⟩:=yjq h
 obtain ⟨-,-,h3⟩:=yjo cs 12622780800 (-1)
 obtain ⟨k1,k2⟩:=h3 c hc hb
 have k1':ybg cs≤yaq c.fr c.un:=k1
 have k2':yap c.fr c.un≤ybf cs:=k2
 have e:hulB cs=true:=zzZ (by omega)
 refine ⟨e,?_,?_,?_,?_⟩
 ·rw [yaq,←hulB,e,if_pos rfl]; omega
 ·rw [yap,←hulB,e,if_pos rfl]; omega
 ·omega
 ·omega
theorem yff (cs:List Cl) (f t:Int):dayS cs (yai (bndF cs f) (bndU cs t))=dayS cs (yai f t):=by
 rw [dayS,dayS,bndF,bndU]
 cases e:hulB cs
 ·rw [if_neg (by simp),if_neg (by simp),yfe (by omega)]
  rw [ydM fun n _ _=>?_]; rfl
  refine yfW.2 fun k hk=>?_
  cases hq:dayQ cs n k
  ·rfl
  ·rw [(hul_in hk hq).1] at e; cases e
 ·rw [if_pos rfl,if_pos rfl]
  refine ykB fun n hn=>?_
  obtain ⟨k,hk,hq⟩:=yco.1 hn
  obtain ⟨-,g1,g2,-⟩:=hul_in hk hq
  exact ⟨g1,g2⟩
theorem yiv (cs:List Cl) {f t:Int} (hf:f≤146097) (ht:-1≤t):0≤bndF cs f∧bndF cs f≤146097∧-1≤bndU cs t∧bndU cs t≤146096:=by
 rw [bndF,bndU]
 cases e:hulB cs
 ·simp
 ·obtain ⟨h1,h2,h3⟩:=ygp e
  rw [if_pos rfl,if_pos rfl]
  omega
abbrev F3 (F:Blk) (n:Nat):Blk:=fun b=>F b∨b=n∨b=n+1∨b=n+2
theorem yjr {W W':World} {cs:List Cl} {br bk:Nat} {bps:List Nat} {F:Blk} {ws:Nat→Bool} {m:Nat} (h:RollS W cs br bk bps F ws m) (hB:Below W.heap.size W W') (hl:W.heap.size+2 < W'.heap.size) (x1 x2 x3:Nat) (hx:x1=W.heap.size+1∧x2=W.heap.size+2∧x3=W.heap.size∨x1=W.heap.size+2∧x2=W.heap.size+1∧x3=W.heap.size)
  (a b:Int) (c1:W'.cell? ⟨x1,0,none⟩=some (.int .i64 a)) (c2:W'.cell? ⟨x2,0,none⟩=some (.int .i64 b)) (c3:W'.cell? ⟨x3,0,none⟩=some (.pointer (some ⟨br,0,none⟩))) (Inv:(Nat→Bool)→Nat→Prop) (hI:Inv ws m) :
  HA cs br bk bps x1 x2 x3 a b Inv (F3 F W.heap.size) W':=by
 have no:∀b,W.heap.size≤b→¬RM br bk bps b:=fun b hb hM=>by have:=h.x.lt b (h.x.sub b hM); omega
 refine ⟨⟨ws,m,(h.below hB).wide (fun b hb=> .inl hb) (fun b hb=>?_),hI⟩,?_,?_,c1,c2,c3⟩
 ·rcases hb with h1 | h1 | h1 | h1
  ·exact zH (h.x.lt b h1) hB.size
  ·omega
  ·omega
  ·omega
 ·rcases hx with ⟨rfl,rfl,rfl⟩ | ⟨rfl,rfl,rfl⟩
  ·exact ⟨.inr (.inr (.inl rfl)), .inr (.inr (.inr rfl)), .inr (.inl rfl)⟩
  ·exact ⟨.inr (.inr (.inr rfl)), .inr (.inr (.inl rfl)), .inr (.inl rfl)⟩
 ·rcases hx with ⟨rfl,rfl,rfl⟩ | ⟨rfl,rfl,rfl⟩ <;> exact ⟨no _ (by omega),no _ (by omega),no _ (by omega)⟩
theorem yhN {W:World} {cs:List Cl} {br bk:Nat} {bps:List Nat} {F:Blk} {ws:Nat→Bool} {m:Nat} (f t:Int) (h:RollS W cs br bk bps F ws m) (Inv:(Nat→Bool)→Nat→Prop) (hI:Inv ws m) :
  Calls Tryz.prog 56 #[.pointer (some ⟨br,0,none⟩), .int .i64 f, .int .i64 t] W fun e W'=>e= .returned (.func (.func 104) #[] #[.pointer (some ⟨W.heap.size+1,0,none⟩), .pointer (some ⟨W.heap.size+2,0,none⟩), .pointer (some ⟨W.heap.size,0,none⟩)])∧Below W.heap.size W W'∧W.heap.size+2 < W'.heap.size∧
   HA cs br bk bps (W.heap.size+1) (W.heap.size+2) W.heap.size (bndF cs f) (bndU cs t) Inv (F3 F W.heap.size) W':=by
 obtain ⟨W3,hW3⟩:∃W3,((W.alloc (.cells #[.pointer (some ⟨br,0,none⟩)] 97)).alloc (.cells #[.int .i64 f] 2)).alloc (.cells #[.int .i64 t] 2)=W3:=⟨_,rfl⟩
 have hB3:Below W.heap.size W W3:=by rw [←hW3]; exact yaa (yaa (yaa (Below.refl _ _) (zG _)) (by simp)) (by simp; omega)
 have s3:W3.heap.size=W.heap.size+3:=by rw [←hW3]; simp
 have cB:=hid (yfm f t (h.below hB3))
 have k0:W3.cell? ⟨W.heap.size,0,none⟩=some (.pointer (some ⟨br,0,none⟩)):=by rw [←hW3]; simp [go_sem]
 have k1:W3.cell? ⟨W.heap.size+1,0,none⟩=some (.int .i64 f):=by rw [←hW3]; simp [go_sem]
 have k2:W3.cell? ⟨W.heap.size+2,0,none⟩=some (.int .i64 t):=by rw [←hW3]; simp [go_sem]
 have z1:W3.frozen? ⟨W.heap.size+1,0,none⟩=false:=by rw [←hW3]; simp [go_sem]
 have z2:W3.frozen? ⟨W.heap.size+2,0,none⟩=false:=by rw [←hW3]; simp [go_sem]
 have H:=hid h
 have HI:=hid hI
 have HB3:=hid hB3
 have HW3:=hid hW3
 have S3:=hid s3
 obtain ⟨X,hX⟩:∃X,bndF cs f=X:=⟨_,rfl⟩
 obtain ⟨Y,hY⟩:∃Y,bndU cs t=Y:=⟨_,rfl⟩
 rw [hX,hY] at cB
 rw [hX,hY]
 clear hW3 hB3 h hI s3 hX hY
 go_enter Tryz.func56,Tryz.ntmps56
 go_wp2_with fail
 rw [HW3.out]
 refine cB.out.mono ?_
 rintro e w4 ⟨rfl,hB4⟩
 have j0:=(hB4.cell (p:=⟨W.heap.size,0,none⟩) (by have:=S3.out; simp only []; omega)).trans k0
 have j1:=(hB4.cell (p:=⟨W.heap.size+1,0,none⟩) (by have:=S3.out; simp only []; omega)).trans k1
 have j2:=(hB4.cell (p:=⟨W.heap.size+2,0,none⟩) (by have:=S3.out; simp only []; omega)).trans k2
 have y1:=(hB4.frozen (p:=⟨W.heap.size+1,0,none⟩) (by have:=S3.out; simp only []; omega)).trans z1
 have y2:=(hB4.frozen (p:=⟨W.heap.size+2,0,none⟩) (by have:=S3.out; simp only []; omega)).trans z2
 have HB4:Hid (Below W.heap.size W w4):=HB3.out.trans (hB4.mono HB3.out.size)
 have S4:Hid (W.heap.size+2 < w4.heap.size):=by have:=hB4.size; have:=S3.out; show _ < _; omega
 have hfin:Hid (∀w5,w5= (w4.setCell ⟨W.heap.size+1,0,none⟩ (.int .i64 X)).setCell ⟨W.heap.size+2,0,none⟩ (.int .i64 Y)→Below W.heap.size W w5∧W.heap.size+2 < w5.heap.size∧HA cs br bk bps (W.heap.size+1) (W.heap.size+2) W.heap.size X Y Inv (F3 F W.heap.size) w5):=by
  rintro w5 rfl
  have hB5:Below W.heap.size W ((w4.setCell ⟨W.heap.size+1,0,none⟩ (.int .i64 X)).setCell ⟨W.heap.size+2,0,none⟩ (.int .i64 Y)):=yab (yab HB4.out (by omega)) (by omega)
  have s5:W.heap.size+2 < ((w4.setCell ⟨W.heap.size+1,0,none⟩ (.int .i64 X)).setCell ⟨W.heap.size+2,0,none⟩ (.int .i64 Y)).heap.size:=by simpa using S4.out
  have z1:((w4.setCell ⟨W.heap.size+1,0,none⟩ (.int .i64 X)).setCell ⟨W.heap.size+2,0,none⟩ (.int .i64 Y)).cell? ⟨W.heap.size+1,0,none⟩=some (.int .i64 X):=by simp [go_sem,j1]
  have z2:((w4.setCell ⟨W.heap.size+1,0,none⟩ (.int .i64 X)).setCell ⟨W.heap.size+2,0,none⟩ (.int .i64 Y)).cell? ⟨W.heap.size+2,0,none⟩=some (.int .i64 Y):=by simp [go_sem,j2]
  have z3:((w4.setCell ⟨W.heap.size+1,0,none⟩ (.int .i64 X)).setCell ⟨W.heap.size+2,0,none⟩ (.int .i64 Y)).cell? ⟨W.heap.size,0,none⟩=some (.pointer (some ⟨br,0,none⟩)):=by simp [go_sem,j0]
  exact ⟨hB5,s5,yjr H.out hB5 s5 _ _ _ (.inl ⟨rfl,rfl,rfl⟩) _ _ z1 z2 z3 Inv HI.out⟩
 clear hB4 k0 k1 k2 z1 z2 HB4
 go_wp2
 go_ret
 exact ⟨rfl,hfin.out _ rfl⟩
theorem ykT {W:World} {cs:List Cl} {br bk:Nat} {bps:List Nat} {F:Blk} {ws:Nat→Bool} {m:Nat} (f t:Int) (h:RollS W cs br bk bps F ws m) (Inv:(Nat→Bool)→Nat→Prop) (hI:Inv ws m) :
  Calls Tryz.prog 97 #[.pointer (some ⟨br,0,none⟩), .int .i64 f, .int .i64 t] W fun e W'=>e= .returned (.func (.func 144) #[] #[.pointer (some ⟨W.heap.size+2,0,none⟩), .pointer (some ⟨W.heap.size+1,0,none⟩), .pointer (some ⟨W.heap.size,0,none⟩)])∧Below W.heap.size W W'∧W.heap.size+2 < W'.heap.size∧
   HA cs br bk bps (W.heap.size+2) (W.heap.size+1) W.heap.size (bndU cs t) (bndF cs f) Inv (F3 F W.heap.size) W':=by
 obtain ⟨W3,hW3⟩:∃W3,((W.alloc (.cells #[.pointer (some ⟨br,0,none⟩)] 97)).alloc (.cells #[.int .i64 f] 2)).alloc (.cells #[.int .i64 t] 2)=W3:=⟨_,rfl⟩
 have hB3:Below W.heap.size W W3:=by rw [←hW3]; exact yaa (yaa (yaa (Below.refl _ _) (zG _)) (by simp)) (by simp; omega)
 have s3:W3.heap.size=W.heap.size+3:=by rw [←hW3]; simp
 have cB:=hid (yfm f t (h.below hB3))
 have k0:W3.cell? ⟨W.heap.size,0,none⟩=some (.pointer (some ⟨br,0,none⟩)):=by rw [←hW3]; simp [go_sem]
 have k1:W3.cell? ⟨W.heap.size+1,0,none⟩=some (.int .i64 f):=by rw [←hW3]; simp [go_sem]
 have k2:W3.cell? ⟨W.heap.size+2,0,none⟩=some (.int .i64 t):=by rw [←hW3]; simp [go_sem]
 have z1:W3.frozen? ⟨W.heap.size+1,0,none⟩=false:=by rw [←hW3]; simp [go_sem]
 have z2:W3.frozen? ⟨W.heap.size+2,0,none⟩=false:=by rw [←hW3]; simp [go_sem]
 have H:=hid h
 have HI:=hid hI
 have HB3:=hid hB3
 have HW3:=hid hW3
 have S3:=hid s3
 obtain ⟨X,hX⟩:∃X,bndF cs f=X:=⟨_,rfl⟩
 obtain ⟨Y,hY⟩:∃Y,bndU cs t=Y:=⟨_,rfl⟩
 rw [hX,hY] at cB
 rw [hX,hY]
 clear hW3 hB3 h hI s3 hX hY
 go_enter Tryz.func97,Tryz.ntmps97
 go_wp2_with fail
 rw [HW3.out]
 refine cB.out.mono ?_
 rintro e w4 ⟨rfl,hB4⟩
 have j0:=(hB4.cell (p:=⟨W.heap.size,0,none⟩) (by have:=S3.out; simp only []; omega)).trans k0
 have j1:=(hB4.cell (p:=⟨W.heap.size+1,0,none⟩) (by have:=S3.out; simp only []; omega)).trans k1
 have j2:=(hB4.cell (p:=⟨W.heap.size+2,0,none⟩) (by have:=S3.out; simp only []; omega)).trans k2
 have y1:=(hB4.frozen (p:=⟨W.heap.size+1,0,none⟩) (by have:=S3.out; simp only []; omega)).trans z1
 have y2:=(hB4.frozen (p:=⟨W.heap.size+2,0,none⟩) (by have:=S3.out; simp only []; omega)).trans z2
 have HB4:Hid (Below W.heap.size W w4):=HB3.out.trans (hB4.mono HB3.out.size)
 have S4:Hid (W.heap.size+2 < w4.heap.size):=by have:=hB4.size; have:=S3.out; show _ < _; omega
 have hfin:Hid (∀w5,w5= (w4.setCell ⟨W.heap.size+1,0,none⟩ (.int .i64 X)).setCell ⟨W.heap.size+2,0,none⟩ (.int .i64 Y)→Below W.heap.size W w5∧W.heap.size+2 < w5.heap.size∧HA cs br bk bps (W.heap.size+2) (W.heap.size+1) W.heap.size Y X Inv (F3 F W.heap.size) w5):=by
  rintro w5 rfl
  have hB5:Below W.heap.size W ((w4.setCell ⟨W.heap.size+1,0,none⟩ (.int .i64 X)).setCell ⟨W.heap.size+2,0,none⟩ (.int .i64 Y)):=yab (yab HB4.out (by omega)) (by omega)
  have s5:W.heap.size+2 < ((w4.setCell ⟨W.heap.size+1,0,none⟩ (.int .i64 X)).setCell ⟨W.heap.size+2,0,none⟩ (.int .i64 Y)).heap.size:=by simpa using S4.out
  have z1:((w4.setCell ⟨W.heap.size+1,0,none⟩ (.int .i64 X)).setCell ⟨W.heap.size+2,0,none⟩ (.int .i64 Y)).cell? ⟨W.heap.size+1,0,none⟩=some (.int .i64 X):=by simp [go_sem,j1]
  have z2:((w4.setCell ⟨W.heap.size+1,0,none⟩ (.int .i64 X)).setCell ⟨W.heap.size+2,0,none⟩ (.int .i64 Y)).cell? ⟨W.heap.size+2,0,none⟩=some (.int .i64 Y):=by simp [go_sem,j2]
  have z3:((w4.setCell ⟨W.heap.size+1,0,none⟩ (.int .i64 X)).setCell ⟨W.heap.size+2,0,none⟩ (.int .i64 Y)).cell? ⟨W.heap.size,0,none⟩=some (.pointer (some ⟨br,0,none⟩)):=by simp [go_sem,j0]
  exact ⟨hB5,s5,yjr H.out hB5 s5 _ _ _ (.inr ⟨rfl,rfl,rfl⟩) _ _ z2 z1 z3 Inv HI.out⟩
 clear hB4 k0 k1 k2 z1 z2 HB4
 go_wp2
 go_ret
 exact ⟨rfl,hfin.out _ rfl⟩
end
section
open Go.RowKit
theorem yeC (q:Nat→Bool):(secL q).length≤86400:=yeS q 86400
end
section
open Go.RowKit
attribute [local go_sem ↓] yaG
abbrev LrS (w:World) (c:Cl) (W:World):Prop:=(ycy (.pointer (some ⟨w.heap.size,0,none⟩))).run Tryz.prog W= .ok (clv c) W∧ClB W w.heap.size c∧Below w.heap.size w W∧w.heap.size < W.heap.size
theorem LrS.of {w W:World} {c:Cl} (h:ClB W w.heap.size c) (hb:Below w.heap.size w W) (hs:w.heap.size < W.heap.size):LrS w c W:=⟨h.ld,h,hb,hs⟩
theorem LrS.keep {w W W':World} {c:Cl} (h:LrS w c W) (hb:Below W.heap.size W W'):LrS w c W':=
 LrS.of (h.2.1.below hb h.2.2.2) (h.2.2.1.trans (hb.mono (Nat.le_of_lt h.2.2.2))) (zH h.2.2.2 hb.size)
end
end Go.Proofs.YtjahgimnfliooaaGreatDoor
