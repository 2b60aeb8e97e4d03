/-
  meet.asked.day: both rolls are asked for a day, and the pair is made.
  What meet.asked.first holds on its way.
-/
import Derived.Test.YtjahgimnfliooaaGreatDoorQ5b4825
import Derived.Test.YtjahgimnfliooaaGreatDoorQe8e05b
set_option maxRecDepth 100000
set_option maxHeartbeats 25600000
namespace Go.Proofs.YtjahgimnfliooaaGreatDoor
set_option linter.unusedVariables false
section
open Go.RowKit Go.Maps
theorem TwoR.below {W W':World} {la lb:List Cl} {ra rb:RN} {Fa Fb:Blk} {wa wb:Nat→Bool} {ma mb:Nat} (h:TwoR W la lb ra rb Fa Fb wa wb ma mb) (hB:Below W.heap.size W W'):TwoR W' la lb ra rb Fa Fb wa wb ma mb:=
 h.keep hB.size (fun c hc=>hB.block c (hc.elim (h.a.x.lt c) (h.b.x.lt c)))
structure DP (W:World) (la lb:List Cl) (ra rb:RN) (n:Int) (Fa Fb:Blk) (wa wb:Nat→Bool) (ma mb:Nat) (A B:Option (Option Nat)) (p:Option Nat) (Fa' Fb':Blk) (wa' wb':Nat→Bool) (ma' mb':Nat) (w:World):Prop where
 two:TwoR w la lb ra rb Fa' Fb' wa' wb' ma' mb'
 eff:Eff (fun b=>ra.M b∨rb.M b) W w
 ga:GrF Fa Fa' W
 gb:GrF Fb Fb' W
 sa:∀d,A=some d→ybn la n wa ma wa' ma'∧DOf w Fa' ra.M d (dayQ la n)
 sb:∀d,B=some d→ybn lb n wb mb wb' mb'∧DOf w Fb' rb.M d (dayQ lb n)
 na:A=none→wa' =wa∧ma' =ma
 nb:B=none→wb' =wb∧mb' =mb
 pn:∀b,p=some b→W.heap.size≤b∧b < w.heap.size∧¬Fa' b∧¬Fb' b∧(∀i,i < 2→w.cell? ⟨b,i,none⟩=some (.pointer none))∧∀i,w.frozen? ⟨b,i,none⟩=false
section
variable {W w w':World} {la lb:List Cl} {ra rb:RN} {n:Int} {Fa Fb:Blk} {wa wb:Nat→Bool} {ma mb:Nat} {A B:Option (Option Nat)} {p:Option Nat} {Fa' Fb':Blk} {wa' wb':Nat→Bool} {ma' mb':Nat}
theorem DP.start (h:TwoR W la lb ra rb Fa Fb wa wb ma mb):DP W la lb ra rb n Fa Fb wa wb ma mb none none none Fa Fb wa wb ma mb W:=
 ⟨h,Eff.refl _ _,GrF.refl _ _,GrF.refl _ _,fun _ h=>(by cases h),fun _ h=>(by cases h),fun _=>⟨rfl,rfl⟩,fun _=>⟨rfl,rfl⟩,fun _ h=>(by cases h)⟩
theorem DP.lt (h:DP W la lb ra rb n Fa Fb wa wb ma mb A B p Fa' Fb' wa' wb' ma' mb' w):(∀b,ra.M b→b < w.heap.size∧Fa' b)∧(∀b,rb.M b→b < w.heap.size∧Fb' b):=
 ⟨fun b hb=>⟨h.two.a.x.lt b (h.two.a.x.sub b hb),h.two.a.x.sub b hb⟩,fun b hb=>⟨h.two.b.x.lt b (h.two.b.x.sub b hb),h.two.b.x.sub b hb⟩⟩
theorem DP.atA (h:DP W la lb ra rb n Fa Fb wa wb ma mb none B p Fa' Fb' wa' wb' ma' mb' w) {d:Option Nat} {F2:Blk} {w2:Nat→Bool} {m2:Nat} (hT:TwoR w' la lb ra rb F2 Fb' w2 wb' m2 mb') (hG:GrF Fa' F2 w) (hE:Eff ra.M w w') (hS:ybn la n wa' ma' w2 m2) (hD:DOf w' F2 ra.M d (dayQ la n)) :
  DP W la lb ra rb n Fa Fb wa wb ma mb (some d) B p F2 Fb' w2 wb' m2 mb' w':=by
 obtain ⟨e1,e2⟩:=h.na rfl
 subst e1; subst e2
 refine ⟨hT,h.eff.trans hE (fun b hb=> .inl (.inl hb)),h.ga.trans hG h.eff.size,h.gb,fun d' hd=>?_,fun d' hd=>?_,fun hd=>(by cases hd),h.nb,fun b hb=>?_⟩
 ·cases hd; exact ⟨hS,hD⟩
 ·obtain ⟨g1,g2⟩:=h.sb d' hd
  exact ⟨g1,g2.keep hE.size (fun _ h=>h) (fun b hb=>hE.block b (h.two.b.x.lt b hb.1) (h.two.sa b hb.1))⟩
 ·obtain ⟨g1,g2,g3,g4,g5,g6⟩:=h.pn b hb
  have nM:¬ra.M b:=fun hm=>g3 (h.two.a.x.sub b hm)
  exact ⟨g1,zH g2 hE.size,fun hf=>(hG.new b hf).elim g3 (fun hl=>by omega),g4,fun i hi=>(hE.cell (p:=⟨b,i,none⟩) g2 nM).trans (g5 i hi),fun i=>(hE.frozen (p:=⟨b,i,none⟩) g2 nM).trans (g6 i)⟩
theorem DP.atB (h:DP W la lb ra rb n Fa Fb wa wb ma mb A none p Fa' Fb' wa' wb' ma' mb' w) {d:Option Nat} {F2:Blk} {w2:Nat→Bool} {m2:Nat} (hT:TwoR w' la lb ra rb Fa' F2 wa' w2 ma' m2) (hG:GrF Fb' F2 w) (hE:Eff rb.M w w') (hS:ybn lb n wb' mb' w2 m2) (hD:DOf w' F2 rb.M d (dayQ lb n)) :
  DP W la lb ra rb n Fa Fb wa wb ma mb A (some d) p Fa' F2 wa' w2 ma' m2 w':=by
 obtain ⟨e1,e2⟩:=h.nb rfl
 subst e1; subst e2
 refine ⟨hT,h.eff.trans hE (fun b hb=> .inl (.inr hb)),h.ga,h.gb.trans hG h.eff.size,fun d' hd=>?_,fun d' hd=>?_,h.na,fun hd=>(by cases hd),fun b hb=>?_⟩
 ·obtain ⟨g1,g2⟩:=h.sa d' hd
  exact ⟨g1,g2.keep hE.size (fun _ h=>h) (fun b hb=>hE.block b (h.two.a.x.lt b hb.1) (h.two.sb b hb.1))⟩
 ·cases hd; exact ⟨hS,hD⟩
 ·obtain ⟨g1,g2,g3,g4,g5,g6⟩:=h.pn b hb
  have nM:¬rb.M b:=fun hm=>g4 (h.two.b.x.sub b hm)
  exact ⟨g1,zH g2 hE.size,g3,fun hf=>(hG.new b hf).elim g4 (fun hl=>by omega),fun i hi=>(hE.cell (p:=⟨b,i,none⟩) g2 nM).trans (g5 i hi),fun i=>(hE.frozen (p:=⟨b,i,none⟩) g2 nM).trans (g6 i)⟩
theorem DP.below (h:DP W la lb ra rb n Fa Fb wa wb ma mb A B p Fa' Fb' wa' wb' ma' mb' w) (hB:Below w.heap.size w w'):DP W la lb ra rb n Fa Fb wa wb ma mb A B p Fa' Fb' wa' wb' ma' mb' w':=by
 refine ⟨h.two.below hB,h.eff.trans (Eff.of_below (O:=fun b=>ra.M b∨rb.M b) hB) (fun b hb=> .inl hb),h.ga,h.gb,fun d' hd=>?_,fun d' hd=>?_,h.na,h.nb,fun b hb=>?_⟩
 ·obtain ⟨g1,g2⟩:=h.sa d' hd
  exact ⟨g1,g2.keep hB.size (fun _ h=>h) (fun b hb=>hB.block b (h.two.a.x.lt b hb.1))⟩
 ·obtain ⟨g1,g2⟩:=h.sb d' hd
  exact ⟨g1,g2.keep hB.size (fun _ h=>h) (fun b hb=>hB.block b (h.two.b.x.lt b hb.1))⟩
 ·obtain ⟨g1,g2,g3,g4,g5,g6⟩:=h.pn b hb
  exact ⟨g1,zH g2 hB.size,g3,g4,fun i hi=>(hB.cell (p:=⟨b,i,none⟩) g2).trans (g5 i hi),fun i=>(hB.frozen (p:=⟨b,i,none⟩) g2).trans (g6 i)⟩
theorem DP.alloc (h:DP W la lb ra rb n Fa Fb wa wb ma mb A B none Fa' Fb' wa' wb' ma' mb' w) (t:TypeId):DP W la lb ra rb n Fa Fb wa wb ma mb A B (some w.heap.size) Fa' Fb' wa' wb' ma' mb' (w.alloc (.cells #[.pointer none, .pointer none] t)):=by
 have hB:=yaa (o:= .cells #[.pointer none, .pointer none] t) (Below.refl w.heap.size w) (zG _)
 have h':=h.below hB
 refine ⟨h'.two,h'.eff,h'.ga,h'.gb,h'.sa,h'.sb,h'.na,h'.nb,fun b hb=>?_⟩
 cases hb
 refine ⟨h.eff.size,by simp,fun hf=>?_,fun hf=>?_,fun i hi=>?_,fun i=>by simp [go_sem]⟩
 ·have:=h.two.a.x.lt _ hf; omega
 ·have:=h.two.b.x.lt _ hf; omega
 ·rcases (show i=0∨i=1 by omega) with rfl | rfl <;> simp [go_sem]
end
def DayM (x fm:Nat) (fv:Value) (pw:Bool→Bool→Bool) (la lb:List Cl) (ra rb:RN) (f0 u0 f1 u1:Int) (Fa Fb:Blk) (wa wb:Nat→Bool) (ma mb:Nat) (days:Int) (n:Int) (W:World) (x6:Value) (W':World):Prop:=
 ∃b6 d e Fa' Fb' wa' wb' ma' mb',x6= .pointer (some ⟨b6,0,none⟩)∧AsS x fm fv pw la lb ra rb f0 u0 f1 u1 Fa' Fb' wa' wb' ma' mb' days W'∧Eff (fun b=>ra.M b∨rb.M b) W W'∧GrF Fa Fa' W∧GrF Fb Fb' W∧ybn la n wa ma wa' ma'∧ybn lb n wb mb wb' mb'∧
  DOf W' Fa' ra.M d (dayQ la n)∧DOf W' Fb' rb.M e (dayQ lb n)∧W'.cell? ⟨b6,0,none⟩=some (dptr d)∧W'.cell? ⟨b6,1,none⟩=some (dptr e)∧(∀i,W'.frozen? ⟨b6,i,none⟩=false)∧W.heap.size≤b6∧b6 < W'.heap.size∧¬Fa' b6∧¬Fb' b6
theorem DP.day {W w:World} {la lb:List Cl} {ra rb:RN} {n:Int} {Fa Fb:Blk} {wa wb:Nat→Bool} {ma mb:Nat} {d e:Option Nat} {b6:Nat} {Fa' Fb':Blk} {wa' wb':Nat→Bool} {ma' mb':Nat} {x fm:Nat} {fv:Value} {pw:Bool→Bool→Bool} {f0 u0 f1 u1 days:Int}
  (hA:AsS x fm fv pw la lb ra rb f0 u0 f1 u1 Fa Fb wa wb ma mb days W) (h:DP W la lb ra rb n Fa Fb wa wb ma mb (some d) (some e) (some b6) Fa' Fb' wa' wb' ma' mb' w) :
  DayM x fm fv pw la lb ra rb f0 u0 f1 u1 Fa Fb wa wb ma mb days n W (.pointer (some ⟨b6,0,none⟩)) ((w.setCell ⟨b6,0,none⟩ (dptr d)).setCell ⟨b6,1,none⟩ (dptr e)):=by
 obtain ⟨p1,p2,p3,p4,p5,hz⟩:=h.pn b6 rfl
 obtain ⟨a1,a2⟩:=h.sa d rfl
 obtain ⟨a3,a4⟩:=h.sb e rfl
 have c0:=p5 0 (by omega)
 have c1:=p5 1 (by omega)
 obtain ⟨W',hW'⟩:∃W',(w.setCell ⟨b6,0,none⟩ (dptr d)).setCell ⟨b6,1,none⟩ (dptr e)=W':=⟨_,rfl⟩
 have hs:W'.heap.size=w.heap.size:=by rw [←hW']; simp
 have hb:∀b,b≠b6→W'.heap[b]? =w.heap[b]?:=fun b hn=>by rw [←hW']; exact (Below.heap_setCell _ _ _ _ hn).trans (Below.heap_setCell _ _ _ _ hn)
 have hE:Eff (fun b=>ra.M b∨rb.M b) W W':=by
  have hE1:=h.eff.trans (A:=W) (O':=fun b=>b=b6) (B:=w) (C:=W') (by rw [←hW']; exact Eff.set (O:=fun b=>b=b6) (Eff.set (O:=fun b=>b=b6) (Eff.refl _ _) (b:=b6) rfl 0 _) (b:=b6) rfl 1 _) (fun b hb=> .inr (by omega))
  exact hE1
 have hT:TwoR W' la lb ra rb Fa' Fb' wa' wb' ma' mb':=h.two.keep (by omega) (fun c hc=>hb c (fun e=>hc.elim (fun h1=>p3 (e ▸ h1)) (fun h1=>p4 (e ▸ h1))))
 refine ⟨b6,d,e,Fa',Fb',wa',wb',ma',mb',rfl,?_,?_,h.ga,h.gb,a1,a3,?_,?_,?_,?_,?_,p1,?_,p3,p4⟩
 ·rw [hW']; exact hA.turn hT hE h.ga h.gb
 ·rw [hW']; exact hE
 ·rw [hW']; exact a2.keep (by omega) (fun _ h=>h) (fun b hb'=>hb b (fun e=>p3 (e ▸ hb'.1)))
 ·rw [hW']; exact a4.keep (by omega) (fun _ h=>h) (fun b hb'=>hb b (fun e=>p4 (e ▸ hb'.1)))
 ·simp [go_sem,c0]
 ·simp [go_sem,c1]
 ·intro i; simpa [go_sem] using hz i
 ·rw [hW']; omega
end
section
open Go.RowKit Go.Maps
section
variable {x fm:Nat} {fv:Value} {pw:Bool→Bool→Bool} {la lb:List Cl} {ra rb:RN} {f0 u0 f1 u1 days:Int} {Fa Fb Fa' Fb':Blk} {wa wb wa' wb':Nat→Bool} {ma mb ma' mb':Nat} {W W':World}
theorem AsS.keep (h:AsS x fm fv pw la lb ra rb f0 u0 f1 u1 Fa Fb wa wb ma mb days W) (hs:W.heap.size≤W'.heap.size) (hb:∀c,c=x∨c=fm∨Fa c∨Fb c→W'.heap[c]? =W.heap[c]?):AsS x fm fv pw la lb ra rb f0 u0 f1 u1 Fa Fb wa wb ma mb days W':=by
 have cc:∀i,W'.cell? ⟨x,i,none⟩=W.cell? ⟨x,i,none⟩:=fun i=>zzJ (w:=W) (a:=⟨x,i,none⟩) (hb x (.inl rfl))
 have ka:∀b,Fa b∨Fb b→W'.heap[b]? =W.heap[b]?:=fun b hF=>hb b (.inr (.inr hF))
 exact ⟨h.two.keep hs ka,(cc 0).trans h.c0,(cc 1).trans h.c1,(cc 2).trans h.c2,(cc 3).trans h.c3,(cc 4).trans h.c4,(zzM (w:=W) (a:=⟨x,4,none⟩) (hb x (.inl rfl))).trans h.z4,
  ⟨(cc 5).trans h.hul.c5,(cc 6).trans h.hul.c6,(cc 7).trans h.hul.c7,(cc 8).trans h.hul.c8,zH h.hul.lt hs⟩,
  (h.fine.keep (hb fm (.inr (.inl rfl)))).mono (zG _) (fun v hv=>hv.keep hs (fun _ h=>h) (fun _ h=>h) (fun b hb=>ka b (.inl hb.1)) (fun b hb=>ka b (.inr hb.1))) (fun k v hv=>hv.keep hs (fun _ h=>h) (fun _ h=>h) (fun b hb=>ka b (.inl hb.1)) (fun b hb=>ka b (.inr hb.1))),h.nx,h.nf,h.ne⟩
theorem AsS.setDays (h:AsS x fm fv pw la lb ra rb f0 u0 f1 u1 Fa Fb wa wb ma mb days W) (d':Int):AsS x fm fv pw la lb ra rb f0 u0 f1 u1 Fa Fb wa wb ma mb d' (W.setCell ⟨x,4,none⟩ (.int .i64 d')):=by
 obtain ⟨W',hW'⟩:∃W',W.setCell ⟨x,4,none⟩ (.int .i64 d')=W':=⟨_,rfl⟩
 have hs:W'.heap.size=W.heap.size:=by rw [←hW']; simp
 have hb:∀b,b≠x→W'.heap[b]? =W.heap[b]?:=fun b hn=>by rw [←hW']; exact Below.heap_setCell _ _ _ _ hn
 have cc:∀i,i≠4→W'.cell? ⟨x,i,none⟩=W.cell? ⟨x,i,none⟩:=fun i hi=>by rw [←hW']; exact zzL _ _ _ _ (fun e=>by injection e with _ e; exact hi e.symm)
 have c4:=h.c4
 have ka:∀b,Fa b∨Fb b→W'.heap[b]? =W.heap[b]?:=fun b hF=>hb b (fun e=>hF.elim (fun h1=>h.nx.1 (e ▸ h1)) (fun h1=>h.nx.2 (e ▸ h1)))
 have z4:W'.frozen? ⟨x,4,none⟩=false:=by rw [←hW']; simpa [go_sem] using h.z4
 have d4:W'.cell? ⟨x,4,none⟩=some (.int .i64 d'):=by rw [←hW']; simp [go_sem,c4]
 rw [hW']
 exact ⟨h.two.keep (by omega) ka,(cc 0 (by decide)).trans h.c0,(cc 1 (by decide)).trans h.c1,(cc 2 (by decide)).trans h.c2,(cc 3 (by decide)).trans h.c3,d4,z4,
  ⟨(cc 5 (by decide)).trans h.hul.c5,(cc 6 (by decide)).trans h.hul.c6,(cc 7 (by decide)).trans h.hul.c7,(cc 8 (by decide)).trans h.hul.c8,by rw [hs]; exact h.hul.lt⟩,
  (h.fine.keep (hb fm (fun e=>h.ne e.symm))).mono (zG _) (fun v hv=>hv.keep (by omega) (fun _ h=>h) (fun _ h=>h) (fun b hb=>ka b (.inl hb.1)) (fun b hb=>ka b (.inr hb.1))) (fun k v hv=>hv.keep (by omega) (fun _ h=>h) (fun _ h=>h) (fun b hb=>ka b (.inl hb.1)) (fun b hb=>ka b (.inr hb.1))),h.nx,h.nf,h.ne⟩
end
structure FiS (x fm:Nat) (fv:Value) (pw:Bool→Bool→Bool) (la lb:List Cl) (ra rb:RN) (f0 u0 f1 u1:Int) (c0:Nat) (Fa Fb Fa' Fb':Blk) (W0:World) (t:Int) (fd:Bool) (j:Nat) (wa wb:Nat→Bool) (ma mb:Nat) (O:Blk) (W:World):Prop where
 ask:AsS x fm fv pw la lb ra rb f0 u0 f1 u1 Fa' Fb' wa wb ma mb (j:Int) W
 ga:GrF Fa Fa' W0
 gb:GrF Fb Fb' W0
 own:∀b,O b↔(b=c0∨b=c0+1∨b=c0+1+1∨b=x∨b=fm∨Fa' b∨Fb' b)
 cx:W.cell? ⟨c0,0,none⟩=some (.pointer (some ⟨x,0,none⟩))
 ct:W.cell? ⟨c0+1,0,none⟩=some (.int .i64 t)
 cf:W.cell? ⟨c0+1+1,0,none⟩=some (.bool fd)
 zt:W.frozen? ⟨c0+1,0,none⟩=false
 zf:W.frozen? ⟨c0+1+1,0,none⟩=false
 lc:c0+1+1 < W.heap.size
 nc:∀i,i < 3→¬Fa' (c0+i)∧¬Fb' (c0+i)∧c0+i≠x∧c0+i≠fm
 old:∀b,Fa b∨Fb b→¬ra.M b→¬rb.M b→W.heap[b]? =W0.heap[b]?
 sz:W0.heap.size≤W.heap.size
section
variable {x fm c0 j:Nat} {fv:Value} {pw:Bool→Bool→Bool} {la lb:List Cl} {ra rb:RN} {f0 u0 f1 u1 t:Int} {fd:Bool} {Fa Fb Fa' Fb' F2 G2:Blk} {wa wb wa' wb':Nat→Bool} {ma mb ma' mb':Nat} {O:Blk} {W0 W W':World}
theorem FiS.keep (h:FiS x fm fv pw la lb ra rb f0 u0 f1 u1 c0 Fa Fb Fa' Fb' W0 t fd j wa wb ma mb O W) (hs:W.heap.size≤W'.heap.size) (hO:∀b,O b→W'.heap[b]? =W.heap[b]?):FiS x fm fv pw la lb ra rb f0 u0 f1 u1 c0 Fa Fb Fa' Fb' W0 t fd j wa wb ma mb O W':=by
 have o0:=hO c0 ((h.own _).2 (.inl rfl))
 have o1:=hO (c0+1) ((h.own _).2 (.inr (.inl rfl)))
 have o2:=hO (c0+1+1) ((h.own _).2 (.inr (.inr (.inl rfl))))
 exact ⟨h.ask.keep hs (fun c hc=>hO c ((h.own c).2 (.inr (.inr (.inr hc))))),h.ga,h.gb,h.own,(zzJ (w:=W) (a:=⟨c0,0,none⟩) o0).trans h.cx,(zzJ (w:=W) (a:=⟨c0+1,0,none⟩) o1).trans h.ct,(zzJ (w:=W) (a:=⟨c0+1+1,0,none⟩) o2).trans h.cf,
  (zzM (w:=W) (a:=⟨c0+1,0,none⟩) o1).trans h.zt,(zzM (w:=W) (a:=⟨c0+1+1,0,none⟩) o2).trans h.zf,zH h.lc hs,h.nc,
  fun b hb n1 n2=>(hO b ((h.own b).2 (.inr (.inr (.inr (.inr (.inr (hb.imp (h.ga.sub b) (h.gb.sub b))))))))).trans (h.old b hb n1 n2),zI h.sz hs⟩
theorem FiS.lt (h:FiS x fm fv pw la lb ra rb f0 u0 f1 u1 c0 Fa Fb Fa' Fb' W0 t fd j wa wb ma mb O W):∀b,O b→b < W.heap.size:=fun b hb=>by
 have:=h.lc; have:=h.ask.hul.lt; have:=h.ask.fine.lt
 rcases (h.own b).1 hb with rfl | rfl | rfl | rfl | rfl | h1 | h1
 ·omega
 ·omega
 ·omega
 ·omega
 ·omega
 ·exact h.ask.two.a.x.lt b h1
 ·exact h.ask.two.b.x.lt b h1
theorem FiS.n0 (h:FiS x fm fv pw la lb ra rb f0 u0 f1 u1 c0 Fa Fb Fa' Fb' W0 t fd j wa wb ma mb O W):(¬Fa' c0∧¬Fb' c0∧c0≠x∧c0≠fm)∧(¬Fa' (c0+1)∧¬Fb' (c0+1)∧c0+1≠x∧c0+1≠fm)∧(¬Fa' (c0+1+1)∧¬Fb' (c0+1+1)∧c0+1+1≠x∧c0+1+1≠fm):=
 ⟨h.nc 0 (by omega),h.nc 1 (by omega),h.nc 2 (by omega)⟩
theorem FiS.more (h:FiS x fm fv pw la lb ra rb f0 u0 f1 u1 c0 Fa Fb Fa' Fb' W0 t fd j wa wb ma mb O W):FiS x fm fv pw la lb ra rb f0 u0 f1 u1 c0 Fa Fb Fa' Fb' W0 t fd (j+1) wa wb ma mb O (W.setCell ⟨x,4,none⟩ (.int .i64 ((j:Int)+1))):=by
 have hb:∀b,b≠x→(W.setCell ⟨x,4,none⟩ (.int .i64 ((j:Int)+1))).heap[b]? =W.heap[b]?:=fun b hn=>Below.heap_setCell _ _ _ _ hn
 obtain ⟨g0,g1,g2⟩:=h.n0
 have hs:(W.setCell ⟨x,4,none⟩ (.int .i64 ((j:Int)+1))).heap.size=W.heap.size:=by simp
 exact ⟨by have:=h.ask.setDays ((j:Int)+1); simpa using this,h.ga,h.gb,h.own,(zzJ (w:=W) (a:=⟨c0,0,none⟩) (hb _ g0.2.2.1)).trans h.cx,(zzJ (w:=W) (a:=⟨c0+1,0,none⟩) (hb _ g1.2.2.1)).trans h.ct,(zzJ (w:=W) (a:=⟨c0+1+1,0,none⟩) (hb _ g2.2.2.1)).trans h.cf,
  (zzM (w:=W) (a:=⟨c0+1,0,none⟩) (hb _ g1.2.2.1)).trans h.zt,(zzM (w:=W) (a:=⟨c0+1+1,0,none⟩) (hb _ g2.2.2.1)).trans h.zf,by rw [hs]; exact h.lc,h.nc,
  fun b hb' n1 n2=>(hb b (fun e=>by
   have hx:=h.ask.nx
   exact hb'.elim (fun h1=>hx.1 (e ▸ h.ga.sub b h1)) (fun h1=>hx.2 (e ▸ h.gb.sub b h1)))).trans (h.old b hb' n1 n2),by rw [hs]; exact h.sz⟩
theorem FiS.day (h:FiS x fm fv pw la lb ra rb f0 u0 f1 u1 c0 Fa Fb Fa' Fb' W0 t fd j wa wb ma mb O W) (hA:AsS x fm fv pw la lb ra rb f0 u0 f1 u1 F2 G2 wa' wb' ma' mb' (j:Int) W') (hE:Eff (fun b=>b=fm∨ra.M b∨rb.M b) W W') (ga:GrF Fa' F2 W) (gb:GrF Fb' G2 W) :
  FiS x fm fv pw la lb ra rb f0 u0 f1 u1 c0 Fa Fb F2 G2 W0 t fd j wa' wb' ma' mb' (fun b=>b=c0∨b=c0+1∨b=c0+1+1∨b=x∨b=fm∨F2 b∨G2 b) W'∧Grow O (fun b=>b=c0∨b=c0+1∨b=c0+1+1∨b=x∨b=fm∨F2 b∨G2 b) W W':=by
 obtain ⟨g0,g1,g2⟩:=h.n0
 have lc:=h.lc
 have nm:∀b,¬Fa' b→¬Fb' b→b≠fm→¬(b=fm∨ra.M b∨rb.M b):=fun b h1 h2 h3 h4=>by
  rcases h4 with h4 | h4 | h4
  ·exact h3 h4
  ·exact h1 (h.ask.two.a.x.sub b h4)
  ·exact h2 (h.ask.two.b.x.sub b h4)
 have k0:=nm _ g0.1 g0.2.1 g0.2.2.2
 have k1:=nm _ g1.1 g1.2.1 g1.2.2.2
 have k2:=nm _ g2.1 g2.2.1 g2.2.2.2
 refine ⟨⟨hA,h.ga.trans ga h.sz,h.gb.trans gb h.sz,fun b=>Iff.rfl,(hE.cell (p:=⟨c0,0,none⟩) (by simp only []; omega) k0).trans h.cx,(hE.cell (p:=⟨c0+1,0,none⟩) (by simp only []; omega) k1).trans h.ct,(hE.cell (p:=⟨c0+1+1,0,none⟩) lc k2).trans h.cf,
  (hE.frozen (p:=⟨c0+1,0,none⟩) (by simp only []; omega) k1).trans h.zt,(hE.frozen (p:=⟨c0+1+1,0,none⟩) lc k2).trans h.zf,zH lc hE.size,fun i hi=>?_,fun b hb n1 n2=>?_,zI h.sz hE.size⟩,⟨fun b hb=>?_,fun b hb=>?_,hE.wide (fun b hb=>(h.own b).2 ?_)⟩⟩
 ·obtain ⟨q1,q2,q3,q4⟩:=h.nc i hi
  exact ⟨fun hf=>(ga.new _ hf).elim q1 (fun hl=>by omega),fun hf=>(gb.new _ hf).elim q2 (fun hl=>by omega),q3,q4⟩
 ·have hl:b < W.heap.size:=hb.elim (fun h1=>h.ask.two.a.x.lt b (h.ga.sub b h1)) (fun h1=>h.ask.two.b.x.lt b (h.gb.sub b h1))
  refine (hE.block b hl (fun h4=>?_)).trans (h.old b hb n1 n2)
  rcases h4 with h4 | h4 | h4
  ·exact hb.elim (fun h1=>h.ask.nf.1 (h4 ▸ h.ga.sub b h1)) (fun h1=>h.ask.nf.2 (h4 ▸ h.gb.sub b h1))
  ·exact n1 h4
  ·exact n2 h4
 ·have hb2:=(h.own b).1 hb
  rcases hb2 with h1 | h1 | h1 | h1 | h1 | h1 | h1
  ·exact .inl h1
  ·exact .inr (.inl h1)
  ·exact .inr (.inr (.inl h1))
  ·exact .inr (.inr (.inr (.inl h1)))
  ·exact .inr (.inr (.inr (.inr (.inl h1))))
  ·exact .inr (.inr (.inr (.inr (.inr (.inl (ga.sub b h1))))))
  ·exact .inr (.inr (.inr (.inr (.inr (.inr (gb.sub b h1))))))
 ·rcases hb with h1 | h1 | h1 | h1 | h1 | h1 | h1
  ·exact .inl ((h.own b).2 (.inl h1))
  ·exact .inl ((h.own b).2 (.inr (.inl h1)))
  ·exact .inl ((h.own b).2 (.inr (.inr (.inl h1))))
  ·exact .inl ((h.own b).2 (.inr (.inr (.inr (.inl h1)))))
  ·exact .inl ((h.own b).2 (.inr (.inr (.inr (.inr (.inl h1))))))
  ·exact (ga.new b h1).imp (fun h2=>(h.own b).2 (.inr (.inr (.inr (.inr (.inr (.inl h2))))))) id
  ·exact (gb.new b h1).imp (fun h2=>(h.own b).2 (.inr (.inr (.inr (.inr (.inr (.inr h2))))))) id
 ·rcases hb with h1 | h1 | h1
  ·exact .inr (.inr (.inr (.inr (.inl h1))))
  ·exact .inr (.inr (.inr (.inr (.inr (.inl (h.ask.two.a.x.sub b h1))))))
  ·exact .inr (.inr (.inr (.inr (.inr (.inr (h.ask.two.b.x.sub b h1))))))
theorem FiS.set (h:FiS x fm fv pw la lb ra rb f0 u0 f1 u1 c0 Fa Fb Fa' Fb' W0 t fd j wa wb ma mb O W) (t':Int) (fd':Bool):FiS x fm fv pw la lb ra rb f0 u0 f1 u1 c0 Fa Fb Fa' Fb' W0 t' fd' j wa wb ma mb O ((W.setCell ⟨c0+1,0,none⟩ (.int .i64 t')).setCell ⟨c0+1+1,0,none⟩ (.bool fd'))∧Eff O W ((W.setCell ⟨c0+1,0,none⟩ (.int .i64 t')).setCell ⟨c0+1+1,0,none⟩ (.bool fd')):=by
 obtain ⟨g0,g1,g2⟩:=h.n0
 have c1:=h.ct
 have c2:=h.cf
 have c3:=h.cx
 have z1:=h.zt
 have z2:=h.zf
 have hE:Eff O W ((W.setCell ⟨c0+1,0,none⟩ (.int .i64 t')).setCell ⟨c0+1+1,0,none⟩ (.bool fd')):=((Eff.refl O W).set ((h.own _).2 (.inr (.inl rfl))) _ _).set ((h.own _).2 (.inr (.inr (.inl rfl)))) _ _
 have hb:∀b,b≠c0+1→b≠c0+1+1→((W.setCell ⟨c0+1,0,none⟩ (.int .i64 t')).setCell ⟨c0+1+1,0,none⟩ (.bool fd')).heap[b]? =W.heap[b]?:=fun b n1 n2=>(Below.heap_setCell _ _ _ _ n2).trans (Below.heap_setCell _ _ _ _ n1)
 have hF:∀b,Fa' b∨Fb' b→b≠c0+1∧b≠c0+1+1:=fun b hb=>⟨fun e=>hb.elim (fun h1=>g1.1 (e ▸ h1)) (fun h1=>g1.2.1 (e ▸ h1)),fun e=>hb.elim (fun h1=>g2.1 (e ▸ h1)) (fun h1=>g2.2.1 (e ▸ h1))⟩
 refine ⟨⟨h.ask.keep hE.size (fun c hc=>?_),h.ga,h.gb,h.own,(zzJ (w:=W) (a:=⟨c0,0,none⟩) (hb c0 (by omega) (by omega))).trans c3,by simp [go_sem,c1],by simp [go_sem,c2],by simpa [go_sem] using z1,by simpa [go_sem] using z2,zH h.lc hE.size,h.nc,fun b hb' n1 n2=>?_,zI h.sz hE.size⟩,hE⟩
 ·rcases hc with rfl | rfl | hc
  ·exact hb _ (fun e=>g1.2.2.1 e.symm) (fun e=>g2.2.2.1 e.symm)
  ·exact hb _ (fun e=>g1.2.2.2 e.symm) (fun e=>g2.2.2.2 e.symm)
  ·obtain ⟨q1,q2⟩:=hF c hc
   exact hb c q1 q2
 ·obtain ⟨q1,q2⟩:=hF b (hb'.imp (h.ga.sub b) (h.gb.sub b))
  exact (hb b q1 q2).trans (h.old b hb' n1 n2)
theorem FiS.eff (h:FiS x fm fv pw la lb ra rb f0 u0 f1 u1 W0.heap.size Fa Fb Fa' Fb' W0 t fd j wa wb ma mb O W) (hE:Eff (fun b=>b=W0.heap.size∨b=W0.heap.size+1∨b=W0.heap.size+1+1∨b=x∨b=fm∨Fa b∨Fb b) W0 W):Eff (fun b=>b=x∨b=fm∨ra.M b∨rb.M b) W0 W:=
 ⟨hE.os,hE.tape,hE.output,hE.size,fun k hk hn=>by
  by_cases hF:Fa k∨Fb k
  ·exact h.old k hF (fun h1=>hn (.inr (.inr (.inl h1)))) (fun h1=>hn (.inr (.inr (.inr h1))))
  ·refine hE.block k hk (fun ho=>?_)
   rcases ho with h1 | h1 | h1 | h1 | h1 | h1
   ·omega
   ·omega
   ·omega
   ·exact hn (.inl h1)
   ·exact hn (.inr (.inl h1))
   ·exact hF h1⟩
end
def NoneS (pw:Bool→Bool→Bool) (la lb:List Cl) (f0 u0 f1 u1:Int) (D:List Int) (k:Nat):Prop:=∀i n,i < k→D[i]? =some n→(inD f0 u0 n || inD f1 u1 n)=true→∀s,s < 86400→pw (dayQ la n s) (dayQ lb n s)=false
def FoundS (pw:Bool→Bool→Bool) (la lb:List Cl) (f0 u0 f1 u1:Int) (D:List Int) (k:Nat) (t:Int):Prop:=∃i n at',k=i+1∧D[i]? =some n∧t=n * 86400+at'∧FirstOf (fun s=>pw (dayQ la n s) (dayQ lb n s)) at' true∧NoneS pw la lb f0 u0 f1 u1 D i
def FiI (x fm:Nat) (fv:Value) (pw:Bool→Bool→Bool) (la lb:List Cl) (ra rb:RN) (f0 u0 f1 u1:Int) (c0:Nat) (Fa Fb:Blk) (W0:World) (IA IB:Nat→Nat→(Nat→Bool)→Nat→Prop) (D:List Int):OwnP:=fun k O W=>
 ∃Fa' Fb' wa wb ma mb j,FiS x fm fv pw la lb ra rb f0 u0 f1 u1 c0 Fa Fb Fa' Fb' W0 0 false j wa wb ma mb O W∧IA k j wa ma∧IB k j wb mb∧j≤k∧NoneS pw la lb f0 u0 f1 u1 D k
def FiX (x fm:Nat) (fv:Value) (pw:Bool→Bool→Bool) (la lb:List Cl) (ra rb:RN) (f0 u0 f1 u1:Int) (c0:Nat) (Fa Fb:Blk) (W0:World) (IA IB:Nat→Nat→(Nat→Bool)→Nat→Prop) (D:List Int) (c:Code):OwnP:=fun k O W=>
 c= .ret∧∃Fa' Fb' wa wb ma mb j t,FiS x fm fv pw la lb ra rb f0 u0 f1 u1 c0 Fa Fb Fa' Fb' W0 t true j wa wb ma mb O W∧IA k j wa ma∧IB k j wb mb∧j≤k∧FoundS pw la lb f0 u0 f1 u1 D k t
section
variable {x fm c0:Nat} {fv:Value} {pw:Bool→Bool→Bool} {la lb:List Cl} {ra rb:RN} {f0 u0 f1 u1:Int} {Fa Fb:Blk} {W0:World} {IA IB:Nat→Nat→(Nat→Bool)→Nat→Prop} {D:List Int}
theorem ygw:ybB (FiI x fm fv pw la lb ra rb f0 u0 f1 u1 c0 Fa Fb W0 IA IB D):=fun k O W W' ⟨_,_,_,_,_,_,_,h,g⟩ hs hO=>⟨_,_,_,_,_,_,_,h.keep hs hO,g⟩
theorem fiX_stab (c:Code):ybB (FiX x fm fv pw la lb ra rb f0 u0 f1 u1 c0 Fa Fb W0 IA IB D c):=fun k O W W' ⟨e,_,_,_,_,_,_,_,_,h,g⟩ hs hO=>⟨e,_,_,_,_,_,_,_,_,h.keep hs hO,g⟩
theorem fiI_lt:LtO (FiI x fm fv pw la lb ra rb f0 u0 f1 u1 c0 Fa Fb W0 IA IB D):=fun k O W ⟨_,_,_,_,_,_,_,h,g⟩=>h.lt
theorem fiX_lt (c:Code):LtO (FiX x fm fv pw la lb ra rb f0 u0 f1 u1 c0 Fa Fb W0 IA IB D c):=fun k O W ⟨e,_,_,_,_,_,_,_,_,h,g⟩=>h.lt
end
theorem NoneS.skip {pw:Bool→Bool→Bool} {la lb:List Cl} {f0 u0 f1 u1:Int} {D:List Int} {k:Nat} {n:Int} (h:NoneS pw la lb f0 u0 f1 u1 D k) (hn:D[k]? =some n) (hs:(inD f0 u0 n || inD f1 u1 n)=true→∀s,s < 86400→pw (dayQ la n s) (dayQ lb n s)=false):NoneS pw la lb f0 u0 f1 u1 D (k+1):=fun i m hi hm hd s hs'=>by
 rcases Nat.lt_succ_iff_lt_or_eq.1 hi with h1 | h1
 ·exact h i m h1 hm hd s hs'
 ·subst h1
  rw [hn] at hm
  cases hm
  exact hs hd s hs'
def FiT (h1 h2 h3 h6:Value) (ds:List Deferred) (a:Act):Prop:=∃V:Nat→Value,a= {tmps:=#[V 0,h1,h2,h3,V 4,V 5,h6,V 7,V 8,V 9,V 10,V 11,V 12,V 13,V 14,V 15,V 16,V 17,V 18,V 19,V 20,V 21,V 22,V 23,V 24,V 25,V 26,V 27,V 28,V 29,V 30,V 31,V 32,V 33,V 34,V 35,V 36,V 37,V 38,V 39,V 40,V 41,V 42,V 43,V 44,V 45,V 46,V 47,V 48,V 49,V 50,V 51,V 52,V 53,V 54,V 55,V 56],defers:=ds}
theorem FiT.of {h1 h2 h3 h6 u0 u4 u5 u7 u8 u9 u10 u11 u12 u13 u14 u15 u16 u17 u18 u19 u20 u21 u22 u23 u24 u25 u26 u27 u28 u29 u30 u31 u32 u33 u34 u35 u36 u37 u38 u39 u40 u41 u42 u43 u44 u45 u46 u47 u48 u49 u50 u51 u52 u53 u54 u55 u56:Value} {ds:List Deferred}:FiT h1 h2 h3 h6 ds {tmps:=#[u0,h1,h2,h3,u4,u5,h6,u7,u8,u9,u10,u11,u12,u13,u14,u15,u16,u17,u18,u19,u20,u21,u22,u23,u24,u25,u26,u27,u28,u29,u30,u31,u32,u33,u34,u35,u36,u37,u38,u39,u40,u41,u42,u43,u44,u45,u46,u47,u48,u49,u50,u51,u52,u53,u54,u55,u56],defers:=ds}:=⟨fun i=>(#[u0,u4,u5,u7,u8,u9,u10,u11,u12,u13,u14,u15,u16,u17,u18,u19,u20,u21,u22,u23,u24,u25,u26,u27,u28,u29,u30,u31,u32,u33,u34,u35,u36,u37,u38,u39,u40,u41,u42,u43,u44,u45,u46,u47,u48,u49,u50,u51,u52,u53,u54,u55,u56]:Array Value).getD (#[0,0,0,0,1,2,0,3,4,5,6,7,8,9,10,11,12,13,14,15,16,17,18,19,20,21,22,23,24,25,26,27,28,29,30,31,32,33,34,35,36,37,38,39,40,41,42,43,44,45,46,47,48,49,50,51,52].getD i 0) undef,rfl⟩
end
end Go.Proofs.YtjahgimnfliooaaGreatDoor
