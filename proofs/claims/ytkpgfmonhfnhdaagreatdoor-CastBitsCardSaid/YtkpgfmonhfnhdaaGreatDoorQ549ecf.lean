/-
  meet.asked: its bounds.
  meet.asked: two rolls, and what is found of them.
  meet.asked.day: both rolls are asked for a day, and the pair is made.
-/
import Derived.Test.YtkpgfmonhfnhdaaGreatDoorQeca3d8
import Derived.BigRegion
import Derived.Deep.Cut
import Derived.Test.YtkpgfmonhfnhdaaGreatDoorQ98c01e
import Derived.Test.YtkpgfmonhfnhdaaGreatDoorQecfa9a
set_option maxRecDepth 100000
set_option maxHeartbeats 25600000
namespace Go.Proofs.YtkpgfmonhfnhdaaGreatDoor
set_option linter.unusedVariables false
section
open Go.RowKit
def mbF (f u a:Int):Int:=if yal f u=true then min a (max f 0 / 86400) else a
def mbU (f u a:Int):Int:=if yal f u=true then max a (min u 12622780799 / 86400) else a
theorem yfr (f u a b:Int) (ha:0≤a∧a≤146097) (hb:-1≤b∧b≤146096):0≤mbF f u a∧mbF f u a≤146097∧-1≤mbU f u b∧mbU f u b≤146096:=by
 unfold mbF mbU
 cases e:yal f u
 ·simp; omega
 ·have:max f 0≤min u 12622780799:=by simpa [yal] using e
  simp; omega
structure AsH (x:Nat) (f0 u0 f1 u1:Int) (W:World):Prop where
 c5:W.cell? ⟨x,5,none⟩=some (.int .i64 f0)
 c6:W.cell? ⟨x,6,none⟩=some (.int .i64 u0)
 c7:W.cell? ⟨x,7,none⟩=some (.int .i64 f1)
 c8:W.cell? ⟨x,8,none⟩=some (.int .i64 u1)
 lt:x < W.heap.size
theorem AsH.below {x:Nat} {f0 u0 f1 u1:Int} {W W':World} (h:AsH x f0 u0 f1 u1 W) (hB:Below W.heap.size W W'):AsH x f0 u0 f1 u1 W':=
 ⟨(hB.cell (p:=⟨x,5,none⟩) h.lt).trans h.c5,(hB.cell (p:=⟨x,6,none⟩) h.lt).trans h.c6,(hB.cell (p:=⟨x,7,none⟩) h.lt).trans h.c7,(hB.cell (p:=⟨x,8,none⟩) h.lt).trans h.c8,zH h.lt hB.size⟩
theorem run_sp0 (f0 u0 f1 u1:Int) (W:World):(Instr.index 157 (.agg #[.int .i64 f0, .int .i64 u0, .int .i64 f1, .int .i64 u1]) (.int .i64 0)).run Tryz.prog W= .ok (.agg #[.int .i64 f0, .int .i64 u0]) W:=by kernel_rfl
theorem run_sp1 (f0 u0 f1 u1:Int) (W:World):(Instr.index 157 (.agg #[.int .i64 f0, .int .i64 u0, .int .i64 f1, .int .i64 u1]) (.int .i64 1)).run Tryz.prog W= .ok (.agg #[.int .i64 f1, .int .i64 u1]) W:=by kernel_rfl
attribute [local go_sem] run_sp0 run_sp1
theorem yie (x:Nat) (f0 u0 f1 u1:Int) (W:World) (h:AsH x f0 u0 f1 u1 W) :
  Calls Tryz.prog 125 #[.pointer (some ⟨x,0,none⟩)] W fun e W'=>e= .returned (.tuple #[.int .i64 (mbF f1 u1 (mbF f0 u0 146097)), .int .i64 (mbU f1 u1 (mbU f0 u0 (-1)))])∧Below W.heap.size W W':=by
 obtain ⟨F1,hF1⟩:∃F1,mbF f0 u0 146097=F1:=⟨_,rfl⟩
 obtain ⟨U1,hU1⟩:∃U1,mbU f0 u0 (-1)=U1:=⟨_,rfl⟩
 rw [hF1,hU1]
 obtain ⟨F2,hF2⟩:∃F2,mbF f1 u1 F1=F2:=⟨_,rfl⟩
 obtain ⟨U2,hU2⟩:∃U2,mbU f1 u1 U1=U2:=⟨_,rfl⟩
 rw [hF2,hU2]
 have HF1:=hid hF1
 have HU1:=hid hU1
 have HF2:=hid hF2
 have HU2:=hid hU2
 clear hF1 hU1 hF2 hU2
 obtain ⟨k5,k6,k7,k8,hlt⟩:=h
 have cD:=hid (fun f u W=>yd1 f u W)
 go_enter Tryz.func125,Tryz.ntmps125
 go_wp2_with fail
 clear k5 k6 k7 k8
 go_loopw [4,5,7,8,9,10,15] (fun fv uv _ _ _ _ iv wr=>∃i:Int,0≤i∧i≤2∧iv= .int .i64 i∧fv= .int .i64 (if i=0 then 146097 else if i=1 then F1 else F2)∧uv= .int .i64 (if i=0 then -1 else if i=1 then U1 else U2)∧Hid (Below W.heap.size W wr)) (fun _ _ _ _ _ _ iv _=>(2 - intOf iv).toNat)
 case atStart=>exact ⟨0,by omega,by omega,rfl,rfl,rfl,Below.refl _ _⟩
 case round=>
  obtain ⟨i,hi0,hi,rfl,rfl,rfl,HB⟩:=hrel
  have:i=0∨i=1∨i=2:=by omega
  rcases this with rfl | rfl | rfl
  all_goals simp only [if_true,if_false,Int.reduceEq]
  ·have c:=cD.out f0 u0
   cases e:yal f0 u0
   ·rw [e] at c
    simp only [Bool.false_eq_true,if_false] at c
    have C:=hid c
    have E1:Hid (F1=146097):=by show _ = _; rw [←HF1.out,mbF,e]; rfl
    have E2:Hid (U1= (-1)):=by show _ = _; rw [←HU1.out,mbU,e]; rfl
    clear c e
    go_wp2_with fail
    refine (C.out _).mono ?_
    rintro e w1 ⟨rfl,hB⟩
    have HB1:=hid (HB.out.trans (((yaa (o:= .cells #[.int .i64 f0, .int .i64 u0] 147) (Below.refl wr.heap.size wr) (zG _)).trans (hB.mono (by simp))).mono HB.out.size))
    clear hB
    go_wp2
    exact ⟨⟨1,by omega,by omega,by trivial,by rw [←E1.out]; rfl,by rw [←E2.out]; rfl,HB1.out⟩,by simp [intOf]⟩
   ·rw [e] at c
    simp only [if_true] at c
    have C:=hid c
    have E1:Hid (F1=min 146097 (max f0 0 / 86400)):=by show _ = _; rw [←HF1.out,mbF,e]; rfl
    have E2:Hid (U1=max (-1) (min u0 12622780799 / 86400)):=by show _ = _; rw [←HU1.out,mbU,e]; rfl
    obtain ⟨x1,hx1⟩:∃x1,max f0 0 / 86400=x1:=⟨_,rfl⟩
    obtain ⟨x2,hx2⟩:∃x2,min u0 12622780799 / 86400=x2:=⟨_,rfl⟩
    rw [hx1,hx2] at C
    rw [hx1] at E1
    rw [hx2] at E2
    clear c e hx1 hx2
    go_wp2_with fail
    refine (C.out _).mono ?_
    rintro e w1 ⟨rfl,hB⟩
    have HB1:=hid (HB.out.trans (((yaa (o:= .cells #[.int .i64 f0, .int .i64 u0] 147) (Below.refl wr.heap.size wr) (zG _)).trans (hB.mono (by simp))).mono HB.out.size))
    clear hB
    go_wp2
    all_goals
     have h1:=E1.out
     have h2:=E2.out
     exact ⟨⟨1,by omega,by omega,by trivial,by congr 1; (try simp); omega,by congr 1; (try simp); omega,HB1.out⟩,by simp [intOf]⟩
  ·have c:=cD.out f1 u1
   cases e:yal f1 u1
   ·rw [e] at c
    simp only [Bool.false_eq_true,if_false] at c
    have C:=hid c
    have E1:Hid (F2=F1):=by show _ = _; rw [←HF2.out,mbF,e]; rfl
    have E2:Hid (U2=U1):=by show _ = _; rw [←HU2.out,mbU,e]; rfl
    clear c e
    go_wp2_with fail
    refine (C.out _).mono ?_
    rintro e w1 ⟨rfl,hB⟩
    have HB1:=hid (HB.out.trans (((yaa (o:= .cells #[.int .i64 f1, .int .i64 u1] 147) (Below.refl wr.heap.size wr) (zG _)).trans (hB.mono (by simp))).mono HB.out.size))
    clear hB
    go_wp2
    exact ⟨⟨2,by omega,by omega,by trivial,by rw [←E1.out]; rfl,by rw [←E2.out]; rfl,HB1.out⟩,by simp [intOf]⟩
   ·rw [e] at c
    simp only [if_true] at c
    have C:=hid c
    have E1:Hid (F2=min F1 (max f1 0 / 86400)):=by show _ = _; rw [←HF2.out,mbF,e]; rfl
    have E2:Hid (U2=max U1 (min u1 12622780799 / 86400)):=by show _ = _; rw [←HU2.out,mbU,e]; rfl
    obtain ⟨x1,hx1⟩:∃x1,max f1 0 / 86400=x1:=⟨_,rfl⟩
    obtain ⟨x2,hx2⟩:∃x2,min u1 12622780799 / 86400=x2:=⟨_,rfl⟩
    rw [hx1,hx2] at C
    rw [hx1] at E1
    rw [hx2] at E2
    clear c e hx1 hx2
    go_wp2_with fail
    refine (C.out _).mono ?_
    rintro e w1 ⟨rfl,hB⟩
    have HB1:=hid (HB.out.trans (((yaa (o:= .cells #[.int .i64 f1, .int .i64 u1] 147) (Below.refl wr.heap.size wr) (zG _)).trans (hB.mono (by simp))).mono HB.out.size))
    clear hB
    go_wp2
    all_goals
     have h1:=E1.out
     have h2:=E2.out
     exact ⟨⟨2,by omega,by omega,by trivial,by congr 1; (try simp); omega,by congr 1; (try simp); omega,HB1.out⟩,by simp [intOf]⟩
  ·go_wp2
   go_ret2
   exact ⟨rfl,HB.out⟩
end
section
open Go.RowKit Go.Maps
structure RN where
 br:Nat
 bk:Nat
 bps:List Nat
def RN.M (r:RN):Blk:=RM r.br r.bk r.bps
structure TwoR (W:World) (la lb:List Cl) (ra rb:RN) (Fa Fb:Blk) (wa wb:Nat→Bool) (ma mb:Nat):Prop where
 a:RollS W la ra.br ra.bk ra.bps Fa wa ma
 b:RollS W lb rb.br rb.bk rb.bps Fb wb mb
 sa:∀c,Fb c→¬ra.M c
 sb:∀c,Fa c→¬rb.M c
section
variable {W W':World} {la lb:List Cl} {ra rb:RN} {Fa Fb Fa' Fb':Blk} {wa wb wa' wb':Nat→Bool} {ma mb ma' mb':Nat}
theorem TwoR.stepA (h:TwoR W la lb ra rb Fa Fb wa wb ma mb) (hE:Eff ra.M W W') (hR:RollS W' la ra.br ra.bk ra.bps Fa' wa' ma') (hG:GrF Fa Fa' W):TwoR W' la lb ra rb Fa' Fb wa' wb ma' mb:=
 ⟨hR,h.b.keep hE.size (fun c hc=>hE.block c (h.b.x.lt c hc) (h.sa c hc)),h.sa,fun c hc hm=>by
  rcases hG.new c hc with h1 | h1
  ·exact h.sb c h1 hm
  ·have:=h.b.x.lt c (h.b.x.sub c hm); omega⟩
theorem TwoR.stepB (h:TwoR W la lb ra rb Fa Fb wa wb ma mb) (hE:Eff rb.M W W') (hR:RollS W' lb rb.br rb.bk rb.bps Fb' wb' mb') (hG:GrF Fb Fb' W):TwoR W' la lb ra rb Fa Fb' wa wb' ma mb':=
 ⟨h.a.keep hE.size (fun c hc=>hE.block c (h.a.x.lt c hc) (h.sb c hc)),hR,fun c hc hm=>by
  rcases hG.new c hc with h1 | h1
  ·exact h.sa c h1 hm
  ·have:=h.a.x.lt c (h.a.x.sub c hm); omega,h.sb⟩
theorem TwoR.keep (h:TwoR W la lb ra rb Fa Fb wa wb ma mb) (hs:W.heap.size≤W'.heap.size) (ha:∀c,Fa c∨Fb c→W'.heap[c]? =W.heap[c]?):TwoR W' la lb ra rb Fa Fb wa wb ma mb:=
 ⟨h.a.keep hs (fun c hc=>ha c (.inl hc)),h.b.keep hs (fun c hc=>ha c (.inr hc)),h.sa,h.sb⟩
end
structure DOf (W:World) (F M:Blk) (d:Option Nat) (q:Nat→Bool):Prop where
 no:d=none→∀k,k < 86400→q k=false
 yes:∀b,d=some b→DiF W F M b q
theorem DOf.disc {W:World} {F M:Blk} {d:Option Nat} {q:Nat→Bool} (h:DOf W F M d q):DiscO W d q:=by
 cases d with
 | none=>exact h.no rfl
 | some b=>exact (h.yes b rfl).2.2
theorem DOf.keep {W W':World} {F F' M:Blk} {d:Option Nat} {q:Nat→Bool} (h:DOf W F M d q) (hs:W.heap.size≤W'.heap.size) (hF:∀b,F b→F' b) (hb:∀b,F b∧¬M b→W'.heap[b]? =W.heap[b]?):DOf W' F' M d q:=
 ⟨h.no,fun b hd=>by
  obtain ⟨h1,h2,h3⟩:=h.yes b hd
  exact ⟨hF b h1,h2,h3.block hs (hb b ⟨h1,h2⟩)⟩⟩
theorem DOf.unique {W:World} {F M:Blk} {d:Option Nat} {q q':Nat→Bool} (h:DOf W F M d q) (h':DOf W F M d q') {k:Nat} (hk:k < 86400):q k=q' k:=by
 cases d with
 | none=>rw [h.no rfl k hk,h'.no rfl k hk]
 | some b=>exact DiscAt.unique (h.yes b rfl).2.2 (h'.yes b rfl).2.2 k hk
def FineK (W:World) (Fa Fb:Blk) (ra rb:RN) (v:Value):Prop:=∃d e qa qb,v= .agg #[dptr d,dptr e]∧DOf W Fa ra.M d qa∧DOf W Fb rb.M e qb
def FineG (pw:Bool→Bool→Bool) (W:World) (Fa Fb:Blk) (ra rb:RN) (key v:Value):Prop:=
 v= .bool true∧∃d e qa qb,key= .agg #[dptr d,dptr e]∧DOf W Fa ra.M d qa∧DOf W Fb rb.M e qb∧∀k,k < 86400→pw (qa k) (qb k)=false
theorem fineT (W:World) (Fa Fb:Blk) (ra rb:RN):KeyT Tryz.prog 231 (FineK W Fa Fb ra rb) W:=
 (pairT W).sub fun v ⟨d,e,qa,qb,h1,h2,h3⟩=>⟨d,e,h1,PtrOk.disc h2.disc,PtrOk.disc h3.disc⟩
theorem yi5 {d e:Option Nat} (h:dptr d=dptr e):d=e:=by
 cases d <;> cases e
 ·rfl
 ·cases h
 ·cases h
 ·injection h with h; injection h with h; injection h with h; rw [h]
theorem pair_inj {d e d' e':Option Nat} (h:(Value.agg #[dptr d,dptr e])= .agg #[dptr d',dptr e']):d=d'∧e=e':=by
 injection h with h
 have h1:=congrArg (fun a=>a.getD 0 undef) h
 have h2:=congrArg (fun a=>a.getD 1 undef) h
 exact ⟨yi5 (by simpa using h1),yi5 (by simpa using h2)⟩
theorem FineG.none {pw:Bool→Bool→Bool} {W:World} {Fa Fb:Blk} {ra rb:RN} {d e:Option Nat} {qa qb:Nat→Bool} {v:Value} (h:FineG pw W Fa Fb ra rb (.agg #[dptr d,dptr e]) v) (ha:DOf W Fa ra.M d qa) (hb:DOf W Fb rb.M e qb):v= .bool true∧FirstOf (fun k=>pw (qa k) (qb k)) 0 false:=by
 obtain ⟨rfl,d',e',qa',qb',h1,h2,h3,h4⟩:=h
 obtain ⟨rfl,rfl⟩:=pair_inj h1
 exact ⟨rfl, .inr ⟨rfl,rfl,fun k hk=>by show pw (qa k) (qb k)=false; rw [ha.unique h2 hk,hb.unique h3 hk]; exact h4 k hk⟩⟩
structure AsS (x fm:Nat) (fv:Value) (pw:Bool→Bool→Bool) (la lb:List Cl) (ra rb:RN) (f0 u0 f1 u1:Int) (Fa Fb:Blk) (wa wb:Nat→Bool) (ma mb:Nat) (days:Int) (W:World):Prop where
 two:TwoR W la lb ra rb Fa Fb wa wb ma mb
 c0:W.cell? ⟨x,0,none⟩=some (.pointer (some ⟨ra.br,0,none⟩))
 c1:W.cell? ⟨x,1,none⟩=some (.pointer (some ⟨rb.br,0,none⟩))
 c2:W.cell? ⟨x,2,none⟩=some fv
 c3:W.cell? ⟨x,3,none⟩=some (.map (some fm))
 c4:W.cell? ⟨x,4,none⟩=some (.int .i64 days)
 z4:W.frozen? ⟨x,4,none⟩=false
 hul:AsH x f0 u0 f1 u1 W
 fine:MapS (FineK W Fa Fb ra rb) (FineG pw W Fa Fb ra rb) W fm 512
 nx:¬Fa x∧¬Fb x
 nf:¬Fa fm∧¬Fb fm
 ne:x≠fm
section
variable {x fm:Nat} {fv:Value} {pw:Bool→Bool→Bool} {la lb:List Cl} {ra rb:RN} {f0 u0 f1 u1 days:Int} {Fa Fb Fa' Fb':Blk} {wa wb wa' wb':Nat→Bool} {ma mb ma' mb':Nat} {W W':World}
theorem FineG.keep {key v:Value} (h:FineG pw W Fa Fb ra rb key v) (hs:W.heap.size≤W'.heap.size) (ha:∀b,Fa b→Fa' b) (hb:∀b,Fb b→Fb' b) (h1:∀b,Fa b∧¬ra.M b→W'.heap[b]? =W.heap[b]?) (h2:∀b,Fb b∧¬rb.M b→W'.heap[b]? =W.heap[b]?):FineG pw W' Fa' Fb' ra rb key v:=by
 obtain ⟨g1,d,e,qa,qb,g2,g3,g4,g5⟩:=h
 exact ⟨g1,d,e,qa,qb,g2,g3.keep hs ha h1,g4.keep hs hb h2,g5⟩
theorem FineK.keep {v:Value} (h:FineK W Fa Fb ra rb v) (hs:W.heap.size≤W'.heap.size) (ha:∀b,Fa b→Fa' b) (hb:∀b,Fb b→Fb' b) (h1:∀b,Fa b∧¬ra.M b→W'.heap[b]? =W.heap[b]?) (h2:∀b,Fb b∧¬rb.M b→W'.heap[b]? =W.heap[b]?):FineK W' Fa' Fb' ra rb v:=by
 obtain ⟨d,e,qa,qb,g2,g3,g4⟩:=h
 exact ⟨d,e,qa,qb,g2,g3.keep hs ha h1,g4.keep hs hb h2⟩
theorem AsS.turn (h:AsS x fm fv pw la lb ra rb f0 u0 f1 u1 Fa Fb wa wb ma mb days W) (hT:TwoR W' la lb ra rb Fa' Fb' wa' wb' ma' mb') (hE:Eff (fun b=>ra.M b∨rb.M b) W W') (ga:GrF Fa Fa' W) (gb:GrF Fb Fb' W):AsS x fm fv pw la lb ra rb f0 u0 f1 u1 Fa' Fb' wa' wb' ma' mb' days W':=by
 have lx:=h.hul.lt
 have lf:=h.fine.lt
 have nMx:¬(ra.M x∨rb.M x):=fun hm=>hm.elim (fun h1=>h.nx.1 (h.two.a.x.sub x h1)) (fun h1=>h.nx.2 (h.two.b.x.sub x h1))
 have nMf:¬(ra.M fm∨rb.M fm):=fun hm=>hm.elim (fun h1=>h.nf.1 (h.two.a.x.sub fm h1)) (fun h1=>h.nf.2 (h.two.b.x.sub fm h1))
 have cc:∀i,W'.cell? ⟨x,i,none⟩=W.cell? ⟨x,i,none⟩:=fun i=>hE.cell (p:=⟨x,i,none⟩) lx nMx
 have ka:∀b,Fa b∧¬ra.M b→W'.heap[b]? =W.heap[b]?:=fun b hb=>hE.block b (h.two.a.x.lt b hb.1) (fun hm=>hm.elim hb.2 (h.two.sb b hb.1))
 have kb:∀b,Fb b∧¬rb.M b→W'.heap[b]? =W.heap[b]?:=fun b hb=>hE.block b (h.two.b.x.lt b hb.1) (fun hm=>hm.elim (h.two.sa b hb.1) hb.2)
 exact ⟨hT,(cc 0).trans h.c0,(cc 1).trans h.c1,(cc 2).trans h.c2,(cc 3).trans h.c3,(cc 4).trans h.c4,(hE.frozen (p:=⟨x,4,none⟩) lx nMx).trans h.z4,
  ⟨(cc 5).trans h.hul.c5,(cc 6).trans h.hul.c6,(cc 7).trans h.hul.c7,(cc 8).trans h.hul.c8,zH lx hE.size⟩,
  (h.fine.keep (hE.block fm lf nMf)).mono (zG _) (fun v hv=>hv.keep hE.size ga.sub gb.sub ka kb) (fun k v hv=>hv.keep hE.size ga.sub gb.sub ka kb),
  ⟨fun hx=>(ga.new x hx).elim h.nx.1 (fun hl=>by omega),fun hx=>(gb.new x hx).elim h.nx.2 (fun hl=>by omega)⟩,⟨fun hx=>(ga.new fm hx).elim h.nf.1 (fun hl=>by omega),fun hx=>(gb.new fm hx).elim h.nf.2 (fun hl=>by omega)⟩,h.ne⟩
theorem AsS.map (h:AsS x fm fv pw la lb ra rb f0 u0 f1 u1 Fa Fb wa wb ma mb days W) (hg:W.grownBy W' (some fm)) (hM:MapS (FineK W Fa Fb ra rb) (FineG pw W Fa Fb ra rb) W' fm 512):AsS x fm fv pw la lb ra rb f0 u0 f1 u1 Fa Fb wa wb ma mb days W':=by
 have lx:=h.hul.lt
 have hb:∀b,b < W.heap.size→b≠fm→W'.heap[b]? =W.heap[b]?:=fun b hb hn=>hg.block b hb (fun e=>hn (by cases e; rfl))
 have cc:∀i,W'.cell? ⟨x,i,none⟩=W.cell? ⟨x,i,none⟩:=fun i=>zzJ (w:=W) (a:=⟨x,i,none⟩) (hb x lx h.ne)
 have ka:∀b,Fa b∨Fb b→W'.heap[b]? =W.heap[b]?:=fun b hF=>hF.elim (fun h1=>hb b (h.two.a.x.lt b h1) (fun e=>h.nf.1 (e ▸ h1))) (fun h1=>hb b (h.two.b.x.lt b h1) (fun e=>h.nf.2 (e ▸ h1)))
 exact ⟨h.two.keep hg.size ka,(cc 0).trans h.c0,(cc 1).trans h.c1,(cc 2).trans h.c2,(cc 3).trans h.c3,(cc 4).trans h.c4,(zzM (w:=W) (a:=⟨x,4,none⟩) (hb x lx h.ne)).trans h.z4,
  ⟨(cc 5).trans h.hul.c5,(cc 6).trans h.hul.c6,(cc 7).trans h.hul.c7,(cc 8).trans h.hul.c8,zH lx hg.size⟩,
  hM.mono (zG _) (fun v hv=>hv.keep hg.size (fun _ h=>h) (fun _ h=>h) (fun b hb=>ka b (.inl hb.1)) (fun b hb=>ka b (.inr hb.1))) (fun k v hv=>hv.keep hg.size (fun _ h=>h) (fun _ h=>h) (fun b hb=>ka b (.inl hb.1)) (fun b hb=>ka b (.inr hb.1))),h.nx,h.nf,h.ne⟩
theorem AsS.below (h:AsS x fm fv pw la lb ra rb f0 u0 f1 u1 Fa Fb wa wb ma mb days W) (hB:Below W.heap.size W W'):AsS x fm fv pw la lb ra rb f0 u0 f1 u1 Fa Fb wa wb ma mb days W':=
 h.turn (h.two.keep hB.size (fun c hc=>hB.block c (hc.elim (h.two.a.x.lt c) (h.two.b.x.lt c)))) (Eff.of_below hB) (GrF.refl _ _) (GrF.refl _ _)
end
theorem yf3 {l:List Cl} (h:mayL l=true):l.length≤8:=by rw [mayL,zzX,zzY] at h; exact h.1
theorem AtA_any {W:World} {la lb:List Cl} {ra rb:RN} {Fa Fb:Blk} {wa wb:Nat→Bool} {ma mb:Nat} (n:Int) (h0:0≤n) (h1:n < 146097) (hm:ma < 4611686018427387904) (h:TwoR W la lb ra rb Fa Fb wa wb ma mb) :
  Calls Tryz.prog 65 #[.pointer (some ⟨ra.br,0,none⟩),shN n] W fun e W'=>∃d Fa' wa' ma',e= .returned (dptr d)∧TwoR W' la lb ra rb Fa' Fb wa' wb ma' mb∧GrF Fa Fa' W∧Eff ra.M W W'∧ya7 la n wa ma wa' ma'∧DOf W' Fa' ra.M d (dayQ la n):=by
 refine (ygu n h0 h1 hm h.a).mono fun e W' ⟨d,F',ws',m',g1,g2,g3,g4,g5,g6,g7⟩=>⟨d,F',ws',m',g1,h.stepA g4 g2 g3,g3,g4,g5,⟨fun hd k hk=>ycX (yf3 g2.x.may) h0 h1 (g6 hd) hk,g7⟩⟩
theorem AtB_any {W:World} {la lb:List Cl} {ra rb:RN} {Fa Fb:Blk} {wa wb:Nat→Bool} {ma mb:Nat} (n:Int) (h0:0≤n) (h1:n < 146097) (hm:mb < 4611686018427387904) (h:TwoR W la lb ra rb Fa Fb wa wb ma mb) :
  Calls Tryz.prog 65 #[.pointer (some ⟨rb.br,0,none⟩),shN n] W fun e W'=>∃d Fb' wb' mb',e= .returned (dptr d)∧TwoR W' la lb ra rb Fa Fb' wa wb' ma mb'∧GrF Fb Fb' W∧Eff rb.M W W'∧ya7 lb n wb mb wb' mb'∧DOf W' Fb' rb.M d (dayQ lb n):=by
 refine (ygu n h0 h1 hm h.b).mono fun e W' ⟨d,F',ws',m',g1,g2,g3,g4,g5,g6,g7⟩=>⟨d,F',ws',m',g1,h.stepB g4 g2 g3,g3,g4,g5,⟨fun hd k hk=>ycX (yf3 g2.x.may) h0 h1 (g6 hd) hk,g7⟩⟩
end
section
open Go.RowKit Go.Maps
theorem TwoR.below {W W':World} {la lb:List Cl} {ra rb:RN} {Fa Fb:Blk} {wa wb:Nat→Bool} {ma mb:Nat} (h:TwoR W la lb ra rb Fa Fb wa wb ma mb) (hB:Below W.heap.size W W'):TwoR W' la lb ra rb Fa Fb wa wb ma mb:=
 h.keep hB.size (fun c hc=>hB.block c (hc.elim (h.a.x.lt c) (h.b.x.lt c)))
structure DP (W:World) (la lb:List Cl) (ra rb:RN) (n:Int) (Fa Fb:Blk) (wa wb:Nat→Bool) (ma mb:Nat) (A B:Option (Option Nat)) (p:Option Nat) (Fa' Fb':Blk) (wa' wb':Nat→Bool) (ma' mb':Nat) (w:World):Prop where
 two:TwoR w la lb ra rb Fa' Fb' wa' wb' ma' mb'
 eff:Eff (fun b=>ra.M b∨rb.M b) W w
 ga:GrF Fa Fa' W
 gb:GrF Fb Fb' W
 sa:∀d,A=some d→ya7 la n wa ma wa' ma'∧DOf w Fa' ra.M d (dayQ la n)
 sb:∀d,B=some d→ya7 lb n wb mb wb' mb'∧DOf w Fb' rb.M d (dayQ lb n)
 na:A=none→wa' =wa∧ma' =ma
 nb:B=none→wb' =wb∧mb' =mb
 pn:∀b,p=some b→W.heap.size≤b∧b < w.heap.size∧¬Fa' b∧¬Fb' b∧(∀i,i < 2→w.cell? ⟨b,i,none⟩=some (.pointer none))∧∀i,w.frozen? ⟨b,i,none⟩=false
section
variable {W w w':World} {la lb:List Cl} {ra rb:RN} {n:Int} {Fa Fb:Blk} {wa wb:Nat→Bool} {ma mb:Nat} {A B:Option (Option Nat)} {p:Option Nat} {Fa' Fb':Blk} {wa' wb':Nat→Bool} {ma' mb':Nat}
theorem DP.start (h:TwoR W la lb ra rb Fa Fb wa wb ma mb):DP W la lb ra rb n Fa Fb wa wb ma mb none none none Fa Fb wa wb ma mb W:=
 ⟨h,Eff.refl _ _,GrF.refl _ _,GrF.refl _ _,fun _ h=>(by cases h),fun _ h=>(by cases h),fun _=>⟨rfl,rfl⟩,fun _=>⟨rfl,rfl⟩,fun _ h=>(by cases h)⟩
theorem DP.lt (h:DP W la lb ra rb n Fa Fb wa wb ma mb A B p Fa' Fb' wa' wb' ma' mb' w):(∀b,ra.M b→b < w.heap.size∧Fa' b)∧(∀b,rb.M b→b < w.heap.size∧Fb' b):=
 ⟨fun b hb=>⟨h.two.a.x.lt b (h.two.a.x.sub b hb),h.two.a.x.sub b hb⟩,fun b hb=>⟨h.two.b.x.lt b (h.two.b.x.sub b hb),h.two.b.x.sub b hb⟩⟩
theorem DP.atA (h:DP W la lb ra rb n Fa Fb wa wb ma mb none B p Fa' Fb' wa' wb' ma' mb' w) {d:Option Nat} {F2:Blk} {w2:Nat→Bool} {m2:Nat} (hT:TwoR w' la lb ra rb F2 Fb' w2 wb' m2 mb') (hG:GrF Fa' F2 w) (hE:Eff ra.M w w') (hS:ya7 la n wa' ma' w2 m2) (hD:DOf w' F2 ra.M d (dayQ la n)) :
  DP W la lb ra rb n Fa Fb wa wb ma mb (some d) B p F2 Fb' w2 wb' m2 mb' w':=by
 obtain ⟨e1,e2⟩:=h.na rfl
 subst e1; subst e2
 refine ⟨hT,h.eff.trans hE (fun b hb=> .inl (.inl hb)),h.ga.trans hG h.eff.size,h.gb,fun d' hd=>?_,fun d' hd=>?_,fun hd=>(by cases hd),h.nb,fun b hb=>?_⟩
 ·cases hd; exact ⟨hS,hD⟩
 ·obtain ⟨g1,g2⟩:=h.sb d' hd
  exact ⟨g1,g2.keep hE.size (fun _ h=>h) (fun b hb=>hE.block b (h.two.b.x.lt b hb.1) (h.two.sa b hb.1))⟩
 ·obtain ⟨g1,g2,g3,g4,g5,g6⟩:=h.pn b hb
  have nM:¬ra.M b:=fun hm=>g3 (h.two.a.x.sub b hm)
  exact ⟨g1,zH g2 hE.size,fun hf=>(hG.new b hf).elim g3 (fun hl=>by omega),g4,fun i hi=>(hE.cell (p:=⟨b,i,none⟩) g2 nM).trans (g5 i hi),fun i=>(hE.frozen (p:=⟨b,i,none⟩) g2 nM).trans (g6 i)⟩
theorem DP.atB (h:DP W la lb ra rb n Fa Fb wa wb ma mb A none p Fa' Fb' wa' wb' ma' mb' w) {d:Option Nat} {F2:Blk} {w2:Nat→Bool} {m2:Nat} (hT:TwoR w' la lb ra rb Fa' F2 wa' w2 ma' m2) (hG:GrF Fb' F2 w) (hE:Eff rb.M w w') (hS:ya7 lb n wb' mb' w2 m2) (hD:DOf w' F2 rb.M d (dayQ lb n)) :
  DP W la lb ra rb n Fa Fb wa wb ma mb A (some d) p Fa' F2 wa' w2 ma' m2 w':=by
 obtain ⟨e1,e2⟩:=h.nb rfl
 subst e1; subst e2
 refine ⟨hT,h.eff.trans hE (fun b hb=> .inl (.inr hb)),h.ga,h.gb.trans hG h.eff.size,fun d' hd=>?_,fun d' hd=>?_,h.na,fun hd=>(by cases hd),fun b hb=>?_⟩
 ·obtain ⟨g1,g2⟩:=h.sa d' hd
  exact ⟨g1,g2.keep hE.size (fun _ h=>h) (fun b hb=>hE.block b (h.two.a.x.lt b hb.1) (h.two.sb b hb.1))⟩
 ·cases hd; exact ⟨hS,hD⟩
 ·obtain ⟨g1,g2,g3,g4,g5,g6⟩:=h.pn b hb
  have nM:¬rb.M b:=fun hm=>g4 (h.two.b.x.sub b hm)
  exact ⟨g1,zH g2 hE.size,g3,fun hf=>(hG.new b hf).elim g4 (fun hl=>by omega),fun i hi=>(hE.cell (p:=⟨b,i,none⟩) g2 nM).trans (g5 i hi),fun i=>(hE.frozen (p:=⟨b,i,none⟩) g2 nM).trans (g6 i)⟩
theorem DP.below (h:DP W la lb ra rb n Fa Fb wa wb ma mb A B p Fa' Fb' wa' wb' ma' mb' w) (hB:Below w.heap.size w w'):DP W la lb ra rb n Fa Fb wa wb ma mb A B p Fa' Fb' wa' wb' ma' mb' w':=by
 refine ⟨h.two.below hB,h.eff.trans (Eff.of_below (O:=fun b=>ra.M b∨rb.M b) hB) (fun b hb=> .inl hb),h.ga,h.gb,fun d' hd=>?_,fun d' hd=>?_,h.na,h.nb,fun b hb=>?_⟩
 ·obtain ⟨g1,g2⟩:=h.sa d' hd
  exact ⟨g1,g2.keep hB.size (fun _ h=>h) (fun b hb=>hB.block b (h.two.a.x.lt b hb.1))⟩
 ·obtain ⟨g1,g2⟩:=h.sb d' hd
  exact ⟨g1,g2.keep hB.size (fun _ h=>h) (fun b hb=>hB.block b (h.two.b.x.lt b hb.1))⟩
 ·obtain ⟨g1,g2,g3,g4,g5,g6⟩:=h.pn b hb
  exact ⟨g1,zH g2 hB.size,g3,g4,fun i hi=>(hB.cell (p:=⟨b,i,none⟩) g2).trans (g5 i hi),fun i=>(hB.frozen (p:=⟨b,i,none⟩) g2).trans (g6 i)⟩
theorem DP.alloc (h:DP W la lb ra rb n Fa Fb wa wb ma mb A B none Fa' Fb' wa' wb' ma' mb' w) (t:TypeId):DP W la lb ra rb n Fa Fb wa wb ma mb A B (some w.heap.size) Fa' Fb' wa' wb' ma' mb' (w.alloc (.cells #[.pointer none, .pointer none] t)):=by
 have hB:=yaa (o:= .cells #[.pointer none, .pointer none] t) (Below.refl w.heap.size w) (zG _)
 have h':=h.below hB
 refine ⟨h'.two,h'.eff,h'.ga,h'.gb,h'.sa,h'.sb,h'.na,h'.nb,fun b hb=>?_⟩
 cases hb
 refine ⟨h.eff.size,by simp,fun hf=>?_,fun hf=>?_,fun i hi=>?_,fun i=>by simp [go_sem]⟩
 ·have:=h.two.a.x.lt _ hf; omega
 ·have:=h.two.b.x.lt _ hf; omega
 ·rcases (show i=0∨i=1 by omega) with rfl | rfl <;> simp [go_sem]
end
def DayM (x fm:Nat) (fv:Value) (pw:Bool→Bool→Bool) (la lb:List Cl) (ra rb:RN) (f0 u0 f1 u1:Int) (Fa Fb:Blk) (wa wb:Nat→Bool) (ma mb:Nat) (days:Int) (n:Int) (W:World) (x6:Value) (W':World):Prop:=
 ∃b6 d e Fa' Fb' wa' wb' ma' mb',x6= .pointer (some ⟨b6,0,none⟩)∧AsS x fm fv pw la lb ra rb f0 u0 f1 u1 Fa' Fb' wa' wb' ma' mb' days W'∧Eff (fun b=>ra.M b∨rb.M b) W W'∧GrF Fa Fa' W∧GrF Fb Fb' W∧ya7 la n wa ma wa' ma'∧ya7 lb n wb mb wb' mb'∧
  DOf W' Fa' ra.M d (dayQ la n)∧DOf W' Fb' rb.M e (dayQ lb n)∧W'.cell? ⟨b6,0,none⟩=some (dptr d)∧W'.cell? ⟨b6,1,none⟩=some (dptr e)∧(∀i,W'.frozen? ⟨b6,i,none⟩=false)∧W.heap.size≤b6∧b6 < W'.heap.size∧¬Fa' b6∧¬Fb' b6
theorem DP.day {W w:World} {la lb:List Cl} {ra rb:RN} {n:Int} {Fa Fb:Blk} {wa wb:Nat→Bool} {ma mb:Nat} {d e:Option Nat} {b6:Nat} {Fa' Fb':Blk} {wa' wb':Nat→Bool} {ma' mb':Nat} {x fm:Nat} {fv:Value} {pw:Bool→Bool→Bool} {f0 u0 f1 u1 days:Int}
  (hA:AsS x fm fv pw la lb ra rb f0 u0 f1 u1 Fa Fb wa wb ma mb days W) (h:DP W la lb ra rb n Fa Fb wa wb ma mb (some d) (some e) (some b6) Fa' Fb' wa' wb' ma' mb' w) :
  DayM x fm fv pw la lb ra rb f0 u0 f1 u1 Fa Fb wa wb ma mb days n W (.pointer (some ⟨b6,0,none⟩)) ((w.setCell ⟨b6,0,none⟩ (dptr d)).setCell ⟨b6,1,none⟩ (dptr e)):=by
 obtain ⟨p1,p2,p3,p4,p5,hz⟩:=h.pn b6 rfl
 obtain ⟨a1,a2⟩:=h.sa d rfl
 obtain ⟨a3,a4⟩:=h.sb e rfl
 have c0:=p5 0 (by omega)
 have c1:=p5 1 (by omega)
 obtain ⟨W',hW'⟩:∃W',(w.setCell ⟨b6,0,none⟩ (dptr d)).setCell ⟨b6,1,none⟩ (dptr e)=W':=⟨_,rfl⟩
 have hs:W'.heap.size=w.heap.size:=by rw [←hW']; simp
 have hb:∀b,b≠b6→W'.heap[b]? =w.heap[b]?:=fun b hn=>by rw [←hW']; exact (Below.heap_setCell _ _ _ _ hn).trans (Below.heap_setCell _ _ _ _ hn)
 have hE:Eff (fun b=>ra.M b∨rb.M b) W W':=by
  have hE1:=h.eff.trans (A:=W) (O':=fun b=>b=b6) (B:=w) (C:=W') (by rw [←hW']; exact Eff.set (O:=fun b=>b=b6) (Eff.set (O:=fun b=>b=b6) (Eff.refl _ _) (b:=b6) rfl 0 _) (b:=b6) rfl 1 _) (fun b hb=> .inr (by omega))
  exact hE1
 have hT:TwoR W' la lb ra rb Fa' Fb' wa' wb' ma' mb':=h.two.keep (by omega) (fun c hc=>hb c (fun e=>hc.elim (fun h1=>p3 (e ▸ h1)) (fun h1=>p4 (e ▸ h1))))
 refine ⟨b6,d,e,Fa',Fb',wa',wb',ma',mb',rfl,?_,?_,h.ga,h.gb,a1,a3,?_,?_,?_,?_,?_,p1,?_,p3,p4⟩
 ·rw [hW']; exact hA.turn hT hE h.ga h.gb
 ·rw [hW']; exact hE
 ·rw [hW']; exact a2.keep (by omega) (fun _ h=>h) (fun b hb'=>hb b (fun e=>p3 (e ▸ hb'.1)))
 ·rw [hW']; exact a4.keep (by omega) (fun _ h=>h) (fun b hb'=>hb b (fun e=>p4 (e ▸ hb'.1)))
 ·simp [go_sem,c0]
 ·simp [go_sem,c1]
 ·intro i; simpa [go_sem] using hz i
 ·rw [hW']; omega
end
end Go.Proofs.YtkpgfmonhfnhdaaGreatDoor
