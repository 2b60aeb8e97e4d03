/-
  What a roll is in memory, and what keeps it one.
  A roll whose maps or cells turn.
-/
import Derived.Test.YtjahgimnfliooaaGreatDoorQ4c1930
import Derived.Test.YtjahgimnfliooaaGreatDoorQ8de03d
import Derived.Test.YtjahgimnfliooaaGreatDoorQ0c6bd3
set_option maxRecDepth 100000
set_option maxHeartbeats 25600000
namespace Go.Proofs.YtjahgimnfliooaaGreatDoor
set_option linter.unusedVariables false
section
open Go.RowKit Go.Maps
/-! ### the seconds of a day of a set -/
def stN (cs:List Cl) (n:Int) (i:Nat):St1:=if i < cs.length then ⟨ya0 (atC cs i) n,sF (atC cs i) n,sU (atC cs i) n,sP (atC cs i) n⟩ else st0
def ydI (cs:List Cl) (x:Nat→St1) (k:Nat):Bool:=(List.range cs.length).any fun i=>secQ (atC cs i) (x i).a (x i).f (x i).u (x i).p k
def yeL (cs:List Cl) (j k:Nat):Bool:=(List.range cs.length).any fun i=>j.testBit i && secQ (atC cs i) true 0 86399 0 k
def yel (cs:List Cl) (n:Int):Bool:=(List.range cs.length).all fun i=>!ya0 (atC cs i) n || decide (sF (atC cs i) n=0∧sU (atC cs i) n=86399∧sP (atC cs i) n=0)
theorem any_range {cs:List Cl} (p:Cl→Bool):((List.range cs.length).any fun i=>p (atC cs i))=cs.any p:=by
 rw [zze,List.any_eq_true,List.any_eq_true]
 constructor
 ·rintro ⟨i,hi,h⟩
  rw [List.mem_range] at hi
  exact ⟨_,zzr hi,by rwa [ycu hi] at h⟩
 ·rintro ⟨c,hc,h⟩
  obtain ⟨i,hi,rfl⟩:=List.getElem_of_mem hc
  exact ⟨i,List.mem_range.2 hi,by rw [ycu hi]; exact h⟩
theorem ybW {n:Nat} {p q:Nat→Bool} (h:∀i,i < n→p i=q i):(List.range n).any p= (List.range n).any q:=by
 rw [zze,List.any_eq_true,List.any_eq_true]
 constructor
 ·rintro ⟨i,hi,hp⟩; exact ⟨i,hi,by rw [←h i (List.mem_range.1 hi)]; exact hp⟩
 ·rintro ⟨i,hi,hp⟩; exact ⟨i,hi,by rw [h i (List.mem_range.1 hi)]; exact hp⟩
theorem yc4 {cs:List Cl} {n:Int} (h0:0≤n) (h1:n < 146097) {k:Nat} (hk:k < 86400):ydI cs (stN cs n) k=dayQ cs n k:=by
 rw [ydI,dayQ,←any_range]
 refine ybW fun i hi=>?_
 rw [stN,if_pos hi]
 exact secQ_has (atC cs i) h0 h1 hk
theorem act_bit {cs:List Cl} {n:Int} (h8:cs.length≤8) {i:Nat} (hi:i < cs.length):(actM cs n).testBit i=ya0 (atC cs i) n:=by
 rw [actM,ybh,zzZ (by omega),zzZ hi,zzo,zzo]
theorem sec_whole {c:Cl} {n:Int} (h:(!ya0 c n || decide (sF c n=0∧sU c n=86399∧sP c n=0))=true) (k:Nat):secQ c (ya0 c n) (sF c n) (sU c n) (sP c n) k= (ya0 c n && secQ c true 0 86399 0 k):=by
 cases hl:ya0 c n
 ·rw [secQ,Bool.false_and,Bool.false_and]
 ·rw [hl] at h
  simp only [Bool.not_true,Bool.false_or,zzY] at h
  obtain ⟨e1,e2,e3⟩:=h
  rw [e1,e2,e3,zzo]
theorem yd7 {cs:List Cl} {n:Int} (h8:cs.length≤8) (hw:yel cs n=true) (k:Nat):ydI cs (stN cs n) k=yeL cs (actM cs n) k:=by
 rw [ydI,yeL]
 refine ybW fun i hi=>?_
 rw [stN,if_pos hi,act_bit h8 hi]
 rw [yel,List.all_eq_true] at hw
 exact sec_whole (hw i (List.mem_range.2 hi)) k
theorem stN_ok {cs:List Cl} {n:Int} (hok:∀c∈cs,c.Ok) (h0:0≤n) (h1:n < 146097) (i:Nat):(stN cs n i).Ok:=by
 rw [stN]
 split
 ·rename_i hi
  rw [ycu hi]
  have hc:=hok _ (zzr hi)
  have z:i64B 0:=⟨by decide,by decide⟩
  rw [sF,sU,sP]
  cases hl:ya0 cs[i] n
  ·exact ⟨z,z,z⟩
  ·obtain ⟨hm,hB,-,g1,g2⟩:=yi5 hl
   have hcs:=ygw hB g1 g2
   obtain ⟨-,hs,-,-⟩:=ycI hm
   have h2:=hc.step.2
   refine ⟨?_,?_,?_⟩
   ·show i64B (stF cs[i] n); rw [stF]; exact ⟨by omega,by omega⟩
   ·show i64B (stU cs[i] n); rw [stU]; exact ⟨by omega,by omega⟩
   ·show i64B (ycH cs[i] n)
    rw [ycH]
    split
    ·have e0:=Int.emod_nonneg (yaM cs[i].unit cs[i].anchor - 86400 * n / yav cs[i].unit) (show cs[i].step≠0 by omega)
     have e1:=Int.emod_lt_of_pos (yaM cs[i].unit cs[i].anchor - 86400 * n / yav cs[i].unit) (show 0 < cs[i].step by omega)
     exact ⟨by omega,by omega⟩
    ·exact z
 ·exact st0_ok
theorem st8_inj {x y:Nat→St1} (h:st8v x=st8v y):∀i,i < 8→x i=y i:=by
 have h:=congrArg (fun v=>match v with | .agg a=>a.toList | _=> []) h
 simp [st8L] at h
 obtain ⟨a0,a1,a2,a3,b0,b1,b2,b3,c0,c1,c2,c3,d0,d1,d2,d3,e0,e1,e2,e3,f0,f1,f2,f3,g0,g1,g2,g3,h0,h1,h2,h3⟩:=h
 intro i hi
 have ext:∀s t:St1,s.a=t.a→s.f=t.f→s.u=t.u→s.p=t.p→s=t:=fun s t p1 p2 p3 p4=>by cases s; cases t; simp at *; exact ⟨p1,p2,p3,p4⟩
 match i,hi with
 | 0,_=>exact ext _ _ a0 a1 a2 a3
 | 1,_=>exact ext _ _ b0 b1 b2 b3
 | 2,_=>exact ext _ _ c0 c1 c2 c3
 | 3,_=>exact ext _ _ d0 d1 d2 d3
 | 4,_=>exact ext _ _ e0 e1 e2 e3
 | 5,_=>exact ext _ _ f0 f1 f2 f3
 | 6,_=>exact ext _ _ g0 g1 g2 g3
 | 7,_=>exact ext _ _ h0 h1 h2 h3
 | n+8,hi=>omega
theorem yfN {cs:List Cl} {x y:Nat→St1} (h8:cs.length≤8) (h:∀i,i < 8→x i=y i) (k:Nat):ydI cs x k=ydI cs y k:=by
 rw [ydI,ydI]
 exact ybW fun i hi=>by rw [h i (by omega)]
theorem st1_inj {s t:St1} (h:s.v=t.v):s=t:=by
 have h:=congrArg (fun v=>match v with | .agg a=>a.toList | _=> []) h
 simp at h
 cases s; cases t; simp at *; exact h
/-! ### a roll in memory -/
def RM (br bk:Nat) (bps:List Nat):Blk:=fun b=>b=br∨b=bk∨b∈bps
def DiF (W:World) (F M:Blk) (b:Nat) (q:Nat→Bool):Prop:=F b∧¬M b∧DiscAt W b q
def SlF (W:World) (F M:Blk) (a:Option Addr) (cells:List Value):Prop:=cells= []∨∃b off,a=some ⟨b,off,none⟩∧F b∧¬M b∧b < W.heap.size∧∀j (h:j < cells.length),W.cell? ⟨b,off+j,none⟩=some cells[j]
theorem SlF.sl {W:World} {F M:Blk} {a:Option Addr} {cells:List Value} (h:SlF W F M a cells):Sl W a cells:=by
 rcases h with h | ⟨b,off,h1,-,-,h2,h3⟩
 ·exact .inl h
 ·exact .inr ⟨b,off,h1,h2,h3⟩
def K8 (v:Value):Prop:=∃x:Nat→St1,v=st8v x∧∀i,i < 8→(x i).Ok
def K1 (v:Value):Prop:=∃s:St1,v=s.v∧s.Ok
theorem yhd (w:World):KeyT Tryz.prog 210 K8 w:=(KeyT.of keyedSt8 w).sub fun v ⟨x,h,hok⟩=>by rw [h]; exact key_st8 x hok
theorem keyT1 (w:World):KeyT Tryz.prog 203 K1 w:=(KeyT.of keyedSt1 w).sub fun v ⟨s,h,hok⟩=>by rw [h]; exact key_st1 s hok
def G8 (cs:List Cl) (W:World) (F M:Blk) (key v:Value):Prop:=∀x,key=st8v x→∃b,v= .pointer (some ⟨b,0,none⟩)∧DiF W F M b (ydI cs x)
def G1 (c:Cl) (W:World) (F M:Blk) (key v:Value):Prop:=∀s:St1,key=s.v→∃b,v= .pointer (some ⟨b,0,none⟩)∧DiF W F M b (secQ c s.a s.f s.u s.p)
structure RollX (W:World) (cs:List Cl) (br bk:Nat) (bps:List Nat) (F:Blk):Prop where
 ok:∀c∈cs,c.Ok
 may:mayL cs=true
 lt:∀b,F b→b < W.heap.size
 sub:∀b,RM br bk bps b→F b
 tab:Tab W∧F 0∧¬RM br bk bps 0
 apart:br≠bk∧br ∉ bps∧bk ∉ bps∧bps.Nodup
 len:bps.length=cs.length
 cls:∃a cap,W.cell? ⟨br,0,none⟩=some (.slice a cs.length cap)∧SlF W F (RM br bk bps) a (cls cs)∧cs.length≤cap∧(a=none→cap=0)
 laps:∃a cap gvs,W.cell? ⟨br,1,none⟩=some (.slice a cs.length cap)∧SlF W F (RM br bk bps) a gvs∧gvs.length=cs.length∧∀i,i < cs.length→∃lo hi,LapV W lo hi (atC cs i) (gvs.getD i undef)∧hi≤W.heap.size∧∀b,lo≤b→b < hi→F b∧¬RM br bk bps b
 known:W.cell? ⟨br,2,none⟩=some (.map (some bk))
 parts:∃a cap,W.cell? ⟨br,3,none⟩=some (.slice a cs.length cap)∧SlF W F (RM br bk bps) a (bps.map fun b=> .map (some b))
 fz:∀i,W.frozen? ⟨br,i,none⟩=false
structure RollS (W:World) (cs:List Cl) (br bk:Nat) (bps:List Nat) (F:Blk) (ws:Nat→Bool) (m:Nat):Prop where
 x:RollX W cs br bk bps F
 known:MapS K8 (G8 cs W F (RM br bk bps)) W bk 256
 parts:∀i,i < cs.length→MapS K1 (G1 (atC cs i) W F (RM br bk bps)) W (bps.getD i 0) 256
 whole:∀j,j < 256→∃d:Option Nat,W.cell? ⟨br,4+j,none⟩=some (dptr d)∧d.isSome=ws j∧∀b,d=some b→DiF W F (RM br bk bps) b (yeL cs j)
 many:W.cell? ⟨br,260,none⟩=some (.int .i64 (m:Nat))
section
variable {W W':World} {cs:List Cl} {br bk:Nat} {bps:List Nat} {F F' M:Blk} {ws:Nat→Bool} {m:Nat}
theorem DiF.eff {b:Nat} {q:Nat→Bool} (h:DiF W F M b q) (hE:Eff M W W') (hF:∀b,F b→F' b):DiF W' F' M b q:=⟨hF b h.1,h.2.1,h.2.2.eff hE h.2.1⟩
theorem SlF.eff {a:Option Addr} {cells:List Value} (h:SlF W F M a cells) (hE:Eff M W W') (hF:∀b,F b→F' b):SlF W' F' M a cells:=by
 rcases h with h | ⟨b,off,h1,h2,h3,h4,h5⟩
 ·exact .inl h
 ·exact .inr ⟨b,off,h1,hF b h2,h3,zH h4 hE.size,fun j hj=>(hE.cell (p:=⟨b,off+j,none⟩) h4 h3).trans (h5 j hj)⟩
theorem G8.eff {key v:Value} (h:G8 cs W F M key v) (hE:Eff M W W') (hF:∀b,F b→F' b):G8 cs W' F' M key v:=fun x hx=>by
 obtain ⟨b,h1,h2⟩:=h x hx
 exact ⟨b,h1,h2.eff hE hF⟩
theorem G1.eff {c:Cl} {key v:Value} (h:G1 c W F M key v) (hE:Eff M W W') (hF:∀b,F b→F' b):G1 c W' F' M key v:=fun x hx=>by
 obtain ⟨b,h1,h2⟩:=h x hx
 exact ⟨b,h1,h2.eff hE hF⟩
theorem RollX.eff (h:RollX W cs br bk bps F) (hE:Eff (RM br bk bps) W W') (hF:∀b,F b→F' b) (hlt:∀b,F' b→b < W'.heap.size)
  (hc:∀i,i < 4→W'.cell? ⟨br,i,none⟩=W.cell? ⟨br,i,none⟩) (hf:∀i,W'.frozen? ⟨br,i,none⟩=W.frozen? ⟨br,i,none⟩):RollX W' cs br bk bps F':=by
 obtain ⟨a0,c0,k0,s0,t0,t1⟩:=h.cls
 obtain ⟨a1,c1,gvs,k1,s1,l1,v1⟩:=h.laps
 obtain ⟨a3,c3,k3,s3⟩:=h.parts
 exact ⟨h.ok,h.may,hlt,fun b hb=>hF b (h.sub b hb),⟨h.tab.1.eff hE h.tab.2.2,hF _ h.tab.2.1,h.tab.2.2⟩,h.apart,h.len,⟨a0,c0,(hc 0 (by omega)).trans k0,s0.eff hE hF,t0,t1⟩,
  ⟨a1,c1,gvs,(hc 1 (by omega)).trans k1,s1.eff hE hF,l1,fun i hi=>by
   obtain ⟨lo,hi',hv,hs,hb⟩:=v1 i hi
   exact ⟨lo,hi',hv.keep (zI hs hE.size) (fun b g1 g2=>hE.block b (by omega) (hb b g1 g2).2),zI hs hE.size,fun b g1 g2=>⟨hF b (hb b g1 g2).1,(hb b g1 g2).2⟩⟩⟩,
  (hc 2 (by omega)).trans h.known,⟨a3,c3,(hc 3 (by omega)).trans k3,s3.eff hE hF⟩,fun i=>(hf i).trans (h.fz i)⟩
theorem RollS.rlt (h:RollS W cs br bk bps F ws m):br < W.heap.size:=h.x.lt br (h.x.sub br (.inl rfl))
theorem RollS.keep (h:RollS W cs br bk bps F ws m) (hs:W.heap.size≤W'.heap.size) (hb:∀b,F b→W'.heap[b]? =W.heap[b]?):RollS W' cs br bk bps F ws m:=by
 have hbr:=hb br (h.x.sub br (.inl rfl))
 have cb:∀i,W'.cell? ⟨br,i,none⟩=W.cell? ⟨br,i,none⟩:=fun i=>zzJ (w:=W) (a:=⟨br,i,none⟩) hbr
 have fb:∀i,W'.frozen? ⟨br,i,none⟩=W.frozen? ⟨br,i,none⟩:=fun i=>zzM (w:=W) (a:=⟨br,i,none⟩) hbr
 have sl:∀a cells,SlF W F (RM br bk bps) a cells→SlF W' F (RM br bk bps) a cells:=fun a cells h=>by
  rcases h with h | ⟨b,off,h1,h2,h3,h4,h5⟩
  ·exact .inl h
  ·exact .inr ⟨b,off,h1,h2,h3,zH h4 hs,fun j hj=>(zzJ (w:=W) (a:=⟨b,off+j,none⟩) (hb b h2)).trans (h5 j hj)⟩
 have di:∀b q,DiF W F (RM br bk bps) b q→DiF W' F (RM br bk bps) b q:=fun b q h=>⟨h.1,h.2.1,h.2.2.block hs (hb b h.1)⟩
 obtain ⟨a0,c0,k0,s0,t0,t1⟩:=h.x.cls
 obtain ⟨a1,c1,gvs,k1,s1,l1,v1⟩:=h.x.laps
 obtain ⟨a3,c3,k3,s3⟩:=h.x.parts
 refine ⟨⟨h.x.ok,h.x.may,fun b hF=>zH (h.x.lt b hF) hs,h.x.sub,⟨⟨zH h.x.tab.1.1 hs,fun i hi=>(zzJ (w:=W) (a:=⟨0,i,none⟩) (hb _ h.x.tab.2.1)).trans (h.x.tab.1.2 i hi)⟩,h.x.tab.2⟩,h.x.apart,h.x.len,
  ⟨a0,c0,(cb 0).trans k0,sl _ _ s0,t0,t1⟩,⟨a1,c1,gvs,(cb 1).trans k1,sl _ _ s1,l1,fun i hi=>by
   obtain ⟨lo,hi',hv,hs',hb'⟩:=v1 i hi
   exact ⟨lo,hi',hv.keep (zI hs' hs) (fun b g1 g2=>hb b (hb' b g1 g2).1),zI hs' hs,hb'⟩⟩,(cb 2).trans h.x.known,⟨a3,c3,(cb 3).trans k3,sl _ _ s3⟩,fun i=>(fb i).trans (h.x.fz i)⟩,
  (h.known.keep (hb bk (h.x.sub bk (.inr (.inl rfl))))).mono (zG _) (fun _ h=>h) (fun key v g x hx=>by obtain ⟨b,g1,g2⟩:=g x hx; exact ⟨b,g1,di _ _ g2⟩),
  fun i hi=>((h.parts i hi).keep (hb _ (h.x.sub _ (.inr (.inr ?_))))).mono (zG _) (fun _ h=>h) (fun key v g x hx=>by obtain ⟨b,g1,g2⟩:=g x hx; exact ⟨b,g1,di _ _ g2⟩),
  fun j hj=>by obtain ⟨d,g1,g2,g3⟩:=h.whole j hj; exact ⟨d,(cb _).trans g1,g2,fun b hb'=>di _ _ (g3 b hb')⟩,(cb 260).trans h.many⟩
 rw [List.getD_eq_getElem?_getD,zzp (by rw [h.x.len]; exact hi)]
 exact zzr _
theorem RollS.below (h:RollS W cs br bk bps F ws m) (hb:Below W.heap.size W W'):RollS W' cs br bk bps F ws m:=h.keep hb.size (fun b hF=>hb.block b (h.x.lt b hF))
theorem RollS.wide (h:RollS W cs br bk bps F ws m) (hF:∀b,F b→F' b) (hlt:∀b,F' b→b < W.heap.size):RollS W cs br bk bps F' ws m:=by
 have hE:=Eff.refl (RM br bk bps) W
 exact ⟨h.x.eff hE hF hlt (fun _ _=>rfl) (fun _=>rfl),h.known.mono (zG _) (fun _ h=>h) (fun _ _ g=>g.eff hE hF),fun i hi=>(h.parts i hi).mono (zG _) (fun _ h=>h) (fun _ _ g=>g.eff hE hF),
  fun j hj=>by obtain ⟨d,g1,g2,g3⟩:=h.whole j hj; exact ⟨d,g1,g2,fun b hb=>(g3 b hb).eff hE hF⟩,h.many⟩
end
end
section
open Go.RowKit Go.Maps
section
variable {W W':World} {cs:List Cl} {br bk:Nat} {bps:List Nat} {F:Blk} {ws:Nat→Bool} {m:Nat}
theorem Eff.of_grown {M:Blk} {b:Nat} (hg:W.grownBy W' (some b)) (hM:M b):Eff M W W':=
 ⟨hg.os,hg.tape,hg.output,hg.size,fun k hk hn=>hg.block k hk (fun e=>hn (by cases e; exact hM))⟩
theorem ydt {i:Nat} (hi:i < bps.length):bps.getD i 0∈bps:=by
 rw [List.getD_eq_getElem?_getD,zzp hi]
 exact zzr hi
theorem bps_ne {i j:Nat} (hn:bps.Nodup) (hi:i < bps.length) (hj:j < bps.length) (h:j≠i):bps.getD j 0≠bps.getD i 0:=by
 rw [List.getD_eq_getElem?_getD,List.getD_eq_getElem?_getD,zzp hi,zzp hj]
 exact fun e=>h ((List.getElem_inj hn).1 e)
theorem RollS.mem (h:RollS W cs br bk bps F ws m) {i:Nat} (hi:i < cs.length):RM br bk bps (bps.getD i 0):= .inr (.inr (ydt (by rw [h.x.len]; exact hi)))
theorem RollS.turn (h:RollS W cs br bk bps F ws m) (hE:Eff (RM br bk bps) W W') (hbr:W'.heap[br]? =W.heap[br]?) (hK:MapS K8 (G8 cs W' F (RM br bk bps)) W' bk 256)
  (hP:∀i,i < cs.length→MapS K1 (G1 (atC cs i) W' F (RM br bk bps)) W' (bps.getD i 0) 256):RollS W' cs br bk bps F ws m:=by
 have cb:∀i,W'.cell? ⟨br,i,none⟩=W.cell? ⟨br,i,none⟩:=fun i=>zzJ (w:=W) (a:=⟨br,i,none⟩) hbr
 have fb:∀i,W'.frozen? ⟨br,i,none⟩=W.frozen? ⟨br,i,none⟩:=fun i=>zzM (w:=W) (a:=⟨br,i,none⟩) hbr
 exact ⟨h.x.eff hE (fun _ h=>h) (fun b hb=>zH (h.x.lt b hb) hE.size) (fun i _=>cb i) fb,hK,hP,
  fun j hj=>by obtain ⟨d,g1,g2,g3⟩:=h.whole j hj; exact ⟨d,(cb _).trans g1,g2,fun b hb=>(g3 b hb).eff hE (fun _ h=>h)⟩,(cb 260).trans h.many⟩
theorem RollS.mapPart (h:RollS W cs br bk bps F ws m) {i:Nat} (hi:i < cs.length) (hg:W.grownBy W' (some (bps.getD i 0))) (hM:MapS K1 (G1 (atC cs i) W F (RM br bk bps)) W' (bps.getD i 0) 256):RollS W' cs br bk bps F ws m:=by
 have hm:=h.mem hi
 have hE:=Eff.of_grown hg hm
 have hl:∀{k},k < cs.length→k < bps.length:=fun hk=>by rw [h.x.len]; exact hk
 obtain ⟨a1,a2,a3,a4⟩:=h.x.apart
 have hb:=ydt (hl hi)
 have e1:=hg.block br h.rlt (fun e=>a2 (by rw [Option.some.inj e]; exact hb))
 have e2:=hg.block bk h.known.lt (fun e=>a3 (by rw [Option.some.inj e]; exact hb))
 refine h.turn hE e1 ((h.known.keep e2).mono (zG _) (fun _ h=>h) (fun _ _ g=>g.eff hE (fun _ h=>h))) (fun j hj=>?_)
 by_cases hji:j=i
 ·subst hji
  exact hM.mono (zG _) (fun _ h=>h) (fun _ _ g=>g.eff hE (fun _ h=>h))
 ·exact ((h.parts j hj).keep (hg.block _ (h.parts j hj).lt (fun e=>bps_ne a4 (hl hi) (hl hj) hji (Option.some.inj e)))).mono (zG _) (fun _ h=>h) (fun _ _ g=>g.eff hE (fun _ h=>h))
theorem RollS.mapKnown (h:RollS W cs br bk bps F ws m) (hg:W.grownBy W' (some bk)) (hM:MapS K8 (G8 cs W F (RM br bk bps)) W' bk 256):RollS W' cs br bk bps F ws m:=by
 have hE:=Eff.of_grown (M:=RM br bk bps) hg (.inr (.inl rfl))
 obtain ⟨a1,a2,a3,a4⟩:=h.x.apart
 refine h.turn hE (hg.block br h.rlt (fun e=>a1 (Option.some.inj e))) (hM.mono (zG _) (fun _ h=>h) (fun _ _ g=>g.eff hE (fun _ h=>h))) (fun j hj=>?_)
 exact ((h.parts j hj).keep (hg.block _ (h.parts j hj).lt (fun e=>a3 (by rw [←Option.some.inj e]; exact ydt (by rw [h.x.len]; exact hj))))).mono (zG _) (fun _ h=>h) (fun _ _ g=>g.eff hE (fun _ h=>h))
theorem RollS.cells {ws':Nat→Bool} {m':Nat} (h:RollS W cs br bk bps F ws m) (hE:Eff (fun b=>b=br) W W') (hc:∀i,i < 4→W'.cell? ⟨br,i,none⟩=W.cell? ⟨br,i,none⟩) (hf:∀i,W'.frozen? ⟨br,i,none⟩=W.frozen? ⟨br,i,none⟩)
  (hw:∀j,j < 256→∃d:Option Nat,W'.cell? ⟨br,4+j,none⟩=some (dptr d)∧d.isSome=ws' j∧∀b,d=some b→DiF W F (RM br bk bps) b (yeL cs j)) (hm:W'.cell? ⟨br,260,none⟩=some (.int .i64 (m':Nat))):RollS W' cs br bk bps F ws' m':=by
 have hE':Eff (RM br bk bps) W W':=hE.wide fun b hb=> .inl hb
 obtain ⟨a1,a2,a3,a4⟩:=h.x.apart
 have id':∀b,F b→F b:=fun _ h=>h
 exact ⟨h.x.eff hE' id' (fun b hb=>zH (h.x.lt b hb) hE.size) hc hf,(h.known.keep (hE.block bk h.known.lt (fun e=>a1 e.symm))).mono (zG _) (fun _ h=>h) (fun _ _ g=>g.eff hE' id'),
  fun j hj=>((h.parts j hj).keep (hE.block _ (h.parts j hj).lt (fun e=>a2 (by rw [←e]; exact ydt (by rw [h.x.len]; exact hj))))).mono (zG _) (fun _ h=>h) (fun _ _ g=>g.eff hE' id'),
  fun j hj=>by obtain ⟨d,g1,g2,g3⟩:=hw j hj; exact ⟨d,g1,g2,fun b hb=>(g3 b hb).eff hE' id'⟩,hm⟩
theorem RollS.setWhole (h:RollS W cs br bk bps F ws m) {j b:Nat} (hj:j < 256) (hd:DiF W F (RM br bk bps) b (yeL cs j)):RollS (W.setCell ⟨br,4+j,none⟩ (.pointer (some ⟨b,0,none⟩))) cs br bk bps F (fun i=>ws i || decide (i=j)) m:=by
 refine h.cells ((Eff.refl (fun b=>b=br) W).set rfl _ _) (fun i hi=>?_) (fun i=>?_) (fun i hi=>?_) ?_
 ·simp [go_sem]
 ·simp [go_sem]
 ·obtain ⟨d,g1,g2,g3⟩:=h.whole i hi
  by_cases e:i=j
  ·subst e
   exact ⟨some b,by simp [go_sem,g1,dptr],by simp,fun b' hb'=>by cases hb'; exact hd⟩
  ·exact ⟨d,by simp [go_sem,g1],by simp [g2,e],g3⟩
 ·simp [go_sem,h.many]
theorem RollS.setMany (h:RollS W cs br bk bps F ws m) (m':Nat):RollS (W.setCell ⟨br,260,none⟩ (.int .i64 (m':Nat))) cs br bk bps F ws m':=by
 refine h.cells ((Eff.refl (fun b=>b=br) W).set rfl _ _) (fun i hi=>?_) (fun i=>?_) (fun i hi=>?_) ?_
 ·simp [go_sem]
 ·simp [go_sem]
 ·obtain ⟨d,g1,g2,g3⟩:=h.whole i hi
  exact ⟨d,by simp [go_sem,g1],g2,g3⟩
 ·simp [go_sem,h.many]
end
end
end Go.Proofs.YtjahgimnfliooaaGreatDoor
