/-
  tally.Count: how many instants of a set are between two instants.
-/
import Derived.Test.YtjahgimnfliooaaGreatDoorQ55f9e3
import Derived.Test.YtjahgimnfliooaaGreatDoorQf95c27
import Derived.BigRegion
set_option maxRecDepth 100000
set_option maxHeartbeats 25600000
namespace Go.Proofs.YtjahgimnfliooaaGreatDoor
open Go.RowKit Go.Maps
set_option linter.unusedVariables false
attribute [local go_sem] Oper.semAt_some
def countP (l:List Cl) (f u:Int):Int × Int:=if yaj l≠0 then (0,yaj l) else (((cntT l f u:Nat):Int),0)
structure CtC (b0 c0 s0:Nat) (f u s:Int) (c:Option Nat) (m:Int) (O:Blk) (W:World):Prop where
 cf:W.cell? ⟨b0,0,none⟩=some (.int .i64 f)
 cu:W.cell? ⟨b0+1,0,none⟩=some (.int .i64 u)
 k:CntC c0 c m W
 cs:W.cell? ⟨s0,0,none⟩=some (.int .i64 s)
 co:W.cell? ⟨s0+1,0,none⟩=some (cntV c0)
 fs:W.frozen? ⟨s0,0,none⟩=false
 o0:O b0
 o1:O (b0+1)
 p0:O c0
 p1:O (c0+1)
 p2:O s0
 p3:O (s0+1)
 lt:∀b,O b→b < W.heap.size
 ne:b0+1 < c0
 nf:c0+1 < s0
theorem CtC.keep {b0 c0 s0:Nat} {f u s:Int} {c:Option Nat} {m:Int} {O:Blk} {W W':World} (h:CtC b0 c0 s0 f u s c m O W) (hs:W.heap.size≤W'.heap.size) (hb:∀c,O c→W'.heap[c]? =W.heap[c]?):CtC b0 c0 s0 f u s c m O W':=
 ⟨(zzJ (w:=W) (a:=⟨b0,0,none⟩) (hb _ h.o0)).trans h.cf,(zzJ (w:=W) (a:=⟨b0+1,0,none⟩) (hb _ h.o1)).trans h.cu,
  h.k.block hs (hb _ h.p0) (hb _ h.p1),(zzJ (w:=W) (a:=⟨s0,0,none⟩) (hb _ h.p2)).trans h.cs,(zzJ (w:=W) (a:=⟨s0+1,0,none⟩) (hb _ h.p3)).trans h.co,
  (zzM (w:=W) (a:=⟨s0,0,none⟩) (hb _ h.p2)).trans h.fs,h.o0,h.o1,h.p0,h.p1,h.p2,h.p3,fun c hc=>zH (h.lt c hc) hs,h.ne,h.nf⟩
theorem CtC.cnt {b0 c0 s0:Nat} {f u s:Int} {c c':Option Nat} {m m':Int} {O:Blk} {W W':World} (h:CtC b0 c0 s0 f u s c m O W) (hE:Eff (fun b=>b=c0∨b=c0+1) W W') (hk:CntC c0 c' m' W'):CtC b0 c0 s0 f u s c' m' O W':=by
 obtain ⟨h1,h2,h3,h4,h5,h6,o0,o1,p0,p1,p2,p3,lt,ne,nf⟩:=h
 exact ⟨(hE.cell (p:=⟨b0,0,none⟩) (lt _ o0) (by show¬(b0=c0∨b0=c0+1); omega)).trans h1,(hE.cell (p:=⟨b0+1,0,none⟩) (lt _ o1) (by show¬(b0+1=c0∨b0+1=c0+1); omega)).trans h2,hk,
  (hE.cell (p:=⟨s0,0,none⟩) (lt _ p2) (by show¬(s0=c0∨s0=c0+1); omega)).trans h4,(hE.cell (p:=⟨s0+1,0,none⟩) (lt _ p3) (by show¬(s0+1=c0∨s0+1=c0+1); omega)).trans h5,
  (hE.frozen (p:=⟨s0,0,none⟩) (lt _ p2) (by show¬(s0=c0∨s0=c0+1); omega)).trans h6,o0,o1,p0,p1,p2,p3,fun b hb=>zH (lt b hb) hE.size,ne,nf⟩
theorem CtC.sum {b0 c0 s0:Nat} {f u s s':Int} {c:Option Nat} {m:Int} {O:Blk} {W:World} (h:CtC b0 c0 s0 f u s c m O W):CtC b0 c0 s0 f u s' c m O (W.setCell ⟨s0,0,none⟩ (.int .i64 s')):=by
 obtain ⟨h1,h2,h3,h4,h5,h6,o0,o1,p0,p1,p2,p3,lt,ne,nf⟩:=h
 have hb:∀b,b≠s0→(W.setCell ⟨s0,0,none⟩ (.int .i64 s')).heap[b]? =W.heap[b]?:=fun b hb=>Below.heap_setCell _ _ _ _ hb
 exact ⟨(zzJ (w:=W) (a:=⟨b0,0,none⟩) (hb _ (by simp only []; omega))).trans h1,(zzJ (w:=W) (a:=⟨b0+1,0,none⟩) (hb _ (by simp only []; omega))).trans h2,h3.block (by simp) (hb _ (by omega)) (hb _ (by omega)),
  by simp [go_sem,h4],(zzJ (w:=W) (a:=⟨s0+1,0,none⟩) (hb _ (by simp only []; omega))).trans h5,by simp [go_sem,h6],o0,o1,p0,p1,p2,p3,fun b hb=>by simpa using lt b hb,ne,nf⟩
def CtI (cs:List Cl) (M:Blk) (ds:List Int) (b0 c0 s0:Nat) (f u:Int):OwnF:=fun k O F W=>∃c m,CtC b0 c0 s0 f u ((cntI cs f u ds k:Nat):Int) c m O W∧Knows c m M F W
def CtX:Code→OwnF:=fun _ _ _ _ _=>False
theorem ygz (cs:List Cl) (M:Blk) (ds:List Int) (b0 c0 s0:Nat) (f u:Int):StabF M (CtI cs M ds b0 c0 s0 f u):=fun k O F F' W W' ⟨c,m,h1,h2⟩ hs hF hO=>⟨c,m,h1.keep hs (fun c hc=>hO c (.inl hc)),h2.keep hs hF (fun b hb=>hO b (.inr hb))⟩
theorem ctX_stab (M:Blk) (c:Code):StabF M (CtX c):=fun k O F F' W W' h _ _ _=>h.elim
theorem ctI_lt (cs:List Cl) (M:Blk) (ds:List Int) (b0 c0 s0:Nat) (f u:Int):LtF (CtI cs M ds b0 c0 s0 f u):=fun k O F W ⟨_,_,h,_⟩=>h.lt
theorem ctX_lt (c:Code):LtF (CtX c):=fun k O F W h=>h.elim
structure BndW (b0:Nat) (f u:Int) (W W':World):Prop where
 cf:W'.cell? ⟨b0,0,none⟩=some (.int .i64 f)
 cu:W'.cell? ⟨b0+1,0,none⟩=some (.int .i64 u)
 ef:Eff (fun b=>b=b0∨b=b0+1) W W'
def CtT (h0 h1 h2 h3 h4 h5 h6 h7 h8 h9 h10 h11 h12 h13:Value) (ds:List Deferred) (a:Act):Prop:=∃V:Nat→Value,a= {tmps:=#[h0,h1,h2,h3,h4,h5,h6,h7,h8,h9,h10,h11,h12,h13,V 14,V 15,V 16,V 17,V 18,V 19,V 20,V 21,V 22,V 23,V 24,V 25,V 26,V 27,V 28,V 29,V 30,V 31,V 32,V 33,V 34,V 35,V 36,V 37,V 38,V 39,V 40,V 41,V 42,V 43,V 44,V 45,V 46,V 47,V 48,V 49,V 50,V 51,V 52,V 53,V 54,V 55,V 56,V 57,V 58,V 59,V 60,V 61,V 62,V 63,V 64,V 65,V 66,V 67,V 68,V 69],defers:=ds}
theorem CtT.of {h0 h1 h2 h3 h4 h5 h6 h7 h8 h9 h10 h11 h12 h13 u14 u15 u16 u17 u18 u19 u20 u21 u22 u23 u24 u25 u26 u27 u28 u29 u30 u31 u32 u33 u34 u35 u36 u37 u38 u39 u40 u41 u42 u43 u44 u45 u46 u47 u48 u49 u50 u51 u52 u53 u54 u55 u56 u57 u58 u59 u60 u61 u62 u63 u64 u65 u66 u67 u68 u69:Value} {ds:List Deferred}:CtT h0 h1 h2 h3 h4 h5 h6 h7 h8 h9 h10 h11 h12 h13 ds {tmps:=#[h0,h1,h2,h3,h4,h5,h6,h7,h8,h9,h10,h11,h12,h13,u14,u15,u16,u17,u18,u19,u20,u21,u22,u23,u24,u25,u26,u27,u28,u29,u30,u31,u32,u33,u34,u35,u36,u37,u38,u39,u40,u41,u42,u43,u44,u45,u46,u47,u48,u49,u50,u51,u52,u53,u54,u55,u56,u57,u58,u59,u60,u61,u62,u63,u64,u65,u66,u67,u68,u69],defers:=ds}:=⟨fun i=>(#[u14,u15,u16,u17,u18,u19,u20,u21,u22,u23,u24,u25,u26,u27,u28,u29,u30,u31,u32,u33,u34,u35,u36,u37,u38,u39,u40,u41,u42,u43,u44,u45,u46,u47,u48,u49,u50,u51,u52,u53,u54,u55,u56,u57,u58,u59,u60,u61,u62,u63,u64,u65,u66,u67,u68,u69]:Array Value).getD (#[0,0,0,0,0,0,0,0,0,0,0,0,0,0,0,1,2,3,4,5,6,7,8,9,10,11,12,13,14,15,16,17,18,19,20,21,22,23,24,25,26,27,28,29,30,31,32,33,34,35,36,37,38,39,40,41,42,43,44,45,46,47,48,49,50,51,52,53,54,55].getD i 0) undef,rfl⟩
theorem yfs (a:Option Addr) (cap:Nat) (l:List Cl) (f u:Int) (w:World) (hl:l.length≤9223372036854775807) (hlc:l.length≤cap) (hs:Sl w a (cls l)) (hno:a=none→cap=0) (hok:∀c∈l,c.Ok) (hT:Tab w) :
  Calls Tryz.prog 18 #[.slice a l.length cap, .int .i64 f, .int .i64 u] w fun e w'=>e= .returned (.tuple #[.int .i64 (countP l f u).1, .int .i64 (countP l f u).2])∧Below w.heap.size w w':=by
 obtain ⟨W1,hW1⟩:∃W1,(w.alloc (.cells #[.int .i64 f] 2)).alloc (.cells #[.int .i64 u] 2)=W1:=⟨_,rfl⟩
 have hB1:Below w.heap.size w W1:=by rw [←hW1]; exact yaa (yaa (Below.refl _ _) (zG _)) (by simp)
 have s1:W1.heap.size=w.heap.size+2:=by rw [←hW1]; simp
 have k4:W1.cell? ⟨w.heap.size,0,none⟩=some (.int .i64 f):=by rw [←hW1]; simp [go_sem]
 have k5:W1.cell? ⟨w.heap.size+1,0,none⟩=some (.int .i64 u):=by rw [←hW1]; simp [go_sem]
 have z4:W1.frozen? ⟨w.heap.size,0,none⟩=false:=by rw [←hW1]; simp [go_sem]
 have z5:W1.frozen? ⟨w.heap.size+1,0,none⟩=false:=by rw [←hW1]; simp [go_sem]
 have cN:=hid (ydV a cap l W1 hl hlc (hs.below hB1) hno hok (hT.later hB1))
 have hP:Hid (countP l f u=if yaj l≠0 then (0,yaj l) else (((cntT l (max f 0) (min u 12622780799):Nat):Int),0)):=by show _ = _; rw [countP,cntT_win]
 obtain ⟨pr,hpr⟩:∃x,countP l f u=x:=⟨_,rfl⟩
 rw [hpr] at hP⊢
 have HB1:=hid hB1
 have HW1:=hid hW1
 have S1:=hid s1
 have Ht0:Hid (0 < w.heap.size):=hT.1
 have HTw:=hid hT
 clear hW1 hB1 hs hok hT s1 hno hlc hpr
 refine (wf_calls (r:=none) (n:=1)).mp ?_
 refine callsIn_of_wp_marks Tryz.func18 rfl trivial ?_ rfl
 simp only [Tryz.ntmps18,List.size_toArray,List.length_cons,List.length_nil,Nat.reduceAdd,Nat.reduceSub,Array.replicate_succ,Array.replicate_zero,List.push_toArray,List.append_toArray,List.nil_append,List.cons_append]
 gi_wp2_with fail
 rw [HW1.out]
 refine (wf_calls.mpr cN.out).mono ?_
 rintro e w2 ⟨hN,hB2⟩
 have hB02:=hid (HB1.out.trans (hB2.mono HB1.out.size))
 have S2:Hid (w.heap.size+2≤w2.heap.size):=by have:=hB2.size; have:=S1.out; show _≤_; omega
 have k42:=(hB2.cell (p:=⟨w.heap.size,0,none⟩) (by have:=S1.out; simp only []; omega)).trans k4
 have k52:=(hB2.cell (p:=⟨w.heap.size+1,0,none⟩) (by have:=S1.out; simp only []; omega)).trans k5
 have z42:=(hB2.frozen (p:=⟨w.heap.size,0,none⟩) (by have:=S1.out; simp only []; omega)).trans z4
 have z52:=(hB2.frozen (p:=⟨w.heap.size+1,0,none⟩) (by have:=S1.out; simp only []; omega)).trans z5
 clear k4 k5 z4 z5
 have hN2:∃rp,e= .returned (.tuple #[.pointer rp, .int .i64 (yaj l)]):=by
  rcases hN with ⟨hf,h⟩ | ⟨hf,br,bk,bps,h,-⟩
  ·exact ⟨_,h⟩
  ·exact ⟨_,by rw [hf]; exact h⟩
 obtain ⟨rp,rfl⟩:=hN2
 have HN:=hid hN
 have HB12:=hid hB2
 obtain ⟨X,hX⟩:∃X,yaj l=X:=⟨_,rfl⟩
 rw [hX] at hP
 rw [hX]
 have HX:=hid hX
 clear hN hB2 hX cN
 gi_upto_region 2 with fail
 gi_cut [] from 20 (fun wx=>BndW w.heap.size (max f 0) (min u 12622780799) w2 wx)
 case first=>
  refine wf_wp.mpr ?_
  go_region
  all_goals (try go_wp2)
  all_goals
   gi_meet
   refine ⟨?_,?_,(((Eff.refl _ w2).set (.inl rfl) _ _).set (.inr rfl) _ _).drew⟩ <;> ((simp [go_sem,k42,k52]); (try omega))
 case rest=>
  obtain ⟨F,hF⟩:∃F,max f 0=F:=⟨_,rfl⟩
  obtain ⟨U,hU⟩:∃U,min u 12622780799=U:=⟨_,rfl⟩
  rw [hF,hU] at hcut hP
  have F0:0≤F:=by omega
  have U1:U≤12622780799:=by omega
  have HBc:Hid (Below w.heap.size w wc):=hB02.out.trans (hcut.ef.below (fun b hb=>by omega) hB02.out.size)
  have Szc:Hid (w2.heap.size≤wc.heap.size):=hcut.ef.size
  have kf:=hcut.cf
  have ku:=hcut.cu
  have Hcut:=hid hcut
  have hHP:=hid hP
  clear hF hU hcut hP k42 k52 z42 z52
  rcases HN.out with ⟨hf,he⟩ | ⟨hf,br,bk,bps,he,hR,hM⟩
  ·have hX0:X≠0:=by rw [←HX.out]; exact hf
   have e0:(X == 0)=false:=by simpa using hX0
   have e1:(X != 0)=true:=by simpa using hX0
   have hpr:Hid (pr= (0,X)):=by show _ = _; rw [hHP.out,if_pos hX0]
   clear he hf
   gi_wp2
   refine ⟨.tuple #[.int .i64 0, .int .i64 X],?_,by rw [hpr.out],HBc.out⟩
   simp [results,Tryz.results18,go_sem]
  ·have hX0:X=0:=by rw [←HX.out]; exact hf
   have he2:rp=some ⟨br,0,none⟩:=by
    injection he with he; injection he with he
    have:=congrArg (fun a=>a.getD 0 undef) he
    simpa using this
   subst hX0 he2
   have HR:=hid hR
   have HM:=hid hM
   clear he hf hR hM
   by_cases hfu:U < F
   ·have e1:decide (U < F)=true:=zzZ hfu
    have hpr:Hid (pr= (0,0)):=by show _ = _; rw [hHP.out,if_neg (by simp),cntT_nil _ hfu]; rfl
    clear hfu
    gi_wp2
    refine ⟨.tuple #[.int .i64 0, .int .i64 0],?_,by rw [hpr.out],HBc.out⟩
    simp [results,Tryz.results18,go_sem]
   ·have e1:decide (U < F)=false:=zzd hfu
    have hFU:F≤U:=by omega
    have hpr:Hid (pr= (((cntT l F U:Nat):Int),0)):=by show _ = _; rw [hHP.out,if_neg (by simp)]
    have cC:=hid (yfr wc)
    clear hfu
    gi_wp2_with fail
    refine (wf_calls.mpr cC.out).mono ?_
    rintro e w3 ⟨rfl,hw3⟩
    gi_upto_region 6 with fail
    obtain ⟨W5,hW5⟩:∃W5,(((wc.alloc (.cells #[.pointer none] 105)).alloc (.cells #[.int .i64 0] 2)).alloc (.cells #[.int .i64 0] 2)).alloc (.cells #[cntV wc.heap.size] 100)=W5:=⟨_,rfl⟩
    have hB5:Below wc.heap.size wc W5:=by rw [←hW5]; exact yaa (yaa (yaa (yaa (Below.refl _ _) (zG _)) (by simp)) (by simp; omega)) (by simp; omega)
    have s5:W5.heap.size=wc.heap.size+4:=by rw [←hW5]; simp
    have hC5:CtC w.heap.size wc.heap.size (wc.heap.size+1+1) F U 0 none 0 (fun b=>b=w.heap.size∨b=w.heap.size+1∨b=wc.heap.size∨b=wc.heap.size+1∨b=wc.heap.size+1+1∨b=wc.heap.size+1+1+1) W5:=by
     have hs2:=S2.out
     have hsz:=Szc.out
     refine ⟨(hB5.cell (p:=⟨w.heap.size,0,none⟩) (by simp only []; omega)).trans kf,(hB5.cell (p:=⟨w.heap.size+1,0,none⟩) (by simp only []; omega)).trans ku,⟨?_,?_,?_,?_,by omega⟩,?_,?_,?_, .inl rfl, .inr (.inl rfl), .inr (.inr (.inl rfl)), .inr (.inr (.inr (.inl rfl))), .inr (.inr (.inr (.inr (.inl rfl)))), .inr (.inr (.inr (.inr (.inr rfl)))),fun b hb=>by omega,by omega,by omega⟩
     all_goals (rw [←hW5]; simp [go_sem,dptr])
    have HR5:Hid (RollS W5 l br bk bps (FNew W1 w2) (fun _=>false) 0):=HR.out.keep (zI Szc.out hB5.size) (fun b hb=>by
     have h1:b < w2.heap.size∧b≠w.heap.size∧b≠w.heap.size+1:=by
      have:=S2.out; have:=S1.out; have:=Ht0.out
      rcases hb with hb | hb <;> omega
     exact (hB5.block b (by have:=Szc.out; omega)).trans (Hcut.out.ef.block b h1.1 (fun h=>by omega)))
    have HB5:=hid (HBc.out.trans (hB5.mono HBc.out.size))
    have HC5:=hid hC5
    have S5:=hid s5
    have HW5:=hid hW5
    have kf5:=hC5.cf
    have ku5:=hC5.cu
    rw [show (((wc.alloc (.cells #[.pointer none] 105)).alloc (.cells #[.int .i64 0] 2)).alloc (.cells #[.int .i64 0] 2)).alloc (.cells #[.func (.func 101) #[] #[.pointer (some ⟨wc.heap.size,0,none⟩), .pointer (some ⟨wc.heap.size+1,0,none⟩)]] 100)=W5 from hW5]
    obtain ⟨c0,hc0⟩:∃c,wc.heap.size=c:=⟨_,rfl⟩
    rw [hc0] at HC5
    have Hc0:=hid hc0
    rw [hc0]
    obtain ⟨fd,hfd⟩:∃x,F / 86400=x:=⟨_,rfl⟩
    obtain ⟨ud,hud⟩:∃x,U / 86400=x:=⟨_,rfl⟩
    have hfd1:fd≤146097:=by omega
    have hud0:-1≤ud:=by omega
    have cA:=hid (yhN fd ud HR5.out (InvS 0) (zG 0))
    have hbr:=yiv l hfd1 hud0
    have hclip:=yff l fd ud
    have hXS:cntT l F U= (ybK l F U (dayS l (yai fd ud))).length:=by rw [cntT,yaT,hfd,hud]
    have hcl:=cntT_le l F U
    obtain ⟨X1,hX1⟩:∃X,bndF l fd=X:=⟨_,rfl⟩
    obtain ⟨X2,hX2⟩:∃X,bndU l ud=X:=⟨_,rfl⟩
    rw [hX1,hX2] at cA hbr hclip
    have tl:=yhM (cs:=l) (br:=br) (bk:=bk) (bps:=bps) InvS (W5.heap.size+1) (W5.heap.size+2) W5.heap.size X1 X2 hbr.1 hbr.2.1 hbr.2.2.1 hbr.2.2.2
     (fun j n ws m ws' m' hn hi hs=>ye5 hi hs) (fun j ws m hi hj=>by rw [yaO] at hj; rw [InvS] at hi; omega)
    rw [hclip] at tl
    obtain ⟨ds,hds⟩:∃ds,dayS l (yai fd ud)=ds:=⟨_,rfl⟩
    rw [hds] at tl hXS
    have hdr:∀n∈ds,0≤n∧n < 146097:=fun n hn=>by
     rw [←hds,dayS,List.mem_filter,ybw] at hn
     omega
    obtain ⟨L,hL⟩:∃L,(yai X1 X2).length=L:=⟨_,rfl⟩
    rw [hL] at tl
    have TL:=hid tl
    have Hdr:=hid hdr
    have hcb:∀k,cntI l F U ds k≤12622780800:=fun k=>zI (cntI_le l F U ds k) (by rw [←hXS]; exact hcl)
    have Hcb:=hid hcb
    have hpr2:Hid (pr= (((cntI l F U ds ds.length:Nat):Int),0)):=by show _ = _; rw [hpr.out,hXS,yjC]
    have Hfd:=hid hfd
    have Hud:=hid hud
    clear hbr hclip hXS hcl tl hds hdr hL hX1 hX2 hcb hfd hud hc0 hC5 hB5 s5 hW5 hw3 cC kf ku
    gi_wp2_with fail
    rw [Hfd.out,Hud.out]
    refine (wf_calls.mpr cA.out).mono ?_
    rintro e w6 ⟨rfl,hB6,hl6,hHA⟩
    have HB6:=hid (HB5.out.trans (hB6.mono HB5.out.size))
    have C6:=hid (HC5.out.keep hB6.size (fun c hc=>hB6.block c (HC5.out.lt c hc)))
    have HHA:=hid hHA
    have Sc0:Hid (w2.heap.size≤c0∧W5.heap.size=c0+4):=by
     show _∧_
     rw [←Hc0.out]; exact ⟨Szc.out,S5.out⟩
    have HFO:Hid (∀b,F3 (FNew W1 w2) W5.heap.size b→¬(b=w.heap.size∨b=w.heap.size+1∨b=c0∨b=c0+1∨b=c0+1+1∨b=c0+1+1+1)):=fun b hb h=>by
     have:=S2.out; have h1:=Sc0.out.1; have h2:=Sc0.out.2; have:=S1.out; have:=Ht0.out
     rcases hb with hb | hb
     ·rcases hb with hb | hb <;> omega
     ·omega
    clear hB6 hHA cA hl6 kf5 ku5
    gi_wp2_with fail
    refine ycN (F:=F3 (FNew W1 w2) W5.heap.size) (M:=RM br bk bps) (gf:=104) (lb:=#[.pointer (some ⟨W5.heap.size+1,0,none⟩), .pointer (some ⟨W5.heap.size+2,0,none⟩), .pointer (some ⟨W5.heap.size,0,none⟩)]) rfl ydj (fun b=>b=w.heap.size∨b=w.heap.size+1∨b=c0∨b=c0+1∨b=c0+1+1∨b=c0+1+1+1)
     (fun k vs F W h=>by obtain ⟨_,_,_,_,_,rfl,_⟩:=h; rfl) TL.out HA.host HA.host HA.hostE HHA.out HFO.out
     (CtI l (RM br bk bps) ds w.heap.size c0 (c0+1+1) F U) CtX (ygz _ _ _ _ _ _ _ _) (ctX_stab _) (ctI_lt _ _ _ _ _ _ _ _) ctX_lt ⟨none,0,by rw [yfi]; exact C6.out,Knows.none⟩
     (fun k O Fb a' W=>CtI l (RM br bk bps) ds w.heap.size c0 (c0+1+1) F U k O Fb W∧∃bx D d,ds[k]? =some D∧SkD l (RM br bk bps) D d bx O Fb W∧CtT (.slice a l.length cap) (.int .i64 f) (.int .i64 u) undef (.pointer (some ⟨w.heap.size,0,none⟩)) (.pointer (some ⟨w.heap.size+1,0,none⟩)) (.int .i64 0) (.int .i64 0) (.pointer (some ⟨br,0,none⟩)) (.int .i64 0) (.pointer (some ⟨c0+1+1,0,none⟩)) (.pointer (some ⟨c0+1+1+1,0,none⟩)) (.pointer (some ⟨bx,0,none⟩)) (.pointer (some ⟨d,0,none⟩)) [] a')
     ?putl ?assign ?body ?done ?stop
    case putl=>
     rintro l' o k O Fb a' W hr hnO hnF ⟨h1,bx,D,d,h3,h4,h5⟩
     have ko:∀b,O b∨(Fb b∧¬RM br bk bps b)→(W.putObj l' o).heap[b]? =W.heap[b]?:=fun b hb=>World.putObj_heap_other (fun e=>hb.elim (fun h=>hnO (e ▸ h)) (fun h=>hnF (e ▸ h.1)))
     exact ⟨ygz _ (RM br bk bps) _ _ _ _ _ _ k O Fb Fb W _ h1 (by rw [World.putObj_size]; exact zG _) (fun _ h=>h) ko,bx,D,d,h3,h4.put hr hnF,h5⟩
    case assign=>
     rintro l' k O6 F6 W6 vs K hk hJ6 hFl ⟨D,d,hn,h0,h1,rfl,hd,ht,hlt⟩ hG6 hK
     rw [←yaK]
     obtain ⟨s,hs⟩:∃s,shF D=s:=⟨_,rfl⟩
     rw [hs,shq]
     have Hs:=hid hs
     have HP:=hid (And.intro hJ6 (And.intro hFl (And.intro hn (And.intro hd (And.intro ht (And.intro hlt hG6))))))
     clear hs hJ6 hFl hn hd ht hlt hG6 h0 h1
     gi_wp2
     obtain ⟨hJ6,hFl,hn,hd,ht,hlt,hG6⟩:=HP.out
     have hbel:=yaa (o:= .cells (yaV s).toArray 88) (Below.refl W6.heap.size W6) (zG _)
     have hlO:=ctI_lt _ _ _ _ _ _ _ _ _ _ _ _ hJ6
     refine hK _ O6 _ (Grow.of_below hbel) ⟨ygz _ (RM br bk bps) _ _ _ _ _ _ _ O6 F6 F6 W6 _ hJ6 hbel.size (fun _ h=>h) (fun b hb=>hbel.block b (hb.elim (hlO b) (fun h=>hlt b h.1))),W6.heap.size,D,d,hn,
      ⟨fun b hb=>(hFl b hb).1,⟨hd.1,hd.2.1,hd.2.2.block hbel.size (hbel.block d (hlt d hd.1))⟩,⟨ht.1.later hbel,ht.2.1⟩,fun b hb=>zH (hlt b hb) hbel.size,by simp,⟨fun h=>by have:=hlO _ h; omega,fun h=>by have:=hlt _ h; omega⟩,by rw [Hs.out]; exact ybL W6 88 _ _ _ _ _ _ _ _ _ _⟩,CtT.of⟩
    case done=>
     rintro O9 F9 w9 hG9 hHN hFs hFn hFO9 ⟨c9,m9,hI,-⟩ hD hnD hnF
     have HB9:Hid (Below w.heap.size w w9):=HB6.out.trans (hG9.eff.below (fun b hb=>by
      have h1:=Sc0.out.1; have:=S2.out
      rcases hb with (h | h | h | h | h | h) | h
      ·omega
      ·omega
      ·omega
      ·omega
      ·omega
      ·omega
      ·have:=HM.out b h; have:=S1.out; omega) HB6.out.size)
     have HDx:=hid hD
     have k10:=hI.cs
     have hb9:Hid (Below w.heap.size w (w9.putObj w6.heap.size (.deferred none))):=ybc HB9.out HB6.out.size _
     have hcb:=Hcb.out ds.length
     obtain ⟨N,hN⟩:∃N,cntI l F U ds ds.length=N:=⟨_,rfl⟩
     rw [hN] at k10 hcb hpr2
     clear hG9 hHN hFs hFn hFO9 hnD hnF hD hI hN
     gi_wp2
     refine ⟨by simp, .inl ⟨_,_,rfl,run_takeDeferred HDx.out,?_⟩⟩
     refine ⟨.tuple #[.int .i64 N, .int .i64 0],?_,by rw [hpr2.out],hb9.out⟩
     simp [results,Tryz.results18,go_sem]
    case stop=>
     rintro c k O9 F9 w9 hk1 hk2 hG9 hHN hFs hFn hFO9 h
     exact h.elim
    case body=>
     rintro l3 k O6 F6 a' W6 hk hG6 hl3 hrec6 hnl3 hnF3 ⟨⟨c,m,hC6,hK6⟩,bx,D,d,en,hD,V,rfl⟩
     obtain ⟨D0,D1⟩:=Hdr.out D (List.mem_of_getElem? en)
     have hcnt:=yhu (f:=F) (u:=U) (cs:=l) en
     have hb1:=Hcb.out k
     have hb2:=Hcb.out (k+1)
     have cC:=hid (yiQ c0 d (dayQ l D) c m W6 hC6.k (fun x hx=>(hK6 x hx).2.2) hD.di.2.2)
     have cP:=hid (yjN d l D F U W6 D0 (by omega) F0 (by omega) (by omega) U1 hD.tab.1 hD.di.2.2)
     rw [hcnt] at hb2
     obtain ⟨s,hs⟩:∃s,shF D=s:=⟨_,rfl⟩
     have hs0:s 0=D:=by rw [←hs]; rfl
     have hsh:=hD.sh
     rw [hs] at hsh
     obtain ⟨s0,-⟩:=hsh
     rw [hs0] at s0
     have co:W6.cell? ⟨c0+1+1+1,0,none⟩=some (.func (.func 101) #[] #[.pointer (some ⟨c0,0,none⟩), .pointer (some ⟨c0+1,0,none⟩)]):=hC6.co
     have kf6:=hC6.cf
     have ku6:=hC6.cu
     have HC6:=hid hC6
     have HD6:=hid hD
     have HK6:=hid hK6
     have Hcnt:=hid hcnt
     have Hdw:Hid (F≤D * 86400→D * 86400+86399≤U→(dayI l F U D).length= (secL (dayQ l D)).length):=fun h1 h2=>yfT l (by omega) (by omega)
     obtain ⟨N,hN⟩:∃N,cntI l F U ds k=N:=⟨_,rfl⟩
     obtain ⟨p,hp⟩:∃p,(dayI l F U D).length=p:=⟨_,rfl⟩
     rw [hp] at cP hb2 Hdw
     rw [hN] at hb1 hb2
     have HN:=hid hN
     have Hp:=hid hp
     clear hG6 hs hs0 hD hk en hC6 hK6 hcnt hN hp
     have hC6d:CtC w.heap.size c0 (c0+1+1) F U (N:Int) c m O6 W6.drew:=by
      have h:=HC6.out.keep (W':=W6.drew) (zG _) (fun _ _=>rfl)
      rw [HN.out] at h; exact h
     have HC6d:=hid hC6d
     have k10:=hC6d.cs
     have z10:=hC6d.fs
     have hd6:DiscAt W6.drew d (dayQ l D):=HD6.out.di.2.2.block (zG _) rfl
     have HDi:=hid hd6
     have HFin:Hid (∀(W8:World) (c8:Option Nat) (m8:Int),Eff O6 W6 W8→CtC w.heap.size c0 (c0+1+1) F U ((N:Int)+(p:Int)) c8 m8 O6 W8→Knows c8 m8 (RM br bk bps) F6 W8→CtI l (RM br bk bps) ds w.heap.size c0 (c0+1+1) F U (k+1) O6 F6 W8):=fun W8 c8 m8 _ h2 h3=>by
      refine ⟨c8,m8,?_,h3⟩
      rw [Hcnt.out,HN.out,Hp.out,Int.natCast_add]; exact h2
     have hlq:=yeC (dayQ l D)
     have hwr:IntKind.i64.wrap ((N:Int)+(p:Int))= (N:Int)+(p:Int):=IntWalk.i64_in _ (by omega)
     by_cases hb:F≤D * 86400∧D * 86400+86399≤U
     ·obtain ⟨g1,g2⟩:=hb
      have e1:decide (F≤D * 86400)=true:=zzZ g1
      have e2:decide (D * 86400+86400 - 1≤U)=true:=zzZ (by omega)
      have hpe:=Hdw.out g1 g2
      have cC:=hid (yiQ c0 d (dayQ l D) c m W6.drew hC6d.k (fun x hx=>by
       obtain ⟨-,-,q,h1,h2⟩:=HK6.out x hx
       exact ⟨q,h1.block (zG _) rfl,h2⟩) hd6)
      rw [←hpe] at cC
      have HE6:=hid hpe
      clear hpe hC6d hd6 hlq
      gi_upto_region 11 with fail
      have hS6:W6.drew.cell? ⟨c0+1+1+1,0,none⟩=some (.func (.func 101) #[] #[.pointer (some ⟨c0,0,none⟩), .pointer (some ⟨c0+1,0,none⟩)]):=co
      refine regW (S:=fun W=>W.cell? ⟨c0+1+1+1,0,none⟩=some (.func (.func 101) #[] #[.pointer (some ⟨c0,0,none⟩), .pointer (some ⟨c0+1,0,none⟩)])) (by kernel_rfl) (by kernel_rfl) (by rintro ⟨_,_,h⟩; exact h) hS6 (fun hHeld=>?_)
      refine zT 1 (v:=?_) ?_ ?_
      rotate_left
      ·intro w' hSw; go_simp; (try with_reducible rfl)
      try simp only [zP]
      refine zT 2 (v:=?_) ?_ ?_
      rotate_left
      ·intro w' hSw; go_simp; (try with_reducible rfl)
      try simp only [zP]
      refine wpAnyH_ready (rs:= [0,3]) (by kernel_rfl) (by simp) ?_
      refine AllReadyH.cons rfl (fun K hK=>?_) (AllReadyH.cons rfl (fun K hK=>?_) AllReadyH.nil)
      ·go_simp
       refine hK.out _ _ hS6 (fun hHeld=>?_)
       clear hK K
       try simp only [zP]
       refine zzK 3 (fun K hK=>?_)
       go_simp
       refine cC.out.mono ?_
       rintro e w7 ⟨rfl,hE7,hk7⟩
       have hC7:=HC6d.out.cnt hE7 hk7
       have hE67:Eff O6 W6 w7:=((Eff.refl O6 W6).drew).trans hE7 (fun b hb=>by rcases hb with rfl | rfl; exact .inl HC6d.out.p0; exact .inl HC6d.out.p1)
       have hd7:DiscAt w7 d (dayQ l D):=HD6.out.di.2.2.eff hE67 (HD6.out.dj d HD6.out.di.1)
       have hS7:w7.cell? ⟨c0+1+1+1,0,none⟩=some (.func (.func 101) #[] #[.pointer (some ⟨c0,0,none⟩), .pointer (some ⟨c0+1,0,none⟩)]):=hC7.co
       have k17:=hC7.cs
       have z17:=hC7.fs
       refine hK.out _ _ hS7 (fun hHeld=>?_)
       clear hK K
       try simp only [zP]
       refine zT 4 (v:=?_) ?_ ?_
       rotate_left
       ·intro w' hSw; go_simp; (try with_reducible rfl)
       try simp only [zP]
       refine zzK 5 (fun K hK=>?_)
       go_simp
       have hC8:=hC7.sum (s':=((N:Int)+(p:Int)))
       refine hK.out _ _ (by have:=hC8.co; first | exact this | simpa using this) (fun hHeld=>?_)
       clear hK K
       try simp only [zP]
       refine wpAnyH_done (by kernel_rfl) ?_ _
       have HE8:=hid (hE67.set HC6d.out.p2 0 (.int .i64 ((N:Int)+(p:Int))))
       have HI8:=hid (HFin.out _ (some d) p HE8.out hC8 (fun x hx=>by
        cases hx
        exact ⟨HD6.out.di.1,HD6.out.di.2.1,dayQ l D,hd7.block (by simp) (Below.heap_setCell _ _ _ _ (fun e=>HD6.out.dj d HD6.out.di.1 (e ▸ HC6d.out.p2))),by rw [HE6.out]⟩))
       clear hC7 hE67 hd7 hS7 hC8 hE7 hk7 hHeld
       gi_wp2
       exact ⟨O6,⟨fun _ h=>h,fun _ h=> .inl h,HE8.out⟩,HI8.out⟩
      ·go_simp
       refine cC.out.mono ?_
       rintro e w7 ⟨rfl,hE7,hk7⟩
       have hC7:=HC6d.out.cnt hE7 hk7
       have hE67:Eff O6 W6 w7:=((Eff.refl O6 W6).drew).trans hE7 (fun b hb=>by rcases hb with rfl | rfl; exact .inl HC6d.out.p0; exact .inl HC6d.out.p1)
       have hd7:DiscAt w7 d (dayQ l D):=HD6.out.di.2.2.eff hE67 (HD6.out.dj d HD6.out.di.1)
       have hS7:w7.cell? ⟨c0+1+1+1,0,none⟩=some (.func (.func 101) #[] #[.pointer (some ⟨c0,0,none⟩), .pointer (some ⟨c0+1,0,none⟩)]):=hC7.co
       have k17:=hC7.cs
       have z17:=hC7.fs
       refine hK.out _ _ hS7 (fun hHeld=>?_)
       clear hK K
       try simp only [zP]
       refine zzK 0 (fun K hK=>?_)
       go_simp
       refine hK.out _ _ hS7 (fun hHeld=>?_)
       clear hK K
       try simp only [zP]
       refine zT 4 (v:=?_) ?_ ?_
       rotate_left
       ·intro w' hSw; go_simp; (try with_reducible rfl)
       try simp only [zP]
       refine zzK 5 (fun K hK=>?_)
       go_simp
       have hC8:=hC7.sum (s':=((N:Int)+(p:Int)))
       refine hK.out _ _ (by have:=hC8.co; first | exact this | simpa using this) (fun hHeld=>?_)
       clear hK K
       try simp only [zP]
       refine wpAnyH_done (by kernel_rfl) ?_ _
       have HE8:=hid (hE67.set HC6d.out.p2 0 (.int .i64 ((N:Int)+(p:Int))))
       have HI8:=hid (HFin.out _ (some d) p HE8.out hC8 (fun x hx=>by
        cases hx
        exact ⟨HD6.out.di.1,HD6.out.di.2.1,dayQ l D,hd7.block (by simp) (Below.heap_setCell _ _ _ _ (fun e=>HD6.out.dj d HD6.out.di.1 (e ▸ HC6d.out.p2))),by rw [HE6.out]⟩))
       clear hC7 hE67 hd7 hS7 hC8 hE7 hk7 hHeld
       gi_wp2
       exact ⟨O6,⟨fun _ h=>h,fun _ h=> .inl h,HE8.out⟩,HI8.out⟩
     ·have cP:=hid (yjN d l D F U W6.drew D0 (by omega) F0 (by omega) (by omega) U1 ⟨HD6.out.tab.1.1,HD6.out.tab.1.2⟩ hd6)
      rw [Hp.out,Int.mul_comm 86400 D] at cP
      have hwf:IntKind.i64.wrap (F - D * 86400)=F - D * 86400:=IntWalk.i64_in _ (by omega)
      have hwu:IntKind.i64.wrap (U - D * 86400)=U - D * 86400:=IntWalk.i64_in _ (by omega)
      clear hC6d hd6 hlq
      gi_upto_region 12 with fail
      all_goals
       have hS6:W6.drew.cell? ⟨w.heap.size,0,none⟩=some (.int .i64 F)∧W6.drew.cell? ⟨w.heap.size+1,0,none⟩=some (.int .i64 U):=⟨kf6,ku6⟩
       refine regW (S:=fun W=>W.cell? ⟨w.heap.size,0,none⟩=some (.int .i64 F)∧W.cell? ⟨w.heap.size+1,0,none⟩=some (.int .i64 U)) (by kernel_rfl) (by kernel_rfl) (by rintro ⟨_,_,h⟩; exact h) hS6 (fun hHeld=>?_)
       refine zT 1 (v:=?_) ?_ ?_
       rotate_left
       ·intro w' hSw; obtain ⟨z1,z2⟩:=hSw; go_simp; (try with_reducible rfl)
       try simp only [zP]
       refine zT 2 (v:=?_) ?_ ?_
       rotate_left
       ·intro w' hSw; obtain ⟨z1,z2⟩:=hSw; go_simp; (try with_reducible rfl)
       try simp only [zP]
       refine zT 3 (v:=?_) ?_ ?_
       rotate_left
       ·intro w' hSw; obtain ⟨z1,z2⟩:=hSw; go_simp; (try with_reducible rfl)
       try simp only [zP]
       refine zT 4 (v:=?_) ?_ ?_
       rotate_left
       ·intro w' hSw; obtain ⟨z1,z2⟩:=hSw; go_simp; (try with_reducible rfl)
       try simp only [zP]
       refine zT 5 (v:=?_) ?_ ?_
       rotate_left
       ·intro w' hSw; obtain ⟨z1,z2⟩:=hSw; go_simp; (try with_reducible rfl)
       try simp only [zP]
       refine zT 6 (v:=?_) ?_ ?_
       rotate_left
       ·intro w' hSw; obtain ⟨z1,z2⟩:=hSw; go_simp; (try with_reducible rfl)
       try simp only [zP]
       refine zT 7 (v:=?_) ?_ ?_
       rotate_left
       ·intro w' hSw; obtain ⟨z1,z2⟩:=hSw; go_simp; (try with_reducible rfl)
       try simp only [zP]
       refine wpAnyH_ready (rs:= [0,8]) (by kernel_rfl) (by simp) ?_
       refine AllReadyH.cons rfl (fun K hK=>?_) (AllReadyH.cons rfl (fun K hK=>?_) AllReadyH.nil)
       ·go_simp
        refine hK.out _ _ hS6 (fun hHeld=>?_)
        clear hK K
        try simp only [zP]
        refine zzK 8 (fun K hK=>?_)
        go_simp
        refine cP.out.mono ?_
        rintro e w7 ⟨rfl,hw7⟩
        rw [hw7]
        refine hK.out _ _ hS6 (fun hHeld=>?_)
        clear hK K hw7
        try simp only [zP]
        refine zT 9 (v:=?_) ?_ ?_
        rotate_left
        ·intro w' hSw; go_simp; (try with_reducible rfl)
        try simp only [zP]
        refine zzK 10 (fun K hK=>?_)
        go_simp
        have hC8:=HC6d.out.sum (s':=((N:Int)+(p:Int)))
        refine hK.out _ _ (by have h1:=hC8.cf; have h2:=hC8.cu; first | exact ⟨h1,h2⟩ | exact ⟨by simpa using h1,by simpa using h2⟩) (fun hHeld=>?_)
        clear hK K
        try simp only [zP]
        refine wpAnyH_done (by kernel_rfl) ?_ _
        have HE8:=hid (((Eff.refl O6 W6).drew).set HC6d.out.p2 0 (.int .i64 ((N:Int)+(p:Int))))
        have HI8:=hid (HFin.out _ c m HE8.out hC8 (HK6.out.keep (by simp) (fun _ h=>h) (fun b hb=>Below.heap_setCell _ _ _ _ (fun e=>HD6.out.dj b hb.1 (e ▸ HC6d.out.p2)))))
        clear hC8 hHeld
        gi_wp2
        exact ⟨O6,⟨fun _ h=>h,fun _ h=> .inl h,HE8.out⟩,HI8.out⟩
       ·go_simp
        refine cP.out.mono ?_
        rintro e w7 ⟨rfl,hw7⟩
        rw [hw7]
        refine hK.out _ _ hS6 (fun hHeld=>?_)
        clear hK K hw7
        try simp only [zP]
        refine zzK 0 (fun K hK=>?_)
        go_simp
        refine hK.out _ _ hS6 (fun hHeld=>?_)
        clear hK K
        try simp only [zP]
        refine zT 9 (v:=?_) ?_ ?_
        rotate_left
        ·intro w' hSw; go_simp; (try with_reducible rfl)
        try simp only [zP]
        refine zzK 10 (fun K hK=>?_)
        go_simp
        have hC8:=HC6d.out.sum (s':=((N:Int)+(p:Int)))
        refine hK.out _ _ (by have h1:=hC8.cf; have h2:=hC8.cu; first | exact ⟨h1,h2⟩ | exact ⟨by simpa using h1,by simpa using h2⟩) (fun hHeld=>?_)
        clear hK K
        try simp only [zP]
        refine wpAnyH_done (by kernel_rfl) ?_ _
        have HE8:=hid (((Eff.refl O6 W6).drew).set HC6d.out.p2 0 (.int .i64 ((N:Int)+(p:Int))))
        have HI8:=hid (HFin.out _ c m HE8.out hC8 (HK6.out.keep (by simp) (fun _ h=>h) (fun b hb=>Below.heap_setCell _ _ _ _ (fun e=>HD6.out.dj b hb.1 (e ▸ HC6d.out.p2)))))
        clear hC8 hHeld
        gi_wp2
        exact ⟨O6,⟨fun _ h=>h,fun _ h=> .inl h,HE8.out⟩,HI8.out⟩
end Go.Proofs.YtjahgimnfliooaaGreatDoor
