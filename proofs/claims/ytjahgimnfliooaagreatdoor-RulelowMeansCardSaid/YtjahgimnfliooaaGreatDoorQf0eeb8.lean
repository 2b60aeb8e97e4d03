/-
  tally.Nth: the n-th instant of a set.
  rulelow.Lower: the set of a rule; ferialaw35.lives.
  The first and the last instant of a rule's set (plain).
-/
import Derived.Test.YtjahgimnfliooaaGreatDoorQ9298bd
import Derived.Test.YtjahgimnfliooaaGreatDoorQdc96ce
import Derived.Test.YtjahgimnfliooaaGreatDoorQ76a5b0
import Derived.BigRegion
import Derived.Test.YtjahgimnfliooaaGreatDoorQ0c6bd3
set_option maxRecDepth 100000
set_option maxHeartbeats 25600000
namespace Go.Proofs.YtjahgimnfliooaaGreatDoor
set_option linter.unusedVariables false
section
open Go.RowKit Go.Maps
attribute [local go_sem] Oper.semAt_some
structure NtC (b0 c0 cf:Nat) (n x y:Int) (c:Option Nat) (m:Int) (O:Blk) (W:World):Prop where
 cn:W.cell? ⟨b0,0,none⟩=some (.int .i64 n)
 fn:W.frozen? ⟨b0,0,none⟩=false
 two:TwoC (b0+1) x y O W
 k:CntC c0 c m W
 co:W.cell? ⟨cf,0,none⟩=some (cntV c0)
 o0:O b0
 p0:O c0
 p1:O (c0+1)
 p2:O cf
 ne:b0+1+1 < c0
 nf:c0+1 < cf
theorem NtC.keep {b0 c0 cf:Nat} {n x y:Int} {c:Option Nat} {m:Int} {O:Blk} {W W':World} (h:NtC b0 c0 cf n x y c m O W) (hs:W.heap.size≤W'.heap.size) (hb:∀c,O c→W'.heap[c]? =W.heap[c]?):NtC b0 c0 cf n x y c m O W':=
 ⟨(zzJ (w:=W) (a:=⟨b0,0,none⟩) (hb _ h.o0)).trans h.cn,(zzM (w:=W) (a:=⟨b0,0,none⟩) (hb _ h.o0)).trans h.fn,h.two.keep hs hb,
  h.k.block hs (hb _ h.p0) (hb _ h.p1),(zzJ (w:=W) (a:=⟨cf,0,none⟩) (hb _ h.p2)).trans h.co,h.o0,h.p0,h.p1,h.p2,h.ne,h.nf⟩
theorem NtC.cnt {b0 c0 cf:Nat} {n x y:Int} {c c':Option Nat} {m m':Int} {O:Blk} {W W':World} (h:NtC b0 c0 cf n x y c m O W) (hE:Eff (fun b=>b=c0∨b=c0+1) W W') (hk:CntC c0 c' m' W'):NtC b0 c0 cf n x y c' m' O W':=by
 obtain ⟨h1,h2,⟨t1,t2,t3,t4,t5,t6,t7⟩,h4,h5,o0,p0,p1,p2,ne,nf⟩:=h
 have lt:=t7
 exact ⟨(hE.cell (p:=⟨b0,0,none⟩) (lt _ o0) (by show¬(b0=c0∨b0=c0+1); omega)).trans h1,(hE.frozen (p:=⟨b0,0,none⟩) (lt _ o0) (by show¬(b0=c0∨b0=c0+1); omega)).trans h2,
  ⟨(hE.cell (p:=⟨b0+1,0,none⟩) (lt _ t5) (by show¬(b0+1=c0∨b0+1=c0+1); omega)).trans t1,(hE.cell (p:=⟨b0+1+1,0,none⟩) (lt _ t6) (by show¬(b0+1+1=c0∨b0+1+1=c0+1); omega)).trans t2,
    (hE.frozen (p:=⟨b0+1,0,none⟩) (lt _ t5) (by show¬(b0+1=c0∨b0+1=c0+1); omega)).trans t3,(hE.frozen (p:=⟨b0+1+1,0,none⟩) (lt _ t6) (by show¬(b0+1+1=c0∨b0+1+1=c0+1); omega)).trans t4,t5,t6,fun b hb=>zH (t7 b hb) hE.size⟩,hk,
  (hE.cell (p:=⟨cf,0,none⟩) (lt _ p2) (by show¬(cf=c0∨cf=c0+1); omega)).trans h5,o0,p0,p1,p2,ne,nf⟩
theorem NtC.put {b0 c0 cf:Nat} {n n' x y:Int} {c:Option Nat} {m:Int} {O:Blk} {W:World} (h:NtC b0 c0 cf n x y c m O W):NtC b0 c0 cf n' x y c m O (W.setCell ⟨b0,0,none⟩ (.int .i64 n')):=by
 obtain ⟨h1,h2,⟨t1,t2,t3,t4,t5,t6,t7⟩,h4,h5,o0,p0,p1,p2,ne,nf⟩:=h
 have hb:∀b,b≠b0→(W.setCell ⟨b0,0,none⟩ (.int .i64 n')).heap[b]? =W.heap[b]?:=fun b hb=>Below.heap_setCell _ _ _ _ hb
 have hs:(W.setCell ⟨b0,0,none⟩ (.int .i64 n')).heap.size=W.heap.size:=by simp
 exact ⟨by simp [go_sem,h1],by simp [go_sem,h2],⟨(zzJ (w:=W) (a:=⟨b0+1,0,none⟩) (hb _ (by simp only []; omega))).trans t1,(zzJ (w:=W) (a:=⟨b0+1+1,0,none⟩) (hb _ (by simp only []; omega))).trans t2,
  (zzM (w:=W) (a:=⟨b0+1,0,none⟩) (hb _ (by simp only []; omega))).trans t3,(zzM (w:=W) (a:=⟨b0+1+1,0,none⟩) (hb _ (by simp only []; omega))).trans t4,t5,t6,fun b hb=>by rw [hs]; exact t7 b hb⟩,
  h4.block (by rw [hs]; exact zG _) (hb _ (by omega)) (hb _ (by omega)),(zzJ (w:=W) (a:=⟨cf,0,none⟩) (hb _ (by simp only []; omega))).trans h5,o0,p0,p1,p2,ne,nf⟩
def NtI (cs:List Cl) (M:Blk) (b0 c0 cf:Nat) (n:Int):OwnF:=fun k O F W=>((cntI cs 0 12622780799 (dayS cs (yao 0 146096)) k:Nat):Int) < n∧∃c m,NtC b0 c0 cf (n - (cntI cs 0 12622780799 (dayS cs (yao 0 146096)) k:Nat)) 0 0 c m O W∧Knows c m M F W
def NtX (cs:List Cl) (b0:Nat) (n:Int) (c:Code):OwnF:=fun k O _ W=>c= .ret∧∃x,(1≤n∧(allI cs)[n.toNat - 1]? =some x)∧TwoC (b0+1) x 0 O W
theorem ygh (cs:List Cl) (M:Blk) (b0 c0 cf:Nat) (n:Int):StabF M (NtI cs M b0 c0 cf n):=fun k O F F' W W' ⟨h0,c,m,h1,h2⟩ hs hF hO=>⟨h0,c,m,h1.keep hs (fun c hc=>hO c (.inl hc)),h2.keep hs hF (fun b hb=>hO b (.inr hb))⟩
theorem ntX_stab (cs:List Cl) (b0:Nat) (n:Int) (M:Blk) (c:Code):StabF M (NtX cs b0 n c):=fun k O F F' W W' ⟨h1,x,h2,h3⟩ hs hF hO=>⟨h1,x,h2,h3.keep hs (fun c hc=>hO c (.inl hc))⟩
theorem ntI_lt (cs:List Cl) (M:Blk) (b0 c0 cf:Nat) (n:Int):LtF (NtI cs M b0 c0 cf n):=fun k O F W ⟨_,_,_,h,_⟩=>h.two.lt
theorem ntX_lt (cs:List Cl) (b0:Nat) (n:Int) (c:Code):LtF (NtX cs b0 n c):=fun k O F W ⟨_,_,_,h⟩=>h.lt
structure NtL (cs:List Cl) (M:Blk) (d bx:Nat) (D:Int) (b0 c0 cf:Nat) (n:Int) (O6 F6:Blk) (W6:World) (j:Nat) (W:World):Prop where
 cells:∃c m,NtC b0 c0 cf (n - j) 0 0 c m O6 W
 gr:Eff O6 W6 W
 di:DiscAt W d (dayQ cs D)
 tab:Tab W
 sh:ShS W bx (shF D)
theorem NtL.put {cs:List Cl} {M:Blk} {d bx:Nat} {D:Int} {b0 c0 cf:Nat} {n:Int} {O6 F6:Blk} {W6:World} {j:Nat} {W:World} {v:Int} (h:NtL cs M d bx D b0 c0 cf n O6 F6 W6 j W) (hd:d≠b0) (hx:bx≠b0) (ht:0≠b0) (hv:v=n - ((j+1:Nat):Int)):NtL cs M d bx D b0 c0 cf n O6 F6 W6 (j+1) (W.setCell ⟨b0,0,none⟩ (.int .i64 v)):=by
 subst hv
 obtain ⟨⟨c,m,h1⟩,h2,h3,h4,h5⟩:=h
 have hb:∀b,b≠b0→(W.setCell ⟨b0,0,none⟩ (.int .i64 (n - ((j+1:Nat):Int)))).heap[b]? =W.heap[b]?:=fun b hb=>Below.heap_setCell _ _ _ _ hb
 have hs:(W.setCell ⟨b0,0,none⟩ (.int .i64 (n - ((j+1:Nat):Int)))).heap.size=W.heap.size:=by simp
 exact ⟨⟨c,m,h1.put⟩,h2.set h1.o0 _ _,h3.block (by rw [hs]; exact zG _) (hb d hd),⟨by rw [hs]; exact h4.1,fun i hi=>(zzJ (w:=W) (a:=⟨0,i,none⟩) (hb _ ht)).trans (h4.2 i hi)⟩,yhQ h5 (hb bx hx)⟩
def NtT (h0 h1 h2 h3 h4 h5 h6 h7 h8 h9 h10:Value) (ds:List Deferred) (a:Act):Prop:=∃V:Nat→Value,a= {tmps:=#[h0,h1,h2,h3,h4,h5,h6,h7,h8,h9,h10,V 11,V 12,V 13,V 14,V 15,V 16,V 17,V 18,V 19,V 20,V 21,V 22,V 23,V 24,V 25,V 26,V 27,V 28,V 29,V 30,V 31,V 32,V 33,V 34,V 35,V 36,V 37,V 38,V 39,V 40,V 41,V 42,V 43,V 44,V 45,V 46,V 47,V 48,V 49,V 50,V 51,V 52,V 53,V 54,V 55,V 56,V 57,V 58,V 59,V 60],defers:=ds}
theorem NtT.of {h0 h1 h2 h3 h4 h5 h6 h7 h8 h9 h10 u11 u12 u13 u14 u15 u16 u17 u18 u19 u20 u21 u22 u23 u24 u25 u26 u27 u28 u29 u30 u31 u32 u33 u34 u35 u36 u37 u38 u39 u40 u41 u42 u43 u44 u45 u46 u47 u48 u49 u50 u51 u52 u53 u54 u55 u56 u57 u58 u59 u60:Value} {ds:List Deferred}:NtT h0 h1 h2 h3 h4 h5 h6 h7 h8 h9 h10 ds {tmps:=#[h0,h1,h2,h3,h4,h5,h6,h7,h8,h9,h10,u11,u12,u13,u14,u15,u16,u17,u18,u19,u20,u21,u22,u23,u24,u25,u26,u27,u28,u29,u30,u31,u32,u33,u34,u35,u36,u37,u38,u39,u40,u41,u42,u43,u44,u45,u46,u47,u48,u49,u50,u51,u52,u53,u54,u55,u56,u57,u58,u59,u60],defers:=ds}:=⟨fun i=>(#[u11,u12,u13,u14,u15,u16,u17,u18,u19,u20,u21,u22,u23,u24,u25,u26,u27,u28,u29,u30,u31,u32,u33,u34,u35,u36,u37,u38,u39,u40,u41,u42,u43,u44,u45,u46,u47,u48,u49,u50,u51,u52,u53,u54,u55,u56,u57,u58,u59,u60]:Array Value).getD (#[0,0,0,0,0,0,0,0,0,0,0,0,1,2,3,4,5,6,7,8,9,10,11,12,13,14,15,16,17,18,19,20,21,22,23,24,25,26,27,28,29,30,31,32,33,34,35,36,37,38,39,40,41,42,43,44,45,46,47,48,49].getD i 0) undef,rfl⟩
theorem NthT_any (a:Option Addr) (cap:Nat) (l:List Cl) (n:Int) (w:World) (hl:l.length≤9223372036854775807) (hlc:l.length≤cap) (hs:Sl w a (cls l)) (hno:a=none→cap=0) (hok:∀c∈l,c.Ok) (hn1:n≤9223372036854775807) (hT:Tab w) :
  Calls Tryz.prog 28 #[.slice a l.length cap, .int .i64 n] w fun e w'=>e= .returned (.tuple #[.int .i64 (nthP l n).1, .int .i64 (nthP l n).2])∧Below w.heap.size w w':=by
 obtain ⟨W1,hW1⟩:∃W1,((w.alloc (.cells #[.int .i64 n] 2)).alloc (.cells #[.int .i64 0] 2)).alloc (.cells #[.int .i64 0] 35)=W1:=⟨_,rfl⟩
 have hB1:Below w.heap.size w W1:=by rw [←hW1]; exact yaa (yaa (yaa (Below.refl _ _) (zG _)) (by simp)) (by simp; omega)
 have s1:W1.heap.size=w.heap.size+3:=by rw [←hW1]; simp
 have hC1:TwoC (w.heap.size+1) 0 0 (fun b=>b=w.heap.size∨b=w.heap.size+1∨b=w.heap.size+1+1) W1:=by
  refine ⟨?_,?_,?_,?_, .inr (.inl rfl), .inr (.inr rfl),fun c hc=>by omega⟩ <;> (rw [←hW1]; simp [go_sem])
 have k3:W1.cell? ⟨w.heap.size,0,none⟩=some (.int .i64 n):=by rw [←hW1]; simp [go_sem]
 have z3:W1.frozen? ⟨w.heap.size,0,none⟩=false:=by rw [←hW1]; simp [go_sem]
 have cN:=hid (RNew_any a cap l W1 hl hlc (hs.below hB1) hno hok (hT.later hB1))
 have hP:Hid (nthP l n=if yaR l≠0 then (0,yaR l) else if n < 1 then (0,1) else if n≤(allI l).length then ((allI l).getD (n.toNat - 1) 0,0) else (0,15)):=by show _ = _; rw [nthP]
 obtain ⟨pr,hpr⟩:∃x,nthP l n=x:=⟨_,rfl⟩
 rw [hpr] at hP⊢
 have HB1:=hid hB1
 have HW1:=hid hW1
 have S1:=hid s1
 have C1:=hid hC1
 have Ht0:Hid (0 < w.heap.size):=hT.1
 clear hW1 hB1 hs hok hT s1 hno hlc hpr hC1
 refine (wf_calls (r:=none) (n:=1)).mp ?_
 refine callsIn_of_wp_marks Tryz.func28 rfl trivial ?_ rfl
 simp only [Tryz.ntmps28,List.size_toArray,List.length_cons,List.length_nil,Nat.reduceAdd,Nat.reduceSub,Array.replicate_succ,Array.replicate_zero,List.push_toArray,List.append_toArray,List.nil_append,List.cons_append]
 gi_wp2_with fail
 rw [HW1.out]
 refine (wf_calls.mpr cN.out).mono ?_
 rintro e w2 ⟨hN,hB2⟩
 have hB02:=hid (HB1.out.trans (hB2.mono HB1.out.size))
 have S2:Hid (w.heap.size+3≤w2.heap.size):=by have:=hB2.size; have:=S1.out; show _≤_; omega
 have C2:Hid (TwoC (w.heap.size+1) 0 0 (fun b=>b=w.heap.size∨b=w.heap.size+1∨b=w.heap.size+1+1) w2):=C1.out.keep hB2.size (fun c hc=>hB2.block c (C1.out.lt c hc))
 have z32:=(hB2.frozen (p:=⟨w.heap.size,0,none⟩) (by have:=S1.out; simp only []; omega)).trans z3
 have k32:=(hB2.cell (p:=⟨w.heap.size,0,none⟩) (by have:=S1.out; simp only []; omega)).trans k3
 clear z3 k3
 rcases hN with ⟨hf,rfl⟩ | ⟨hf,br,bk,bps,rfl,hR,hM⟩
 ·have hpr:Hid (pr= (0,yaR l)):=by show _ = _; rw [hP.out,if_pos hf]
  have hBf:Hid (Below w.heap.size w ((w2.setCell ⟨w.heap.size+1,0,none⟩ (.int .i64 0)).setCell ⟨w.heap.size+1+1,0,none⟩ (.int .i64 (yaR l)))):=yab (yab hB02.out (by omega)) (by omega)
  obtain ⟨X,hX⟩:∃X,yaR l=X:=⟨_,rfl⟩
  rw [hX] at hf hpr hBf⊢
  have HX:=hid (C2.out.set (x':=0) (y':=X))
  obtain ⟨c4,c5,f4,f5,-,-,-⟩:=C2.out
  have hX0:(X == 0)=false:=by simpa using hf
  have hX1:(X != 0)=true:=by simpa using hf
  clear hB2 hX hP z32 k32
  gi_wp2
  obtain ⟨d4,d5,-,-,-,-,-⟩:=HX.out
  refine ⟨_,?_,by rw [hpr.out],hBf.out⟩
  simp [results,Tryz.results28,go_sem,d4,d5]
 ·have Hf:=hid hf
  have HR:=hid hR
  have HM:=hid hM
  have hHP:=hid hP.out
  clear hB2 hR hM hf hP
  by_cases h1:n < 1
  ·have e1:decide (n < 1)=true:=zzZ h1
   have hpr:Hid (pr= (0,1)):=by show _ = _; rw [hHP.out,if_neg (by rw [Hf.out]; simp),if_pos h1]
   have hBf:Hid (Below w.heap.size w ((w2.setCell ⟨w.heap.size+1,0,none⟩ (.int .i64 0)).setCell ⟨w.heap.size+1+1,0,none⟩ (.int .i64 1))):=yab (yab hB02.out (by omega)) (by omega)
   have HX:=hid (C2.out.set (x':=0) (y':=1))
   obtain ⟨c4,c5,f4,f5,-,-,-⟩:=C2.out
   clear h1
   gi_wp2
   obtain ⟨d4,d5,-,-,-,-,-⟩:=HX.out
   refine ⟨_,?_,by rw [hpr.out],hBf.out⟩
   simp [results,Tryz.results28,go_sem,d4,d5]
  ·have e1:decide (n < 1)=false:=zzd h1
   have n1:1≤n:=by omega
   clear h1
   have cC:=hid (yiy w2)
   gi_wp2_with fail
   refine (wf_calls.mpr cC.out).mono ?_
   rintro e w3 ⟨rfl,hw3⟩
   obtain ⟨cf,hcf⟩:∃c,w3.heap.size=c:=⟨_,rfl⟩
   obtain ⟨w4,hw4⟩:∃w4,w3.alloc (.cells #[cntV w2.heap.size] 100)=w4:=⟨_,rfl⟩
   have s3:cf=w2.heap.size+2:=by rw [←hcf,hw3]; simp
   have s4:w4.heap.size=w2.heap.size+3:=by rw [←hw4,hw3]; simp
   have B4:Below w2.heap.size w2 w4:=by rw [←hw4,hw3]; exact yaa (yaa (yaa (Below.refl _ _) (zG _)) (by simp)) (by simp; omega)
   have hNt:NtC w.heap.size w2.heap.size cf n 0 0 none 0 (fun b=>b=w.heap.size∨b=w.heap.size+1∨b=w.heap.size+1+1∨b=w2.heap.size∨b=w2.heap.size+1∨b=cf) w4:=by
    have hs2:=S2.out
    obtain ⟨c4,c5,f4,f5,-,-,-⟩:=C2.out
    refine ⟨(B4.cell (p:=⟨w.heap.size,0,none⟩) (by simp only []; omega)).trans k32,(B4.frozen (p:=⟨w.heap.size,0,none⟩) (by simp only []; omega)).trans z32,
     ⟨(B4.cell (p:=⟨w.heap.size+1,0,none⟩) (by simp only []; omega)).trans c4,(B4.cell (p:=⟨w.heap.size+1+1,0,none⟩) (by simp only []; omega)).trans c5,(B4.frozen (p:=⟨w.heap.size+1,0,none⟩) (by simp only []; omega)).trans f4,(B4.frozen (p:=⟨w.heap.size+1+1,0,none⟩) (by simp only []; omega)).trans f5, .inr (.inl rfl), .inr (.inr (.inl rfl)),fun b hb=>by omega⟩,
     ⟨?_,?_,?_,?_,by omega⟩,?_, .inl rfl, .inr (.inr (.inr (.inl rfl))), .inr (.inr (.inr (.inr (.inl rfl)))), .inr (.inr (.inr (.inr (.inr rfl)))),by omega,by omega⟩
    ·rw [←hw4,hw3]; simp [go_sem,dptr]
    ·rw [←hw4,hw3]; simp [go_sem]
    ·rw [←hw4,hw3]; simp [go_sem]
    ·rw [←hw4,hw3]; simp [go_sem]
    ·rw [←hw4,←hcf]; simp [go_sem]
   have HR4:Hid (RollS w4 l br bk bps (FNew W1 w2) (fun _=>false) 0):=HR.out.keep B4.size (fun b hb=>B4.block b (by have:=S2.out; have:=Ht0.out; rcases hb with hb | hb <;> omega))
   have HNt:=hid hNt
   have HB4:=hid (hB02.out.trans (B4.mono hB02.out.size))
   have S4:=hid s4
   have S3:=hid s3
   have Hw4:=hid hw4
   have Hcf:=hid hcf
   have HHP:=hHP
   clear B4 hNt s4 hw4 hcf s3 hw3 cC z32 k32
   obtain ⟨c0,hc0⟩:∃c,w2.heap.size=c:=⟨_,rfl⟩
   have Hc0:=hid hc0
   clear hc0
   gi_wp2_with fail
   rw [Hcf.out,show w3.alloc (.cells #[.func (.func 101) #[] #[.pointer (some ⟨w2.heap.size,0,none⟩), .pointer (some ⟨w2.heap.size+1,0,none⟩)]] 100)=w4 from Hw4.out]
   have cA:=hid (RAllC_any 0 146096 HR4.out (InvS 0) (zG 0))
   have hbr:=bnd_rng l (f:=0) (t:=146096) (by omega) (by omega)
   have hclip:=dayS_clip l 0 146096
   obtain ⟨X1,hX1⟩:∃X,bndF l 0=X:=⟨_,rfl⟩
   obtain ⟨X2,hX2⟩:∃X,bndU l 146096=X:=⟨_,rfl⟩
   rw [hX1,hX2] at cA hbr hclip
   have tl:=RAllF_any (cs:=l) (br:=br) (bk:=bk) (bps:=bps) InvS (w4.heap.size+1) (w4.heap.size+2) w4.heap.size X1 X2 hbr.1 hbr.2.1 hbr.2.2.1 hbr.2.2.2
    (fun j n ws m ws' m' hn hi hs=>invS_step hi hs) (fun j ws m hi hj=>by rw [ybC] at hj; rw [InvS] at hi; omega)
   rw [hclip] at tl
   obtain ⟨L,hL⟩:∃L,(yao X1 X2).length=L:=⟨_,rfl⟩
   rw [hL] at tl
   have TL:=hid tl
   clear hbr hclip tl hL hX1 hX2
   refine (wf_calls.mpr cA.out).mono ?_
   rintro e w5 ⟨rfl,hB5,hl5,hHA⟩
   have HB5:=hid (HB4.out.trans (hB5.mono HB4.out.size))
   have C5:=hid (HNt.out.keep hB5.size (fun c hc=>hB5.block c (HNt.out.two.lt c hc)))
   have HHA:=hid hHA
   have HFO:Hid (∀b,F3 (FNew W1 w2) w4.heap.size b→¬(b=w.heap.size∨b=w.heap.size+1∨b=w.heap.size+1+1∨b=w2.heap.size∨b=w2.heap.size+1∨b=cf)):=fun b hb h=>by
    have:=S2.out; have:=S4.out; have:=S3.out; have:=S1.out; have:=Ht0.out
    rcases hb with hb | hb
    ·rcases hb with hb | hb <;> omega
    ·omega
   clear hB5 hHA cA hl5
   rw [Hc0.out] at C5 HFO
   have Hs2:=hid (show w.heap.size+3≤c0 by rw [←Hc0.out]; exact S2.out)
   have Hs3:=hid (show cf=c0+2 by rw [←Hc0.out]; exact S3.out)
   have S2':=hid (show W1.heap.size=w.heap.size+3 from S1.out)
   gi_wp2_with fail
   refine ygZ (F:=F3 (FNew W1 w2) w4.heap.size) (M:=RM br bk bps) (gf:=104) (lb:=#[.pointer (some ⟨w4.heap.size+1,0,none⟩), .pointer (some ⟨w4.heap.size+2,0,none⟩), .pointer (some ⟨w4.heap.size,0,none⟩)]) rfl yfB (fun b=>b=w.heap.size∨b=w.heap.size+1∨b=w.heap.size+1+1∨b=c0∨b=c0+1∨b=cf)
    (fun k vs F W h=>by obtain ⟨_,_,_,_,_,rfl,_⟩:=h; rfl) TL.out HA.host HA.host HA.hostE HHA.out HFO.out
    (NtI l (RM br bk bps) w.heap.size c0 cf n) (NtX l w.heap.size n) (ygh _ _ _ _ _ _) (ntX_stab _ _ _ _) (ntI_lt _ _ _ _ _ _) (ntX_lt _ _ _) ⟨by rw [yhp]; omega,none,0,by rw [yhp]; simpa using C5.out,Knows.none⟩
    (fun k O F a' W=>NtI l (RM br bk bps) w.heap.size c0 cf n k O F W∧∃bx D d,(dayS l (yao 0 146096))[k]? =some D∧SkD l (RM br bk bps) D d bx O F W∧NtT (.slice a l.length cap) (.int .i64 n) undef (.pointer (some ⟨w.heap.size,0,none⟩)) (.pointer (some ⟨w.heap.size+1,0,none⟩)) (.pointer (some ⟨w.heap.size+1+1,0,none⟩)) (.pointer (some ⟨br,0,none⟩)) (.int .i64 0) (.pointer (some ⟨cf,0,none⟩)) (.pointer (some ⟨bx,0,none⟩)) (.pointer (some ⟨d,0,none⟩)) [] a')
    ?putl ?assign ?body ?done ?stop
   case putl=>
    rintro l' o k O F a' W hr hnO hnF ⟨h1,bx,D,d,h3,h4,h5⟩
    have ko:∀b,O b∨(F b∧¬RM br bk bps b)→(W.putObj l' o).heap[b]? =W.heap[b]?:=fun b hb=>World.putObj_heap_other (fun e=>hb.elim (fun h=>hnO (e ▸ h)) (fun h=>hnF (e ▸ h.1)))
    exact ⟨ygh _ (RM br bk bps) _ _ _ _ k O F F W _ h1 (by rw [World.putObj_size]; exact zG _) (fun _ h=>h) ko,bx,D,d,h3,h4.put hr hnF,h5⟩
   case assign=>
    rintro l' k O6 F6 W6 vs K hk hJ6 hFl ⟨D,d,hn,h0,h1,rfl,hd,ht,hlt⟩ hG6 hK
    rw [←ybg]
    obtain ⟨s,hs⟩:∃s,shF D=s:=⟨_,rfl⟩
    rw [hs,shq]
    have Hs:=hid hs
    have HP:=hid (And.intro hJ6 (And.intro hFl (And.intro hn (And.intro hd (And.intro ht (And.intro hlt hG6))))))
    clear hs hJ6 hFl hn hd ht hlt hG6 h0 h1
    gi_wp2
    obtain ⟨hJ6,hFl,hn,hd,ht,hlt,hG6⟩:=HP.out
    have hbel:=yaa (o:= .cells (yaV s).toArray 88) (Below.refl W6.heap.size W6) (zG _)
    have hlO:=ntI_lt _ _ _ _ _ _ _ _ _ _ hJ6
    refine hK _ O6 _ (Grow.of_below hbel) ⟨ygh _ (RM br bk bps) _ _ _ _ _ O6 F6 F6 W6 _ hJ6 hbel.size (fun _ h=>h) (fun b hb=>hbel.block b (hb.elim (hlO b) (fun h=>hlt b h.1))),W6.heap.size,D,d,hn,
     ⟨fun b hb=>(hFl b hb).1,⟨hd.1,hd.2.1,hd.2.2.block hbel.size (hbel.block d (hlt d hd.1))⟩,⟨ht.1.later hbel,ht.2.1⟩,fun b hb=>zH (hlt b hb) hbel.size,by simp,⟨fun h=>by have:=hlO _ h; omega,fun h=>by have:=hlt _ h; omega⟩,by rw [Hs.out]; exact ycF W6 88 _ _ _ _ _ _ _ _ _ _⟩,NtT.of⟩
   case done=>
    rintro O9 F9 w9 hG9 hHN hFs hFn hFO9 ⟨hlt9,c9,m9,hI,-⟩ hD hnD hnF
    rw [nth_all] at hlt9
    have hpr:Hid (pr= (0,15)):=by
     show _ = _
     rw [HHP.out,if_neg (by rw [Hf.out]; simp),if_neg (by omega),if_neg (by omega)]
    have hI2:=hI.two
    have HX:=hid (hI2.set (x':=0) (y':=15))
    have HB9:Hid (Below w.heap.size w w9):=HB5.out.trans (hG9.eff.below (fun b hb=>by
     have:=Hs2.out; have:=Hs3.out
     rcases hb with (h | h | h | h | h | h) | h
     ·omega
     ·omega
     ·omega
     ·omega
     ·omega
     ·omega
     ·have:=HM.out b h; have:=S2'.out; omega) HB5.out.size)
    have HDx:Hid (((w9.setCell ⟨w.heap.size+1,0,none⟩ (.int .i64 0)).setCell ⟨w.heap.size+1+1,0,none⟩ (.int .i64 15)).heap[w5.heap.size]? =some (.deferred (some []))):=by
     show _ = _
     rw [Below.heap_setCell _ _ _ _ (fun e=>hnD (by rw [e]; exact hI2.o5)),Below.heap_setCell _ _ _ _ (fun e=>hnD (by rw [e]; exact hI2.o4))]
     exact hD
    have HND:=hid hnD
    obtain ⟨c4,c5,f4,f5,-,-,-⟩:=hI2
    clear hG9 hHN hFs hFn hFO9 hnD hnF hD hlt9 hI
    gi_wp2
    refine ⟨by simp, .inl ⟨_,_,rfl,run_takeDeferred HDx.out,?_⟩⟩
    have hBf:=yb4 (yab (yab HB9.out (by omega)) (by omega):Below w.heap.size w ((w9.setCell ⟨w.heap.size+1,0,none⟩ (.int .i64 0)).setCell ⟨w.heap.size+1+1,0,none⟩ (.int .i64 15))) HB5.out.size (.deferred none)
    have hX2:=HX.out.keep (W':=((w9.setCell ⟨w.heap.size+1,0,none⟩ (.int .i64 0)).setCell ⟨w.heap.size+1+1,0,none⟩ (.int .i64 15)).putObj w5.heap.size (.deferred none)) (by rw [World.putObj_size]; exact zG _) (fun b hb=>World.putObj_heap_other (fun e=>HND.out (e ▸ hb)))
    refine ⟨.tuple #[.int .i64 0, .int .i64 15],?_,by rw [hpr.out],hBf⟩
    obtain ⟨WF,hWF⟩:∃W,((w9.setCell ⟨w.heap.size+1,0,none⟩ (.int .i64 0)).setCell ⟨w.heap.size+1+1,0,none⟩ (.int .i64 15)).putObj w5.heap.size (.deferred none)=W:=⟨_,rfl⟩
    rw [hWF] at hX2
    obtain ⟨c4,c5,-,-,-,-,-⟩:=hX2
    rw [hWF]
    simp [results,Tryz.results28,go_sem,c4,c5]
   case stop=>
    rintro c k O9 F9 w9 hk1 hk2 hG9 hHN hFs hFn hFO9 ⟨rfl,x,⟨hx1,hx⟩,hX⟩ hD hnD hnF
    have hX':TwoC (w.heap.size+1) x 0 O9 (w9.putObj w5.heap.size (.deferred none)):=hX.keep (by rw [World.putObj_size]; exact zG _) (fun b hb=>World.putObj_heap_other (fun e=>hnD (e ▸ hb)))
    have hBf:Hid (Below w.heap.size w (w9.putObj w5.heap.size (.deferred none))):=yb4 (HB5.out.trans (hG9.eff.below (fun b hb=>by
     have:=Hs2.out; have:=Hs3.out
     rcases hb with (h | h | h | h | h | h) | h
     ·omega
     ·omega
     ·omega
     ·omega
     ·omega
     ·omega
     ·have:=HM.out b h; have:=S2'.out; omega) HB5.out.size)) HB5.out.size _
    have HD:=hid hD
    have HX:=hid hX'
    have hpr:Hid (pr= (x,0)):=by
     show _ = _
     obtain ⟨hi,hix⟩:=zzq.1 hx
     rw [HHP.out,if_neg (by rw [Hf.out]; simp),if_neg (by omega),if_pos (by omega),List.getD_eq_getElem?_getD,hx]; rfl
    clear hX hG9 hD hX' hHN hFs hFn hFO9 hnD hnF hx
    gi_wp2
    refine ⟨by simp, .inl ⟨_,_,rfl,run_takeDeferred HD.out,?_⟩⟩
    obtain ⟨c4,c5,-,-,-,-,-⟩:=HX.out
    refine ⟨.tuple #[.int .i64 x, .int .i64 0],?_,by rw [hpr.out],hBf.out⟩
    simp [results,Tryz.results28,go_sem,c4,c5]
   case body=>
    rintro l3 k O6 F6 a' W6 hk hG6 hl3 hrec6 hnl3 hnF3 ⟨⟨hlt6,c,m,hC6,hK6⟩,bx,D,d,en,hD,V,rfl⟩
    have hmem:=List.mem_of_getElem? en
    rw [dayS,List.mem_filter,ycg] at hmem
    obtain ⟨⟨D0,D1⟩,-⟩:=hmem
    have cC:=hid (Cnt_any c0 d (dayQ l D) c m W6 hC6.k (fun x hx=>(hK6 x hx).2.2) hD.di.2.2)
    have hcnt:=nth_more en D0 (by omega)
    have hhit:∀p (hp:p < (secL (dayQ l D)).length),(allI l)[cntI l 0 12622780799 (dayS l (yao 0 146096)) k+p]? =some (86400 * D+(secL (dayQ l D))[p]):=fun p hp=>nth_hit (n:=0) en hp D0 (by omega)
    obtain ⟨r,hr⟩:∃r,n - ((cntI l 0 12622780799 (dayS l (yao 0 146096)) k:Nat):Int)=r:=⟨_,rfl⟩
    obtain ⟨q,hq⟩:∃q,dayQ l D=q:=⟨_,rfl⟩
    have r1:1≤r:=by omega
    have r2:r≤9223372036854775807:=by omega
    have hlq:=yiR q
    obtain ⟨s,hs⟩:∃s,shF D=s:=⟨_,rfl⟩
    have hs0:s 0=D:=by rw [←hs]; rfl
    rw [hr] at hC6
    rw [hq] at cC hcnt hhit
    have co:W6.cell? ⟨cf,0,none⟩=some (.func (.func 101) #[] #[.pointer (some ⟨c0,0,none⟩), .pointer (some ⟨c0+1,0,none⟩)]):=hC6.co
    have HC6:=hid hC6
    have HD6:=hid hD
    have Hhit:=hid hhit
    have Hcnt:=hid hcnt
    have Hr:=hid hr
    have Hq:=hid hq
    have Hs:=hid hs
    have En:=hid en
    obtain ⟨N,hN⟩:∃N,(secL q).length=N:=⟨_,rfl⟩
    rw [hN] at cC hcnt hlq
    have HN:=hid hN
    clear hG6 hs hD hk en hC6 hK6 hhit hcnt hr hq hlt6 hN
    gi_wp2_with fail
    refine (wf_calls.mpr cC.out).mono ?_
    rintro e w7 ⟨rfl,hE7,hk7⟩
    have hC7:=HC6.out.cnt hE7 hk7
    have hE67:Eff O6 W6 w7:=hE7.wide (fun b hb=>by rcases hb with rfl | rfl; exact HC6.out.p0; exact HC6.out.p1)
    have hd7:DiscAt w7 d q:=by
     have:=HD6.out.di.2.2.eff hE67 (HD6.out.dj d HD6.out.di.1)
     rw [Hq.out] at this; exact this
    have ht7:Tab w7:=HD6.out.tab.1.eff hE67 (HD6.out.dj _ HD6.out.tab.2)
    have hsh7:ShS w7 bx s:=by
     have:=yhQ HD6.out.sh (hE67.block bx HD6.out.lx HD6.out.nx.1)
     rw [Hs.out] at this; exact this
    have cn7:=hC7.cn
    have fn7:=hC7.fn
    have HC7:=hid hC7
    have HE67:=hid hE67
    by_cases hm:(N:Int) < r
    ·have e2:decide ((N:Int) < r)=true:=zzZ hm
     have hNx:Hid (NtI l (RM br bk bps) w.heap.size c0 cf n (k+1) O6 F6 (w7.setCell ⟨w.heap.size,0,none⟩ (.int .i64 (r - (N:Int))))):=by
      have h1:=Hcnt.out
      have h2:=Hr.out
      refine ⟨by rw [h1,HN.out]; omega,some d,N,?_,fun x hx=>?_⟩
      ·rw [h1,HN.out,show n - ((cntI l 0 12622780799 (dayS l (yao 0 146096)) k+N:Nat):Int)=r - N by omega]
       exact HC7.out.put
      ·cases hx
       exact ⟨HD6.out.di.1,HD6.out.di.2.1,q,DiscAt.block hd7 (by simp) (Below.heap_setCell _ _ _ _ (fun e=>HD6.out.dj d HD6.out.di.1 (e ▸ HC6.out.o0))),by rw [HN.out]⟩
     have hEx:Hid (Eff O6 W6 (w7.setCell ⟨w.heap.size,0,none⟩ (.int .i64 (r - (N:Int))))):=HE67.out.set HC6.out.o0 _ _
     clear hC7 hE7 hk7 hE67 hd7 ht7 hsh7 hm co cC
     gi_wp2
     exact ⟨O6,⟨fun _ h=>h,fun _ h=> .inl h,hEx.out⟩,hNx.out⟩
    ·have e2:decide ((N:Int) < r)=false:=zzd hm
     have hrN:r≤N:=by omega
     have cX:=hid (fun (x:Int) W h1 h2 hT hd=>yfY (some d) q x W h1 h2 hT hd)
     have c1:=hid (cX.out 0 w7 (by omega) (by omega) ht7 hd7)
     have HL7:Hid (NtL l (RM br bk bps) d bx D w.heap.size c0 cf r O6 F6 W6 0 w7):=
      ⟨⟨some d,N,by rw [show r - ((0:Nat):Int)=r by omega]; exact HC7.out⟩,HE67.out,by rw [Hq.out]; exact hd7,ht7,by rw [Hs.out]; exact hsh7⟩
     clear hC7 hE7 hk7 hE67 hd7 ht7 hsh7 hm co cC
     gi_wp2_with fail
     refine (wf_calls.mpr c1.out).mono ?_
     rintro e w8 ⟨⟨a8,ok8,rfl,hF8⟩,hw8⟩
     rw [←hw8]
     have hx0:Hid ((secL q)[0]? =some a8):=by
      have h0:0 < (secL q).length:=by rw [HN.out]; omega
      have:=(yfQ h0 hF8).1
      show _ = _
      rw [zzp h0,this]
     have ha8:0≤a8∧a8 < 86400:=by
      have h0:0 < (secL q).length:=by rw [HN.out]; omega
      have h1:=(yfQ h0 hF8).1
      have h2:=zzr h0
      rw [←h1,secL,sel_mem] at h2
      obtain ⟨k2,h3,-,h4⟩:=h2
      omega
     clear hF8 hw8 c1 cn7 fn7
     gi_wp2_with fail
     gi_loopw [12] (fun av wr=>∃(j:Nat) (x:Int),av= .int .i64 x∧0≤x∧x < 86400∧(j:Int) < r∧Hid ((secL q)[j]? =some x∧NtL l (RM br bk bps) d bx D w.heap.size c0 cf r O6 F6 W6 j wr)) (fun av _=>(86400 - intOf av).toNat)
     case atStart=>exact ⟨0,a8,rfl,ha8.1,ha8.2,by omega,hx0.out,HL7.out⟩
     case round=>
      clear HL7 hx0 ha8
      obtain ⟨j,x,rfl,x0,x1,hj,HL⟩:=hrel
      obtain ⟨⟨c9,m9,hC9⟩,hE9,hd9,ht9,hs9⟩:=HL.out.2
      have cn9:=hC9.cn
      have fn9:=hC9.fn
      by_cases hjr:(j:Int)+1 < r
      ·have e3:decide (1 < r - (j:Int))=true:=zzZ (by omega)
       have c9:=hid (cX.out (x+1) wr (by omega) (by omega) ht9 (by rw [←Hq.out]; exact hd9))
       clear hC9 hE9 hd9 ht9 hs9
       gi_wp2_with fail
       refine (wf_calls.mpr c9.out).mono ?_
       rintro e w10 ⟨⟨a10,ok10,rfl,hF10⟩,hw10⟩
       rw [←hw10]
       have hj1:j+1 < (secL q).length:=by rw [HN.out]; omega
       have hjx:(secL q)[j]? =some x:=HL.out.1
       have hjl:j < (secL q).length:=by omega
       have hxe:(secL q)[j]=x:=by rw [zzp hjl] at hjx; exact Option.some.inj hjx
       have hF10':FirstOf (fun k=>q k && decide ((secL q)[j]+1≤(k:Int))) a10 ok10:=by rw [hxe]; exact hF10
       have hf:=(yka hj1 hF10').1
       have hx1:Hid ((secL q)[j+1]? =some a10):=by
        show _ = _
        rw [zzp hj1,hf]
       have hup:x < a10∧a10 < 86400:=by
        have hp:(secL q).Pairwise (·< ·):=yaH _ _
        have h1:=(yjD hp hjl hj1).2 (by omega)
        have h2:=zzr hj1
        rw [←hf] at h2 h1
        rw [secL,sel_mem] at h2
        obtain ⟨k2,h3,-,h4⟩:=h2
        rw [hxe] at h1
        omega
       have hup1:=hup.1
       have hup2:=hup.2
       have Hd0:Hid (d≠w.heap.size∧bx≠w.heap.size∧0≠w.heap.size):=⟨fun e=>HD6.out.dj d HD6.out.di.1 (e ▸ HC6.out.o0),fun e=>HD6.out.nx.1 (e ▸ HC6.out.o0),fun e=>HD6.out.dj _ HD6.out.tab.2 (e ▸ HC6.out.o0)⟩
       have hjc:((j+1:Nat):Int) < r:=by omega
       clear hF10 hF10' hf hxe hjx hj1 hup hw10 c9 hjl
       gi_wp2
       refine ⟨⟨j+1,a10,rfl,by omega,hup2,hjc,hx1.out,HL.out.2.put Hd0.out.1 Hd0.out.2.1 Hd0.out.2.2 (by omega)⟩,by simp [intOf]; omega⟩
      ·have e3:decide (1 < r - (j:Int))=false:=zzd (by omega)
       have hfin:Hid ((1≤n∧(allI l)[n.toNat - 1]? =some (86400 * D+x))∧TwoC (w.heap.size+1) 0 0 O6 wr∧Eff O6 W6 wr):=by
        have hjx:(secL q)[j]? =some x:=HL.out.1
        obtain ⟨hjl,hxe⟩:=zzq.1 hjx
        have h1:=Hhit.out j hjl
        have h2:=Hr.out
        refine ⟨⟨n1,?_⟩,hC9.two,hE9⟩
        rw [show n.toNat - 1=cntI l 0 12622780799 (dayS l (yao 0 146096)) k+j by omega,h1,hxe]
       rw [Hs.out] at hs9
       obtain ⟨s0,-⟩:=hs9
       rw [hs0] at s0
       obtain ⟨g4,g5,z4,z5,-,-,-⟩:=hC9.two
       clear hC9 hE9 hd9 ht9 HL
       gi_wp2
       obtain ⟨hy,hTw,hEx⟩:=hfin.out
       first
        | exact ⟨O6,⟨fun _ h=>h,fun _ h=> .inl h,(hEx.set hTw.o4 _ _).set hTw.o5 _ _⟩,rfl,_,hy,hTw.set⟩
        | (rw [Int.mul_comm] at hy; exact ⟨O6,⟨fun _ h=>h,fun _ h=> .inl h,(hEx.set hTw.o4 _ _).set hTw.o5 _ _⟩,rfl,_,hy,hTw.set⟩)
end
section
open Go.RowKit Go.Maps
attribute [local irreducible] secL
attribute [local go_sem ↓] ycK yaC yaK
attribute [local go_sem] yaA
theorem yg3 (X:Cl):cls [X]=yac X:=by simp [cls]
theorem ydm (W:World) (X:Cl):Sl (W.alloc (.cells (yac X).toArray 34)) (some ⟨W.heap.size,0,none⟩) (cls [X]):=by
 rw [yg3]; exact ybZ (yau W _ _) (by simp)
def LowR (w:World) (r:Ru) (e:Ending) (W:World):Prop:=
 (lowE r≠0∧e= .returned (.tuple #[.slice none 0 0, .int .i64 (lowE r)]))∨
 (lowE r=0∧∃g,e= .returned (.tuple #[.slice (some ⟨g,0,none⟩) 1 1, .int .i64 0])∧w.heap.size≤g∧Sl W (some ⟨g,0,none⟩) (cls [lowF r]))
theorem yfq (r:Ru) (w:World) (hr:RuS w r) (hm:r.Sm 1000000) (hn:r.Num) (hT:Tab w):Calls Tryz.prog 10 #[ruv r] w fun e w'=>LowR w r e w'∧Below w.heap.size w w':=by
 have hB0:Below w.heap.size w (w.alloc (.cells (yai r).toArray 25)):=yaa (Below.refl _ _) (zG _)
 have hR0:=yaJ w r 25
 have s0:w.heap.size < (w.alloc (.cells (yai r).toArray 25)).heap.size:=by simp
 obtain ⟨W0,hW0⟩:∃W,w.alloc (.cells (yai r).toArray 25)=W:=⟨_,rfl⟩
 rw [hW0] at hB0 hR0 s0
 have cC:=hid (yeu r W0 (hr.below hB0) hm)
 obtain ⟨b1,eb1⟩:∃b,w.heap.size=b:=⟨_,rfl⟩
 rw [eb1] at hR0 s0
 have HB0:=hid hB0
 have HR0:=hid hR0
 have S0:=hid s0
 have E1:=hid eb1
 have HW0:=hid hW0
 have ld:=hR0.ldw
 clear hW0 hB0 hR0 s0 eb1 hr
 by_cases hE:lowE r=0
 rotate_left
 ·rw [if_neg hE] at cC
  have HE:=hid hE
  obtain ⟨c,hc⟩:∃c,lowE r=c:=⟨_,rfl⟩
  rw [hc] at cC hE
  have Hc:=hid hc
  have q1:(c == 0)=false:=by simpa using hE
  have q2:(c != 0)=true:=by simpa using hE
  clear hE hc
  go_enter Tryz.func10,Tryz.ntmps10
  go_upto_region 1 with fail
  rw [HW0.out,E1.out]
  go_wp2_with fail
  refine cC.out.mono ?_
  rintro e w2 ⟨rfl,hB⟩
  have hth:(w2.alloc (.cells zL.toArray 34)).there w2.heap.size 0 30:=yat w2 _ _
  have hb3:Below w2.heap.size w2 (yas (w2.alloc (.cells zL.toArray 34)) w2.heap.size zL):=yaj (yaa (Below.refl _ _) (zG _)) (zG _) _
  obtain ⟨w3,hw3⟩:∃W,yas (w2.alloc (.cells zL.toArray 34)) w2.heap.size zL=W:=⟨_,rfl⟩
  rw [hw3] at hb3
  have HB3:=hid (HB0.out.trans ((hB.trans (hb3.mono hB.size)).mono HB0.out.size))
  have HW3:=hid hw3
  clear hB hb3 hw3 cC ld
  go_upto_region 2 with fail
  rw [HW3.out]
  clear hth
  go_wp2
  go_ret2
  exact ⟨.inl ⟨HE.out,by rw [Hc.out] <;> rfl⟩,HB3.out⟩
 rw [if_pos hE,hE] at cC
 have HE:=hid hE
 have hck:yaf r=0:=by
  by_cases h:yaf r=0
  ·exact h
  ·rw [lowE,if_neg h] at hE; exact hE
 have hco:0≤r.co∧r.co≤1000000:=by
  have h1:=(ydJ (yaw hck).h).2.1
  rw [lowE,if_pos hck] at hE
  by_cases h:100000000000 < r.iv∨1000000 < r.co
  ·rw [if_pos h] at hE; cases hE
  ·exact ⟨h1,by omega⟩
 have hcok:=low_ok hn
 have cN:Hid (∀g W,Below w.heap.size w W→Sl W (some ⟨g,0,none⟩) (cls [lowC r])→Calls Tryz.prog 28 #[.slice (some ⟨g,0,none⟩) 1 1, .int .i64 r.co] W fun e w'=>e= .returned (.tuple #[.int .i64 (nthP [lowC r] r.co).1, .int .i64 (nthP [lowC r] r.co).2])∧Below W.heap.size W w'):=
  fun g W hB hs=>NthT_any (some ⟨g,0,none⟩) 1 [lowC r] r.co W (by simp) (by simp) hs (fun h=>by cases h) (by simpa using hcok) (by omega) (hT.later hB)
 have HF:Hid (∀x,r.co≤0∨nthP [lowC r] r.co= (0,15)→lowC r=x→lowF r=x):=fun x h e=>by
  rw [lowF,if_neg,e]
  rintro ⟨h1,h2⟩
  rcases h with h | h
  ·omega
  ·rw [h] at h2; cases h2
 have HF2:Hid (∀x c,0 < r.co→nthP [lowC r] r.co= (x,0)→lowC r=c→lowF r= {c with un:=x}):=fun x c h e ec=>by
  rw [lowF,if_pos ⟨h,by rw [e]⟩,e,ec]
 have Hcase:Hid (1≤r.co→(∃x,nthP [lowC r] r.co= (x,0))∨nthP [lowC r] r.co= (0,15)):=fun h=>by
  rcases low_nth hck h with ⟨x,e,-⟩ | e
  ·exact .inl ⟨x,e⟩
  ·exact .inr e
 obtain ⟨c,hc⟩:∃c,lowC r=c:=⟨_,rfl⟩
 rw [hc] at cC cN HF HF2 Hcase
 have Hc:=hid hc
 clear hE hck hcok hc hT hn hm
 go_enter Tryz.func10,Tryz.ntmps10
 go_upto_region 1 with fail
 rw [HW0.out,E1.out]
 go_wp2_with fail
 refine cC.out.mono ?_
 rintro e w2 ⟨rfl,hB⟩
 have hth:(w2.alloc (.cells zL.toArray 34)).there w2.heap.size 0 30:=yat w2 _ _
 have hn3:=yaa (o:= .cells zL.toArray 34) (Below.refl w2.heap.size w2) (zG _)
 obtain ⟨w3,hw3⟩:∃W,yas (w2.alloc (.cells zL.toArray 34)) w2.heap.size (yac c)=W:=⟨_,rfl⟩
 have hL3:LsB w2.heap.size (yac c) w3:=by
  rw [←hw3]
  exact ⟨yak _ rfl hth,fun i=>by rw [yby,World.frozen?_setCells]; exact yaB w2 _ _ i,by rw [yby,yaN,zzN]; omega⟩
 have hb3:Below w2.heap.size w2 w3:=by rw [←hw3]; exact yaj hn3 (zG _) _
 have hb03:=hB.trans (hb3.mono hB.size)
 have HR3:=hid (HR0.out.below hb03 S0.out)
 have HB3:=hid (HB0.out.trans (hb03.mono HB0.out.size))
 obtain ⟨b4,eb4⟩:∃b,w2.heap.size=b:=⟨_,rfl⟩
 have h14:Hid (b1 < b4):=by show _ < _; have:=S0.out; have:=hB.size; omega
 rw [eb4] at hL3
 have HL3:=hid hL3
 have HW3:=hid hw3
 have E4:=hid eb4
 clear hB hn3 hL3 hb3 hb03 hw3 eb4 cC ld HR0
 go_upto_region 2 with fail
 rw [HW3.out,E4.out]
 clear hth
 have k3:=HR3.out.at 3 (v:= .int .i64 r.co) rfl
 have ld3:=(show ClB w3 b4 c from HL3.out.r).ld
 have hsl:=ydm w3 c
 have hbn:=yaa (o:= .cells (yac c).toArray 34) (Below.refl w3.heap.size w3) (zG _)
 obtain ⟨w4,hw4⟩:∃W,w3.alloc (.cells (yac c).toArray 34)=W:=⟨_,rfl⟩
 rw [hw4] at hsl hbn
 have HB4:=hid (HB3.out.trans (hbn.mono HB3.out.size))
 have HSl:=hid hsl
 have HW4:=hid hw4
 have Hbn:=hid hbn
 clear hsl hbn hw4
 by_cases h0:0 < r.co
 rotate_left
 ·have HX:=hid (HF.out c (.inl (by omega)) rfl)
  have L3:Hid (w.heap.size≤w3.heap.size):=HB3.out.size
  go_wp2_with (rw [HW4.out])
  go_wp2
  go_ret2
  exact ⟨.inr ⟨HE.out,_,rfl,L3.out,by rw [HX.out]; exact HSl.out⟩,HB4.out⟩
 have cN4:=hid (cN.out _ w4 HB4.out HSl.out)
 have k34:=(Hbn.out.cell (p:=⟨b1,3,none⟩) (by have:=h14.out; have:=HL3.out.lt; simp only []; omega)).trans k3
 have H0:=hid h0
 rcases Hcase.out (by omega) with ⟨x,hx⟩ | hx
 ·rw [hx] at cN4
  have HX:=hid (HF2.out x c h0 hx rfl)
  clear hx
  go_wp2_with (rw [HW4.out])
  refine cN4.out.mono ?_
  rintro e w5 ⟨rfl,hB⟩
  have hb35:=Hbn.out.trans (hB.mono Hbn.out.size)
  have HL5:=hid (HL3.out.block hb35.size (hb35.block _ HL3.out.lt))
  have HB5:=hid (HB3.out.trans (hb35.mono HB3.out.size))
  have cc:=HL5.out.at (k:=29) (v:= .int .i64 c.un) rfl
  have cz:=HL5.out.z 29
  have hL6:=HL5.out.set (k:=29) (by simp) (.int .i64 x)
  have hb6:Below w.heap.size w (w5.setCell ⟨b4,29,none⟩ (.int .i64 x)):=yab HB5.out (by have:=E4.out; have:=h14.out; have:=E1.out; omega)
  obtain ⟨w6,hw6⟩:∃W,w5.setCell ⟨b4,29,none⟩ (.int .i64 x)=W:=⟨_,rfl⟩
  rw [hw6] at hL6 hb6
  have ld6:=(show ClB w6 b4 {c with un:=x} from hL6.r).ld
  have HB6:=hid hb6
  obtain ⟨c',hc'⟩:∃c',({c with un:=x}:Cl)=c':=⟨_,rfl⟩
  rw [hc'] at ld6 HX
  have hsl:=ydm w6 c'
  have hbn:=yaa (o:= .cells (yac c').toArray 34) (Below.refl w6.heap.size w6) (zG _)
  obtain ⟨w7,hw7⟩:∃W,w6.alloc (.cells (yac c').toArray 34)=W:=⟨_,rfl⟩
  rw [hw7] at hsl hbn
  have HB7:=hid (HB6.out.trans (hbn.mono HB6.out.size))
  have L6:Hid (w.heap.size≤w6.heap.size):=HB6.out.size
  have HSl7:=hid hsl
  have HW7:=hid hw7
  clear hB hb35 hL6 hb6 hsl hbn hw7 hc' ld3 k34 k3
  go_upto_region 8 with fail
  clear hw6 cc cz
  go_wp2_with (rw [HW7.out])
  go_wp2
  go_ret2
  exact ⟨.inr ⟨HE.out,_,rfl,L6.out,by rw [HX.out]; exact HSl7.out⟩,HB7.out⟩
 ·rw [hx] at cN4
  have HX:=hid (HF.out c (.inr hx) rfl)
  clear hx
  go_wp2_with (rw [HW4.out])
  refine cN4.out.mono ?_
  rintro e w5 ⟨rfl,hB⟩
  have hb35:=Hbn.out.trans (hB.mono Hbn.out.size)
  have HL5:=hid (HL3.out.block hb35.size (hb35.block _ HL3.out.lt))
  have HB5:=hid (HB3.out.trans (hb35.mono HB3.out.size))
  have ld5:=(show ClB w5 b4 c from HL5.out.r).ld
  have hsl:=ydm w5 c
  have hbn:=yaa (o:= .cells (yac c).toArray 34) (Below.refl w5.heap.size w5) (zG _)
  obtain ⟨w7,hw7⟩:∃W,w5.alloc (.cells (yac c).toArray 34)=W:=⟨_,rfl⟩
  rw [hw7] at hsl hbn
  have HB7:=hid (HB5.out.trans (hbn.mono HB5.out.size))
  have L6:Hid (w.heap.size≤w5.heap.size):=HB5.out.size
  have HSl7:=hid hsl
  have HW7:=hid hw7
  clear hB hb35 hsl hbn hw7 ld3 k34 k3
  go_wp2_with (rw [HW7.out])
  go_wp2
  go_ret2
  exact ⟨.inr ⟨HE.out,_,rfl,L6.out,by rw [HX.out]; exact HSl7.out⟩,HB7.out⟩
end
section
open Go.RowKit Go.Maps
attribute [local irreducible] secL
theorem has_un {c:Cl} {x:Int} (h:x≤c.un) (t:Int):hasC {c with un:=x} t= (hasC c t && decide (t≤x)):=by
 have e:betB c.fr x t= (betB c.fr c.un t && decide (t≤x)):=by
  rw [betB,betB]
  by_cases ht:t≤x
  ·rw [zzZ ht,zzZ (show t≤c.un by omega),Bool.and_true,Bool.and_true]
  ·rw [zzd ht,Bool.and_false,Bool.and_false]
 show (winB t && (mayC c && (betB c.fr x t && (ybl (t % 86400) (c.m 2) (c.m 1) (c.m 0) && (onB c.unit c.step c.anchor t && dayC c (t / 86400))))))= _
 rw [e,hasC]
 ac_rfl
theorem low_check {r:Ru} (h:lowE r=0):yaf r=0:=by
 by_cases e:yaf r=0
 ·exact e
 ·rw [lowE,if_neg e] at h; exact h
theorem ru0_low:lowE ru0=0:=by rw [lowE,if_pos ygW,if_neg (by decide)]
theorem ru0_life (t:Int):hasL [lowF ru0] t= ((winB t && decide (t % 86400=0)) && decide (t≤172800)):=by
 have e:lowF ru0= {lowC ru0 with un:=172800}:=by
  rw [lowF,if_pos ⟨by decide,by rw [show ru0.co=3 from rfl,ru0_nth]⟩,show ru0.co=3 from rfl,ru0_nth]
 have hm:mayL [lowF ru0]=true:=by simp [mayL,lowF_may ygW]
 rw [hasL,hm,zzo,List.any_cons,List.any_nil,Bool.or_false,e,has_un (show (172800:Int)≤12622780799 by decide),ru0_has]
end
end Go.Proofs.YtjahgimnfliooaaGreatDoor
