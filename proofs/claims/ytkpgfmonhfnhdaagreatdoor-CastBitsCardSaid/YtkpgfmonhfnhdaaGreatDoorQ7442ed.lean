/-
  cast.Of: a set's face.
-/
import Derived.Test.YtkpgfmonhfnhdaaGreatDoorQ5d8002
import Derived.Test.YtkpgfmonhfnhdaaGreatDoorQeca3d8
import Derived.Test.YtkpgfmonhfnhdaaGreatDoorQ5eff0f
import Derived.Deep.CutRange
import Derived.Sort.CutIn
set_option maxRecDepth 100000
set_option maxHeartbeats 25600000
namespace Go.Proofs.YtkpgfmonhfnhdaaGreatDoor
open Go.RowKit Go.Maps
set_option linter.unusedVariables false
attribute [local irreducible] secL
attribute [local go_sem] Oper.semAt_some
attribute [local go_sem ↓] yaq ya8 yeM ydH
attribute [local go_sem] yaJ
attribute [local go_sem] run_makeMap
theorem ykr (bf:Nat) (w:World):Calls Tryz.prog 24 #[.pointer (some ⟨bf,0,none⟩)] w fun e w'=>e= .returned (.func (.func 58) #[] #[.pointer (some ⟨w.heap.size,0,none⟩), .pointer (some ⟨w.heap.size+1+1+1+1,0,none⟩), .pointer (some ⟨w.heap.size+1,0,none⟩)])∧
  w' = ((((w.alloc (.cells #[.pointer (some ⟨bf,0,none⟩)] 114)).alloc (.cells #[.pointer none] 72)).alloc (.map #[] 0)).alloc (.cells #[.map (some (w.heap.size+1+1))] 182)).alloc (.cells #[.func (.func 103) #[] #[.pointer (some ⟨w.heap.size+1+1+1,0,none⟩)]] 115):=by
 have cF:=hid (yfJ ((w.alloc (.cells #[.pointer (some ⟨bf,0,none⟩)] 114)).alloc (.cells #[.pointer none] 72)))
 simp only [zzN] at cF
 go_enter Tryz.func24,Tryz.ntmps24
 go_wp2_with fail
 refine cF.out.mono ?_
 rintro e w1 ⟨rfl,rfl⟩
 go_wp2
 go_ret
 refine ⟨?_,rfl⟩
 simp
def CofR (l:List Cl) (e:Ending):Prop:=
 (yah l≠0∧e= .returned (.tuple #[fcv (fun _=>0) 0 0 0 false false, .int .i64 (yah l)]))∨
 (yah l=0∧∃u fi la n ev sq,e= .returned (.tuple #[fcv u fi la n ev sq, .int .i64 0])∧FaceP l u fi la n ev sq)
structure OfC (b1 b3 b4 bx bm bf b9:Nat) (u:Nat→Nat) (fi la n:Int) (ev sq:Bool) (fd:Option Nat) (O:Blk) (W:World):Prop where
 tm:TmC b1 b3 b4 bx bm bf u fi la n ev sq fd W
 c9:W.cell? ⟨b9,0,none⟩=some (.func (.func 58) #[] #[.pointer (some ⟨b1,0,none⟩), .pointer (some ⟨b4,0,none⟩), .pointer (some ⟨b3,0,none⟩)])
 os:O b1∧O b3∧O b4∧O bx∧O bm∧O bf∧O b9
 lt:∀b,O b→b < W.heap.size
 ne:b9≠bf∧b9≠b3∧b9≠bm
section
variable {b1 b3 b4 bx bm bf b9:Nat} {u:Nat→Nat} {fi la n:Int} {ev sq:Bool} {fd:Option Nat} {O:Blk} {W W':World}
theorem OfC.keep (h:OfC b1 b3 b4 bx bm bf b9 u fi la n ev sq fd O W) (hs:W.heap.size≤W'.heap.size) (hb:∀b,O b→W'.heap[b]? =W.heap[b]?):OfC b1 b3 b4 bx bm bf b9 u fi la n ev sq fd O W':=
 ⟨h.tm.keep hs (fun b hb'=>hb b (by have:=h.os; rcases hb' with rfl | rfl | rfl | rfl <;> simp [this])),(zzJ (w:=W) (a:=⟨b9,0,none⟩) (hb _ h.os.2.2.2.2.2.2)).trans h.c9,h.os,fun b hb'=>zH (h.lt b hb') hs,h.ne⟩
theorem OfC.face {u':Nat→Nat} {fi' la' n':Int} {ev' sq':Bool} (h:OfC b1 b3 b4 bx bm bf b9 u fi la n ev sq fd O W) (hE:Eff (fun b=>b=bf) W W') (hf:FcB bf u' fi' la' n' ev' sq' W'):OfC b1 b3 b4 bx bm bf b9 u' fi' la' n' ev' sq' fd O W':=
 ⟨h.tm.face hE hf,(hE.cell (p:=⟨b9,0,none⟩) (h.lt _ h.os.2.2.2.2.2.2) h.ne.1).trans h.c9,h.os,fun b hb'=>zH (h.lt b hb') hE.size,h.ne⟩
theorem OfC.time {u':Nat→Nat} {fi' la' n':Int} {ev' sq':Bool} {fd':Option Nat} (h:OfC b1 b3 b4 bx bm bf b9 u fi la n ev sq fd O W) (hE:Eff (fun b=>b=bf∨b=b3∨b=bm) W W') (hf:TmC b1 b3 b4 bx bm bf u' fi' la' n' ev' sq' fd' W'):OfC b1 b3 b4 bx bm bf b9 u' fi' la' n' ev' sq' fd' O W':=
 ⟨hf,(hE.cell (p:=⟨b9,0,none⟩) (h.lt _ h.os.2.2.2.2.2.2) (fun e=>by have:=h.ne; simp only [] at e; omega)).trans h.c9,h.os,fun b hb'=>zH (h.lt b hb') hE.size,h.ne⟩
end
def CoI (l:List Cl) (u0:Nat→Nat) (M:Blk) (b1 b3 b4 bx bm bf b9:Nat):OwnF:=fun k O F W=>
 ∃fd,OfC b1 b3 b4 bx bm bf b9 (cuU u0 ((dayS l (yac 0 146096)).take k)) (fiV l ((dayS l (yac 0 146096)).take k)) (laV l ((dayS l (yac 0 146096)).take k)) (k:Nat) (evB (lsL l ((dayS l (yac 0 146096)).take k))) (sqA (lsL l ((dayS l (yac 0 146096)).take k))) fd O W∧
  FdP F M (lsL l ((dayS l (yac 0 146096)).take k)) fd W∧FrW bx bm F M (Pf (lsL l ((dayS l (yac 0 146096)).take k))) W
theorem shS_block {W W':World} {b:Nat} {s:Nat→Int} (h:ShS W b s) (hb:W'.heap[b]? =W.heap[b]?):ShS W' b s:=by
 obtain ⟨a0,a1,a2,a3,a4,a5,a6,a7,a8,a9⟩:=h
 have e:=fun i=>zzJ (w:=W) (w':=W') (a:=⟨b,i,none⟩) hb
 exact ⟨(e 0).trans a0,(e 1).trans a1,(e 2).trans a2,(e 3).trans a3,(e 4).trans a4,(e 5).trans a5,(e 6).trans a6,(e 7).trans a7,(e 8).trans a8,(e 9).trans a9⟩
def CoX:Code→OwnF:=fun _ _ _ _ _=>False
theorem ygn (l:List Cl) (u0:Nat→Nat) (M:Blk) (b1 b3 b4 bx bm bf b9:Nat):StabF M (CoI l u0 M b1 b3 b4 bx bm bf b9):=fun k O F F' W W' ⟨fd,h1,h2,h3⟩ hs hF hO=>
 ⟨fd,h1.keep hs (fun b hb=>hO b (.inl hb)),h2.keep hs hF (fun b hb=>hO b (.inr hb)),h3.keep hs hF (fun b hb=>hO b (.inr hb)) (hO _ (.inl h1.os.2.2.2.1)) (hO _ (.inl h1.os.2.2.2.2.1))⟩
theorem coX_stab (M:Blk) (c:Code):StabF M (CoX c):=fun k O F F' W W' h _ _ _=>h.elim
theorem coI_lt (l:List Cl) (u0:Nat→Nat) (M:Blk) (b1 b3 b4 bx bm bf b9:Nat):LtF (CoI l u0 M b1 b3 b4 bx bm bf b9):=fun k O F W ⟨_,h,_⟩=>h.lt
theorem coX_lt (c:Code):LtF (CoX c):=fun k O F W h=>h.elim
def CoT (h0 h2 h3 h4 h5 h6 h9 h10 h11:Value) (ds:List Deferred) (a:Act):Prop:=∃V:Nat→Value,a= {tmps:=#[h0,V 1,h2,h3,h4,h5,h6,V 7,V 8,h9,h10,h11,V 12,V 13,V 14,V 15,V 16,V 17,V 18,V 19,V 20,V 21,V 22,V 23,V 24,V 25,V 26,V 27,V 28,V 29,V 30,V 31,V 32,V 33,V 34,V 35,V 36,V 37,V 38,V 39,V 40,V 41,V 42,V 43,V 44,V 45,V 46,V 47,V 48,V 49,V 50,V 51,V 52,V 53,V 54,V 55,V 56,V 57,V 58,V 59,V 60,V 61,V 62,V 63,V 64,V 65,V 66,V 67,V 68,V 69,V 70],defers:=ds}
theorem CoT.of {h0 h2 h3 h4 h5 h6 h9 h10 h11 u1 u7 u8 u12 u13 u14 u15 u16 u17 u18 u19 u20 u21 u22 u23 u24 u25 u26 u27 u28 u29 u30 u31 u32 u33 u34 u35 u36 u37 u38 u39 u40 u41 u42 u43 u44 u45 u46 u47 u48 u49 u50 u51 u52 u53 u54 u55 u56 u57 u58 u59 u60 u61 u62 u63 u64 u65 u66 u67 u68 u69 u70:Value} {ds:List Deferred}:CoT h0 h2 h3 h4 h5 h6 h9 h10 h11 ds {tmps:=#[h0,u1,h2,h3,h4,h5,h6,u7,u8,h9,h10,h11,u12,u13,u14,u15,u16,u17,u18,u19,u20,u21,u22,u23,u24,u25,u26,u27,u28,u29,u30,u31,u32,u33,u34,u35,u36,u37,u38,u39,u40,u41,u42,u43,u44,u45,u46,u47,u48,u49,u50,u51,u52,u53,u54,u55,u56,u57,u58,u59,u60,u61,u62,u63,u64,u65,u66,u67,u68,u69,u70],defers:=ds}:=⟨fun i=>(#[u1,u7,u8,u12,u13,u14,u15,u16,u17,u18,u19,u20,u21,u22,u23,u24,u25,u26,u27,u28,u29,u30,u31,u32,u33,u34,u35,u36,u37,u38,u39,u40,u41,u42,u43,u44,u45,u46,u47,u48,u49,u50,u51,u52,u53,u54,u55,u56,u57,u58,u59,u60,u61,u62,u63,u64,u65,u66,u67,u68,u69,u70]:Array Value).getD (#[0,0,0,0,0,0,0,1,2,0,0,0,3,4,5,6,7,8,9,10,11,12,13,14,15,16,17,18,19,20,21,22,23,24,25,26,27,28,29,30,31,32,33,34,35,36,37,38,39,40,41,42,43,44,45,46,47,48,49,50,51,52,53,54,55,56,57,58,59,60,61].getD i 0) undef,rfl⟩
theorem COf_any (a:Option Addr) (cap:Nat) (l:List Cl) (w:World) (hl:l.length≤9223372036854775807) (hlc:l.length≤cap) (hs:Sl w a (cls l)) (hno:a=none→cap=0) (hok:∀c∈l,c.Ok) (hT:Tab w) :
  Calls Tryz.prog 6 #[.slice a l.length cap] w fun e w'=>CofR l e∧Below w.heap.size w w':=by
 have hB1:=yaa (o:=(.cells zl0 28)) (Below.refl w.heap.size w) (zG _)
 have hA1:FcB w.heap.size (fun _=>0) 0 0 0 false false (w.alloc (.cells zl0 28)):=ygi w 28
 obtain ⟨W1,hW1⟩:∃W1,w.alloc (.cells zl0 28)=W1:=⟨_,rfl⟩
 rw [hW1] at hB1 hA1
 have s1:W1.heap.size=w.heap.size+1:=by rw [←hW1]; simp
 have cN:=hid (ycZ a cap l W1 hl hlc (hs.below hB1) hno hok (hT.later hB1))
 have HB1:=hid hB1
 have HA1:=hid hA1
 have HW1:=hid hW1
 have S1:=hid s1
 have Hs:=hid hs
 have Hok:=hid hok
 have HT:=hid hT
 have Ht0:Hid (0 < w.heap.size):=hT.1
 clear hB1 hA1 hW1 s1 hs hno hok hT
 refine (wf_calls (r:=none) (n:=1)).mp ?_
 refine callsIn_of_wp_marks Tryz.func6 rfl trivial ?_ rfl
 simp only [Tryz.ntmps6,List.size_toArray,List.length_cons,List.length_nil,Nat.reduceAdd,Nat.reduceSub,Array.replicate_succ,Array.replicate_zero,List.push_toArray,List.append_toArray,List.nil_append,List.cons_append]
 gi_upto_region 1 with fail
 rw [HW1.out]
 gi_wp2_with fail
 refine (wf_calls.mpr cN.out).mono ?_
 rintro e w3 ⟨hN,hB3⟩
 have HB3:=hid (HB1.out.trans (hB3.mono HB1.out.size))
 have A3:=hid (HA1.out.block hB3.size (hB3.block _ HA1.out.lt))
 rcases hN with ⟨hf,rfl⟩ | ⟨hf,br,bk,bps,rfl,hR,hM⟩
 ·obtain ⟨X,hX⟩:∃X,yah l=X:=⟨_,rfl⟩
  have HRR:Hid (CofR l (.returned (.tuple #[fcv (fun _=>0) 0 0 0 false false, .int .i64 (yah l)]))):= .inl ⟨hf,rfl⟩
  rw [hX] at hf HRR⊢
  have hX0:(X == 0)=false:=by simpa using hf
  have hX1:(X != 0)=true:=by simpa using hf
  have hst:(ycO (.pointer (some ⟨w.heap.size,0,none⟩)) (.agg zl0)).run Tryz.prog w3= .ok () (w3.setCells w.heap.size 0 (fcL (fun _=>0) 0 0 0 false false)):=A3.out.st (fun _=>0) 0 0 0 false false
  have HP:=hid (A3.out.put (fun _=>0) 0 0 0 false false)
  have HE:Hid (Eff (fun x=>x=w.heap.size) w3 (w3.setCells w.heap.size 0 (fcL (fun _=>0) 0 0 0 false false))):=Eff.setCells (O:=fun x=>x=w.heap.size) rfl _ 0 w3 (Eff.refl _ w3)
  clear hX hf hB3 cN
  gi_wp2
  refine ⟨_,ybo (p:=2) (t:=3) rfl _ _ w.heap.size 0 _ _ rfl HP.out.range Tryz.underlying28 rfl (by rw [ycE]; exact yiQ),HRR.out,HB3.out.trans (HE.out.below (by rintro b rfl; exact zG _) HB3.out.size)⟩
 have Hf:=hid hf
 have HR:=hid hR
 have HM:=hid hM
 have HB13:=hid hB3
 have Hma:=hid (may_all hf)
 clear hB3 cN hf hR hM
 have hA4:FcB w3.heap.size (fun _=>0) 0 0 0 false false (w3.alloc (.cells zl0 28)):=ygi w3 28
 have hst:(ycO (.pointer (some ⟨w3.heap.size,0,none⟩)) (.agg #[.int .u64 0, .int .u64 0, .int .u64 0, .int .u64 0, .int .u64 0, .int .u64 0, .int .u64 0, .int .u64 0, .int .u64 0, .int .u64 0, .int .u64 0, .int .u64 0, .int .u64 0, .int .u64 0, .int .u64 0, .int .u64 0, .int .u64 0, .int .u64 0, .int .u64 0, .int .u64 0, .int .u64 0, .int .u64 0, .int .u64 0, .int .u64 0, .int .u64 0, .int .u64 0, .int .u64 0, .int .u64 0, .int .u64 0, .int .u64 0, .int .u64 0, .int .u64 0, .int .u64 0, .int .u64 0, .int .u64 0, .int .u64 0, .int .u64 0, .int .u64 0, .int .u64 0, .int .u64 0, .int .u64 0, .int .u64 0, .int .u64 0, .int .u64 0, .int .u64 0, .int .u64 0, .int .i64 0, .int .i64 0, .int .i64 0, .bool true, .bool true])).run Tryz.prog (w3.alloc (.cells zl0 28))= .ok () ((w3.alloc (.cells zl0 28)).setCells w3.heap.size 0 (fcL (fun _=>0) 0 0 0 true true)):=hA4.st (fun _=>0) 0 0 0 true true
 have hP4:=hA4.put (fun _=>0) 0 0 0 true true
 have hB4:Below w3.heap.size w3 ((w3.alloc (.cells zl0 28)).setCells w3.heap.size 0 (fcL (fun _=>0) 0 0 0 true true)):=(yaa (Below.refl _ _) (zG _)).trans ((Eff.setCells (O:=fun x=>x=w3.heap.size) rfl _ 0 _ (Eff.refl _ _)).below (by rintro b rfl; exact zG _) (by simp))
 obtain ⟨w4,hw4⟩:∃W,(w3.alloc (.cells zl0 28)).setCells w3.heap.size 0 (fcL (fun _=>0) 0 0 0 true true)=W:=⟨_,rfl⟩
 rw [hw4] at hst hP4 hB4
 obtain ⟨bf,hbf⟩:∃x,w3.heap.size=x:=⟨_,rfl⟩
 rw [hbf] at hP4
 have Hbf:=hid hbf
 have hlf:=hP4.lt
 have HP4:=hid hP4
 have HB4:=hid (HB3.out.trans (hB4.mono HB3.out.size))
 have A4:=hid (A3.out.block hB4.size (hB4.block _ A3.out.lt))
 have HR4:Hid (RollS w4 l br bk bps (FNew W1 w3) (fun _=>false) 0):=HR.out.keep hB4.size (fun b hb=>hB4.block b (by have h1:=HB3.out.size; have h2:=HB13.out.size; have:=Ht0.out; have:=S1.out; rcases hb with hb | hb <;> omega))
 have HSl:=hid (fun (k:Nat) (hk:k < l.length)=>(show∃b off,a=some ⟨b,off,none⟩∧b < w.heap.size∧w.rangeAt b (off+k * 30) (yad l[k]) from Hs.out.atCl hk))
 clear hw4 hA4 hB4 hP4 hbf
 have hlI:IntKind.i64.wrap (l.length:Int)=l.length:=IntWalk.i64_in _ (by omega)
 gi_upto_region 5 with fail
 rw [Hbf.out]
 clear hst
 gi_wp2_with fail
 gi_loopw [29] (fun iv wr=>∃k:Nat,iv= .int .i64 k∧k≤l.length∧Hid (∃u,FcB bf u 0 0 0 true true wr∧(∀i,3≤i→u i=0)∧HmP u (fun s=>∃c∈l.take k,∃D,s∈secL (dayQ [c] D))∧Eff (fun x=>x=bf) w4 wr)) (fun iv _=>l.length - (intOf iv).toNat)
 case atStart=>
  refine ⟨0,rfl,Nat.zero_le _,fun _=>0,HP4.out,fun _ _=>rfl,⟨fun _ _=>by omega,fun s h=>?_,fun s h=>?_,fun i h=>?_,fun i h=>?_,fun i h=>?_⟩,Eff.refl _ _⟩
  ·obtain ⟨c,hc,-⟩:=h; cases hc
  ·obtain ⟨c,hc,-⟩:=h; cases hc
  ·rw [Nat.zero_testBit] at h; cases h
  ·rw [Nat.zero_testBit] at h; cases h
  ·rw [Nat.zero_testBit] at h; cases h
 case round=>
  obtain ⟨k,rfl,hk,HI⟩:=hrel
  obtain ⟨u,hF,hu3,hH,hE⟩:=HI.out
  have HBr:Hid (Below w.heap.size w wr):=HB4.out.trans (hE.below (fun b hb=>by have:=Hbf.out; have:=HB3.out.size; omega) HB4.out.size)
  have hlf2:bf < wr.heap.size:=hF.lt
  by_cases hlt:k < l.length
  ·have hltI:(k:Int) < l.length:=by omega
   obtain ⟨b,off,rfl,hbk,hr⟩:=HSl.out k hlt
   have hcm:=Hma.out _ (zzr hlt)
   have hco:=Hok.out _ (zzr hlt)
   have Hnx:Hid (∀s,(∃c∈l.take (k+1),∃D,s∈secL (dayQ [c] D))↔PaA l[k] (fun s=>∃c∈l.take k,∃D,s∈secL (dayQ [c] D)) s):=fun s=>by
    rw [yap l k hlt]
    constructor
    ·rintro ⟨c,hc,D,hs⟩
     rcases List.mem_append.1 hc with hc | hc
     ·exact .inl ⟨c,hc,D,hs⟩
     ·rw [List.mem_singleton] at hc; subst hc; exact .inr ⟨D,hs⟩
    ·rintro (⟨c,hc,D,hs⟩ | ⟨D,hs⟩)
     ·exact ⟨c,List.mem_append.2 (.inl hc),D,hs⟩
     ·exact ⟨_,List.mem_append.2 (.inr (List.mem_singleton.2 rfl)),D,hs⟩
   obtain ⟨c,hc⟩:∃c,l[k]=c:=⟨_,rfl⟩
   rw [hc] at hr hcm hco Hnx
   have hr':wr.rangeAt b (off+k * 30) (yad c):=yaM hr HBr.out hbk
   have le:=ygY hr'
   have hth2:(wr.alloc (.cells zL.toArray 36)).there wr.heap.size 0 30:=yb4 wr _ _
   have hn2:=yaa (o:= .cells zL.toArray 36) (Below.refl wr.heap.size wr) (zG _)
   have hC1:ClB (yb1 (wr.alloc (.cells zL.toArray 36)) wr.heap.size (yad c)) wr.heap.size c:=ybp _ rfl hth2
   have le1:=hC1.ld
   have hb1:Below wr.heap.size wr (yb1 (wr.alloc (.cells zL.toArray 36)) wr.heap.size (yad c)):=ybq hn2 (zG _) _
   obtain ⟨w5,hw5⟩:∃W,yb1 (wr.alloc (.cells zL.toArray 36)) wr.heap.size (yad c)=W:=⟨_,rfl⟩
   rw [hw5] at hb1 le1
   have Hw5:=hid hw5
   have HB5:=hid hb1
   have hF5:=hF.block hb1.size (hb1.block _ hF.lt)
   have cA:=hid (yij c hF5 hco hcm (HT.out.later (HBr.out.trans (hb1.mono HBr.out.size))) (by have:=Hbf.out; have:=HB3.out.size; have:=Ht0.out; omega) hH)
   have Hu3:=hid hu3
   have HE:=hid hE
   clear hr hr' hn2 hC1 hw5 hb1 hc hcm hco hF hF5 hu3 hH hE hk hbk HI
   gi_upto_region 8 with fail
   rw [Hw5.out]
   clear le hth2
   gi_wp2_with fail
   refine (wf_calls.mpr cA.out).mono ?_
   rintro e w6 ⟨⟨v,rfl⟩,⟨u',hF6,hu6,hH6⟩,hE6⟩
   have HN:Hid (∃u,FcB bf u 0 0 0 true true w6∧(∀i,3≤i→u i=0)∧HmP u (fun s=>∃c∈l.take (k+1),∃D,s∈secL (dayQ [c] D))∧Eff (fun x=>x=bf) w4 w6):=
    ⟨u',hF6,fun i hi=>(hu6 i hi).trans (Hu3.out i hi),hH6.same (fun s h=>(Hnx.out s).2 h) (fun s h=> .inl ((Hnx.out s).1 h)),(HE.out.trans (Eff.of_below (O:=fun x=>x=bf) HB5.out) (fun _ h=> .inl h)).trans hE6 (fun _ h=> .inl h)⟩
   clear hF6 hu6 hH6 hE6 cA le1
   gi_wp2
   exact ⟨⟨k+1,by go_num,by omega,HN⟩,by simp [intOf]; omega⟩
  ·obtain rfl:k=l.length:=by omega
   have hltI:¬(l.length:Int) < l.length:=by omega
   rw [List.take_length] at hH
   have HHm:=hid hH
   have HF6:=hid hF
   have Hu3:=hid hu3
   have HE6:=hid hE
   obtain ⟨w6,hw6⟩:∃w6,wr=w6:=⟨_,rfl⟩
   rw [hw6] at HF6 HE6 HBr hlf2⊢
   clear hF hu3 hH hE hk hlt HI hw6
   have A6:=hid (A4.out.block HE6.out.size (HE6.out.block _ A4.out.lt (by have:=Hbf.out; have h1:=HB1.out.size; have:=HB13.out.size; have:=S1.out; omega)))
   have HR6:Hid (RollS w6 l br bk bps (FNew W1 w3) (fun _=>false) 0):=HR4.out.keep HE6.out.size (fun b hb=>HE6.out.block b (by
    have h1:=HB3.out.size; have h2:=HB13.out.size; have:=Ht0.out; have:=S1.out; have:=Hbf.out; have:=HB4.out.size; have:=HP4.out.lt
    rcases hb with hb | hb <;> omega) (by
    have h1:=HB3.out.size; have h2:=HB13.out.size; have:=Ht0.out; have:=S1.out; have:=Hbf.out
    rcases hb with hb | hb <;> omega))
   have cT:=hid (ykr bf w6)
   obtain ⟨b1,hb1⟩:∃x,w6.heap.size=x:=⟨_,rfl⟩
   have Hb1:=hid hb1
   rw [hb1] at cT hlf2
   gi_wp2_with fail
   refine (wf_calls.mpr cT.out).mono ?_
   rintro e w7 ⟨rfl,hw7⟩
   obtain ⟨w8,hw8⟩:∃W,w7.alloc (.cells #[.func (.func 58) #[] #[.pointer (some ⟨b1,0,none⟩), .pointer (some ⟨b1+1+1+1+1,0,none⟩), .pointer (some ⟨b1+1,0,none⟩)]] 65)=W:=⟨_,rfl⟩
   have s7:w7.heap.size=b1+1+1+1+1+1:=by rw [hw7]; simp [hb1]
   have s8:w8.heap.size=b1+1+1+1+1+1+1:=by rw [←hw8]; simp [s7]
   have B7:Below w6.heap.size w6 w7:=by
    rw [hw7]
    exact yaa (yaa (yaa (yaa (yaa (Below.refl _ _) (zG _)) (by simp)) (by simp only [zzN]; omega)) (by simp only [zzN]; omega)) (by simp only [zzN]; omega)
   have B8:Below w6.heap.size w6 w8:=by rw [←hw8]; exact yaa B7 B7.size
   have B78:Below w7.heap.size w7 w8:=by rw [←hw8]; exact yaa (Below.refl _ _) (zG _)
   have hTm7:TmC b1 (b1+1) (b1+1+1+1+1) (b1+1+1+1) (b1+1+1) bf u 0 0 0 true true none w7:=by
    have hlb:bf < b1:=hlf2
    refine ⟨HF6.out.block B7.size (B7.block _ (by rw [hb1]; exact hlf2)),?_,?_,?_,?_,by omega,by omega⟩ <;> (rw [hw7,←hb1]; simp [go_sem,dptr])
   have hOf:OfC b1 (b1+1) (b1+1+1+1+1) (b1+1+1+1) (b1+1+1) bf (b1+1+1+1+1+1) u 0 0 0 true true none (fun b=>b=b1∨b=b1+1∨b=b1+1+1+1+1∨b=b1+1+1+1∨b=b1+1+1∨b=bf∨b=b1+1+1+1+1+1) w8:=by
    have hlb:bf < b1:=hlf2
    refine ⟨hTm7.below B78,?_,by simp,fun b hb=>by omega,by omega⟩
    rw [←hw8,←s7]; simp [go_sem]
   have hFr:FrW (b1+1+1+1) (b1+1+1) (FNew W1 w3) (RM br bk bps) (Pf []) w8:=by
    have e:=FrW.made (w:=(w6.alloc (.cells #[.pointer (some ⟨bf,0,none⟩)] 114)).alloc (.cells #[.pointer none] 72)) (w5:=w8) (F:=FNew W1 w3) (M:=RM br bk bps) (P:=Pf []) ?_ ?_
    ·simp only [zzN,hb1] at e; exact e
    ·simp only [zzN,hb1]
     rw [B78.block _ (by omega),hw7]
     exact (Below.heap_alloc _ _ _ (by simp only [zzN]; omega)).trans (Below.heap_alloc _ _ _ (by simp only [zzN]; omega))
    ·simp only [zzN,hb1]
     refine (B78.cell (p:=⟨b1+1+1+1,0,none⟩) (by simp only []; omega)).trans ?_
     rw [hw7,←hb1]; simp [go_sem]
   have HR8:Hid (RollS w8 l br bk bps (FNew W1 w3) (fun _=>false) 0):=HR6.out.keep B8.size (fun b hb=>B8.block b (by
    have h1:=HB3.out.size; have h2:=HB13.out.size; have:=Ht0.out; have:=S1.out; have:=Hbf.out; have:=Hb1.out; have:=HBr.out.size
    rcases hb with hb | hb <;> omega))
   have HOf:=hid hOf
   have HFr:=hid hFr
   have HB8:=hid (HBr.out.trans (B8.mono HBr.out.size))
   have A8:=hid (A6.out.block B8.size (B8.block _ A6.out.lt))
   have S7:=hid s7
   have S8:=hid s8
   have Hw8:=hid hw8
   have Hlb:Hid (bf < b1):=hlf2
   clear B7 B8 B78 hTm7 hOf hFr s7 s8 hw8 hw7 cT hb1
   gi_wp2_with fail
   rw [S7.out,Hw8.out]
   have cA:=hid (ye4 0 146096 HR8.out (InvS 0) (zG 0))
   have hbr:=ygq l (f:=0) (t:=146096) (by omega) (by omega)
   have hclip:=ydx l 0 146096
   obtain ⟨X1,hX1⟩:∃X,bndF l 0=X:=⟨_,rfl⟩
   obtain ⟨X2,hX2⟩:∃X,bndU l 146096=X:=⟨_,rfl⟩
   rw [hX1,hX2] at cA hbr hclip
   have tl:=ye3 (cs:=l) (br:=br) (bk:=bk) (bps:=bps) InvS (w8.heap.size+1) (w8.heap.size+2) w8.heap.size X1 X2 hbr.1 hbr.2.1 hbr.2.2.1 hbr.2.2.2
    (fun j n ws m ws' m' hn hi hs=>ydq hi hs) (fun j ws m hi hj=>by rw [yat] at hj; rw [InvS] at hi; omega)
   rw [hclip] at tl
   obtain ⟨LL,hLL⟩:∃LL,(yac X1 X2).length=LL:=⟨_,rfl⟩
   rw [hLL] at tl
   have TL:=hid tl
   clear hbr hclip tl hLL hX1 hX2
   refine (wf_calls.mpr cA.out).mono ?_
   rintro e w9 ⟨rfl,hB9,hl9,hHA⟩
   have HB9:=hid (HB8.out.trans (hB9.mono HB8.out.size))
   have C9:=hid (HOf.out.keep hB9.size (fun b hb=>hB9.block b (HOf.out.lt b hb)))
   have A9:=hid (A8.out.block hB9.size (hB9.block _ A8.out.lt))
   have P9:Hid (FrW (b1+1+1+1) (b1+1+1) (F3 (FNew W1 w3) w8.heap.size) (RM br bk bps) (Pf []) w9):=by
    have l8:=S8.out
    refine HFr.out.keep hB9.size (fun b h=> .inl h) (fun b hb=>hB9.block b ?_) (hB9.block _ (by omega)) (hB9.block _ (by omega))
    have h1:=HB3.out.size; have h2:=HB13.out.size; have:=Ht0.out; have:=S1.out; have:=Hbf.out; have:=Hlb.out
    rcases hb.1 with h | h <;> omega
   have HHA:=hid hHA
   have HFO:Hid (∀b,F3 (FNew W1 w3) w8.heap.size b→¬(b=b1∨b=b1+1∨b=b1+1+1+1+1∨b=b1+1+1+1∨b=b1+1+1∨b=bf∨b=b1+1+1+1+1+1)∧b≠w.heap.size):=fun b hb=>by
    have l8:=S8.out; have h1:=HB3.out.size; have h2:=HB13.out.size; have:=Ht0.out; have:=S1.out; have:=Hbf.out; have:=Hlb.out
    rcases hb with hb | hb
    ·rcases hb with hb | hb <;> omega
    ·omega
   clear hB9 hHA cA hl9
   gi_wp2_with fail
   refine ybv (F:=F3 (FNew W1 w3) w8.heap.size) (M:=RM br bk bps) (gf:=63) (lb:=#[.pointer (some ⟨w8.heap.size+1,0,none⟩), .pointer (some ⟨w8.heap.size+2,0,none⟩), .pointer (some ⟨w8.heap.size,0,none⟩)]) rfl yb0 (fun b=>b=b1∨b=b1+1∨b=b1+1+1+1+1∨b=b1+1+1+1∨b=b1+1+1∨b=bf∨b=b1+1+1+1+1+1)
    (fun k vs F W h=>by obtain ⟨_,_,_,_,_,rfl,_⟩:=h; rfl) TL.out HA.host HA.host HA.hostE HHA.out (fun b hb=>(HFO.out b hb).1)
    (CoI l u (RM br bk bps) b1 (b1+1) (b1+1+1+1+1) (b1+1+1+1) (b1+1+1) bf (b1+1+1+1+1+1)) CoX (ygn _ _ _ _ _ _ _ _ _ _) (coX_stab _) (coI_lt _ _ _ _ _ _ _ _ _ _) coX_lt ?start
    (fun k O F a' W=>CoI l u (RM br bk bps) b1 (b1+1) (b1+1+1+1+1) (b1+1+1+1) (b1+1+1) bf (b1+1+1+1+1+1) k O F W∧∃b10 D d,(dayS l (yac 0 146096))[k]? =some D∧SkD l (RM br bk bps) D d b10 O F W∧CoT (.slice a l.length cap) (.pointer (some ⟨w.heap.size,0,none⟩)) (.int .i64 0) (.pointer (some ⟨br,0,none⟩)) (.int .i64 0) (.pointer (some ⟨bf,0,none⟩)) (.pointer (some ⟨b1+1+1+1+1+1,0,none⟩)) (.pointer (some ⟨b10,0,none⟩)) (.pointer (some ⟨d,0,none⟩)) [] a')
    ?putl ?assign ?body ?done ?stop
   case start=>
    have h:=C9.out
    have hf:=h.tm.fc.as (u':=cuU u []) (fun i hi=>by
     rw [cuU]
     by_cases e:i < 3
     ·rw [if_pos e]
     ·rw [if_neg e,Hu3.out i (by omega),fcU,if_neg (by omega),if_neg (by omega),if_neg (by omega)]
      simp only [List.map_nil,List.filter_nil,ofM_nil,wof_nil,ite_self])
    exact ⟨none,h.face (Eff.refl _ _) hf, .inl ⟨rfl,rfl⟩,P9.out⟩
   case putl=>
    rintro l' o k O F a' W hr hnO hnF ⟨h1,bx,D,d,h3,h4,h5⟩
    have ko:∀b,O b∨(F b∧¬RM br bk bps b)→(W.putObj l' o).heap[b]? =W.heap[b]?:=fun b hb=>World.putObj_heap_other (fun e=>hb.elim (fun h=>hnO (e ▸ h)) (fun h=>hnF (e ▸ h.1)))
    exact ⟨ygn _ _ (RM br bk bps) _ _ _ _ _ _ _ k O F F W _ h1 (by rw [World.putObj_size]; exact zG _) (fun _ h=>h) ko,bx,D,d,h3,h4.put hr hnF,h5⟩
   case assign=>
    rintro l' k O6 F6 W6 vs K hk hJ6 hFl ⟨D,d,hn,h0,h1,rfl,hd,ht,hlt⟩ hG6 hK
    rw [←yaA]
    obtain ⟨s,hs⟩:∃s,shF D=s:=⟨_,rfl⟩
    rw [hs,shq]
    have Hsx:=hid hs
    have HP:=hid (And.intro hJ6 (And.intro hFl (And.intro hn (And.intro hd (And.intro ht (And.intro hlt hG6))))))
    clear hs hJ6 hFl hn hd ht hlt hG6 h0 h1
    gi_wp2
    obtain ⟨hJ6,hFl,hn,hd,ht,hlt,hG6⟩:=HP.out
    have hbel:=yaa (o:= .cells (yaY s).toArray 71) (Below.refl W6.heap.size W6) (zG _)
    have hlO:=coI_lt _ _ _ _ _ _ _ _ _ _ _ _ _ _ hJ6
    refine hK _ O6 _ (Grow.of_below hbel) ⟨ygn _ _ (RM br bk bps) _ _ _ _ _ _ _ _ O6 F6 F6 W6 _ hJ6 hbel.size (fun _ h=>h) (fun b hb=>hbel.block b (hb.elim (hlO b) (fun h=>hlt b h.1))),W6.heap.size,D,d,hn,
     ⟨fun b hb=>(hFl b hb).1,⟨hd.1,hd.2.1,hd.2.2.block hbel.size (hbel.block d (hlt d hd.1))⟩,⟨ht.1.later hbel,ht.2.1⟩,fun b hb=>zH (hlt b hb) hbel.size,by simp,⟨fun h=>by have:=hlO _ h; omega,fun h=>by have:=hlt _ h; omega⟩,by rw [Hsx.out]; exact ybR W6 71 _ _ _ _ _ _ _ _ _ _⟩,CoT.of⟩
   case stop=>
    rintro c k O9 F9 w9' hk1 hk2 hG9 hHN hFs hFn hFO9 h
    exact h.elim
   case done=>
    rintro O9 F9 w10 hG9 hHN hFs hFn hFO9 ⟨fd,hC,-,-⟩ hD hnD hnF
    rw [List.take_length] at hC
    have hO9:Hid (∀b,(b=b1∨b=b1+1∨b=b1+1+1+1+1∨b=b1+1+1+1∨b=b1+1+1∨b=bf∨b=b1+1+1+1+1+1)∨RM br bk bps b→w.heap.size+1≤b):=fun b hb=>by
     have l8:=S8.out; have h1:=HB3.out.size; have h2:=HB13.out.size; have:=S1.out; have:=Hbf.out; have:=Hlb.out
     rcases hb with h | h
     ·omega
     ·have:=HM.out b h; omega
    have HB10:Hid (Below w.heap.size w w10):=HB9.out.trans (hG9.eff.below (fun b hb=>by have:=hO9.out b hb; omega) HB9.out.size)
    have hA10:FcB w.heap.size (fun _=>0) 0 0 0 false false w10:=A9.out.block hG9.eff.size (hG9.eff.block _ A9.out.lt (fun hb=>by have:=hO9.out _ hb; omega))
    have hld:=hC.tm.fc.ld
    have HFP:Hid (CofR l (.returned (.tuple #[fcv (cuU u (dayS l (yac 0 146096))) (fiV l (dayS l (yac 0 146096))) (laV l (dayS l (yac 0 146096))) ((dayS l (yac 0 146096)).length:Nat) (evB (lsL l (dayS l (yac 0 146096)))) (sqA (lsL l (dayS l (yac 0 146096)))), .int .i64 0]))):=by
     refine .inr ⟨Hf.out,_,_,_,_,_,_,rfl,⟨?_,fun i h3 h46=>by rw [cuU,if_neg (by omega)],rfl,rfl,rfl,rfl,rfl⟩⟩
     refine (HHm.out.as (u':=cuU u (dayS l (yac 0 146096))) (fun i hi=>by rw [cuU,if_pos hi])).same (fun s h=>?_) (fun s h=> .inl ?_)
     ·obtain ⟨c,hc,D,hs⟩:=h
      exact ⟨D,day_any.2 ⟨c,hc,hs⟩⟩
     ·obtain ⟨D,hs⟩:=h
      obtain ⟨c,hc,hs'⟩:=day_any.1 hs
      exact ⟨c,hc,D,hs'⟩
    obtain ⟨uu,huu⟩:∃x,cuU u (dayS l (yac 0 146096))=x:=⟨_,rfl⟩
    obtain ⟨x1,hx1⟩:∃x,fiV l (dayS l (yac 0 146096))=x:=⟨_,rfl⟩
    obtain ⟨x2,hx2⟩:∃x,laV l (dayS l (yac 0 146096))=x:=⟨_,rfl⟩
    obtain ⟨x3,hx3⟩:∃x:Int,((dayS l (yac 0 146096)).length:Int)=x:=⟨_,rfl⟩
    obtain ⟨x4,hx4⟩:∃x,evB (lsL l (dayS l (yac 0 146096)))=x:=⟨_,rfl⟩
    obtain ⟨x5,hx5⟩:∃x,sqA (lsL l (dayS l (yac 0 146096)))=x:=⟨_,rfl⟩
    rw [huu,hx1,hx2,hx3,hx4,hx5] at hld HFP
    have hst:=hA10.st uu x1 x2 x3 x4 x5
    have HP10:=hid (hA10.put uu x1 x2 x3 x4 x5)
    have HE10:Hid (Eff (fun x=>x=w.heap.size) w10 (w10.setCells w.heap.size 0 (fcL uu x1 x2 x3 x4 x5))):=Eff.setCells (O:=fun x=>x=w.heap.size) rfl _ 0 w10 (Eff.refl _ w10)
    have hne:w9.heap.size≠w.heap.size:=fun e=>by have:=A9.out.lt; omega
    have HDx:Hid ((w10.setCells w.heap.size 0 (fcL uu x1 x2 x3 x4 x5)).heap[w9.heap.size]? =some (.deferred (some []))):=by
     show _ = _
     rw [HE10.out.block w9.heap.size (Array.getElem?_eq_some_iff.1 hD).1 hne]
     exact hD
    have Hne:=hid hne
    clear hG9 hHN hFs hFn hFO9 hnD hnF hD hC hA10 hne huu hx1 hx2 hx3 hx4 hx5
    gi_wp2
    refine ⟨by simp, .inl ⟨_,_,rfl,run_takeDeferred HDx.out,?_⟩⟩
    have hX:=HP10.out.block (W':=(w10.setCells w.heap.size 0 (fcL uu x1 x2 x3 x4 x5)).putObj w9.heap.size (.deferred none)) (by rw [World.putObj_size]; exact zG _) (World.putObj_heap_other (fun e=>Hne.out e.symm))
    exact ⟨_,ybo (p:=2) (t:=3) rfl _ _ w.heap.size 0 _ _ rfl hX.range Tryz.underlying28 rfl (by rw [ycE]; exact yiQ),HFP.out,yaK (HB10.out.trans (HE10.out.below (by rintro b rfl; exact zG _) HB10.out.size)) HB9.out.size _⟩
   case body=>
    rintro l3 k O6 F6 a' W6 hk hG6 hl3 hrec6 hnl3 hnF3 ⟨⟨fd,hC6,hFd6,hFr6⟩,b10,D,d,en,hD,V,rfl⟩
    obtain ⟨D0,D1,j0,hj0,hq0⟩:=ygl en
    clear hl hlc hltI hlI hlf
    have hy:=yaB D0 D1
    have hw5:=yiy D
    have hkl:k < 146097:=by
     have h1:(dayS l (yac 0 146096)).length≤(yac 0 146096).length:=List.length_filter_le _ _
     rw [yat] at h1; omega
    have htk:(dayS l (yac 0 146096)).take (k+1)= (dayS l (yac 0 146096)).take k ++ [D]:=by
     rw [yap _ k hk,(zzq.1 en).2]
    have htl:((dayS l (yac 0 146096)).take k).length=k:=by rw [List.length_take]; omega
    obtain ⟨Xk,hXk⟩:∃x,(dayS l (yac 0 146096)).take k=x:=⟨_,rfl⟩
    rw [hXk] at htk htl hC6 hFd6 hFr6
    have Htk:=hid htk
    have Htl:=hid htl
    have Hkl:=hid hkl
    have Hu46:Hid (∀i,i < 46→cuU u Xk i < 18446744073709551616):=fun i _=>cuU_lt HHm.out.lt Xk i
    have HQ:Hid (∃j,j < 86400∧dayQ l D j=true):=⟨j0,hj0,hq0⟩
    have Hsn:Hid (∀i,cuU u (Xk ++ [D]) i=dyU (shF D) (cuU u Xk) i):=cuU_snoc hy.1 (by have h2:=hy.2; show fY D < 2370; omega)
    have hsh:=hD.sh
    obtain ⟨s,hs⟩:∃s,shF D=s:=⟨_,rfl⟩
    have hs0:s 0=D:=by rw [←hs]; rfl
    have hs1:1970≤s 1∧s 1 < 2370:=by rw [←hs]; exact ⟨hy.1,by have h2:=hy.2; show fY D < 2370; omega⟩
    have hs5:0≤s 5∧s 5 < 8:=by rw [←hs]; omega
    rw [hs] at hsh Hsn
    obtain ⟨t0,-⟩:=id hsh
    rw [hs0] at t0
    have Hs15:=hid (And.intro hs1 hs5)
    have Hsh:=hid hsh
    have hbnf:b10≠bf:=fun e=>hD.nx.1 (e ▸ hC6.os.2.2.2.2.2.1)
    have Hbnf:=hid hbnf
    have HC6:=hid hC6
    have HFd6:=hid hFd6
    have HFr6:=hid hFr6
    have HD6:=hid hD
    have Hrec:=hid hrec6
    have Hnl:=hid hnl3
    have k48:=hC6.tm.fc.c48
    have hmD:0≤D * 86400∧D * 86400≤12622694400:=by omega
    obtain ⟨B,hB⟩:∃x,D * 86400=x:=⟨_,rfl⟩
    have HB:=hid hB
    have hm1:IntKind.i64.wrap (D * 86400)=B:=by rw [←hB]; exact IntWalk.i64_in _ (by omega)
    rw [hB] at hmD
    clear hG6 hs hk en hC6 hFd6 hFr6 hD hy hw5 hsh hbnf hs0 hs1 hs5 hXk htk htl hkl hj0 hq0 D0 D1 hrec6 hnl3 hnF3 hB
    obtain ⟨kb,hkb⟩:∃kb,((k:Int) == 0)=kb:=⟨_,rfl⟩
    have Hkb:=hid hkb
    gi_upto_if 46 with fail
    clear hkb
    (try dsimp only)
    gi_cut [46] from 47 (fun _ wx=>Hid (OfC b1 (b1+1) (b1+1+1+1+1) (b1+1+1+1) (b1+1+1) bf (b1+1+1+1+1+1) (cuU u Xk) (fiV l (Xk ++ [D])) (laV l Xk) (k:Nat) (evB (lsL l Xk)) (sqA (lsL l Xk)) fd O6 wx∧Eff (fun b=>b=bf) W6 wx))
    case first=>
     clear t0 k48
     cases kb
     rotate_left
     ·have hk0:k=0:=by have:=Hkb.out; simp at this; exact this
      have hx0:Hid (Xk= []):=List.length_eq_zero_iff.mp (Htl.out.trans hk0)
      have cN:Hid (Calls Tryz.prog 26 #[.pointer (some ⟨d,0,none⟩), .int .i64 0] W6 fun r w'=>(∃n ok,r= .returned (.tuple #[.int .i64 n, .bool ok])∧FirstOf (fun k=>dayQ l D k && decide (0≤k)) n ok)∧W6=w'):=yfG d (dayQ l D) 0 W6 (by omega) HD6.out.tab.1 HD6.out.di.2.2
      clear hk0
      gi_wp2_with fail
      refine (wf_calls.mpr cN.out).mono ?_
      rintro e w ⟨⟨n,ok,rfl,hF⟩,rfl⟩
      obtain ⟨j,hj,hq⟩:=HQ.out
      obtain ⟨hn,n0,n1⟩:=first_is hF hj hq
      have hwn:IntKind.i64.wrap (B+n)=B+n:=IntWalk.i64_in _ (by omega)
      have c46:=HC6.out.tm.fc.c46
      have z46:=HC6.out.tm.fc.z 46
      have HN:Hid (OfC b1 (b1+1) (b1+1+1+1+1) (b1+1+1+1) (b1+1+1) bf (b1+1+1+1+1+1) (cuU u Xk) (fiV l (Xk ++ [D])) (laV l Xk) (k:Nat) (evB (lsL l Xk)) (sqA (lsL l Xk)) fd O6 (W6.setCell ⟨bf,46,none⟩ (.int .i64 (B+n)))∧Eff (fun b=>b=bf) W6 (W6.setCell ⟨bf,46,none⟩ (.int .i64 (B+n)))):=by
       have hE:=(Eff.refl (fun b=>b=bf) W6).set rfl 46 (.int .i64 (B+n))
       refine ⟨HC6.out.face hE ?_,hE⟩
       have e:fiV l (Xk ++ [D])=B+n:=by rw [hx0.out,fiV_one,hn,←HB.out]; omega
       rw [e]
       exact HC6.out.tm.fc.set46 _
      clear hF hj hq hn n0 n1 cN
      gi_wp2
      gi_meet
      exact HN
     ·have hk0:¬k=0:=by have:=Hkb.out; simp at this; exact this
      have HN:Hid (OfC b1 (b1+1) (b1+1+1+1+1) (b1+1+1+1) (b1+1+1) bf (b1+1+1+1+1+1) (cuU u Xk) (fiV l (Xk ++ [D])) (laV l Xk) (k:Nat) (evB (lsL l Xk)) (sqA (lsL l Xk)) fd O6 W6∧Eff (fun b=>b=bf) W6 W6):=by
       refine ⟨?_,Eff.refl _ _⟩
       rw [fiV_more l (fun e=>hk0 (by rw [←Htl.out,e]; rfl))]
       exact HC6.out
      clear hk0
      gi_wp2
      gi_meet
      exact HN
    case rest=>
     obtain ⟨hC7,hE7⟩:=hcut.out
     have HC7:=hid hC7
     have E7:=hid hE7
     have HDk:Hid (∀W',Eff (fun b=>b=bf) W6 W'→DiF W' F6 (RM br bk bps) d (dayQ l D)∧Tab W'∧(∀b,F6 b→b < W'.heap.size)∧FdP F6 (RM br bk bps) (lsL l Xk) fd W'∧FrW (b1+1+1+1) (b1+1+1) F6 (RM br bk bps) (Pf (lsL l Xk)) W'∧ShS W' b10 s):=fun W' hE=>by
      have hnf:∀b,F6 b→b≠bf:=fun b hb e=>HD6.out.dj b hb (e ▸ HC6.out.os.2.2.2.2.2.1)
      have hb:∀b,F6 b∧¬RM br bk bps b→W'.heap[b]? =W6.heap[b]?:=fun b hb=>hE.block b (HD6.out.lt b hb.1) (hnf b hb.1)
      have hn:=HC6.out.tm.ne
      refine ⟨HD6.out.di.keepI hE.size (fun _ h=>h) hb,HD6.out.tab.1.eff hE (hnf _ HD6.out.tab.2),fun b hb=>zH (HD6.out.lt b hb) hE.size,HFd6.out.keep hE.size (fun _ h=>h) hb,HFr6.out.keep hE.size (fun _ h=>h) hb (hE.block _ (HC6.out.lt _ HC6.out.os.2.2.2.1) (fun e=>hn.1.2.2.2.1 e.symm)) (hE.block _ (HC6.out.lt _ HC6.out.os.2.2.2.2.1) (fun e=>hn.1.2.2.2.2 e.symm)),shS_block Hsh.out (hE.block _ HD6.out.lx Hbnf.out)⟩
     have cP:=hid (yik d (dayQ l D) 86400 86399 wc rfl (by omega) (HDk.out wc hE7).1.2.2)
     clear hC7 hE7 hcut t0 k48
     gi_wp2_with fail
     refine (wf_calls.mpr cP.out).mono ?_
     rintro e w7' ⟨⟨n,ok,rfl,hF⟩,rfl⟩
     obtain ⟨j,hj,hq⟩:=HQ.out
     obtain ⟨hn,n0,n1⟩:=last_is hF hj hq
     have hwn:IntKind.i64.wrap (B+n)=B+n:=IntWalk.i64_in _ (by omega)
     obtain ⟨w7,hw7⟩:∃x,w7' =x:=⟨_,rfl⟩
     rw [hw7] at HC7 E7⊢
     have c47:=HC7.out.tm.fc.c47
     have z47:=HC7.out.tm.fc.z 47
     have HC8:Hid (OfC b1 (b1+1) (b1+1+1+1+1) (b1+1+1+1) (b1+1+1) bf (b1+1+1+1+1+1) (cuU u Xk) (fiV l (Xk ++ [D])) (laV l (Xk ++ [D])) (k:Nat) (evB (lsL l Xk)) (sqA (lsL l Xk)) fd O6 (w7.setCell ⟨bf,47,none⟩ (.int .i64 (B+n)))):=by
      have hE:=(Eff.refl (fun b=>b=bf) w7).set rfl 47 (.int .i64 (B+n))
      refine HC7.out.face hE ?_
      have e:laV l (Xk ++ [D])=B+n:=by rw [laV_snoc,hn,←HB.out]; omega
      rw [e]
      exact HC7.out.tm.fc.set47 _
     have E8:Hid (Eff (fun b=>b=bf) W6 (w7.setCell ⟨bf,47,none⟩ (.int .i64 (B+n)))):=E7.out.set rfl _ _
     obtain ⟨w8',hw8'⟩:∃W,w7.setCell ⟨bf,47,none⟩ (.int .i64 (B+n))=W:=⟨_,rfl⟩
     rw [hw8'] at HC8 E8
     have Hw8':=hid hw8'
     have cD:=hid (yks (n:=k) s HC8.out.tm.fc Hu46.out Hs15.out.1 Hs15.out.2 (by have:=Hkl.out; omega))
     unfold shq at cD
     clear hF hj hq hn n0 n1 cP hw7 hw8'
     gi_upto_region 20 with fail
     rw [Hw8'.out]
     obtain ⟨-,-,-,-,-,t0,t1,t2,t3,t4,t5,t6,t7,t8,t9⟩:=HDk.out w8' E8.out
     clear c47 z47
     gi_wp2_with fail
     refine (wf_calls.mpr cD.out).mono ?_
     rintro e w9' ⟨⟨v,rfl⟩,hF9,hE9⟩
     have E9:Hid (Eff (fun b=>b=bf) W6 w9'):=E8.out.trans hE9 (fun b hb=> .inl hb)
     have HC9:=hid (HC8.out.face hE9 hF9)
     obtain ⟨q1,q2,q3,q4,q5,-⟩:=HDk.out w9' E9.out
     have hos:=HC6.out.os
     have cT:=hid (yii HC9.out.tm q4 q5 (fun b hb=>⟨fun e=>HD6.out.dj b hb (e ▸ hos.2.2.2.2.2.1),fun e=>HD6.out.dj b hb (e ▸ hos.2.1),fun e=>HD6.out.dj b hb (e ▸ hos.2.2.2.1),fun e=>HD6.out.dj b hb (e ▸ hos.2.2.2.2.1),q3 b hb⟩) q1 q2 HD6.out.tab.2)
     have c9:=HC9.out.c9
     clear hF9 hE9 q1 q2 q3 q4 q5 hos cD t0 t1 t2 t3 t4 t5 t6 t7 t8 t9
     gi_wp2_with fail
     refine (wf_calls.mpr cT.out).mono ?_
     rintro e w10 ⟨⟨v2,rfl⟩,⟨fd',hT10,hFd10,hFr10⟩,hE10⟩
     have HC10:=hid (HC9.out.time hE10 hT10)
     have E10:Hid (Eff O6 W6 w10):=(E9.out.wide (fun b hb=>by subst hb; exact HC6.out.os.2.2.2.2.2.1)).trans hE10 (fun b hb=>by
      have:=HC6.out.os
      rcases hb with rfl | rfl | rfl
      ·exact .inl this.2.2.2.2.2.1
      ·exact .inl this.2.1
      ·exact .inl this.2.2.2.2.1)
     have HFd10:=hid hFd10
     have HFr10:=hid hFr10
     clear hT10 hFd10 hFr10 hE10 cT c9
     gi_wp2
     refine ⟨O6,⟨fun _ h=>h,fun _ h=> .inl h,E10.out⟩,fd',?_,?_,?_⟩
     ·rw [Htk.out,yf4]
      have h:=HC10.out
      exact ⟨⟨h.tm.fc.as (fun i _=>Hsn.out i),h.tm.c1,h.tm.c3,h.tm.z3,h.tm.c4,h.tm.lt,h.tm.ne⟩,h.c9,h.os,h.lt,h.ne⟩
     ·rw [Htk.out,yf4]; exact HFd10.out
     ·rw [Htk.out,yf4]; exact HFr10.out
end Go.Proofs.YtkpgfmonhfnhdaaGreatDoor
