/-
  pulse.inners, pulse.alone: the beats of one clause's instants.
-/
import Derived.Test.YthimhfmnikfgaaaGreatDoorQ312f7f
import Derived.Test.YthimhfmnikfgaaaGreatDoorQ81bc78
import Derived.Test.YthimhfmnikfgaaaGreatDoorQ0db571
import Derived.Test.YthimhfmnikfgaaaGreatDoorQc1bf1f
import Derived.BigRegion
namespace Go.Proofs.YthimhfmnikfgaaaGreatDoor
open Go.RowKit Go.Maps
set_option linter.unusedVariables false
attribute [local irreducible] secL
attribute [local go_sem] Oper.semAt_some
attribute [local go_sem ↓] loadAt_cl loadAt_7i storeAt_7i loadAt_7b storeAt_7b
attribute [local go_sem] run_makeMap
set_option maxHeartbeats 1600000 in
theorem PInners_any (w:World):Calls Tryz.prog 89 #[] w fun e w'=>e= .returned (.func (.func 146) #[] #[.pointer (some ⟨w.heap.size+1,0,none⟩)])∧w' = (w.alloc (.map #[] 0)).alloc (.cells #[.map (some w.heap.size)] 226):=by
 go_enter Tryz.func89,Tryz.ntmps89
 go_wp2
 go_ret
 exact ⟨rfl,rfl⟩
def idx3S (v i:Value):Sem Value:=Instr.index 155 v i
theorem index_3b (v i:Value):Instr.index 155 v i=idx3S v i:=rfl
attribute [local go_sem ↓] index_3b
theorem index3 (N:Nat→Bt) (v:Nat) (hv:v < 3) (W:World):(idx3S (bv3 N) (.int .i64 (v:Nat))).run Tryz.prog W= .ok (.agg #[.bool (N v).1, .int .i64 (N v).2.1, .int .i64 (N v).2.2]) W:=by
 have e:∀a0 a1 a2 a3 a4 a5 a6 a7 a8:Value,∀W:World,(idx3S (.agg #[a0,a1,a2,a3,a4,a5,a6,a7,a8]) (.int .i64 0)).run Tryz.prog W= .ok (.agg #[a0,a1,a2]) W∧(idx3S (.agg #[a0,a1,a2,a3,a4,a5,a6,a7,a8]) (.int .i64 1)).run Tryz.prog W= .ok (.agg #[a3,a4,a5]) W∧(idx3S (.agg #[a0,a1,a2,a3,a4,a5,a6,a7,a8]) (.int .i64 2)).run Tryz.prog W= .ok (.agg #[a6,a7,a8]) W:=fun _ _ _ _ _ _ _ _ _ _=>⟨by kernel_rfl,by kernel_rfl,by kernel_rfl⟩
 have h3:v=0∨v=1∨v=2:=by omega
 rcases h3 with h | h | h
 ·subst h; exact (e _ _ _ _ _ _ _ _ _ W).1
 ·subst h; exact (e _ _ _ _ _ _ _ _ _ W).2.1
 ·subst h; exact (e _ _ _ _ _ _ _ _ _ W).2.2
structure PuW (bx bm:Nat) (F M:Blk) (W:World):Prop where
 c:W.cell? ⟨bx,0,none⟩=some (.map (some bm))
 m:MapS (DiK W F M) (DiG W F M) W bm 512
theorem PuW.keep {bx bm:Nat} {F F' M:Blk} {W W':World} (h:PuW bx bm F M W) (hs:W.heap.size≤W'.heap.size) (hF:∀b,F b→F' b) (hb:∀b,F b∧¬M b→W'.heap[b]? =W.heap[b]?) (hx:W'.heap[bx]? =W.heap[bx]?) (hm:W'.heap[bm]? =W.heap[bm]?):PuW bx bm F' M W':=
 ⟨(World.cell?_of_block (w:=W) (a:=⟨bx,0,none⟩) hx).trans h.c,MapI.keep h.m hs hF hb hm⟩
structure AlC (ba bx bm bf:Nat) (B:Nat→Bt) (O:Blk) (W:World):Prop where
 al:BtS ba 7 B W
 fn:W.cell? ⟨bf,0,none⟩=some (.func (.func 146) #[] #[.pointer (some ⟨bx,0,none⟩)])
 oa:O ba
 ox:O bx
 om:O bm
 of':O bf
 lt:∀b,O b→b < W.heap.size
 ne:ba≠bx∧ba≠bm∧ba≠bf∧bf≠bm∧bx≠bm
theorem AlC.keep {ba bx bm bf:Nat} {B:Nat→Bt} {O:Blk} {W W':World} (h:AlC ba bx bm bf B O W) (hs:W.heap.size≤W'.heap.size) (hb:∀c,O c→W'.heap[c]? =W.heap[c]?):AlC ba bx bm bf B O W':=
 ⟨h.al.block hs (hb _ h.oa),(World.cell?_of_block (w:=W) (a:=⟨bf,0,none⟩) (hb _ h.of')).trans h.fn,h.oa,h.ox,h.om,h.of',fun c hc=>zH (h.lt c hc) hs,h.ne⟩
theorem AlC.upd {ba bx bm bf:Nat} {B B':Nat→Bt} {O:Blk} {W W':World} (h:AlC ba bx bm bf B O W) (hE:Eff (fun c=>c=ba) W W') (hb:BtS ba 7 B' W'):AlC ba bx bm bf B' O W':=
 ⟨hb,(hE.cell (p:=⟨bf,0,none⟩) (h.lt _ h.of') (fun e=>h.ne.2.2.1 (Eq.symm e))).trans h.fn,h.oa,h.ox,h.om,h.of',fun c hc=>zH (h.lt c hc) hE.size,h.ne⟩
def AlI (cs:List Cl) (M:Blk) (ba bx bm bf:Nat):OwnF:=fun k O F W=>∃B,AlC ba bx bm bf B O W∧BQ cs k B∧PuW bx bm F M W
def AlX:Code→OwnF:=fun _ _ _ _ _=>False
theorem alI_stab (cs:List Cl) (M:Blk) (ba bx bm bf:Nat):StabF M (AlI cs M ba bx bm bf):=fun k O F F' W W' ⟨B,h1,h2,h3⟩ hs hF hO=>⟨B,h1.keep hs (fun c hc=>hO c (.inl hc)),h2,h3.keep hs hF (fun b hb=>hO b (.inr hb)) (hO _ (.inl h1.ox)) (hO _ (.inl h1.om))⟩
theorem alX_stab (M:Blk) (c:Code):StabF M (AlX c):=fun k O F F' W W' h _ _ _=>h.elim
theorem alI_lt (cs:List Cl) (M:Blk) (ba bx bm bf:Nat):LtF (AlI cs M ba bx bm bf):=fun k O F W ⟨_,h,_⟩=>h.lt
theorem alX_lt (c:Code):LtF (AlX c):=fun k O F W h=>h.elim
theorem fault_one {c:Cl} (h:mayC c=true):faultL [c]=0:=by
 rw [faultL,if_neg (by simp),if_pos (by simp [h])]
def mdB (A:Nat→Int) (B:Nat→Bt) (u i:Nat):Bt:=if 3≤i∧i < u then takeB (B i) (A i) else B i
def ldB (D:Int) (N B:Nat→Bt) (v i:Nat):Bt:=if i < v then gcdB (takeB (B i) (D * (86400 / szI i)+(N i).2.1)) (N i).2.2 else B i
theorem ld_md (D:Int) (N B:Nat→Bt) (i:Nat) (hi:i < 7):ldB D N (mdB (outF D) B 7) 3 i=nxB D N B i:=by
 rw [ldB,nxB]
 by_cases h:i < 3
 ·rw [if_pos h,if_pos h,mdB,if_neg (by omega)]
 ·rw [if_neg h,if_neg h,mdB,if_pos (by omega)]
def AlT (h0 h1 h2 h3 h4 h5 h6 h7 h8:Value) (ds:List Deferred) (a:Act):Prop:=∃V:Nat→Value,a= {tmps:=#[h0,h1,h2,h3,h4,h5,h6,h7,h8,V 9,V 10,V 11,V 12,V 13,V 14,V 15,V 16,V 17,V 18,V 19,V 20,V 21,V 22,V 23,V 24,V 25,V 26,V 27,V 28,V 29,V 30,V 31,V 32,V 33,V 34,V 35,V 36,V 37,V 38,V 39,V 40,V 41,V 42,V 43,V 44,V 45,V 46,V 47,V 48,V 49,V 50,V 51,V 52,V 53,V 54,V 55,V 56,V 57,V 58,V 59,V 60,V 61,V 62,V 63,V 64,V 65,V 66,V 67,V 68,V 69,V 70],defers:=ds}
theorem AlT.of {h0 h1 h2 h3 h4 h5 h6 h7 h8 u9 u10 u11 u12 u13 u14 u15 u16 u17 u18 u19 u20 u21 u22 u23 u24 u25 u26 u27 u28 u29 u30 u31 u32 u33 u34 u35 u36 u37 u38 u39 u40 u41 u42 u43 u44 u45 u46 u47 u48 u49 u50 u51 u52 u53 u54 u55 u56 u57 u58 u59 u60 u61 u62 u63 u64 u65 u66 u67 u68 u69 u70:Value} {ds:List Deferred}:AlT h0 h1 h2 h3 h4 h5 h6 h7 h8 ds {tmps:=#[h0,h1,h2,h3,h4,h5,h6,h7,h8,u9,u10,u11,u12,u13,u14,u15,u16,u17,u18,u19,u20,u21,u22,u23,u24,u25,u26,u27,u28,u29,u30,u31,u32,u33,u34,u35,u36,u37,u38,u39,u40,u41,u42,u43,u44,u45,u46,u47,u48,u49,u50,u51,u52,u53,u54,u55,u56,u57,u58,u59,u60,u61,u62,u63,u64,u65,u66,u67,u68,u69,u70],defers:=ds}:=⟨fun i=>(#[u9,u10,u11,u12,u13,u14,u15,u16,u17,u18,u19,u20,u21,u22,u23,u24,u25,u26,u27,u28,u29,u30,u31,u32,u33,u34,u35,u36,u37,u38,u39,u40,u41,u42,u43,u44,u45,u46,u47,u48,u49,u50,u51,u52,u53,u54,u55,u56,u57,u58,u59,u60,u61,u62,u63,u64,u65,u66,u67,u68,u69,u70]:Array Value).getD (#[0,0,0,0,0,0,0,0,0,0,1,2,3,4,5,6,7,8,9,10,11,12,13,14,15,16,17,18,19,20,21,22,23,24,25,26,27,28,29,30,31,32,33,34,35,36,37,38,39,40,41,42,43,44,45,46,47,48,49,50,51,52,53,54,55,56,57,58,59,60,61].getD i 0) undef,rfl⟩
set_option maxRecDepth 100000 in
set_option maxHeartbeats 12800000 in
theorem PAlone_any (c:Cl) (w:World) (hc:c.Ok) (hm:mayC c=true) (hT:Tab w) :
  Calls Tryz.prog 35 #[clv c] w fun e w'=>(∃B,e= .returned (bv7 B)∧BQ [c] (dayS [c] (daysL 0 146096)).length B)∧Below w.heap.size w w':=by
 obtain ⟨W1,hW1⟩:∃W1,((w.alloc (.cells (clList c).toArray 35)).alloc (.cells #[.bool false, .int .i64 0, .int .i64 0, .bool false, .int .i64 0, .int .i64 0, .bool false, .int .i64 0, .int .i64 0, .bool false, .int .i64 0, .int .i64 0, .bool false, .int .i64 0, .int .i64 0, .bool false, .int .i64 0, .int .i64 0, .bool false, .int .i64 0, .int .i64 0] 79)).alloc (.cells #[.bool false, .int .i64 0, .int .i64 0, .bool false, .int .i64 0, .int .i64 0, .bool false, .int .i64 0, .int .i64 0, .bool false, .int .i64 0, .int .i64 0, .bool false, .int .i64 0, .int .i64 0, .bool false, .int .i64 0, .int .i64 0, .bool false, .int .i64 0, .int .i64 0] 79)=W1:=⟨_,rfl⟩
 have hB1:Below w.heap.size w W1:=by rw [←hW1]; exact below_new (below_new (below_new (Below.refl _ _) (zG _)) (by simp)) (by simp only [World.size_alloc]; omega)
 have s1:W1.heap.size=w.heap.size+1+1+1:=by rw [←hW1]; simp
 have hld:(loadClS (.pointer (some ⟨w.heap.size,0,none⟩))).run Tryz.prog W1= .ok (clv c) W1:=by
  refine ld_at (b:=w.heap.size) (o:=0) ?_
  have e:(w.alloc (.cells (clList c).toArray 35)).rangeAt w.heap.size 0 (clList c):=range_new w _ _
  intro j v hv
  have:=e j v hv
  rw [←hW1]
  exact (World.cell?_of_block (w:=w.alloc (.cells (clList c).toArray 35)) (a:=⟨w.heap.size,0+j,none⟩) ((Below.heap_alloc _ _ _ (by simp only [World.size_alloc]; omega)).trans (Below.heap_alloc _ _ _ (by simp)))).trans this
 have hA2:BtS (w.heap.size+1) 7 (fun _=>(false,0,0)) W1:=by
  have e:BtS (w.alloc (.cells (clList c).toArray 35)).heap.size 7 (fun _=>(false,0,0)) ((w.alloc (.cells (clList c).toArray 35)).alloc (.cells #[.bool false, .int .i64 0, .int .i64 0, .bool false, .int .i64 0, .int .i64 0, .bool false, .int .i64 0, .int .i64 0, .bool false, .int .i64 0, .int .i64 0, .bool false, .int .i64 0, .int .i64 0, .bool false, .int .i64 0, .int .i64 0, .bool false, .int .i64 0, .int .i64 0] 79)):=btS_new _ _ 7
  rw [World.size_alloc] at e
  rw [←hW1]; exact e.block (by simp) (Below.heap_alloc _ _ _ (by simp))
 have hA3:BtS (w.heap.size+1+1) 7 (fun _=>(false,0,0)) W1:=by
  have e:BtS ((w.alloc (.cells (clList c).toArray 35)).alloc (.cells #[.bool false, .int .i64 0, .int .i64 0, .bool false, .int .i64 0, .int .i64 0, .bool false, .int .i64 0, .int .i64 0, .bool false, .int .i64 0, .int .i64 0, .bool false, .int .i64 0, .int .i64 0, .bool false, .int .i64 0, .int .i64 0, .bool false, .int .i64 0, .int .i64 0] 79)).heap.size 7 (fun _=>(false,0,0)) (((w.alloc (.cells (clList c).toArray 35)).alloc (.cells #[.bool false, .int .i64 0, .int .i64 0, .bool false, .int .i64 0, .int .i64 0, .bool false, .int .i64 0, .int .i64 0, .bool false, .int .i64 0, .int .i64 0, .bool false, .int .i64 0, .int .i64 0, .bool false, .int .i64 0, .int .i64 0, .bool false, .int .i64 0, .int .i64 0] 79)).alloc (.cells #[.bool false, .int .i64 0, .int .i64 0, .bool false, .int .i64 0, .int .i64 0, .bool false, .int .i64 0, .int .i64 0, .bool false, .int .i64 0, .int .i64 0, .bool false, .int .i64 0, .int .i64 0, .bool false, .int .i64 0, .int .i64 0, .bool false, .int .i64 0, .int .i64 0] 79)):=btS_new _ _ 7
  rw [World.size_alloc,World.size_alloc] at e
  rw [←hW1]; exact e
 obtain ⟨W2,hW2⟩:∃W2,W1.alloc (.cells (clList c).toArray 35)=W2:=⟨_,rfl⟩
 have hB12:Below W1.heap.size W1 W2:=by rw [←hW2]; exact below_new (Below.refl _ _) (zG _)
 have s2:W2.heap.size=W1.heap.size+1:=by rw [←hW2]; simp
 have hcl:cls [c]=clList c:=by simp [cls]
 have hsl:Sl W2 (some ⟨W1.heap.size,0,none⟩) (cls [c]):=by
  rw [hcl,←hW2]
  exact sl_range (cs:=clList c) (range_new W1 _ _) (by simp)
 have hB2:=hB1.trans (hB12.mono hB1.size)
 have cN:=hid (RNew_any (some ⟨W1.heap.size,0,none⟩) 1 [c] W2 (by simp) (by simp) hsl (fun h=>by cases h) (fun x hx=>by rw [List.mem_singleton] at hx; subst hx; exact hc) (hT.later hB2))
 have HF:=hid (fault_one hm)
 have HB2:=hid hB2
 have HW1:=hid hW1
 have HW2:=hid hW2
 have S1:=hid s1
 have S2:=hid s2
 have A2:=hid (hA2.block hB12.size (hB12.block _ hA2.lt))
 have A3:=hid (hA3.block hB12.size (hB12.block _ hA3.lt))
 have Ht0:Hid (0 < w.heap.size):=hT.1
 obtain ⟨L,hL⟩:∃L,[c]=L:=⟨_,rfl⟩
 have hLl:L.length=1:=by rw [←hL]; rfl
 have HLl:=hid hLl
 rw [hL] at cN HF⊢
 clear hW1 hW2 hB1 hB2 hB12 hc hT s1 s2 hA2 hA3 hsl hcl hm hL hLl
 refine (wf_calls (r:=none) (n:=1)).mp ?_
 refine callsIn_of_wp_marks Tryz.func35 rfl trivial ?_ rfl
 simp only [Tryz.ntmps35,List.size_toArray,List.length_cons,List.length_nil,Nat.reduceAdd,Nat.reduceSub,Array.replicate_succ,Array.replicate_zero,List.push_toArray,List.append_toArray,List.nil_append,List.cons_append]
 gi_upto_region 2 with fail
 rw [HW1.out]
 gi_wp2_with fail
 rw [HW2.out]
 have cN2:=cN.out
 rw [HLl.out] at cN2
 refine (wf_calls.mpr cN2).mono ?_
 rintro e w3 ⟨hN,hB3⟩
 have hB03:=hid (HB2.out.trans (hB3.mono HB2.out.size))
 have S3:Hid (w.heap.size+4≤w3.heap.size):=by have:=hB3.size; have:=S1.out; have:=S2.out; show _≤_; omega
 have A23:=hid (A2.out.block hB3.size (hB3.block _ A2.out.lt))
 have A33:=hid (A3.out.block hB3.size (hB3.block _ A3.out.lt))
 rcases hN with ⟨hf,rfl⟩ | ⟨-,br,bk,bps,rfl,hR,hM⟩
 ·exact absurd HF.out hf
 ·have HR:=hid hR
  have HM:=hid hM
  clear hB3 hR hM cN cN2 hld
  have cI:=hid (PInners_any w3)
  gi_wp2_with fail
  refine (wf_calls.mpr cI.out).mono ?_
  rintro e w4 ⟨rfl,hw4⟩
  obtain ⟨w5,hw5⟩:∃w5,w4.alloc (.cells #[.func (.func 146) #[] #[.pointer (some ⟨w3.heap.size+1,0,none⟩)]] 151)=w5:=⟨_,rfl⟩
  obtain ⟨bf,hbf⟩:∃c,w4.heap.size=c:=⟨_,rfl⟩
  have s4:bf=w3.heap.size+1+1:=by rw [←hbf,hw4]; simp
  have s5:w5.heap.size=w3.heap.size+1+1+1:=by rw [←hw5,hw4]; simp
  have B5:Below w3.heap.size w3 w5:=by rw [←hw5,hw4]; exact below_new (below_new (below_new (Below.refl _ _) (zG _)) (by simp)) (by simp only [World.size_alloc]; omega)
  have hAl:AlC (w.heap.size+1+1) (w3.heap.size+1) w3.heap.size bf (fun _=>(false,0,0)) (fun b=>b=w.heap.size+1+1∨b=w3.heap.size+1∨b=w3.heap.size∨b=bf) w5:=by
   have hs3:=S3.out
   refine ⟨A33.out.block B5.size (B5.block _ A33.out.lt),?_, .inl rfl, .inr (.inl rfl), .inr (.inr (.inl rfl)), .inr (.inr (.inr rfl)),fun b hb=>by omega,by omega,by omega,by omega,by omega,by omega⟩
   rw [←hw5,←hbf]; simp [go_sem]
  have hPu:PuW (w3.heap.size+1) w3.heap.size (FNew W2 w3) (RM br bk bps) w5:=by
   refine ⟨?_,?_⟩
   ·rw [←hw5,hw4]; simp [go_sem]
   ·have hm0:=MapS.made w3 (DiK w5 (FNew W2 w3) (RM br bk bps)) (DiG w5 (FNew W2 w3) (RM br bk bps))
    refine (hm0.keep (w':=w5) ?_).mono (by omega) (fun _ h=>h) (fun _ _ h=>h)
    rw [←hw5,hw4]
    exact (Below.heap_alloc _ _ _ (by simp only [World.size_alloc]; omega)).trans (Below.heap_alloc _ _ _ (by simp))
  have HR5:Hid (RollS w5 L br bk bps (FNew W2 w3) (fun _=>false) 0):=HR.out.keep B5.size (fun b hb=>B5.block b (by have:=S3.out; have:=Ht0.out; rcases hb with hb | hb <;> omega))
  have HAl:=hid hAl
  have HPu:=hid hPu
  have HB5:=hid (hB03.out.trans (B5.mono hB03.out.size))
  have A25:=hid (A23.out.block B5.size (B5.block _ A23.out.lt))
  have S5:=hid s5
  have S4:=hid s4
  have Hw5:=hid hw5
  have Hbf:=hid hbf
  clear B5 hAl hPu s4 hw5 hbf s5 hw4 cI
  gi_wp2_with fail
  rw [Hbf.out,Hw5.out]
  obtain ⟨ba,hba⟩:∃x,w.heap.size+1+1=x:=⟨_,rfl⟩
  obtain ⟨b2,hb2⟩:∃x,w.heap.size+1=x:=⟨_,rfl⟩
  have Hba:=hid hba
  have Hb2:=hid hb2
  rw [hba] at HAl
  rw [hb2] at A25
  rw [hba,hb2]
  clear hba hb2
  obtain ⟨bm,hbm⟩:∃x,w3.heap.size=x:=⟨_,rfl⟩
  have Hbm:=hid hbm
  rw [hbm] at HAl HPu S4 S5
  clear hbm
  have cA:=hid (RAllC_any 0 146096 HR5.out (InvS 0) (zG 0))
  have hbr:=bnd_rng L (f:=0) (t:=146096) (by omega) (by omega)
  have hclip:=dayS_clip L 0 146096
  obtain ⟨X1,hX1⟩:∃X,bndF L 0=X:=⟨_,rfl⟩
  obtain ⟨X2,hX2⟩:∃X,bndU L 146096=X:=⟨_,rfl⟩
  rw [hX1,hX2] at cA hbr hclip
  have tl:=RAllF_any (cs:=L) (br:=br) (bk:=bk) (bps:=bps) InvS (w5.heap.size+1) (w5.heap.size+2) w5.heap.size X1 X2 hbr.1 hbr.2.1 hbr.2.2.1 hbr.2.2.2
   (fun j n ws m ws' m' hn hi hs=>invS_step hi hs) (fun j ws m hi hj=>by rw [daysL_len] at hj; rw [InvS] at hi; omega)
  rw [hclip] at tl
  obtain ⟨LL,hLL⟩:∃LL,(daysL X1 X2).length=LL:=⟨_,rfl⟩
  rw [hLL] at tl
  have TL:=hid tl
  clear hbr hclip tl hLL hX1 hX2
  refine (wf_calls.mpr cA.out).mono ?_
  rintro e w6 ⟨rfl,hB6,hl6,hHA⟩
  have HB6:=hid (HB5.out.trans (hB6.mono HB5.out.size))
  have C6:=hid (HAl.out.keep hB6.size (fun c hc=>hB6.block c (HAl.out.lt c hc)))
  have A26:=hid (A25.out.block hB6.size (hB6.block _ A25.out.lt))
  have P6:Hid (PuW (bm+1) bm (F3 (FNew W2 w3) w5.heap.size) (RM br bk bps) w6):=by
   have l5:=S5.out
   have lm:=Hbm.out
   refine HPu.out.keep hB6.size (fun b h=> .inl h) (fun b hb=>hB6.block b ?_) (hB6.block _ (by omega)) (hB6.block _ (by omega))
   rcases hb.1 with h | h
   ·omega
   ·have:=Ht0.out; have:=S3.out; omega
  have HHA:=hid hHA
  have HFO:Hid (∀b,F3 (FNew W2 w3) w5.heap.size b→¬(b=ba∨b=bm+1∨b=bm∨b=bf)∧b≠b2):=fun b hb=>by
   have:=S3.out; have:=S5.out; have:=S4.out; have:=S1.out; have:=S2.out; have:=Ht0.out; have:=Hba.out; have:=Hb2.out; have:=Hbm.out
   rcases hb with hb | hb
   ·rcases hb with hb | hb <;> omega
   ·omega
  clear hB6 hHA cA hl6
  gi_wp2_with fail
  refine range_outerG (F:=F3 (FNew W2 w3) w5.heap.size) (M:=RM br bk bps) (gf:=124) (lb:=#[.pointer (some ⟨w5.heap.size+1,0,none⟩), .pointer (some ⟨w5.heap.size+2,0,none⟩), .pointer (some ⟨w5.heap.size,0,none⟩)]) rfl rollall_enters (fun b=>b=ba∨b=bm+1∨b=bm∨b=bf)
   (fun k vs F W h=>by obtain ⟨_,_,_,_,_,rfl,_⟩:=h; rfl) TL.out HA.host HA.host HA.hostE HHA.out (fun b hb=>(HFO.out b hb).1)
   (AlI L (RM br bk bps) ba (bm+1) bm bf) AlX (alI_stab _ _ _ _ _ _) (alX_stab _) (alI_lt _ _ _ _ _ _) alX_lt ⟨_,C6.out,BQ.zero _,P6.out⟩
   (fun k O F a' W=>AlI L (RM br bk bps) ba (bm+1) bm bf k O F W∧∃b7 D d,(dayS L (daysL 0 146096))[k]? =some D∧SkD L (RM br bk bps) D d b7 O F W∧AlT (clv c) (.pointer (some ⟨w.heap.size,0,none⟩)) (.pointer (some ⟨b2,0,none⟩)) (.pointer (some ⟨ba,0,none⟩)) (.pointer (some ⟨br,0,none⟩)) (.int .i64 0) (.pointer (some ⟨bf,0,none⟩)) (.pointer (some ⟨b7,0,none⟩)) (.pointer (some ⟨d,0,none⟩)) [] a')
   ?putl ?assign ?body ?done ?stop
  case putl=>
   rintro l' o k O F a' W hr hnO hnF ⟨h1,bx,D,d,h3,h4,h5⟩
   have ko:∀b,O b∨(F b∧¬RM br bk bps b)→(W.putObj l' o).heap[b]? =W.heap[b]?:=fun b hb=>World.putObj_heap_other (fun e=>hb.elim (fun h=>hnO (e ▸ h)) (fun h=>hnF (e ▸ h.1)))
   exact ⟨alI_stab _ (RM br bk bps) _ _ _ _ k O F F W _ h1 (by rw [World.putObj_size]; exact zG _) (fun _ h=>h) ko,bx,D,d,h3,h4.put hr hnF,h5⟩
  case assign=>
   rintro l' k O6 F6 W6 vs K hk hJ6 hFl ⟨D,d,hn,h0,h1,rfl,hd,ht,hlt⟩ hG6 hK
   rw [←shq_shF]
   obtain ⟨s,hs⟩:∃s,shF D=s:=⟨_,rfl⟩
   rw [hs,shq]
   have Hs:=hid hs
   have HP:=hid (And.intro hJ6 (And.intro hFl (And.intro hn (And.intro hd (And.intro ht (And.intro hlt hG6))))))
   clear hs hJ6 hFl hn hd ht hlt hG6 h0 h1
   gi_wp2
   obtain ⟨hJ6,hFl,hn,hd,ht,hlt,hG6⟩:=HP.out
   have hbel:=below_new (o:= .cells (shList s).toArray 124) (Below.refl W6.heap.size W6) (zG _)
   have hlO:=alI_lt _ _ _ _ _ _ _ _ _ _ hJ6
   refine hK _ O6 _ (Grow.of_below hbel) ⟨alI_stab _ (RM br bk bps) _ _ _ _ _ O6 F6 F6 W6 _ hJ6 hbel.size (fun _ h=>h) (fun b hb=>hbel.block b (hb.elim (hlO b) (fun h=>hlt b h.1))),W6.heap.size,D,d,hn,
    ⟨fun b hb=>(hFl b hb).1,⟨hd.1,hd.2.1,hd.2.2.block hbel.size (hbel.block d (hlt d hd.1))⟩,⟨ht.1.later hbel,ht.2.1⟩,fun b hb=>zH (hlt b hb) hbel.size,by simp,⟨fun h=>by have:=hlO _ h; omega,fun h=>by have:=hlt _ h; omega⟩,by rw [Hs.out]; exact shC_new W6 124 _ _ _ _ _ _ _ _ _ _⟩,AlT.of⟩
  case stop=>
   rintro c k O9 F9 w9 hk1 hk2 hG9 hHN hFs hFn hFO9 h
   exact h.elim
  case done=>
   rintro O9 F9 w9 hG9 hHN hFs hFn hFO9 ⟨B,hI,hQ,-⟩ hD hnD hnF
   have hO9:Hid (∀b,(b=ba∨b=bm+1∨b=bm∨b=bf)∨RM br bk bps b→w.heap.size≤b∧b≠b2):=fun b hb=>by
    have:=S3.out; have:=S4.out; have:=Hba.out; have:=Hb2.out; have:=Hbm.out; have:=S1.out; have:=S2.out
    rcases hb with (h | h | h | h) | h
    ·omega
    ·omega
    ·omega
    ·omega
    ·have:=HM.out b h; omega
   have HB9:Hid (Below w.heap.size w w9):=HB6.out.trans (hG9.eff.below (fun b hb=>(hO9.out b hb).1) HB6.out.size)
   have hA9:BtS b2 7 (fun _=>(false,0,0)) w9:=A26.out.block hG9.eff.size (hG9.eff.block _ A26.out.lt (fun hb=>(hO9.out _ hb).2 rfl))
   have hld:=hI.al.ld7
   have hst:=hA9.st7 B
   have HA9:=hid (hA9.put B)
   have HE9:Hid (Eff (fun x=>x=b2) w9 (w9.setCells b2 0 (btL 7 B))):=Eff.setCells (O:=fun x=>x=b2) rfl (btL 7 B) 0 w9 (Eff.refl _ w9)
   have hne:w6.heap.size≠b2:=fun e=>by have:=A26.out.lt; omega
   have HDx:Hid ((w9.setCells b2 0 (btL 7 B)).heap[w6.heap.size]? =some (.deferred (some []))):=by
    show _ = _
    rw [HE9.out.block w6.heap.size (Array.getElem?_eq_some_iff.1 hD).1 hne]
    exact hD
   have Hne:=hid hne
   have HQ:=hid hQ
   clear hG9 hHN hFs hFn hFO9 hnD hnF hD hI hA9 hne hQ
   gi_wp2
   refine ⟨by simp, .inl ⟨_,_,rfl,run_takeDeferred HDx.out,?_⟩⟩
   have hX:=HA9.out.block (W':=(w9.setCells b2 0 (btL 7 B)).putObj w6.heap.size (.deferred none)) (by rw [World.putObj_size]; exact zG _) (World.putObj_heap_other (fun e=>Hne.out e.symm))
   exact ⟨_,results_cell_mid rfl _ _ b2 0 _ _ rfl hX.range Tryz.underlying79 rfl (by rw [btL_len]; exact info7b),⟨B,rfl,HQ.out⟩,below_putObj (HB9.out.trans (HE9.out.below (by rintro b rfl; have:=Hb2.out; omega) HB9.out.size)) HB6.out.size _⟩
  case body=>
   rintro l3 k O6 F6 a' W6 hk hG6 hl3 hrec6 hnl3 hnF3 ⟨⟨B,hC6,hQ6,hP6⟩,b7,D,d,en,hD,V,rfl⟩
   obtain ⟨D0,D1,j0,hj0,hq0⟩:=day_rng en
   have cO:=hid (POuter_any D W6 D0 D1)
   have hA:=fun u=>outF_bd D0 D1 u
   have hnd:=fun u=>nrB_day (cs:=L) (D:=D) hj0 hq0 u
   have hnx:=hQ6.next en
   have HBd:Hid (∀u,u < 7→M62 (B u).2.1∧M62 (B u).2.2):=fun u hu=>hQ6.bd hu
   have HX:Hid (∀i,i < 7→ldB D (nrB (secL (dayQ L D))) (mdB (outF D) B 7) 3 i=nxB D (nrB (secL (dayQ L D))) B i):=fun i hi=>ld_md D _ B i hi
   obtain ⟨N,hN⟩:∃N,nrB (secL (dayQ L D))=N:=⟨_,rfl⟩
   rw [hN] at hnd hnx HX
   obtain ⟨A,hAe⟩:∃A,outF D=A:=⟨_,rfl⟩
   rw [hAe] at cO hA HX
   obtain ⟨s,hs⟩:∃s,shF D=s:=⟨_,rfl⟩
   have hs0:s 0=D:=by rw [←hs]; rfl
   rw [←shq_shF,hs,shq] at cO
   have hsh:=hD.sh
   rw [hs] at hsh
   have h7D:Hid (∀W',Eff O6 W6 W'→W'.cell? ⟨b7,0,none⟩=some (.int .i64 D)):=fun W' hE=>by
    have a0:W6.cell? ⟨b7,0,none⟩=some (.int .i64 (s 0)):=by obtain ⟨a0,-⟩:=hsh; exact a0
    rw [hs0] at a0
    exact (hE.cell (p:=⟨b7,0,none⟩) hD.lx hD.nx.1).trans a0
   obtain ⟨t0,t1,t2,t3,t4,t5,t6,t7,t8,t9⟩:=hsh
   have HC6:=hid hC6
   have HP6:=hid hP6
   have HD6:=hid hD
   have HN:=hid hN
   have HQ:=hid hnx
   have Hnd:=hid hnd
   have HA:=hid hA
   have HDr:=hid (And.intro D0 D1)
   have Hrec:=hid hrec6
   have Hnl:=hid hnl3
   have hfn:=hC6.fn
   have hlf:=hC6.lt _ hC6.of'
   clear hG6 hs hD hk en hC6 hQ6 hP6 hN hnx hnd hA hAe hrec6 hnl3 hnF3 hj0 hq0 D0 D1 hs0
   gi_wp2_with fail
   refine (wf_calls.mpr cO.out).mono ?_
   rintro e w7 ⟨rfl,hB7⟩
   have e8:Ar7 w7.heap.size (fun _=>0) (w7.alloc (.cells #[.int .i64 0, .int .i64 0, .int .i64 0, .int .i64 0, .int .i64 0, .int .i64 0, .int .i64 0] 24)):=ar7_new w7 24
   have hst8:=e8.st A
   have H8:=hid (e8.put A)
   have hB8:Below w7.heap.size w7 ((w7.alloc (.cells #[.int .i64 0, .int .i64 0, .int .i64 0, .int .i64 0, .int .i64 0, .int .i64 0, .int .i64 0] 24)).setCells w7.heap.size 0 (L7 A)):=(below_new (Below.refl _ _) (zG _)).trans ((Eff.setCells (O:=fun x=>x=w7.heap.size) rfl (L7 A) 0 _ (Eff.refl _ _)).below (by rintro b rfl; exact zG _) (by simp))
   have HB8:=hid (hB7.trans (hB8.mono hB7.size))
   have l9:W6.heap.size≤w7.heap.size:=hB7.size
   clear hB7 hB8 e8 cO t0 t1 t2 t3 t4 t5 t6 t7 t8 t9
   gi_upto_region 8 with fail
   obtain ⟨w8,hw8⟩:∃w8,(w7.alloc (.cells #[.int .i64 0, .int .i64 0, .int .i64 0, .int .i64 0, .int .i64 0, .int .i64 0, .int .i64 0] 24)).setCells w7.heap.size 0 (L7 A)=w8:=⟨_,rfl⟩
   obtain ⟨b9,hb9⟩:∃x,w7.heap.size=x:=⟨_,rfl⟩
   rw [hw8,hb9] at H8
   rw [hw8] at HB8
   rw [hw8,hb9]
   have L9:Hid (W6.heap.size≤b9):=by show _≤_; rw [←hb9]; exact l9
   have HC8:=hid (HC6.out.keep HB8.out.size (fun b hb=>HB8.out.block b (HC6.out.lt b hb)))
   have HP8:Hid (PuW (bm+1) bm F6 (RM br bk bps) w8):=HP6.out.keep HB8.out.size (fun _ h=>h) (fun b hb=>HB8.out.block b (HD6.out.lt b hb.1)) (HB8.out.block _ (HC6.out.lt _ HC6.out.ox)) (HB8.out.block _ (HC6.out.lt _ HC6.out.om))
   clear hw8 hb9 hst8 l9 hfn hlf
   gi_wp2_with fail
   gi_loopw [10] (fun iv wr=>∃u:Nat,iv= .int .i64 u∧3≤u∧u≤7∧Hid (BtS ba 7 (mdB A B u) wr∧Eff (fun x=>x=ba) w8 wr)) (fun iv _=>7 - (intOf iv).toNat)
   case atStart=>exact ⟨3,rfl,by omega,by omega,HC8.out.al.congr (fun i _=>by rw [mdB,if_neg (by omega)]),Eff.refl _ _⟩
   case round=>
    obtain ⟨u,rfl,hu3,hu7,HI⟩:=hrel
    by_cases hlt:u < 7
    ·have hui:(u:Int) < 7:=by omega
     have hu0:(0:Int)≤(u:Int):=by omega
     have hbt:=HI.out.1.at' u hlt
     have eB:mdB A B u u=B u:=by rw [mdB,if_neg (by omega)]
     rw [eB] at hbt
     have hM:M62 (A u):=by have:=HA.out u; exact ⟨by omega,by omega⟩
     have cT:=hid (BTake_any (A u) (hbt.below (Below.refl _ _).drew) (HBd.out u hlt).1 (HBd.out u hlt).2 hM)
     have hA9:wr.drew.cell? ⟨b9,u,none⟩=some (.int .i64 (A u)):=(HI.out.2.cell (p:=⟨b9,u,none⟩) H8.out.lt (fun e=>by have:=HC6.out.lt _ HC6.out.oa; have:=L9.out; simp only [] at e; omega)).trans (H8.out.c u hlt)
     have hst:Hid (∀W',Bt1 ba (u * 3) (takeB (B u) (A u)) W'→OnlyB ba (u * 3) wr.drew W'→BtS ba 7 (mdB A B (u+1)) W'∧Eff (fun x=>x=ba) w8 W'):=fun W' h1 h2=>
      ⟨(BtS.step (W:=wr.drew) (HI.out.1.block (zG _) rfl) h1 h2).congr (fun i hi=>by
        by_cases e:i=u
        ·subst e; rw [mdB,if_pos (by omega),if_pos rfl]
        ·rw [if_neg e,mdB,mdB]
         by_cases e2:3≤i∧i < u
         ·rw [if_pos (by omega),if_pos e2]
         ·rw [if_neg (by omega),if_neg e2]),HI.out.2.drew.trans h2.eff (fun _ h=> .inl h)⟩
     obtain ⟨y,hy⟩:∃y,A u=y:=⟨_,rfl⟩
     rw [hy] at cT hA9 hst
     clear hbt eB hM hy
     gi_upto_region 11 with fail
     refine regW (S:=fun W=>W.cell? ⟨b9,u,none⟩=some (.int .i64 y)) (by kernel_rfl) (by kernel_rfl) (by rintro ⟨_,_,h⟩; exact h) hA9 (fun hHeld=>?_)
     refine zT 0 (v:=?_) ?_ ?_
     rotate_left
     ·intro w' hSw; have f0:=hSw; clear hSw; go_simp; (try with_reducible rfl)
     try simp only [zP]
     refine zT 1 (v:=?_) ?_ ?_
     rotate_left
     ·intro w' hSw; have f0:=hSw; clear hSw; go_simp; (try with_reducible rfl)
     try simp only [zP]
     refine zT 2 (v:=?_) ?_ ?_
     rotate_left
     ·intro w' hSw; have f0:=hSw; clear hSw; go_simp; (try with_reducible rfl)
     try simp only [zP]
     refine zT 3 (v:=?_) ?_ ?_
     rotate_left
     ·intro w' hSw; have f0:=hSw; clear hSw; go_simp; (try with_reducible rfl)
     try simp only [zP]
     refine zT 4 (v:=?_) ?_ ?_
     rotate_left
     ·intro w' hSw; have f0:=hSw; clear hSw; go_simp; (try with_reducible rfl)
     try simp only [zP]
     refine wpAnyH_ready (rs:= [5]) (by kernel_rfl) (by simp) ?_
     refine AllReadyH.cons rfl (fun K hK=>?_) AllReadyH.nil
     go_simp
     refine cT.out.mono ?_
     rintro e w9 ⟨⟨v,rfl⟩,hT9,hO9⟩
     have HN9:=hid (hst.out w9 hT9 hO9)
     refine hK.out _ _ ((hO9.eff.cell (p:=⟨b9,u,none⟩) (by have:=HI.out.2.size; have:=H8.out.lt; show _ < wr.heap.size; simp only []; omega) (fun e=>by have:=HC6.out.lt _ HC6.out.oa; have:=L9.out; simp only [] at e; omega)).trans hA9) (fun hHeld=>?_)
     clear hK K hT9 hO9 cT hst hA9
     try simp only [zP]
     refine wpAnyH_done (by kernel_rfl) ?_ _
     clear hHeld
     gi_wp2
     exact ⟨⟨u+1,by go_num,by omega,by omega,HN9.out⟩,by simp [intOf]; omega⟩
    ·obtain rfl:u=7:=by omega
     have hC9:=HC8.out.upd HI.out.2 HI.out.1
     have hne:=hC9.ne
     have lxx:=HC6.out.lt _ HC6.out.ox
     have lmm:=HC6.out.lt _ HC6.out.om
     have laa:=HC6.out.lt _ HC6.out.oa
     have hE69:Eff O6 W6 wr:=(Eff.of_below HB8.out).trans HI.out.2 (fun b hb=>by subst hb; exact .inl HC6.out.oa)
     have hP9:PuW (bm+1) bm F6 (RM br bk bps) wr:=HP6.out.keep hE69.size (fun _ h=>h) (fun b hb=>hE69.block b (HD6.out.lt b hb.1) (HD6.out.dj b hb.1))
      ((HI.out.2.block _ (zH lxx HB8.out.size) (fun e=>hne.1 (Eq.symm e))).trans (HB8.out.block _ lxx)) ((HI.out.2.block _ (zH lmm HB8.out.size) (fun e=>hne.2.1 (Eq.symm e))).trans (HB8.out.block _ lmm))
     have hd9:DiF wr F6 (RM br bk bps) d (dayQ L D):=HD6.out.di.keepI hE69.size (fun _ h=>h) (fun b hb=>hE69.block b (HD6.out.lt b hb.1) (HD6.out.dj b hb.1))
     have hS9:PuS (bm+1) bm F6 (RM br bk bps) wr:=⟨hP9.c,hP9.m,fun h=>HD6.out.dj _ h HC6.out.ox,fun h=>HD6.out.dj _ h HC6.out.om,hne.2.2.2.2,hC9.lt _ hC9.ox,fun b hb=>zH (HD6.out.lt b hb) hE69.size⟩
     have cI:=hid (PInners1_any hS9 hd9 (HD6.out.tab.1.eff hE69 (HD6.out.dj _ HD6.out.tab.2)) HD6.out.tab.2)
     rw [HN.out] at cI
     have hfn:=hC9.fn
     have HC9:=hid hC9
     have HE69:=hid hE69
     clear hC9 hne lxx lmm laa hE69 hP9 hd9 hS9 hu3 hu7 hlt
     gi_wp2_with fail
     refine (wf_calls.mpr cI.out).mono ?_
     rintro e w10 ⟨rfl,hS10,hE10⟩
     have HC10:Hid (AlC ba (bm+1) bm bf (mdB A B 7) O6 w10):=by
      have h:=HC9.out
      exact ⟨h.al.block hE10.size (hE10.block _ (h.lt _ h.oa) h.ne.2.1),(hE10.cell (p:=⟨bf,0,none⟩) (h.lt _ h.of') h.ne.2.2.2.1).trans h.fn,h.oa,h.ox,h.om,h.of',fun b hb=>zH (h.lt b hb) hE10.size,h.ne⟩
     have HP10:Hid (PuW (bm+1) bm F6 (RM br bk bps) w10):=⟨hS10.c,hS10.m⟩
     have HE10:=hid (HE69.out.trans hE10 (fun b hb=>by subst hb; exact .inl HC6.out.om))
     clear hS10 hE10 cI hfn
     gi_wp2_with fail
     gi_loopw [40] (fun iv wr=>∃v:Nat,iv= .int .i64 v∧v≤3∧Hid (BtS ba 7 (ldB D N (mdB A B 7) v) wr∧Eff (fun x=>x=ba) w10 wr)) (fun iv _=>3 - (intOf iv).toNat)
     case atStart=>exact ⟨0,rfl,by omega,HC10.out.al.congr (fun i _=>by rw [ldB,if_neg (by omega)]),Eff.refl _ _⟩
     case round=>
      obtain ⟨v,rfl,hv3,HI2⟩:=hrel
      by_cases hlt:v < 3
      ·have hvi:(v:Int) < 3:=by omega
       have hv7:(v:Int) < 7:=by omega
       have hv0:(0:Int)≤(v:Int):=by omega
       have hix:=index3 N v hlt wr
       have cS:=hid (fun W=>Size_any (v:Int) W)
       rw [szU hlt] at cS
       have hz:=szI_pos v
       have hzd:=szI_dvd v
       have hbt:=HI2.out.1.at' v (by omega)
       have eB:ldB D N (mdB A B 7) v v=B v:=by rw [ldB,if_neg (by omega),mdB,if_neg (by omega)]
       rw [eB] at hbt
       have hst:Hid (∀W' W2,Eff (fun x=>x=ba) wr W2→BtS ba 7 (ldB D N (mdB A B 7) v) W2→Bt1 ba (v * 3) (gcdB (takeB (B v) (D * (86400 / szI v)+(N v).2.1)) (N v).2.2) W'→OnlyB ba (v * 3) W2 W'→BtS ba 7 (ldB D N (mdB A B 7) (v+1)) W'∧Eff (fun x=>x=ba) w10 W'):=fun W' W2 e2 b2' h1 h2=>
        ⟨(b2'.step h1 h2).congr (fun i hi=>by
          by_cases e:i=v
          ·subst e; rw [ldB,if_pos (by omega),if_pos rfl,mdB,if_neg (by omega)]
          ·rw [if_neg e,ldB,ldB]
           by_cases e2:i < v
           ·rw [if_pos (by omega),if_pos e2]
           ·rw [if_neg (by omega),if_neg e2]),(HI2.out.2.trans e2 (fun _ h=> .inl h)).trans h2.eff (fun _ h=> .inl h)⟩
       have hB0:=HBd.out v (by omega)
       have hN0:=Hnd.out v
       obtain ⟨z,hze⟩:∃z,szI v=z:=⟨_,rfl⟩
       rw [hze] at cS hz hst hzd
       have hz0:z≠0:=by omega
       obtain ⟨y,f,g,hye⟩:∃y f g,N v= (y,f,g):=⟨_,_,_,rfl⟩
       rw [hye] at hix hst hN0
       simp only at hix hst hN0
       have hq1:1≤86400 / z∧86400 / z≤86400:=⟨Int.le_ediv_of_mul_le (by omega) (by omega),Int.ediv_le_self _ (by omega)⟩
       have hqt:Int.tdiv 86400 z=86400 / z:=Int.tdiv_eq_ediv_of_nonneg (by omega)
       obtain ⟨m,hme⟩:∃m,86400 / z=m:=⟨_,rfl⟩
       rw [hme] at hq1 hqt hst
       have hmw:IntKind.i64.wrap m=m:=IntWalk.i64_in _ (by omega)
       have hDr:=HDr.out
       have hDm:0≤D * m∧D * m≤12622780800:=⟨Int.mul_nonneg hDr.1 (by omega),by
        have h1:D * m≤D * 86400:=Int.mul_le_mul_of_nonneg_left hq1.2 hDr.1
        omega⟩
       obtain ⟨p,hpe⟩:∃p,D * m=p:=⟨_,rfl⟩
       rw [hpe] at hDm hst
       have hpw:IntKind.i64.wrap p=p:=IntWalk.i64_in _ (by omega)
       simp only [M62] at hN0
       have hsw:IntKind.i64.wrap (p+f)=p+f:=IntWalk.i64_in _ (by omega)
       have hM:M62 (p+f):=⟨by omega,by omega⟩
       have cT:=hid (fun W' (hb:Bt1 ba (v * 3) (B v) W')=>BTake_any (p+f) hb hB0.1 hB0.2 hM)
       have hbd:=takeB_bd hB0.1 hB0.2 hM
       obtain ⟨a',ha'⟩:∃a',takeB (B v) (p+f)=a':=⟨_,rfl⟩
       rw [ha'] at cT hbd hst
       obtain ⟨ay,af,ag⟩:=a'
       simp only [gcdB_eq] at hst
       simp only at hbd
       have hgb:M62 ag:=hbd.2
       simp only [M62] at hgb
       have hle:=gcd2_le (a:=ag) (b:=g) (M:=4611686018427387903) (by omega) (by omega)
       have hdb:Hid (∀m∈ [ag,g],i64B m):=fun m hm=>by
        simp only [List.mem_cons,List.not_mem_nil,or_false] at hm
        rcases hm with rfl | rfl <;> exact ⟨by omega,by omega⟩
       have cG:=hid (fun W=>NGcd_any (some ⟨W.heap.size,0,none⟩) 2 [ag,g] (W.alloc (.cells #[.int .i64 ag, .int .i64 g] 2)).drew (by simp) (sl_range (cs:= [.int .i64 ag, .int .i64 g]) (range_new W _ _) (by simp)) hdb.out)
       obtain ⟨G,hG⟩:∃G:Nat,gcdL [ag,g]=G:=⟨_,rfl⟩
       rw [hG] at cG hle hst
       have hwG:IntKind.i64.wrap (G:Int)= (G:Int):=IntWalk.i64_in _ (by omega)
       have HBt:=hid hbt
       have Hvi:=hid hvi
       clear hbt eB hze hye hme ha' hG hbd hgb hle hN0 hB0 hM hDm hq1 hzd hDr
       gi_upto_region 15 with fail
       obtain ⟨w11,hw11⟩:∃W,wr.alloc (.cells #[.bool y, .int .i64 f, .int .i64 g] 78)=W:=⟨_,rfl⟩
       have hB11:Below wr.heap.size wr w11:=by rw [←hw11]; exact below_new (Below.refl _ _) (zG _)
       have x1:w11.cell? ⟨wr.heap.size,1,none⟩=some (.int .i64 f):=by rw [←hw11]; simp [go_sem]
       have x2:w11.cell? ⟨wr.heap.size,2,none⟩=some (.int .i64 g):=by rw [←hw11]; simp [go_sem]
       have lb:wr.heap.size < w11.heap.size:=by rw [←hw11]; simp
       obtain ⟨b12,hb12⟩:∃x,wr.heap.size=x:=⟨_,rfl⟩
       have hne:ba≠b12:=by have:=HBt.out.lt; omega
       rw [hw11,hb12]
       rw [hb12] at x1 x2 lb
       have hE6:Eff O6 W6 wr:=HE10.out.trans HI2.out.2 (fun b hb=>by subst hb; exact .inl HC6.out.oa)
       have h7a:=h7D.out w11.drew ((hE6.trans (Eff.of_below (O:=O6) hB11) (fun _ h=> .inl h)).drew)
       have HB11:=hid hB11
       have HE6:=hid hE6
       have X2:=hid x2
       have X1:=hid x1
       have Lb:=hid lb
       have Hne:=hid hne
       clear hw11 hb12 hB11 hE6 x1 x2 lb hne hix
       refine regW (S:=fun W=>W.cell? ⟨b7,0,none⟩=some (.int .i64 D)) (by kernel_rfl) (by kernel_rfl) (by rintro ⟨_,_,h⟩; exact h) h7a (fun hHeld=>?_)
       refine zT 0 (v:=?_) ?_ ?_
       rotate_left
       ·intro w' hSw; have f0:=hSw; clear hSw; go_simp; (try with_reducible rfl)
       try simp only [zP]
       refine zT 1 (v:=?_) ?_ ?_
       rotate_left
       ·intro w' hSw; have f0:=hSw; clear hSw; go_simp; (try with_reducible rfl)
       try simp only [zP]
       refine zT 2 (v:=?_) ?_ ?_
       rotate_left
       ·intro w' hSw; have f0:=hSw; clear hSw; go_simp; (try with_reducible rfl)
       try simp only [zP]
       refine wpAnyH_ready (rs:= [3]) (by kernel_rfl) (by simp) ?_
       refine AllReadyH.cons rfl (fun K hK=>?_) AllReadyH.nil
       go_simp
       refine (cS.out _).mono ?_
       rintro e w12 ⟨rfl,hB12⟩
       have HB12:Hid (Below w11.heap.size w11 w12):=(Below.refl _ _).drew.trans hB12
       have HBr12:Hid (Below wr.heap.size wr w12):=HB11.out.trans (HB12.out.mono HB11.out.size)
       refine hK.out _ _ (h7D.out w12 (HE6.out.trans (Eff.of_below (O:=O6) HBr12.out) (fun _ h=> .inl h))) (fun hHeld=>?_)
       clear hK K hB12 cS h7a
       try simp only [zP]
       refine zT 4 (v:=?_) ?_ ?_
       rotate_left
       ·intro w' hSw; have f0:=hSw; clear hSw; go_simp; (try with_reducible rfl)
       try simp only [zP]
       refine zT 5 (v:=?_) ?_ ?_
       rotate_left
       ·intro w' hSw; have f0:=hSw; clear hSw; go_simp; (try with_reducible rfl)
       try simp only [zP]
       refine zT 6 (v:=?_) ?_ ?_
       rotate_left
       ·intro w' hSw; have f0:=hSw; clear hSw; go_simp; (try with_reducible rfl)
       try simp only [zP]
       refine wpAnyH_done (by kernel_rfl) ?_ _
       clear hHeld
       gi_upto_region 16 with fail
       have x1:w12.drew.cell? ⟨b12,1,none⟩=some (.int .i64 f):=(HB12.out.cell (p:=⟨b12,1,none⟩) Lb.out).trans X1.out
       refine regW (S:=fun W=>W.cell? ⟨b12,1,none⟩=some (.int .i64 f)) (by kernel_rfl) (by kernel_rfl) (by rintro ⟨_,_,h⟩; exact h) x1 (fun hHeld=>?_)
       refine zT 0 (v:=?_) ?_ ?_
       rotate_left
       ·intro w' hSw; have f0:=hSw; clear hSw; go_simp; (try with_reducible rfl)
       try simp only [zP]
       refine zT 1 (v:=?_) ?_ ?_
       rotate_left
       ·intro w' hSw; have f0:=hSw; clear hSw; go_simp; (try with_reducible rfl)
       try simp only [zP]
       refine zT 2 (v:=?_) ?_ ?_
       rotate_left
       ·intro w' hSw; have f0:=hSw; clear hSw; go_simp; (try with_reducible rfl)
       try simp only [zP]
       refine zT 3 (v:=?_) ?_ ?_
       rotate_left
       ·intro w' hSw; have f0:=hSw; clear hSw; go_simp; (try with_reducible rfl)
       try simp only [zP]
       refine zT 4 (v:=?_) ?_ ?_
       rotate_left
       ·intro w' hSw; have f0:=hSw; clear hSw; go_simp; (try with_reducible rfl)
       try simp only [zP]
       refine zT 5 (v:=?_) ?_ ?_
       rotate_left
       ·intro w' hSw; have f0:=hSw; clear hSw; go_simp; (try with_reducible rfl)
       try simp only [zP]
       refine wpAnyH_ready (rs:= [6]) (by kernel_rfl) (by simp) ?_
       refine AllReadyH.cons rfl (fun K hK=>?_) AllReadyH.nil
       go_simp
       refine (cT.out _ (HBt.out.below HBr12.out.drew)).mono ?_
       rintro e w13 ⟨⟨vv,rfl⟩,hT13,hO13⟩
       have lb12:b12 < w12.heap.size:=zH Lb.out HB12.out.size
       have HT13:=hid hT13
       have HO13:=hid hO13
       have HX13:Hid (w13.cell? ⟨b12,2,none⟩=some (.int .i64 g)):=(hO13.eff.cell (p:=⟨b12,2,none⟩) lb12 (fun e=>Hne.out (Eq.symm e))).trans ((HB12.out.cell (p:=⟨b12,2,none⟩) Lb.out).trans X2.out)
       have Lb13:Hid (b12 < w13.heap.size):=zH lb12 hO13.eff.size
       refine hK.out _ _ ((hO13.eff.cell (p:=⟨b12,1,none⟩) lb12 (fun e=>Hne.out (Eq.symm e))).trans x1) (fun hHeld=>?_)
       have hg0:=hT13.g
       have hz2:=hT13.z (v * 3+2)
       simp only at hg0
       clear hK K hT13 hO13 cT x1 lb12
       try simp only [zP]
       refine wpAnyH_done (by kernel_rfl) ?_ _
       clear hHeld
       gi_upto_region 17 with fail
       refine regW (S:=fun W=>Hid (W.cell? ⟨b12,2,none⟩=some (.int .i64 g))) (by kernel_rfl) (by kernel_rfl) (by rintro ⟨_,_,h⟩; exact h) (hid HX13.out) (fun hHeld=>?_)
       refine zT 0 (v:=?_) ?_ ?_
       rotate_left
       ·intro w' hSw; have f0:=hSw.out; clear hSw; go_simp; (try with_reducible rfl)
       try simp only [zP]
       refine zT 1 (v:=?_) ?_ ?_
       rotate_left
       ·intro w' hSw; have f0:=hSw.out; clear hSw; go_simp; (try with_reducible rfl)
       try simp only [zP]
       refine zT 2 (v:=?_) ?_ ?_
       rotate_left
       ·intro w' hSw; have f0:=hSw.out; clear hSw; go_simp; (try with_reducible rfl)
       try simp only [zP]
       refine zT 3 (v:=?_) ?_ ?_
       rotate_left
       ·intro w' hSw; have f0:=hSw.out; clear hSw; go_simp; (try with_reducible rfl)
       try simp only [zP]
       refine zT 5 (v:=?_) ?_ ?_
       rotate_left
       ·intro w' hSw; have f0:=hSw.out; clear hSw; go_simp; (try with_reducible rfl)
       try simp only [zP]
       refine zT 6 (v:=?_) ?_ ?_
       rotate_left
       ·intro w' hSw; have f0:=hSw.out; clear hSw; go_simp; (try with_reducible rfl)
       try simp only [zP]
       refine wpAnyH_ready (rs:= [4]) (by kernel_rfl) (by simp) ?_
       refine AllReadyH.cons rfl (fun K hK=>?_) AllReadyH.nil
       go_simp
       (try go_wp2_with fail)
       refine hK.out _ _ (by assumption) (fun hHeld=>?_)
       clear hK K
       try simp only [zP]
       refine wpAnyH_ready (rs:= [7]) (by kernel_rfl) (by simp) ?_
       refine AllReadyH.cons rfl (fun K hK=>?_) AllReadyH.nil
       go_simp
       (try go_wp2_with fail)
       have hBn:Below w13.heap.size w13 (w13.alloc (.cells #[.int .i64 ag, .int .i64 g] 2)).drew:=(below_new (Below.refl _ _) (zG _)).drew
       have hf1:(w13.alloc (.cells #[.int .i64 ag, .int .i64 g] 2)).drew.cell? ⟨b12,2,none⟩=some (.int .i64 g):=(hBn.cell (p:=⟨b12,2,none⟩) Lb13.out).trans HX13.out
       have HBn:=hid hBn
       refine hK.out _ _ (hid hf1) (fun hHeld=>?_)
       clear hK K hBn hf1
       try simp only [zP]
       refine wpAnyH_ready (rs:= [8]) (by kernel_rfl) (by simp) ?_
       refine AllReadyH.cons rfl (fun K hK=>?_) AllReadyH.nil
       go_simp
       refine (cG.out w13).mono ?_
       rintro e w14 ⟨rfl,hB14⟩
       have hB34:=HBn.out.trans (hB14.mono HBn.out.size)
       have HB34:=hid hB34
       have hf2:w14.cell? ⟨b12,2,none⟩=some (.int .i64 g):=(hB34.cell (p:=⟨b12,2,none⟩) Lb13.out).trans HX13.out
       (try go_wp2_with fail)
       refine hK.out _ _ (hid hf2) (fun hHeld=>?_)
       clear hK K hB14 hB34 hf2 cG
       try simp only [zP]
       refine zT 9 (v:=?_) ?_ ?_
       rotate_left
       ·intro w' hSw; have f0:=hSw.out; clear hSw; go_simp; (try with_reducible rfl)
       try simp only [zP]
       refine zT 10 (v:=?_) ?_ ?_
       rotate_left
       ·intro w' hSw; have f0:=hSw.out; clear hSw; go_simp; (try with_reducible rfl)
       try simp only [zP]
       refine zT 11 (v:=?_) ?_ ?_
       rotate_left
       ·intro w' hSw; have f0:=hSw.out; clear hSw; go_simp; (try with_reducible rfl)
       try simp only [zP]
       refine wpAnyH_ready (rs:= [12]) (by kernel_rfl) (by simp) ?_
       refine AllReadyH.cons rfl (fun K hK=>?_) AllReadyH.nil
       have hg3:w14.cell? ⟨ba,v * 3+2,none⟩=some (.int .i64 ag):=(HB34.out.cell (p:=⟨ba,v * 3+2,none⟩) HT13.out.lt).trans HT13.out.g
       have hz3:w14.frozen? ⟨ba,v * 3+2,none⟩=false:=(HB34.out.frozen (p:=⟨ba,v * 3+2,none⟩) HT13.out.lt).trans hz2
       have hf3:(w14.setCell ⟨ba,v * 3+2,none⟩ (.int .i64 (G:Int))).cell? ⟨b12,2,none⟩=some (.int .i64 g):=(World.cell?_setCell_other _ _ _ _ (fun e=>by injection e with e1 _; exact Hne.out e1)).trans ((HB34.out.cell (p:=⟨b12,2,none⟩) Lb13.out).trans HX13.out)
       go_simp
       (try go_wp2_with fail)
       refine hK.out _ _ (hid hf3) (fun hHeld=>?_)
       clear hK K hf3 hg3 hz3
       try simp only [zP]
       refine wpAnyH_done (by kernel_rfl) ?_ _
       have HN14:=hid (hst.out (w14.setCell ⟨ba,v * 3+2,none⟩ (.int .i64 (G:Int))) w12.drew (Eff.of_below HBr12.out.drew) (HI2.out.1.block HBr12.out.size (HBr12.out.block _ HBt.out.lt)) ((HT13.out.below HB34.out).setg (G:Int)) (HO13.out.trans ((OnlyB.of_below HB34.out HT13.out.lt).trans (OnlyB.set (v * 3+2) (.inr (.inr rfl)) _))))
       clear hHeld hst
       gi_wp2
       exact ⟨⟨v+1,by go_num,by omega,HN14.out⟩,by simp [intOf]; omega⟩
      ·obtain rfl:v=3:=by omega
       have hC11:=HC10.out.upd HI2.out.2 (HI2.out.1.congr (fun i hi=>(HX.out i hi).symm))
       have hE6:Eff O6 W6 wr:=HE10.out.trans HI2.out.2 (fun b hb=>by subst hb; exact .inl HC6.out.oa)
       have hne:=hC11.ne
       have hP11:PuW (bm+1) bm F6 (RM br bk bps) wr:=HP10.out.keep HI2.out.2.size (fun _ h=>h) (fun b hb=>HI2.out.2.block b (zH (HD6.out.lt b hb.1) HE10.out.size) (fun e=>HD6.out.dj b hb.1 (by subst e; exact HC6.out.oa))) (HI2.out.2.block _ (HC10.out.lt _ HC10.out.ox) (fun e=>hne.1 (Eq.symm e))) (HI2.out.2.block _ (HC10.out.lt _ HC10.out.om) (fun e=>hne.2.1 (Eq.symm e)))
       have HF:=hid (And.intro hC11 (And.intro hE6 hP11))
       clear hC11 hE6 hne hP11 hlt hv3
       gi_wp2
       exact ⟨O6,⟨fun _ h=>h,fun _ h=> .inl h,HF.out.2.1⟩,_,HF.out.1,HQ.out,HF.out.2.2⟩
end Go.Proofs.YthimhfmnikfgaaaGreatDoor
