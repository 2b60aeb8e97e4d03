/-
  cast.(*Face).alone: the hours, minutes and seconds of one clause's instants.
-/
import Derived.Test.YtkpgfmonhfnhdaaGreatDoorQ76d87d
import Derived.Test.YtkpgfmonhfnhdaaGreatDoorQfd7bf8
import Derived.Test.YtkpgfmonhfnhdaaGreatDoorQ98c01e
import Derived.Test.YtkpgfmonhfnhdaaGreatDoorQfea719
import Derived.Sort.CutIn
set_option maxRecDepth 100000
set_option maxHeartbeats 25600000
namespace Go.Proofs.YtkpgfmonhfnhdaaGreatDoor
open Go.RowKit Go.Maps
set_option linter.unusedVariables false
attribute [local irreducible] secL
attribute [local go_sem] Oper.semAt_some
attribute [local go_sem ↓] yaq
theorem sec_bit3 {c:Cl} {D:Int} {u:Nat→Nat} (hu:∀i k,i < 3→(c.m i).testBit k=true→(u i).testBit k=true) {s:Int} (hs:s∈secL (dayQ [c] D)):(0≤s∧s < 86400)∧bit3 u s:=by
 obtain ⟨j,hj,hq,rfl⟩:=yas.1 hs
 have h1:hasC c (86400 * D+(j:Int))=true:=by simpa [dayQ] using hq
 rw [hasC,zzX,zzX,zzX,zzX] at h1
 have h2:=h1.2.2.2.1
 rw [show (86400 * D+(j:Int)) % 86400=j by omega,yaW,zzX,zzX,zzX,hasB,hasB,hasB,zzX,zzX,zzX] at h2
 exact ⟨by omega,hu 2 _ (by omega) h2.2.1.2,hu 1 _ (by omega) h2.2.2.1.2,hu 0 _ (by omega) h2.2.2.2.2⟩
def PkA (c:Cl) (P:Int→Prop) (k:Nat) (s:Int):Prop:=P s∨∃i D,i < k∧(dayS [c] (yac 0 146096))[i]? =some D∧s∈secL (dayQ [c] D)
def PaA (c:Cl) (P:Int→Prop) (s:Int):Prop:=P s∨∃D,s∈secL (dayQ [c] D)
theorem yfZ {c:Cl} {P:Int→Prop} {k:Nat} {D:Int} (h:(dayS [c] (yac 0 146096))[k]? =some D) (s:Int):PkA c P (k+1) s↔PkA c P k s∨s∈secL (dayQ [c] D):=by
 constructor
 ·rintro (hp | ⟨i,E,hi,he,hs⟩)
  ·exact .inl (.inl hp)
  ·by_cases e:i=k
   ·subst e; rw [h] at he; cases he; exact .inr hs
   ·exact .inl (.inr ⟨i,E,by omega,he,hs⟩)
 ·rintro ((hp | ⟨i,E,hi,he,hs⟩) | hs)
  ·exact .inl hp
  ·exact .inr ⟨i,E,by omega,he,hs⟩
  ·exact .inr ⟨k,D,by omega,h,hs⟩
theorem pk_sub {c:Cl} {P:Int→Prop} {k:Nat} {s:Int} (h:PkA c P k s):PaA c P s:=h.elim .inl fun ⟨i,D,_,_,hs⟩=> .inr ⟨D,hs⟩
theorem pk_all {c:Cl} {P:Int→Prop} (s:Int):PkA c P (dayS [c] (yac 0 146096)).length s↔PaA c P s:=by
 refine ⟨pk_sub,fun h=>h.elim .inl fun ⟨D,hs⟩=>?_⟩
 obtain ⟨j,hj,hq,rfl⟩:=yas.1 hs
 have h1:hasC c (86400 * D+(j:Int))=true:=by simpa [dayQ] using hq
 have hw:winB (86400 * D+(j:Int))=true:=by rw [hasC,zzX] at h1; exact h1.1
 rw [winB,zzY] at hw
 have hm:D∈dayS [c] (yac 0 146096):=by
  rw [dayS,List.mem_filter,yaz]
  refine ⟨by omega,?_⟩
  rw [anyQ,List.any_eq_true]
  exact ⟨j,List.mem_range.2 hj,hq⟩
 obtain ⟨i,hi,he⟩:=List.getElem_of_mem hm
 exact .inr ⟨i,D,hi,by rw [zzp hi,he],hs⟩
theorem bit3_or {u u':Nat→Nat} {x:Nat→Nat} {s:Int} (h:bit3 u s) (e:∀i,i < 3→u' i=u i ||| x i):bit3 u' s:=by
 rw [bit3,e 0 (by omega),e 1 (by omega),e 2 (by omega),Nat.testBit_or,Nat.testBit_or,Nat.testBit_or,h.1,h.2.1,h.2.2]; simp
theorem ygr {a b:Nat} (ha:a < 18446744073709551616) (h:mk (fun k=>a.testBit k && !b.testBit k)=0) (k:Nat) (hk:a.testBit k=true):b.testBit k=true:=by
 have h1:=yaw (fun k=>a.testBit k && !b.testBit k) k
 rw [h,Nat.zero_testBit] at h1
 have hk64:k < 64:=by
  apply Classical.byContradiction
  intro hn
  rw [ycd ha (by omega)] at hk; cases hk
 rw [zzZ hk64,hk] at h1
 simpa using h1.symm
def orU (u:Nat→Nat) (h m s:Nat) (i:Nat):Nat:=if i=0 then u 0 ||| s else if i=1 then u 1 ||| m else if i=2 then u 2 ||| h else u i
structure AfC (bf b2 b3 b6 bx bm:Nat) (c:Cl) (u:Nat→Nat) (fi la n:Int) (ev sq:Bool) (O:Blk) (W:World):Prop where
 fc:FcB bf u fi la n ev sq W
 p2:W.cell? ⟨b2,0,none⟩=some (.pointer (some ⟨bf,0,none⟩))
 cl:ClB W b3 c
 fn:W.cell? ⟨b6,0,none⟩=some (.func (.func 103) #[] #[.pointer (some ⟨bx,0,none⟩)])
 os:O bf∧O b2∧O b3∧O b6∧O bx∧O bm
 lt:∀b,O b→b < W.heap.size
 ne:(bf≠b2∧bf≠b3∧bf≠b6∧bf≠bx∧bf≠bm)∧bm≠b2∧bm≠b3∧bm≠b6∧bm≠bx
section
variable {bf b2 b3 b6 bx bm:Nat} {c:Cl} {u:Nat→Nat} {fi la n:Int} {ev sq:Bool} {O:Blk} {W W':World}
theorem AfC.keep (h:AfC bf b2 b3 b6 bx bm c u fi la n ev sq O W) (hs:W.heap.size≤W'.heap.size) (hb:∀b,O b→W'.heap[b]? =W.heap[b]?):AfC bf b2 b3 b6 bx bm c u fi la n ev sq O W':=
 ⟨h.fc.block hs (hb _ h.os.1),(zzJ (w:=W) (a:=⟨b2,0,none⟩) (hb _ h.os.2.1)).trans h.p2,fun j v hv=>(zzJ (w:=W) (a:=⟨b3,0+j,none⟩) (hb _ h.os.2.2.1)).trans (h.cl j v hv),(zzJ (w:=W) (a:=⟨b6,0,none⟩) (hb _ h.os.2.2.2.1)).trans h.fn,h.os,fun b hb=>zH (h.lt b hb) hs,h.ne⟩
theorem AfC.map (h:AfC bf b2 b3 b6 bx bm c u fi la n ev sq O W) (hE:Eff (fun b=>b=bm) W W'):AfC bf b2 b3 b6 bx bm c u fi la n ev sq O W':=
 ⟨h.fc.block hE.size (hE.block _ (h.lt _ h.os.1) h.ne.1.2.2.2.2),(hE.cell (p:=⟨b2,0,none⟩) (h.lt _ h.os.2.1) (fun e=>h.ne.2.1 (Eq.symm e))).trans h.p2,fun j v hv=>(hE.cell (p:=⟨b3,0+j,none⟩) (h.lt _ h.os.2.2.1) (fun e=>h.ne.2.2.1 (Eq.symm e))).trans (h.cl j v hv),(hE.cell (p:=⟨b6,0,none⟩) (h.lt _ h.os.2.2.2.1) (fun e=>h.ne.2.2.2.1 (Eq.symm e))).trans h.fn,h.os,fun b hb=>zH (h.lt b hb) hE.size,h.ne⟩
theorem AfC.face {u':Nat→Nat} {fi' la' n':Int} {ev' sq':Bool} (h:AfC bf b2 b3 b6 bx bm c u fi la n ev sq O W) (hE:Eff (fun b=>b=bf) W W') (hf:FcB bf u' fi' la' n' ev' sq' W'):AfC bf b2 b3 b6 bx bm c u' fi' la' n' ev' sq' O W':=
 ⟨hf,(hE.cell (p:=⟨b2,0,none⟩) (h.lt _ h.os.2.1) (fun e=>h.ne.1.1 (Eq.symm e))).trans h.p2,fun j v hv=>(hE.cell (p:=⟨b3,0+j,none⟩) (h.lt _ h.os.2.2.1) (fun e=>h.ne.1.2.1 (Eq.symm e))).trans (h.cl j v hv),(hE.cell (p:=⟨b6,0,none⟩) (h.lt _ h.os.2.2.2.1) (fun e=>h.ne.1.2.2.1 (Eq.symm e))).trans h.fn,h.os,fun b hb=>zH (h.lt b hb) hE.size,h.ne⟩
end
def AfI (c:Cl) (P:Int→Prop) (u0:Nat→Nat) (M:Blk) (bf b2 b3 b6 bx bm:Nat) (fi la n:Int) (ev sq:Bool):OwnF:=fun k O F W=>
 ∃u,AfC bf b2 b3 b6 bx bm c u fi la n ev sq O W∧(∀i,3≤i→u i=u0 i)∧HmP u (PkA c P k)∧FrW bx bm F M (fun L=>∀s∈L,bit3 u s) W
def AfX (c:Cl) (P:Int→Prop) (u0:Nat→Nat) (bf b2 b3 b6 bx bm:Nat) (fi la n:Int) (ev sq:Bool) (e:Code):OwnF:=fun k O F W=>
 e= .ret∧∃u,AfC bf b2 b3 b6 bx bm c u fi la n ev sq O W∧(∀i,3≤i→u i=u0 i)∧HmP u (PaA c P)
theorem yje (c:Cl) (P:Int→Prop) (u0:Nat→Nat) (M:Blk) (bf b2 b3 b6 bx bm:Nat) (fi la n:Int) (ev sq:Bool):StabF M (AfI c P u0 M bf b2 b3 b6 bx bm fi la n ev sq):=fun k O F F' W W' ⟨u,h1,h2,h3,h4⟩ hs hF hO=>
 ⟨u,h1.keep hs (fun b hb=>hO b (.inl hb)),h2,h3,h4.keep hs hF (fun b hb=>hO b (.inr hb)) (hO _ (.inl h1.os.2.2.2.2.1)) (hO _ (.inl h1.os.2.2.2.2.2))⟩
theorem afX_stab (c:Cl) (P:Int→Prop) (u0:Nat→Nat) (M:Blk) (bf b2 b3 b6 bx bm:Nat) (fi la n:Int) (ev sq:Bool) (e:Code):StabF M (AfX c P u0 bf b2 b3 b6 bx bm fi la n ev sq e):=fun k O F F' W W' ⟨h0,u,h1,h2,h3⟩ hs hF hO=>
 ⟨h0,u,h1.keep hs (fun b hb=>hO b (.inl hb)),h2,h3⟩
theorem afI_lt (c:Cl) (P:Int→Prop) (u0:Nat→Nat) (M:Blk) (bf b2 b3 b6 bx bm:Nat) (fi la n:Int) (ev sq:Bool):LtF (AfI c P u0 M bf b2 b3 b6 bx bm fi la n ev sq):=fun k O F W ⟨_,h,_⟩=>h.lt
theorem afX_lt (c:Cl) (P:Int→Prop) (u0:Nat→Nat) (bf b2 b3 b6 bx bm:Nat) (fi la n:Int) (ev sq:Bool) (e:Code):LtF (AfX c P u0 bf b2 b3 b6 bx bm fi la n ev sq e):=fun k O F W ⟨_,_,h,_⟩=>h.lt
structure DkA (cs:List Cl) (M:Blk) (D:Int) (d:Nat) (O F:Blk) (W:World):Prop where
 dj:∀b,F b→¬O b
 di:DiF W F M d (dayQ cs D)
 tab:Tab W∧F 0
 lt:∀b,F b→b < W.heap.size
theorem DkA.put {cs:List Cl} {M:Blk} {D:Int} {d l:Nat} {O F:Blk} {W:World} {o:Obj} (h:DkA cs M D d O F W) (hF:¬F l):DkA cs M D d O F (W.putObj l o):=by
 have ps:(W.putObj l o).heap.size=W.heap.size:=World.putObj_size
 have ko:∀b,F b→(W.putObj l o).heap[b]? =W.heap[b]?:=fun b hb=>World.putObj_heap_other (fun e=>hF (e ▸ hb))
 exact ⟨h.dj,⟨h.di.1,h.di.2.1,h.di.2.2.block (by rw [ps]; exact zG _) (ko _ h.di.1)⟩,⟨⟨by rw [ps]; exact h.tab.1.1,fun i hi=>(zzJ (w:=W) (a:=⟨0,i,none⟩) (ko _ h.tab.2)).trans (h.tab.1.2 i hi)⟩,h.tab.2⟩,by rw [ps]; exact h.lt⟩
theorem DkA.eff {cs:List Cl} {M:Blk} {D:Int} {d:Nat} {O F:Blk} {W W':World} (h:DkA cs M D d O F W) (hE:Eff O W W'):DkA cs M D d O F W':=
 ⟨h.dj,h.di.keepI hE.size (fun _ h=>h) (fun b hb=>hE.block b (h.lt b hb.1) (h.dj b hb.1)),⟨h.tab.1.eff hE (h.dj _ h.tab.2),h.tab.2⟩,fun b hb=>zH (h.lt b hb) hE.size⟩
def AfT (h0 h1 h2 h3 h4 h5 h6 h8:Value) (ds:List Deferred) (a:Act):Prop:=∃V:Nat→Value,a= {tmps:=#[h0,h1,h2,h3,h4,h5,h6,V 7,h8,V 9,V 10,V 11,V 12,V 13,V 14,V 15,V 16,V 17,V 18,V 19,V 20,V 21,V 22,V 23,V 24,V 25,V 26,V 27,V 28,V 29,V 30,V 31,V 32,V 33,V 34,V 35,V 36,V 37,V 38,V 39,V 40,V 41,V 42,V 43,V 44,V 45,V 46,V 47,V 48,V 49,V 50,V 51,V 52,V 53,V 54,V 55,V 56,V 57,V 58,V 59,V 60,V 61,V 62,V 63,V 64,V 65,V 66,V 67,V 68,V 69,V 70,V 71,V 72,V 73,V 74,V 75,V 76,V 77,V 78,V 79,V 80,V 81,V 82,V 83],defers:=ds}
theorem AfT.of {h0 h1 h2 h3 h4 h5 h6 h8 u7 u9 u10 u11 u12 u13 u14 u15 u16 u17 u18 u19 u20 u21 u22 u23 u24 u25 u26 u27 u28 u29 u30 u31 u32 u33 u34 u35 u36 u37 u38 u39 u40 u41 u42 u43 u44 u45 u46 u47 u48 u49 u50 u51 u52 u53 u54 u55 u56 u57 u58 u59 u60 u61 u62 u63 u64 u65 u66 u67 u68 u69 u70 u71 u72 u73 u74 u75 u76 u77 u78 u79 u80 u81 u82 u83:Value} {ds:List Deferred}:AfT h0 h1 h2 h3 h4 h5 h6 h8 ds {tmps:=#[h0,h1,h2,h3,h4,h5,h6,u7,h8,u9,u10,u11,u12,u13,u14,u15,u16,u17,u18,u19,u20,u21,u22,u23,u24,u25,u26,u27,u28,u29,u30,u31,u32,u33,u34,u35,u36,u37,u38,u39,u40,u41,u42,u43,u44,u45,u46,u47,u48,u49,u50,u51,u52,u53,u54,u55,u56,u57,u58,u59,u60,u61,u62,u63,u64,u65,u66,u67,u68,u69,u70,u71,u72,u73,u74,u75,u76,u77,u78,u79,u80,u81,u82,u83],defers:=ds}:=⟨fun i=>(#[u7,u9,u10,u11,u12,u13,u14,u15,u16,u17,u18,u19,u20,u21,u22,u23,u24,u25,u26,u27,u28,u29,u30,u31,u32,u33,u34,u35,u36,u37,u38,u39,u40,u41,u42,u43,u44,u45,u46,u47,u48,u49,u50,u51,u52,u53,u54,u55,u56,u57,u58,u59,u60,u61,u62,u63,u64,u65,u66,u67,u68,u69,u70,u71,u72,u73,u74,u75,u76,u77,u78,u79,u80,u81,u82,u83]:Array Value).getD (#[0,0,0,0,0,0,0,0,0,1,2,3,4,5,6,7,8,9,10,11,12,13,14,15,16,17,18,19,20,21,22,23,24,25,26,27,28,29,30,31,32,33,34,35,36,37,38,39,40,41,42,43,44,45,46,47,48,49,50,51,52,53,54,55,56,57,58,59,60,61,62,63,64,65,66,67,68,69,70,71,72,73,74,75].getD i 0) undef,rfl⟩
theorem yij {bf:Nat} {u:Nat→Nat} {fi la n:Int} {ev sq:Bool} {P:Int→Prop} (c:Cl) {w:World} (h:FcB bf u fi la n ev sq w) (hc:c.Ok) (hm:mayC c=true) (hT:Tab w) (hbt:bf≠0) (hP:HmP u P) :
  Calls Tryz.prog 23 #[.pointer (some ⟨bf,0,none⟩),clv c] w fun e w'=>(∃v,e= .returned v)∧(∃u',FcB bf u' fi la n ev sq w'∧(∀i,3≤i→u' i=u i)∧HmP u' (PaA c P))∧Eff (fun b=>b=bf) w w':=by
 obtain ⟨W1,hW1⟩:∃W1,(w.alloc (.cells #[.pointer (some ⟨bf,0,none⟩)] 114)).alloc (.cells (yad c).toArray 36)=W1:=⟨_,rfl⟩
 have hB1:Below w.heap.size w W1:=by rw [←hW1]; exact yaa (yaa (Below.refl _ _) (zG _)) (by simp)
 have s1:W1.heap.size=w.heap.size+1+1:=by rw [←hW1]; simp
 have hp2:W1.cell? ⟨w.heap.size,0,none⟩=some (.pointer (some ⟨bf,0,none⟩)):=by rw [←hW1]; simp [go_sem]
 have hC3:ClB W1 (w.heap.size+1) c:=by
  have e:=yaG (w.alloc (.cells #[.pointer (some ⟨bf,0,none⟩)] 114)) (yad c) 36
  rw [zzN] at e
  rw [←hW1]; exact e
 have hld:=hC3.ld
 obtain ⟨W2,hW2⟩:∃W2,W1.alloc (.cells (yad c).toArray 36)=W2:=⟨_,rfl⟩
 have hB12:Below W1.heap.size W1 W2:=by rw [←hW2]; exact yaa (Below.refl _ _) (zG _)
 have s2:W2.heap.size=W1.heap.size+1:=by rw [←hW2]; simp
 have hcl:cls [c]=yad c:=by simp [cls]
 have hsl:Sl W2 (some ⟨W1.heap.size,0,none⟩) (cls [c]):=by
  rw [hcl,←hW2]
  exact ydj (cs:=yad c) (yaG W1 _ _) (by simp)
 have hB2:=hB1.trans (hB12.mono hB1.size)
 have cN:=hid (ycZ (some ⟨W1.heap.size,0,none⟩) 1 [c] W2 (by simp) (by simp) hsl (fun h=>by cases h) (fun x hx=>by rw [List.mem_singleton] at hx; subst hx; exact hc) (hT.later hB2))
 have HF:=hid (fault_one hm)
 have HB2:=hid hB2
 have HW1:=hid hW1
 have HW2:=hid hW2
 have S1:=hid s1
 have S2:=hid s2
 have HFc:=hid h
 have Hp2:=hid ((hB12.cell (p:=⟨w.heap.size,0,none⟩) (by show _ < _; rw [s1]; simp only []; omega)).trans hp2)
 have HC3:=hid (show ClB W2 (w.heap.size+1) c from yaM hC3 hB12 (by omega))
 have Ht0:Hid (0 < w.heap.size):=hT.1
 have Hbt:Hid (bf < w.heap.size∧bf≠0):=⟨h.lt,hbt⟩
 have HP0:=hid hP
 have Hco:=hid hc
 clear hW1 hW2 hB1 hB2 hB12 hc hT s1 s2 hsl hcl hm h hp2 hC3 hbt hP
 refine (wf_calls (r:=none) (n:=1)).mp ?_
 refine callsIn_of_wp_marks Tryz.func23 rfl trivial ?_ rfl
 simp only [Tryz.ntmps23,List.size_toArray,List.length_cons,List.length_nil,Nat.reduceAdd,Nat.reduceSub,Array.replicate_succ,Array.replicate_zero,List.push_toArray,List.append_toArray,List.nil_append,List.cons_append]
 gi_upto_region 1 with fail
 rw [HW1.out]
 gi_wp2_with fail
 rw [HW2.out]
 refine (wf_calls.mpr cN.out).mono ?_
 rintro e w3 ⟨hN,hB3⟩
 have hB03:=hid (HB2.out.trans (hB3.mono HB2.out.size))
 have S3:Hid (w.heap.size+3≤w3.heap.size∧W2.heap.size=w.heap.size+3):=by have:=hB3.size; have:=S1.out; have:=S2.out; show _∧_; omega
 rcases hN with ⟨hf,rfl⟩ | ⟨-,br,bk,bps,rfl,hR,hM⟩
 ·exact absurd HF.out hf
 have HR:=hid hR
 have HM:=hid hM
 have HB23:=hid hB3
 clear hB3 hR hM cN hld
 have cI:=hid (yfJ w3)
 gi_wp2_with fail
 refine (wf_calls.mpr cI.out).mono ?_
 rintro e w4 ⟨rfl,hw4⟩
 obtain ⟨w5,hw5⟩:∃w5,w4.alloc (.cells #[.func (.func 103) #[] #[.pointer (some ⟨w3.heap.size+1,0,none⟩)]] 115)=w5:=⟨_,rfl⟩
 obtain ⟨b6,hb6⟩:∃x,w4.heap.size=x:=⟨_,rfl⟩
 have s4:b6=w3.heap.size+1+1:=by rw [←hb6,hw4]; simp
 have s5:w5.heap.size=w3.heap.size+1+1+1:=by rw [←hw5,hw4]; simp
 have B5:Below w3.heap.size w3 w5:=by rw [←hw5,hw4]; exact yaa (yaa (yaa (Below.refl _ _) (zG _)) (by simp)) (by simp only [zzN]; omega)
 have B25:Below W2.heap.size W2 w5:=HB23.out.trans (B5.mono HB23.out.size)
 have hAf:AfC bf w.heap.size (w.heap.size+1) b6 (w3.heap.size+1) w3.heap.size c u fi la n ev sq (fun b=>b=bf∨b=w.heap.size∨b=w.heap.size+1∨b=b6∨b=w3.heap.size+1∨b=w3.heap.size) w5:=by
  have hs3:=S3.out
  have hbf:=Hbt.out.1
  have B05:Below w.heap.size w w5:=hB03.out.trans (B5.mono hB03.out.size)
  refine ⟨HFc.out.block B05.size (B05.block _ hbf),(B25.cell (p:=⟨w.heap.size,0,none⟩) (by simp only []; omega)).trans Hp2.out,yaM HC3.out B25 (by omega),?_,⟨.inl rfl, .inr (.inl rfl), .inr (.inr (.inl rfl)), .inr (.inr (.inr (.inl rfl))), .inr (.inr (.inr (.inr (.inl rfl)))), .inr (.inr (.inr (.inr (.inr rfl))))⟩,fun b hb=>by omega,by omega⟩
  rw [←hw5,←hb6]; simp [go_sem]
 have hFr:FrW (w3.heap.size+1) w3.heap.size (FNew W2 w3) (RM br bk bps) (fun L=>∀s∈L,bit3 u s) w5:=by
  refine FrW.made ?_ ?_
  ·rw [←hw5,hw4]
   exact (Below.heap_alloc _ _ _ (by simp only [zzN]; omega)).trans (Below.heap_alloc _ _ _ (by simp))
  ·rw [←hw5,hw4]; simp [go_sem]
 have HR5:Hid (RollS w5 [c] br bk bps (FNew W2 w3) (fun _=>false) 0):=HR.out.keep B5.size (fun b hb=>B5.block b (by have:=S3.out; have:=Ht0.out; rcases hb with hb | hb <;> omega))
 have HAf:=hid hAf
 have HFr:=hid hFr
 have HB5:=hid (hB03.out.trans (B5.mono hB03.out.size))
 have S5:=hid s5
 have S4:=hid s4
 have Hw5:=hid hw5
 have Hb6:=hid hb6
 clear B5 B25 hAf hFr s4 hw5 hb6 s5 hw4 cI
 gi_wp2_with fail
 rw [Hb6.out,Hw5.out]
 obtain ⟨b2,hb2⟩:∃x,w.heap.size=x:=⟨_,rfl⟩
 have Hb2:=hid hb2
 obtain ⟨b3,hb3⟩:∃x,w.heap.size+1=x:=⟨_,rfl⟩
 have Hb3:=hid hb3
 obtain ⟨bm,hbm⟩:∃x,w3.heap.size=x:=⟨_,rfl⟩
 have Hbm:=hid hbm
 rw [hbm,hb3,hb2] at HAf
 rw [hbm] at HFr S4 S5
 rw [hb3,hb2]
 rw [hb2] at hb3
 clear hbm hb2 hb3
 have cA:=hid (ye4 0 146096 HR5.out (InvS 0) (zG 0))
 have hbr:=ygq [c] (f:=0) (t:=146096) (by omega) (by omega)
 have hclip:=ydx [c] 0 146096
 obtain ⟨X1,hX1⟩:∃X,bndF [c] 0=X:=⟨_,rfl⟩
 obtain ⟨X2,hX2⟩:∃X,bndU [c] 146096=X:=⟨_,rfl⟩
 rw [hX1,hX2] at cA hbr hclip
 have tl:=ye3 (cs:= [c]) (br:=br) (bk:=bk) (bps:=bps) InvS (w5.heap.size+1) (w5.heap.size+2) w5.heap.size X1 X2 hbr.1 hbr.2.1 hbr.2.2.1 hbr.2.2.2
  (fun j n ws m ws' m' hn hi hs=>ydq hi hs) (fun j ws m hi hj=>by rw [yat] at hj; rw [InvS] at hi; omega)
 rw [hclip] at tl
 obtain ⟨LL,hLL⟩:∃LL,(yac X1 X2).length=LL:=⟨_,rfl⟩
 rw [hLL] at tl
 have TL:=hid tl
 clear hbr hclip tl hLL hX1 hX2
 refine (wf_calls.mpr cA.out).mono ?_
 rintro e w6 ⟨rfl,hB6,hl6,hHA⟩
 have HB6:=hid (HB5.out.trans (hB6.mono HB5.out.size))
 have A6:=hid (HAf.out.keep hB6.size (fun b hb=>hB6.block b (HAf.out.lt b hb)))
 have P6:Hid (FrW (bm+1) bm (F3 (FNew W2 w3) w5.heap.size) (RM br bk bps) (fun L=>∀s∈L,bit3 u s) w6):=by
  have l5:=S5.out
  have lm:=Hbm.out
  refine HFr.out.keep hB6.size (fun b h=> .inl h) (fun b hb=>hB6.block b ?_) (hB6.block _ (by omega)) (hB6.block _ (by omega))
  rcases hb.1 with h | h
  ·omega
  ·have:=Ht0.out; have:=S3.out; omega
 have HHA:=hid hHA
 have HFO:Hid (∀b,F3 (FNew W2 w3) w5.heap.size b→¬(b=bf∨b=b2∨b=b3∨b=b6∨b=bm+1∨b=bm)):=fun b hb=>by
  have:=S3.out; have:=S5.out; have:=S4.out; have:=Ht0.out; have:=Hb2.out; have:=Hb3.out; have:=Hbm.out; have:=Hbt.out
  rcases hb with hb | hb
  ·rcases hb with hb | hb <;> omega
  ·omega
 clear hB6 hHA cA hl6
 gi_wp2_with fail
 refine ybv (F:=F3 (FNew W2 w3) w5.heap.size) (M:=RM br bk bps) (gf:=63) (lb:=#[.pointer (some ⟨w5.heap.size+1,0,none⟩), .pointer (some ⟨w5.heap.size+2,0,none⟩), .pointer (some ⟨w5.heap.size,0,none⟩)]) rfl yb0 (fun b=>b=bf∨b=b2∨b=b3∨b=b6∨b=bm+1∨b=bm)
  (fun k vs F W h=>by obtain ⟨_,_,_,_,_,rfl,_⟩:=h; rfl) TL.out HA.host HA.host HA.hostE HHA.out (fun b hb=>HFO.out b hb)
  (AfI c P u (RM br bk bps) bf b2 b3 b6 (bm+1) bm fi la n ev sq) (AfX c P u bf b2 b3 b6 (bm+1) bm fi la n ev sq) (yje _ _ _ _ _ _ _ _ _ _ _ _ _ _ _) (afX_stab _ _ _ _ _ _ _ _ _ _ _ _ _ _ _) (afI_lt _ _ _ _ _ _ _ _ _ _ _ _ _ _ _) (afX_lt _ _ _ _ _ _ _ _ _ _ _ _ _ _)
  ⟨u,A6.out,fun _ _=>rfl,HP0.out.same (fun s h=> .inl h) (fun s h=> .inl (h.elim id fun ⟨i,_,hi,_⟩=>absurd hi (Nat.not_lt_zero i))),P6.out⟩
  (fun k O F a' W=>AfI c P u (RM br bk bps) bf b2 b3 b6 (bm+1) bm fi la n ev sq k O F W∧∃D d,(dayS [c] (yac 0 146096))[k]? =some D∧DkA [c] (RM br bk bps) D d O F W∧AfT (.pointer (some ⟨bf,0,none⟩)) (clv c) (.pointer (some ⟨b2,0,none⟩)) (.pointer (some ⟨b3,0,none⟩)) (.pointer (some ⟨br,0,none⟩)) (.int .i64 0) (.pointer (some ⟨b6,0,none⟩)) (.pointer (some ⟨d,0,none⟩)) [] a')
  ?putl ?assign ?body ?done ?stop
 case putl=>
  rintro l' o k O F a' W hr hnO hnF ⟨h1,D,d,h3,h4,h5⟩
  have ko:∀b,O b∨(F b∧¬RM br bk bps b)→(W.putObj l' o).heap[b]? =W.heap[b]?:=fun b hb=>World.putObj_heap_other (fun e=>hb.elim (fun h=>hnO (e ▸ h)) (fun h=>hnF (e ▸ h.1)))
  exact ⟨yje _ _ _ (RM br bk bps) _ _ _ _ _ _ _ _ _ _ _ k O F F W _ h1 (by rw [World.putObj_size]; exact zG _) (fun _ h=>h) ko,D,d,h3,h4.put hnF,h5⟩
 case assign=>
  rintro l' k O6 F6 W6 vs K hk hJ6 hFl ⟨D,d,hn,h0,h1,rfl,hd,ht,hlt⟩ hG6 hK
  have HP:=hid (And.intro hJ6 (And.intro hFl (And.intro hn (And.intro hd (And.intro ht (And.intro hlt hG6))))))
  clear hJ6 hFl hn hd ht hlt hG6 h0 h1
  gi_wp2
  obtain ⟨hJ6,hFl,hn,hd,ht,hlt,hG6⟩:=HP.out
  exact hK _ O6 W6 (Grow.refl _ _) ⟨hJ6,D,d,hn,⟨fun b hb=>(hFl b hb).1,hd,⟨ht.1,ht.2.1⟩,hlt⟩,AfT.of⟩
 case stop=>
  rintro e k O9 F9 w9 hk1 hk2 hG9 hHN hFs hFn hFO9 ⟨rfl,u9,hC9,h39,hP9⟩ hD hnD hnF
  have hO9:Hid (∀b,(b=bf∨b=b2∨b=b3∨b=b6∨b=bm+1∨b=bm)∨RM br bk bps b→b=bf∨w.heap.size≤b):=fun b hb=>by
   have:=S3.out; have:=S4.out; have:=Hb2.out; have:=Hb3.out; have:=Hbm.out; have:=S1.out; have:=S2.out
   rcases hb with (h | h | h | h | h | h) | h
   ·exact .inl h
   ·omega
   ·omega
   ·omega
   ·omega
   ·omega
   ·have:=HM.out b h; omega
  have HE9:Hid (Eff (fun b=>b=bf) w (w9.putObj w6.heap.size (.deferred none))):=((Eff.of_below HB6.out).trans hG9.eff (fun b hb=>hO9.out b hb)).putObj (.inr HB6.out.size) _
  have HX:Hid (FcB bf u9 fi la n ev sq (w9.putObj w6.heap.size (.deferred none))):=hC9.fc.block (by rw [World.putObj_size]; exact zG _) (World.putObj_heap_other (fun e=>hnD (e ▸ hC9.os.1)))
  have H39:=hid (And.intro h39 hP9)
  have HD:=hid hD
  clear hG9 hHN hFs hFn hFO9 hnD hnF hD hC9 h39 hP9
  gi_wp2
  refine ⟨by simp, .inl ⟨_,_,rfl,run_takeDeferred HD.out,?_⟩⟩
  exact ⟨_,results_none rfl _ _ _,⟨_,rfl⟩,⟨u9,HX.out,H39.out.1,H39.out.2⟩,HE9.out⟩
 case done=>
  rintro O9 F9 w9 hG9 hHN hFs hFn hFO9 ⟨u9,hC9,h39,hPk,-⟩ hD hnD hnF
  have hP9:HmP u9 (PaA c P):=hPk.same (fun s h=>pk_sub h) (fun s h=> .inl (pk_all s |>.2 h))
  have hO9:Hid (∀b,(b=bf∨b=b2∨b=b3∨b=b6∨b=bm+1∨b=bm)∨RM br bk bps b→b=bf∨w.heap.size≤b):=fun b hb=>by
   have:=S3.out; have:=S4.out; have:=Hb2.out; have:=Hb3.out; have:=Hbm.out; have:=S1.out; have:=S2.out
   rcases hb with (h | h | h | h | h | h) | h
   ·exact .inl h
   ·omega
   ·omega
   ·omega
   ·omega
   ·omega
   ·have:=HM.out b h; omega
  have HE9:Hid (Eff (fun b=>b=bf) w (w9.putObj w6.heap.size (.deferred none))):=((Eff.of_below HB6.out).trans hG9.eff (fun b hb=>hO9.out b hb)).putObj (.inr HB6.out.size) _
  have HX:Hid (FcB bf u9 fi la n ev sq (w9.putObj w6.heap.size (.deferred none))):=hC9.fc.block (by rw [World.putObj_size]; exact zG _) (World.putObj_heap_other (fun e=>hnD (e ▸ hC9.os.1)))
  have H39:=hid (And.intro h39 hP9)
  have HD:=hid hD
  clear hG9 hHN hFs hFn hFO9 hnD hnF hD hC9 h39 hP9
  gi_wp2
  refine ⟨by simp, .inl ⟨_,_,rfl,run_takeDeferred HD.out,?_⟩⟩
  exact ⟨_,results_none rfl _ _ _,⟨_,rfl⟩,⟨u9,HX.out,H39.out.1,H39.out.2⟩,HE9.out⟩
 case body=>
  rintro l3 k O6 F6 a' W6 hk hG6 hl3 hrec6 hnl3 hnF3 ⟨⟨u6,hC6,h36,hP6,hR6⟩,D,d,en,hD,V,rfl⟩
  obtain ⟨D0,D1,j0,hj0,hq0⟩:=ygl en
  have q2:W6.cell? ⟨b3,2,none⟩=some (.int .u64 (c.m 2:Nat)):=by have:=hC6.cl 2 (.int .u64 (c.m 2:Nat)) rfl; rwa [zzn] at this
  have q1:W6.cell? ⟨b3,1,none⟩=some (.int .u64 (c.m 1:Nat)):=by have:=hC6.cl 1 (.int .u64 (c.m 1:Nat)) rfl; rwa [zzn] at this
  have q0:W6.cell? ⟨b3,0,none⟩=some (.int .u64 (c.m 0:Nat)):=by have:=hC6.cl 0 (.int .u64 (c.m 0:Nat)) rfl; rwa [zzn] at this
  have k2:=hC6.fc.c 2 (by omega)
  have k1:=hC6.fc.c 1 (by omega)
  have k0:=hC6.fc.c 0 (by omega)
  have hand2:=ybs (Hco.out.m 2 (by omega)) (hP6.lt 2 (by omega))
  have hand1:=ybs (Hco.out.m 1 (by omega)) (hP6.lt 1 (by omega))
  have hand0:=ybs (Hco.out.m 0 (by omega)) (hP6.lt 0 (by omega))
  have Hsub:Hid (∀N2 N1 N0,mk (fun k=>(c.m 2).testBit k && !(u6 2).testBit k)=N2→mk (fun k=>(c.m 1).testBit k && !(u6 1).testBit k)=N1→mk (fun k=>(c.m 0).testBit k && !(u6 0).testBit k)=N0→N2=0→N1=0→N0=0→∀i k,i < 3→(c.m i).testBit k=true→(u6 i).testBit k=true):=fun N2 N1 N0 e2 e1 e0 z2 z1 z0 i k hi=>by
   have:i=0∨i=1∨i=2:=by omega
   rcases this with rfl | rfl | rfl
   ·exact ygr (Hco.out.m 0 (by omega)) (e0.trans z0) k
   ·exact ygr (Hco.out.m 1 (by omega)) (e1.trans z1) k
   ·exact ygr (Hco.out.m 2 (by omega)) (e2.trans z2) k
  obtain ⟨N2,hN2⟩:∃x,mk (fun k=>(c.m 2).testBit k && !(u6 2).testBit k)=x:=⟨_,rfl⟩
  obtain ⟨N1,hN1⟩:∃x,mk (fun k=>(c.m 1).testBit k && !(u6 1).testBit k)=x:=⟨_,rfl⟩
  obtain ⟨N0,hN0⟩:∃x,mk (fun k=>(c.m 0).testBit k && !(u6 0).testBit k)=x:=⟨_,rfl⟩
  have Hsub2:=hid (Hsub.out N2 N1 N0 hN2 hN1 hN0)
  rw [hN2] at hand2
  rw [hN1] at hand1
  rw [hN0] at hand0
  obtain ⟨A2,hA2⟩:∃x,c.m 2=x:=⟨_,rfl⟩
  obtain ⟨A1,hA1⟩:∃x,c.m 1=x:=⟨_,rfl⟩
  obtain ⟨A0,hA0⟩:∃x,c.m 0=x:=⟨_,rfl⟩
  obtain ⟨U2,hU2⟩:∃x,u6 2=x:=⟨_,rfl⟩
  obtain ⟨U1,hU1⟩:∃x,u6 1=x:=⟨_,rfl⟩
  obtain ⟨U0,hU0⟩:∃x,u6 0=x:=⟨_,rfl⟩
  rw [hA2] at q2 hand2
  rw [hA1] at q1 hand1
  rw [hA0] at q0 hand0
  rw [hU2] at k2 hand2
  rw [hU1] at k1 hand1
  rw [hU0] at k0 hand0
  have HU:=hid (And.intro hU2 (And.intro hU1 hU0))
  have hS:Hid (W6.drew.cell? ⟨b2,0,none⟩=some (.pointer (some ⟨bf,0,none⟩))∧W6.drew.cell? ⟨b3,2,none⟩=some (.int .u64 (A2:Nat))∧W6.drew.cell? ⟨b3,1,none⟩=some (.int .u64 (A1:Nat))∧W6.drew.cell? ⟨b3,0,none⟩=some (.int .u64 (A0:Nat))∧W6.drew.cell? ⟨bf,2,none⟩=some (.int .u64 (U2:Nat))∧W6.drew.cell? ⟨bf,1,none⟩=some (.int .u64 (U1:Nat))∧W6.drew.cell? ⟨bf,0,none⟩=some (.int .u64 (U0:Nat))):=⟨hC6.p2,q2,q1,q0,k2,k1,k0⟩
  have HC6:=hid hC6
  have H36:=hid h36
  have HP6:=hid hP6
  have HR6:=hid hR6
  have HD6:=hid hD
  have HEn:=hid en
  have Hrec:=hid hrec6
  have Hnl:=hid hnl3
  clear hG6 hk hC6 h36 hP6 hR6 hD en hrec6 hnl3 hnF3 hj0 hq0 D0 D1 q2 q1 q0 k2 k1 k0 hN2 hN1 hN0 hA2 hA1 hA0 hU2 hU1 hU0 Hsub
  gi_upto_region 5 with fail
  (try dsimp only)
  gi_cut [50] from 23 (fun v wx=>∃g,v= .bool g∧Hid ((g=true→∀i k,i < 3→(c.m i).testBit k=true→(u6 i).testBit k=true)∧wx=W6.drew))
  case first=>
   refine regFW [] (S:=fun W=>Hid (W.cell? ⟨b2,0,none⟩=some (.pointer (some ⟨bf,0,none⟩))∧W.cell? ⟨b3,2,none⟩=some (.int .u64 (A2:Nat))∧W.cell? ⟨b3,1,none⟩=some (.int .u64 (A1:Nat))∧W.cell? ⟨b3,0,none⟩=some (.int .u64 (A0:Nat))∧W.cell? ⟨bf,2,none⟩=some (.int .u64 (U2:Nat))∧W.cell? ⟨bf,1,none⟩=some (.int .u64 (U1:Nat))∧W.cell? ⟨bf,0,none⟩=some (.int .u64 (U0:Nat)))) (by kernel_rfl) (by kernel_rfl) (by rintro ⟨_,_,h⟩; exact h) hS (fun hHeld=>?_)
   by_cases z2:N2=0
   ·have e2:((N2:Int) == 0)=true:=by rw [z2]; rfl
    have Z2:=hid z2
    clear z2
    by_cases z1:N1=0
    ·have e1:((N1:Int) == 0)=true:=by rw [z1]; rfl
     have Z1:=hid z1
     clear z1
     by_cases z0:N0=0
     ·have e0:((N0:Int) == 0)=true:=by rw [z0]; rfl
      have Z0:=hid z0
      clear z0
      refine zfA 0 ?_
      refine zfA 1 ?_
      refine zfA 2 ?_
      refine zfA 3 ?_
      refine zfA 4 ?_
      refine zfA 5 ?_
      refine zfA 6 ?_
      refine zfA 7 ?_
      refine zfA 8 ?_
      refine zfA 9 ?_
      refine zfA 10 ?_
      refine zfA 11 ?_
      refine zfA 12 ?_
      refine zfA 13 ?_
      refine zfA 14 ?_
      refine zfA 15 ?_
      refine zfA 16 ?_
      refine zfA 17 ?_
      refine zfA 18 ?_
      refine zfA 19 ?_
      refine zfA 20 ?_
      refine zfA 21 ?_
      refine zfA 22 ?_
      refine zfA 23 ?_
      refine zfA 24 ?_
      refine zfA 25 ?_
      refine zfA 26 ?_
      refine zfA 27 ?_
      refine OrdF.done (by kernel_rfl) ?_ _
      clear hHeld hand2 hand1 hand0
      gi_wp2
      gi_meet
      exact ⟨true,rfl,fun _=>Hsub2.out Z2.out Z1.out Z0.out,rfl⟩
     ·have e0:((N0:Int) == 0)=false:=by simp; omega
      clear z0
      refine zfA 0 ?_
      refine zfA 1 ?_
      refine zfA 2 ?_
      refine zfA 3 ?_
      refine zfA 4 ?_
      refine zfA 5 ?_
      refine zfA 6 ?_
      refine zfA 7 ?_
      refine zfA 8 ?_
      refine zfA 9 ?_
      refine zfA 10 ?_
      refine zfA 11 ?_
      refine zfA 12 ?_
      refine zfA 13 ?_
      refine zfA 14 ?_
      refine zfA 15 ?_
      refine zfA 16 ?_
      refine zfA 17 ?_
      refine zfA 18 ?_
      refine zfA 19 ?_
      refine zfA 20 ?_
      refine zfA 21 ?_
      refine zfA 22 ?_
      refine zfA 23 ?_
      refine zfA 24 ?_
      refine zfA 25 ?_
      refine zfA 26 ?_
      refine zfA 27 ?_
      refine OrdF.done (by kernel_rfl) ?_ _
      clear hHeld hand2 hand1 hand0
      gi_wp2
      gi_meet
      exact ⟨false,rfl,fun h=>(by cases h),rfl⟩
    ·have e1:((N1:Int) == 0)=false:=by simp; omega
     clear z1
     refine zfA 0 ?_
     refine zfA 1 ?_
     refine zfA 2 ?_
     refine zfA 3 ?_
     refine zfA 4 ?_
     refine zfA 5 ?_
     refine zfA 6 ?_
     refine zfA 7 ?_
     refine zfA 8 ?_
     refine zfA 9 ?_
     refine zfA 10 ?_
     refine zfA 11 ?_
     refine zfA 12 ?_
     refine zfA 13 ?_
     refine zfA 14 ?_
     refine zfA 15 ?_
     refine zfA 16 ?_
     refine zfA 17 ?_
     refine zfA 18 ?_
     refine zfS 19 ?_
     refine zfS 20 ?_
     refine zfS 21 ?_
     refine zfS 22 ?_
     refine zfS 23 ?_
     refine zfS 24 ?_
     refine zfS 25 ?_
     refine zfS 26 ?_
     refine zfA 27 ?_
     refine OrdF.done (by kernel_rfl) ?_ _
     clear hHeld hand2 hand1 hand0
     gi_wp2
     gi_meet
     exact ⟨false,rfl,fun h=>(by cases h),rfl⟩
   ·have e2:((N2:Int) == 0)=false:=by simp; omega
    clear z2
    refine zfA 0 ?_
    refine zfA 1 ?_
    refine zfA 2 ?_
    refine zfA 3 ?_
    refine zfA 4 ?_
    refine zfA 5 ?_
    refine zfA 6 ?_
    refine zfA 7 ?_
    refine zfA 8 ?_
    refine zfS 9 ?_
    refine zfS 10 ?_
    refine zfS 11 ?_
    refine zfS 12 ?_
    refine zfS 13 ?_
    refine zfS 14 ?_
    refine zfS 15 ?_
    refine zfS 16 ?_
    refine zfA 17 ?_
    refine zfA 18 ?_
    refine zfS 19 ?_
    refine zfS 20 ?_
    refine zfS 21 ?_
    refine zfS 22 ?_
    refine zfS 23 ?_
    refine zfS 24 ?_
    refine zfS 25 ?_
    refine zfS 26 ?_
    refine zfA 27 ?_
    refine OrdF.done (by kernel_rfl) ?_ _
    clear hHeld hand2 hand1 hand0
    gi_wp2
    gi_meet
    exact ⟨false,rfl,fun h=>(by cases h),rfl⟩
  case rest=>
   obtain ⟨g,rfl,hcut⟩:=hcut
   obtain ⟨hsub,hwc⟩:=hcut.out
   have E67:Hid (Eff O6 W6 wc):=by show Eff _ _ _; rw [hwc]; exact Eff.of_below (Below.refl _ _).drew
   have HC7:Hid (AfC bf b2 b3 b6 (bm+1) bm c u6 fi la n ev sq O6 wc):=by show AfC _ _ _ _ _ _ _ _ _ _ _ _ _ _ _; rw [hwc]; exact HC6.out.keep (zG _) (fun _ _=>rfl)
   have HR7:Hid (FrW (bm+1) bm F6 (RM br bk bps) (fun L=>∀s∈L,bit3 u6 s) wc):=by show FrW _ _ _ _ _ _; rw [hwc]; exact HR6.out.keep (zG _) (fun _ h=>h) (fun _ _=>rfl) rfl rfl
   have Hsb:=hid hsub
   clear hcut hsub hwc hS hand2 hand1 hand0
   cases g
   rotate_left
   ·gi_wp2
    refine ⟨O6,⟨fun _ h=>h,fun _ h=> .inl h,E67.out⟩,rfl,u6,HC7.out,H36.out,HP6.out.same (fun s h=>pk_sub h) (fun s h=>?_)⟩
    exact h.elim (fun h=> .inl (.inl h)) (fun ⟨D,hs⟩=> .inr (sec_bit3 (Hsb.out trivial) hs))
   ·have hD7:=HD6.out.eff E67.out
    have cI:=hid (ye8 HR7.out (fun h=>HD6.out.dj _ h HC6.out.os.2.2.2.2.1) (fun h=>HD6.out.dj _ h HC6.out.os.2.2.2.2.2) (by omega) (HC7.out.lt _ HC7.out.os.2.2.2.2.1) hD7.lt hD7.di)
    have hfn:=HC7.out.fn
    clear hD7
    gi_wp2_with fail
    refine (wf_calls.mpr cI.out).mono ?_
    rintro e w8 ⟨hcs,hE8⟩
    have HC8:=hid (HC7.out.map hE8)
    have E68:=hid (E67.out.trans hE8 (fun b hb=>by subst hb; exact .inl HC6.out.os.2.2.2.2.2))
    clear hE8 cI hfn
    rcases hcs with ⟨rfl,hPq,hR8⟩ | ⟨rfl,hR8⟩
    ·have HR8:=hid hR8
     have HPq:=hid hPq
     clear hR8 hPq
     gi_wp2
     refine ⟨O6,⟨fun _ h=>h,fun _ h=> .inl h,E68.out⟩,u6,HC8.out,H36.out,HP6.out.same (fun s h=>(yfZ HEn.out s).2 (.inl h)) (fun s h=>?_),HR8.out⟩
     exact ((yfZ HEn.out s).1 h).elim .inl (fun hs=> .inr ⟨yf1 _ _ hs,HPq.out s hs⟩)
    ·have HR8:=hid hR8
     have hD8:=HD6.out.eff E68.out
     have cT:=hid (yfI d (dayQ [c] D) w8 hD8.tab.1 hD8.di.2.2)
     have hmr:=yf1 (dayQ [c] D)
     have HN:=hid (fun (u':Nat→Nat) h2 h1 h0=>HP6.out.or (u':=u') hmr h2 h1 h0)
     obtain ⟨X,hX⟩:∃X,secL (dayQ [c] D)=X:=⟨_,rfl⟩
     have HX:=hid hX
     rw [hX] at cT HN
     have hl2:ofM (hrL X) < 18446744073709551616:=yao _
     have hl1:ofM (mnL X) < 18446744073709551616:=yao _
     have hl0:ofM (scL X) < 18446744073709551616:=yao _
     obtain ⟨x2,hx2⟩:∃x,ofM (hrL X)=x:=⟨_,rfl⟩
     obtain ⟨x1,hx1⟩:∃x,ofM (mnL X)=x:=⟨_,rfl⟩
     obtain ⟨x0,hx0⟩:∃x,ofM (scL X)=x:=⟨_,rfl⟩
     rw [hx2] at cT hl2 HN
     rw [hx1] at cT hl1 HN
     rw [hx0] at cT hl0 HN
     clear hR8 hX hx2 hx1 hx0 hD8 hmr
     gi_wp2_with fail
     refine (wf_calls.mpr cT.out).mono ?_
     rintro e w9 ⟨rfl,hB9⟩
     have HC9:=hid (HC8.out.keep hB9.size (fun b hb=>hB9.block b (HC8.out.lt b hb)))
     have E69:=hid (E68.out.trans (Eff.of_below (O:=O6) hB9) (fun _ h=> .inl h))
     have HR9:Hid (FrW (bm+1) bm F6 (RM br bk bps) (fun L=>(∀s∈L,bit3 u6 s)∨L=secL (dayQ [c] D)) w9):=HR8.out.keep hB9.size (fun _ h=>h) (fun b hb=>hB9.block b ((HD6.out.eff E68.out).lt b hb.1)) (hB9.block _ (HC8.out.lt _ HC8.out.os.2.2.2.2.1)) (hB9.block _ (HC8.out.lt _ HC8.out.os.2.2.2.2.2))
     have p2:=HC9.out.p2
     have k2:=HC9.out.fc.c 2 (by omega)
     have k1:=HC9.out.fc.c 1 (by omega)
     have k0:=HC9.out.fc.c 0 (by omega)
     have z2:=HC9.out.fc.z 2
     have z1:=HC9.out.fc.z 1
     have z0:=HC9.out.fc.z 0
     rw [HU.out.1] at k2
     rw [HU.out.2.1] at k1
     rw [HU.out.2.2] at k0
     have hne1:=HC9.out.ne.1.1
     have hne2:b2≠bf:=fun e=>hne1 e.symm
     have ho2:bits .or .u64 (U2:Int) (x2:Int)= ((U2 ||| x2:Nat):Int):=yaI (by have:=HP6.out.lt 2 (by omega); rw [HU.out.1] at this; exact this) hl2
     have ho1:bits .or .u64 (U1:Int) (x1:Int)= ((U1 ||| x1:Nat):Int):=yaI (by have:=HP6.out.lt 1 (by omega); rw [HU.out.2.1] at this; exact this) hl1
     have ho0:bits .or .u64 (U0:Int) (x0:Int)= ((U0 ||| x0:Nat):Int):=yaI (by have:=HP6.out.lt 0 (by omega); rw [HU.out.2.2] at this; exact this) hl0
     have HE10:Hid (Eff (fun b=>b=bf) w9 (((w9.setCell ⟨bf,2,none⟩ (.int .u64 ((U2 ||| x2:Nat):Int))).setCell ⟨bf,1,none⟩ (.int .u64 ((U1 ||| x1:Nat):Int))).setCell ⟨bf,0,none⟩ (.int .u64 ((U0 ||| x0:Nat):Int)))):=(((Eff.refl (fun b=>b=bf) w9).set rfl _ _).set rfl _ _).set rfl _ _
     have HF10:Hid (FcB bf (orU u6 x2 x1 x0) fi la n ev sq (((w9.setCell ⟨bf,2,none⟩ (.int .u64 ((U2 ||| x2:Nat):Int))).setCell ⟨bf,1,none⟩ (.int .u64 ((U1 ||| x1:Nat):Int))).setCell ⟨bf,0,none⟩ (.int .u64 ((U0 ||| x0:Nat):Int)))):=by
      have hU:=HU.out
      refine ((HC9.out.fc.set (k:=2) (by omega) (U2 ||| x2) (fun i _=>rfl)).set (k:=1) (by omega) (U1 ||| x1) (fun i _=>rfl)).set (k:=0) (by omega) (U0 ||| x0) (fun i _=>?_)
      rw [orU,hU.1,hU.2.1,hU.2.2]
     clear hB9 cT hl2 hl1 hl0
     gi_wp2
     refine ⟨O6,⟨fun _ h=>h,fun _ h=> .inl h,E69.out.trans HE10.out (fun b hb=>by subst hb; exact .inl HC6.out.os.1)⟩,orU u6 x2 x1 x0,HC9.out.face HE10.out HF10.out,fun i hi=>by rw [orU,if_neg (by omega),if_neg (by omega),if_neg (by omega)]; exact H36.out i hi,?_,?_⟩
     ·have hn:=HN.out (orU u6 x2 x1 x0) rfl rfl rfl
      rw [←HX.out] at hn
      exact hn.same (fun s h=>(yfZ HEn.out s).2 h) (fun s h=> .inl ((yfZ HEn.out s).1 h))
     ·have hn:=HN.out (orU u6 x2 x1 x0) rfl rfl rfl
      have hl:=HC9.out.fc.lt
      refine (HR9.out.keep HE10.out.size (fun _ h=>h) (fun b hb=>HE10.out.block b ((HD6.out.eff E69.out).lt b hb.1) (fun e=>HD6.out.dj b hb.1 (e ▸ HC6.out.os.1))) (HE10.out.block _ (HC9.out.lt _ HC9.out.os.2.2.2.2.1) (fun e=>HC9.out.ne.1.2.2.2.1 e.symm)) (HE10.out.block _ (HC9.out.lt _ HC9.out.os.2.2.2.2.2) (fun e=>HC9.out.ne.1.2.2.2.2 e.symm))).mono (fun L hL=>?_)
      rcases hL with hL | rfl
      ·exact fun s hs=>bit3_or (hL s hs) (x:=fun i=>if i=0 then x0 else if i=1 then x1 else x2) (fun i hi=>by
        have:i=0∨i=1∨i=2:=by omega
        rcases this with rfl | rfl | rfl <;> rfl)
      ·exact fun s hs=>hn.inn s (.inr (by rw [←HX.out]; exact hs))
end Go.Proofs.YtkpgfmonhfnhdaaGreatDoor
