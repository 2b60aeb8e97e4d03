/-
  cast.(*Face).time: whether discs are even, and square.
-/
import Derived.Test.YtkpgfmonhfnhdaaGreatDoorQ3a5129
import Derived.Test.YtkpgfmonhfnhdaaGreatDoorQ967547
import Derived.Test.YtkpgfmonhfnhdaaGreatDoorQbf9d08
import Derived.Deep.Cut
set_option maxRecDepth 100000
set_option maxHeartbeats 25600000
namespace Go.Proofs.YtkpgfmonhfnhdaaGreatDoor
open Go.RowKit Go.Maps
set_option linter.unusedVariables false
attribute [local irreducible] secL
theorem secL_inj {p q:Nat→Bool} (h:secL p=secL q) (k:Nat) (hk:k < 86400):p k=q k:=by
 have e:∀r:Nat→Bool,r k=true↔(k:Int)∈secL r:=fun r=>by
  constructor
  ·exact fun hr=>yas.2 ⟨k,hk,hr,rfl⟩
  ·intro hm
   obtain ⟨j,hj,hr,e⟩:=yas.1 hm
   have:j=k:=by omega
   rw [←this]; exact hr
 exact zze.2 ((e p).trans (by rw [h]; exact (e q).symm))
theorem yfl {p q:Nat→Bool} (h:∀k,k < 86400→p k=q k):secL p=secL q:=by
 have e:(List.range 86400).filter p= (List.range 86400).filter q:=List.filter_congr fun k hk=>h k (List.mem_range.1 hk)
 rw [secL,secL,sel,sel,e]
theorem DEqD_any (d e:Nat) (p q:Nat→Bool) (w:World) (hT:Tab w) (hd:DiscAt w d p) (he:DiscAt w e q) :
  Calls Tryz.prog 59 #[.pointer (some ⟨d,0,none⟩), .pointer (some ⟨e,0,none⟩)] w fun r w'=>r= .returned (.bool (decide (secL q=secL p)))∧w=w':=by
 have h1:=(show DiscO w (some d) p from hd).v
 have h2:=(show DiscO w (some e) q from he).v
 have h:=ykx (some d) (some e) _ _ w hT h1.1 h2.1
 rw [h1.2,h2.2] at h
 refine h.mono ?_
 rintro r w' ⟨⟨n,ok,rfl,hF⟩,h3⟩
 refine ⟨?_,h3⟩
 rcases hF with ⟨rfl,k,-,hk,hp,-⟩ | ⟨rfl,-,hn⟩
 ·rw [zzd (fun e=>by have hp':(p k != q k)=true:=hp; rw [secL_inj e k hk] at hp'; simp at hp')]; rfl
 ·rw [zzZ (yfl fun k hk=>(show p k=q k by have:=hn k hk; simpa using this).symm)]; rfl
structure TmC (b1 b3 b4 bx bm bf:Nat) (u:Nat→Nat) (fi la n:Int) (ev sq:Bool) (fd:Option Nat) (W:World):Prop where
 fc:FcB bf u fi la n ev sq W
 c1:W.cell? ⟨b1,0,none⟩=some (.pointer (some ⟨bf,0,none⟩))
 c3:W.cell? ⟨b3,0,none⟩=some (dptr fd)
 z3:W.frozen? ⟨b3,0,none⟩=false
 c4:W.cell? ⟨b4,0,none⟩=some (.func (.func 103) #[] #[.pointer (some ⟨bx,0,none⟩)])
 lt:b1 < W.heap.size∧b3 < W.heap.size∧b4 < W.heap.size∧bx < W.heap.size∧bm < W.heap.size
 ne:(bf≠b1∧bf≠b3∧bf≠b4∧bf≠bx∧bf≠bm)∧(b3≠b1∧b3≠b4∧b3≠bx∧b3≠bm)∧bm≠b1∧bm≠b4∧bm≠bx
section
variable {b1 b3 b4 bx bm bf:Nat} {u:Nat→Nat} {fi la n:Int} {ev sq:Bool} {fd:Option Nat} {W W':World}
theorem TmC.keep (h:TmC b1 b3 b4 bx bm bf u fi la n ev sq fd W) (hs:W.heap.size≤W'.heap.size) (hb:∀b,b=bf∨b=b1∨b=b3∨b=b4→W'.heap[b]? =W.heap[b]?):TmC b1 b3 b4 bx bm bf u fi la n ev sq fd W':=
 ⟨h.fc.block hs (hb _ (.inl rfl)),(zzJ (w:=W) (a:=⟨b1,0,none⟩) (hb _ (.inr (.inl rfl)))).trans h.c1,(zzJ (w:=W) (a:=⟨b3,0,none⟩) (hb _ (.inr (.inr (.inl rfl))))).trans h.c3,(zzM (w:=W) (a:=⟨b3,0,none⟩) (hb _ (.inr (.inr (.inl rfl))))).trans h.z3,(zzJ (w:=W) (a:=⟨b4,0,none⟩) (hb _ (.inr (.inr (.inr rfl))))).trans h.c4,by have:=h.lt; omega,h.ne⟩
theorem TmC.below (h:TmC b1 b3 b4 bx bm bf u fi la n ev sq fd W) (hB:Below W.heap.size W W'):TmC b1 b3 b4 bx bm bf u fi la n ev sq fd W':=
 h.keep hB.size (fun b hb=>hB.block b (by have:=h.lt; have:=h.fc.lt; omega))
theorem TmC.map (h:TmC b1 b3 b4 bx bm bf u fi la n ev sq fd W) (hE:Eff (fun b=>b=bm) W W'):TmC b1 b3 b4 bx bm bf u fi la n ev sq fd W':=
 h.keep hE.size (fun b hb=>hE.block b (by have:=h.lt; have:=h.fc.lt; omega) (by have:=h.ne; omega))
theorem TmC.fst (h:TmC b1 b3 b4 bx bm bf u fi la n ev sq fd W) (fd':Option Nat):TmC b1 b3 b4 bx bm bf u fi la n ev sq fd' (W.setCell ⟨b3,0,none⟩ (dptr fd')):=by
 have hE:Eff (fun b=>b=b3) W (W.setCell ⟨b3,0,none⟩ (dptr fd')):=(Eff.refl (fun b=>b=b3) W).set rfl _ _
 have hl:=h.lt
 have hn:=h.ne
 exact ⟨h.fc.block hE.size (hE.block _ h.fc.lt hn.1.2.1),(hE.cell (p:=⟨b1,0,none⟩) hl.1 (fun e=>hn.2.1.1 (Eq.symm e))).trans h.c1,zzW _ _ _ (by rw [h.c3]),by simpa [go_sem] using h.z3,(hE.cell (p:=⟨b4,0,none⟩) hl.2.2.1 (fun e=>hn.2.1.2.1 (Eq.symm e))).trans h.c4,by have:=hE.size; omega,hn⟩
theorem TmC.face {u':Nat→Nat} {fi' la' n':Int} {ev' sq':Bool} (h:TmC b1 b3 b4 bx bm bf u fi la n ev sq fd W) (hE:Eff (fun b=>b=bf) W W') (hf:FcB bf u' fi' la' n' ev' sq' W'):TmC b1 b3 b4 bx bm bf u' fi' la' n' ev' sq' fd W':=by
 have hl:=h.lt
 have hn:=h.ne
 exact ⟨hf,(hE.cell (p:=⟨b1,0,none⟩) hl.1 (fun e=>hn.1.1 (Eq.symm e))).trans h.c1,(hE.cell (p:=⟨b3,0,none⟩) hl.2.1 (fun e=>hn.1.2.1 (Eq.symm e))).trans h.c3,(hE.frozen (p:=⟨b3,0,none⟩) hl.2.1 (fun e=>hn.1.2.1 (Eq.symm e))).trans h.z3,(hE.cell (p:=⟨b4,0,none⟩) hl.2.2.1 (fun e=>hn.1.2.2.1 (Eq.symm e))).trans h.c4,by have:=hE.size; omega,hn⟩
end
def Pf (ls:List (List Int)) (L:List Int):Prop:=ls≠ []∧(evB ls=true→L=ls.headD [])∧(sqA ls=true→sqB L=true)
def FdP (F M:Blk) (ls:List (List Int)) (fd:Option Nat) (W:World):Prop:=(ls= []∧fd=none)∨∃d q,fd=some d∧DiF W F M d q∧ls≠ []∧secL q=ls.headD []
theorem ydU (ls:List (List Int)) (L:List Int):evB (ls ++ [L])= (evB ls && decide (L= (ls ++ [L]).headD [])):=by
 cases ls with
 | nil=>simp [evB]
 | cons L0 ls=>rw [evB_snoc]; rfl
theorem ydr {ls:List (List Int)} (h:ls≠ []) (L:List Int):(ls ++ [L]).headD []=ls.headD []:=by
 cases ls with
 | nil=>exact absurd rfl h
 | cons L0 ls=>rfl
theorem pf_seen {ls:List (List Int)} {L:List Int} (h:Pf ls L):evB (ls ++ [L])=evB ls∧sqA (ls ++ [L])=sqA ls:=by
 obtain ⟨h0,h1,h2⟩:=h
 rw [ydU,ycQ,ydr h0]
 constructor
 ·cases e:evB ls
  ·rfl
  ·rw [zzZ (h1 e)]; rfl
 ·cases e:sqA ls
  ·rfl
  ·rw [h2 e]; rfl
theorem pf_keep {ls:List (List Int)} {L L':List Int} (h:Pf ls L'):Pf (ls ++ [L]) L':=by
 obtain ⟨h0,h1,h2⟩:=h
 refine ⟨by simp,fun e=>?_,fun e=>?_⟩
 ·rw [ydr h0]; rw [ydU,zzX] at e; exact h1 e.1
 ·rw [ycQ,zzX] at e; exact h2 e.1
theorem pf_new (ls:List (List Int)) (L:List Int):Pf (ls ++ [L]) L:=
 ⟨by simp,fun e=>by rw [ydU,zzX,zzY] at e; exact e.2,fun e=>by rw [ycQ,zzX] at e; exact e.2⟩
theorem pf_off {ls:List (List Int)} {L L':List Int} (h1:evB ls=false) (h2:sqA ls=false):Pf (ls ++ [L]) L':=
 ⟨by simp,fun e=>(by rw [ydU,h1] at e; cases e),fun e=>(by rw [ycQ,h2] at e; cases e)⟩
theorem FdP.keep {F F' M:Blk} {ls:List (List Int)} {fd:Option Nat} {W W':World} (h:FdP F M ls fd W) (hs:W.heap.size≤W'.heap.size) (hF:∀b,F b→F' b) (hb:∀b,F b∧¬M b→W'.heap[b]? =W.heap[b]?):FdP F' M ls fd W':=
 h.imp id fun ⟨d,q,h1,h2,h3⟩=>⟨d,q,h1,h2.keepI hs hF hb,h3⟩
theorem FdP.add {F M:Blk} {ls:List (List Int)} {d:Nat} {q:Nat→Bool} {W:World} (h:DiF W F M d q) (L:List Int) (e:secL q= (ls ++ [L]).headD []):FdP F M (ls ++ [L]) (some d) W:=
 .inr ⟨d,q,rfl,h,by simp,e⟩
def eqPS (a b:Value):Sem Value:=binOp .eql 72 a b
theorem eqP_is (a b:Value):binOp .eql 72 a b=eqPS a b:=rfl
attribute [local go_sem ↓] eqP_is
theorem eqP_run (fd:Option Nat) (W:World):(eqPS (dptr fd) (.pointer none)).run Tryz.prog W= .ok (.bool fd.isNone) W:=by
 cases fd with
 | none=>kernel_rfl
 | some d=>kernel_rfl
theorem eqPg_run (fd:Option Nat) (W:World):(eqGuard .eql 72 (.tmp 26) (.const (.pointer none)) (dptr fd) (.pointer none)).run Tryz.prog W= .ok () W:=by
 cases fd with
 | none=>kernel_rfl
 | some d=>kernel_rfl
theorem yii {b1 b3 b4 bx bm bf d:Nat} {u:Nat→Nat} {fi la n:Int} {fd:Option Nat} {F M:Blk} {ls:List (List Int)} {q:Nat→Bool} {W:World} (h:TmC b1 b3 b4 bx bm bf u fi la n (evB ls) (sqA ls) fd W)
  (hf:FdP F M ls fd W) (hR:FrW bx bm F M (Pf ls) W) (hF:∀b,F b→b≠bf∧b≠b3∧b≠bx∧b≠bm∧b < W.heap.size) (hd:DiF W F M d q) (hT:Tab W) (hTF:F 0) :
  Calls Tryz.prog 58 #[.pointer (some ⟨d,0,none⟩), .pointer (some ⟨b1,0,none⟩), .pointer (some ⟨b4,0,none⟩), .pointer (some ⟨b3,0,none⟩)] W fun e W'=>(∃v,e= .returned v)∧
   (∃fd',TmC b1 b3 b4 bx bm bf u fi la n (evB (ls ++ [secL q])) (sqA (ls ++ [secL q])) fd' W'∧FdP F M (ls ++ [secL q]) fd' W'∧FrW bx bm F M (Pf (ls ++ [secL q])) W')∧Eff (fun b=>b=bf∨b=b3∨b=bm) W W':=by
 have cI:=hid (ye8 hR (fun h=>(hF _ h).2.2.1 rfl) (fun h=>(hF _ h).2.2.2.1 rfl) (fun e=>h.ne.2.2.2.2 e.symm) h.lt.2.2.2.1 (fun b hb=>(hF b hb).2.2.2.2) hd)
 have HK:Hid (∀W',Eff (fun b=>b=bf∨b=b3∨b=bm) W W'→DiF W' F M d q∧FdP F M ls fd W'∧Tab W'):=fun W' hE=>
  have hb:∀b,F b∧¬M b→W'.heap[b]? =W.heap[b]?:=fun b hb=>hE.block b (hF b hb.1).2.2.2.2 (by have:=hF b hb.1; omega)
  ⟨hd.keepI hE.size (fun _ h=>h) hb,hf.keep hE.size (fun _ h=>h) hb,hT.eff hE (by have:=hF _ hTF; omega)⟩
 have HRk:Hid (∀P W1 W2,FrW bx bm F M P W1→W.heap.size≤W1.heap.size→Eff (fun b=>b=bf∨b=b3) W1 W2→FrW bx bm F M P W2):=fun P W1 W2 hr hs hE=>
  hr.keep hE.size (fun _ h=>h) (fun b hb=>hE.block b (zH (hF b hb.1).2.2.2.2 hs) (by have:=hF b hb.1; omega)) (hE.block _ (zH h.lt.2.2.2.1 hs) (by have:=h.ne; omega)) (hE.block _ (zH h.lt.2.2.2.2 hs) (by have:=h.ne; omega))
 have HFl:=hid hF
 have HH:=hid h
 have HR:=hid hR
 have HF0:=hid hf
 have c1:=h.c1
 have c3:=h.c3
 have c4:=h.c4
 have k49:=h.fc.c49
 have k50:=h.fc.c50
 obtain ⟨ev,hev⟩:∃x,evB ls=x:=⟨_,rfl⟩
 obtain ⟨sq,hsq⟩:∃x,sqA ls=x:=⟨_,rfl⟩
 rw [hev] at k49 HH
 rw [hsq] at k50 HH
 obtain ⟨L,hL⟩:∃x,secL q=x:=⟨_,rfl⟩
 rw [hL] at cI⊢
 have HE:=hid (And.intro hev (And.intro hsq hL))
 clear h hf hR hF hd hT hev hsq hL hTF
 go_enter Tryz.func58,Tryz.ntmps58
 by_cases hoff:ev=false∧sq=false
 ·obtain ⟨rfl,rfl⟩:=hoff
  have HD:Hid (evB (ls ++ [L])=false∧sqA (ls ++ [L])=false∧∀L',Pf (ls ++ [L]) L'):=⟨by rw [ydU,HE.out.1]; rfl,by rw [ycQ,HE.out.2.1]; rfl,fun L'=>pf_off HE.out.1 HE.out.2.1⟩
  have HFd:Hid (FdP F M (ls ++ [L]) fd W):=by
   rcases HF0.out with ⟨rfl,-⟩ | ⟨d0,q0,h1,h2,h3,h4⟩
   ·have:=HE.out.1; cases this
   ·exact .inr ⟨d0,q0,h1,h2,by simp,by rw [ydr h3]; exact h4⟩
  clear c3 c4 cI
  go_wp2
  refine bodyPost_ret (results_none rfl _ _ _) rfl ?_
  exact ⟨⟨_,rfl⟩,⟨fd,by rw [HD.out.1,HD.out.2.1]; exact HH.out,HFd.out,HR.out.mono (fun L' _=>HD.out.2.2 L')⟩,Eff.refl _ _⟩
 ·have HO:=hid hoff
  go_upto_region 0 with fail
  go_cut [25] from 8 (fun v wx=>Hid ((v= .bool true∧Pf ls L∧FrW bx bm F M (Pf ls) wx∧Eff (fun b=>b=bm) W wx)∨(v= .bool false∧FrW bx bm F M (fun L'=>Pf ls L'∨L' =L) wx∧Eff (fun b=>b=bm) W wx)))
  case first=>
   cases ev
   ·cases sq
    ·exact absurd ⟨rfl,rfl⟩ hoff
    ·clear hoff
     go_wp2_with fail
     refine cI.out.mono ?_
     rintro e w1 ⟨⟨rfl,hP,hr⟩ | ⟨rfl,hr⟩,hE⟩
     ·have HN:Hid (Pf ls L∧FrW bx bm F M (Pf ls) w1∧Eff (fun b=>b=bm) W w1):=⟨hP,hr,hE⟩
      clear hP hr hE cI
      go_wp2
      go_meet
      exact .inl ⟨rfl,HN.out⟩
     ·have HN:Hid (FrW bx bm F M (fun L'=>Pf ls L'∨L' =L) w1∧Eff (fun b=>b=bm) W w1):=⟨hr,hE⟩
      clear hr hE cI
      go_wp2
      go_meet
      exact .inr ⟨rfl,HN.out⟩
   ·clear hoff
    go_wp2_with fail
    refine cI.out.mono ?_
    rintro e w1 ⟨⟨rfl,hP,hr⟩ | ⟨rfl,hr⟩,hE⟩
    ·have HN:Hid (Pf ls L∧FrW bx bm F M (Pf ls) w1∧Eff (fun b=>b=bm) W w1):=⟨hP,hr,hE⟩
     clear hP hr hE cI
     go_wp2
     go_meet
     exact .inl ⟨rfl,HN.out⟩
    ·have HN:Hid (FrW bx bm F M (fun L'=>Pf ls L'∨L' =L) w1∧Eff (fun b=>b=bm) W w1):=⟨hr,hE⟩
     clear hr hE cI
     go_wp2
     go_meet
     exact .inr ⟨rfl,HN.out⟩
  case rest=>
   rcases hcut.out with ⟨rfl,hP,hr,hE⟩ | ⟨rfl,hr,hE⟩
   ·have hx:=pf_seen (L:=L) hP
    rw [HE.out.1,HE.out.2.1] at hx
    have HN:Hid (TmC b1 b3 b4 bx bm bf u fi la n (evB (ls ++ [L])) (sqA (ls ++ [L])) fd wc∧FdP F M (ls ++ [L]) fd wc∧FrW bx bm F M (Pf (ls ++ [L])) wc):=by
     refine ⟨by rw [hx.1,hx.2]; exact HH.out.map hE,?_,hr.mono (fun L' h=>pf_keep h)⟩
     rcases (HK.out wc (hE.wide (fun b hb=> .inr (.inr hb)))).2.1 with ⟨e,-⟩ | ⟨d0,q0,h1,h2,h3,h4⟩
     ·exact absurd e hP.1
     ·exact .inr ⟨d0,q0,h1,h2,by simp,by rw [ydr h3]; exact h4⟩
    have HEf:=hid hE
    clear hx hP hr hE hcut cI c1 c3 c4 k49 k50 hoff
    go_wp2
    refine bodyPost_ret (results_none rfl _ _ _) rfl ?_
    exact ⟨⟨_,rfl⟩,⟨fd,HN.out⟩,HEf.out.wide (fun b hb=> .inr (.inr hb))⟩
   ·have HR1:=hid hr
    have E1:=hid hE
    have H1:=hid (HH.out.map hE)
    obtain ⟨w1,hw1⟩:∃w1,wc=w1:=⟨_,rfl⟩
    rw [hw1] at HR1 E1 H1⊢
    clear hr hE hcut cI c1 c3 c4 k49 k50 hoff hw1 HR
    have c3:=H1.out.c3
    have hEq:=eqP_run fd w1
    have hEg:=eqPg_run fd w1
    go_upto_region 1 with fail
    iterate 10 go_step
    (try dsimp only)
    go_cut [27] from 28 (fun _ wx=>Hid (∃d1 q1,TmC b1 b3 b4 bx bm bf u fi la n ev sq (some d1) wx∧DiF wx F M d1 q1∧secL q1= (ls ++ [L]).headD []∧Eff (fun b=>b=b3) w1 wx))
    case first=>
     clear hEq hEg
     cases fd with
     | none=>
       have z3:=H1.out.z3
       have HN:Hid (TmC b1 b3 b4 bx bm bf u fi la n ev sq (some d) (w1.setCell ⟨b3,0,none⟩ (dptr (some d)))∧Eff (fun b=>b=b3) w1 (w1.setCell ⟨b3,0,none⟩ (dptr (some d)))):=⟨H1.out.fst (some d),(Eff.refl (fun b=>b=b3) w1).set rfl _ _⟩
       have hls:Hid (ls= []):=by rcases HF0.out with ⟨e,-⟩ | ⟨d0,q0,h1,-⟩; exact e; cases h1
       replace c3:w1.cell? ⟨b3,0,none⟩=some (.pointer none):=c3
       simp only [Option.isNone_none]
       go_wp2
       go_meet
       refine ⟨d,q,HN.out.1,(HK.out _ ((E1.out.wide (fun b hb=> .inr (.inr hb))).trans HN.out.2 (fun b hb=> .inl (.inr (.inl hb))))).1,?_,HN.out.2⟩
       rw [hls.out,HE.out.2.2]; rfl
     | some d1=>
       simp only [Option.isNone_some]
       clear c3
       go_wp2
       go_meet
       rcases (HK.out w1 (E1.out.wide (fun b hb=> .inr (.inr hb)))).2.1 with ⟨-,e⟩ | ⟨d0,q0,h1,h2,h3,h4⟩
       ·cases e
       ·cases h1
        exact ⟨d1,q0,H1.out,h2,by rw [ydr h3]; exact h4,Eff.refl _ _⟩
    case rest=>
     obtain ⟨d1,q1,h2,hd1,hh1,hE2⟩:=hcut.out
     have H2:=hid h2
     have E2:Hid (Eff (fun b=>b=bf∨b=b3) w1 wc):=hE2.wide (fun b hb=> .inr hb)
     have EW2:Hid (Eff (fun b=>b=bf∨b=b3∨b=bm) W wc):=(E1.out.wide (fun b hb=> .inr (.inr hb))).trans hE2 (fun b hb=> .inl (.inr (.inl hb)))
     obtain ⟨hdq,-,hTc⟩:=HK.out wc EW2.out
     have cE:=hid (DEqD_any d1 d q1 q wc.drew (hTc.later (Below.refl _ _).drew) hd1.2.2 hdq.2.2)
     have HD1:=hid hd1
     have Hh:=hid hh1
     rw [HE.out.2.2,hh1] at cE
     obtain ⟨w2,hw2⟩:∃w2,wc=w2:=⟨_,rfl⟩
     rw [hw2] at H2 E2 EW2 cE HD1⊢
     obtain ⟨g,hg⟩:∃g,decide (L= (ls ++ [L]).headD [])=g:=⟨_,rfl⟩
     rw [hg] at cE
     have HG:=hid hg
     clear h2 hd1 hh1 hE2 hdq hTc hcut hw2 c3 hEq hEg hg
     go_upto_region 3 with fail
     go_cut [] from 29 (fun wx=>Hid (TmC b1 b3 b4 bx bm bf u fi la n (ev && g) sq (some d1) wx∧Eff (fun b=>b=bf) w2 wx))
     case first=>
      have hS:Hid (w2.drew.cell? ⟨b1,0,none⟩=some (.pointer (some ⟨bf,0,none⟩))∧w2.drew.cell? ⟨bf,49,none⟩=some (.bool ev)∧w2.drew.cell? ⟨b3,0,none⟩=some (.pointer (some ⟨d1,0,none⟩))):=⟨H2.out.c1,H2.out.fc.c49,H2.out.c3⟩
      have HN:Hid (TmC b1 b3 b4 bx bm bf u fi la n (ev && g) sq (some d1) (w2.drew.setCell ⟨bf,49,none⟩ (.bool (ev && g)))∧Eff (fun b=>b=bf) w2 (w2.drew.setCell ⟨bf,49,none⟩ (.bool (ev && g)))):=
       have hE:=((Eff.of_below (O:=fun b=>b=bf) (Below.refl w2.heap.size w2).drew).set rfl 49 (.bool (ev && g)))
       ⟨H2.out.face hE ((H2.out.fc.block (W':=w2.drew) (zG _) rfl).set49 (ev && g)),hE⟩
      have hz:Hid (w2.drew.frozen? ⟨bf,49,none⟩=false):=H2.out.fc.z 49
      refine regF [12] (S:=fun W=>Hid (W.cell? ⟨b1,0,none⟩=some (.pointer (some ⟨bf,0,none⟩))∧W.cell? ⟨bf,49,none⟩=some (.bool ev)∧W.cell? ⟨b3,0,none⟩=some (.pointer (some ⟨d1,0,none⟩)))) (by kernel_rfl) hS (fun hHeld=>?_)
      cases ev
      ·refine zfA 0 ?_
       refine zfA 1 ?_
       refine zfA 2 ?_
       refine zfA 3 ?_
       refine zfA 4 ?_
       refine zfA 5 ?_
       refine zfS 6 ?_
       refine zfS 7 ?_
       refine zfS 8 ?_
       refine zfE 9 ?_
       refine zfE 10 (U:= [10,11,12]) ?_
       refine zfE 11 (U:= [11,12]) ?_
       have k49:=hS.out.2.1
       have z49:=hz.out
       refine zzO 12 (fun K hK=>?_)
       go_simp
       refine hK.out _ _ (fun h=>absurd h (by decide)) ?_
       clear hK
       try simp only [rgPut]
       refine OrdF.done (by kernel_rfl) ?_ _
       clear hHeld hS hz k49 z49 cE
       go_wp2
       go_meet
       exact HN
      ·refine zfA 0 ?_
       refine zfA 1 ?_
       refine zfA 2 ?_
       refine zfA 3 ?_
       refine zfA 4 ?_
       refine zfA 5 ?_
       refine zfA 6 ?_
       refine zfE 7 ?_
       refine zzO 8 (fun K hK=>?_)
       go_simp
       refine cE.out.mono ?_
       rintro e w3 ⟨rfl,rfl⟩
       refine hK.out _ _ (fun _=>hS) ?_
       clear hK
       try simp only [rgPut]
       refine zfE 9 ?_
       refine zfE 10 (U:= [10,11,12]) ?_
       refine zfE 11 (U:= [11,12]) ?_
       have k49:=hS.out.2.1
       have z49:=hz.out
       refine zzO 12 (fun K hK=>?_)
       go_simp
       refine hK.out _ _ (fun h=>absurd h (by decide)) ?_
       clear hK
       try simp only [rgPut]
       refine OrdF.done (by kernel_rfl) ?_ _
       clear hHeld hS hz k49 z49 cE
       go_wp2
       go_meet
       exact HN
     case rest=>
      obtain ⟨h3,hE3⟩:=hcut.out
      have hE3':=hid hE3
      have HDk:Hid (∀W',Eff (fun b=>b=bf∨b=b3∨b=bm) W W'→Eff (fun b=>b=bf) w2 W'→DiF W' F M d1 q1):=fun W' _ hE=>HD1.out.keepI hE.size (fun _ h=>h) (fun b hb=>hE.block b (zH (HFl.out b hb.1).2.2.2.2 EW2.out.size) (HFl.out b hb.1).1)
      have H3:=hid h3
      have E3:Hid (Eff (fun b=>b=bf∨b=b3) w1 wc):=E2.out.trans hE3 (fun b hb=> .inl (.inl hb))
      have EW3:Hid (Eff (fun b=>b=bf∨b=b3∨b=bm) W wc):=EW2.out.trans hE3 (fun b hb=> .inl (.inl hb))
      obtain ⟨w3,hw3⟩:∃w3,wc=w3:=⟨_,rfl⟩
      rw [hw3] at H3 E3 EW3 hE3'⊢
      have hev:Hid (evB (ls ++ [L])= (ev && g)):=by show _ = _; rw [ydU,HE.out.1,HG.out]
      have HFin:Hid (∀W',Eff (fun b=>b=bf) w3 W'→TmC b1 b3 b4 bx bm bf u fi la n (ev && g) (sq && sqB L) (some d1) W'→(∃fd',TmC b1 b3 b4 bx bm bf u fi la n (evB (ls ++ [L])) (sqA (ls ++ [L])) fd' W'∧FdP F M (ls ++ [L]) fd' W'∧FrW bx bm F M (Pf (ls ++ [L])) W')∧Eff (fun b=>b=bf∨b=b3∨b=bm) W W'):=fun W' hE hT=>by
       have e1:=EW3.out.trans hE (fun b hb=> .inl (.inl hb))
       have e2:Eff (fun b=>b=bf∨b=b3) w1 W':=E3.out.trans hE (fun b hb=> .inl (.inl hb))
       have e3:Eff (fun b=>b=bf) w2 W':=hE3'.out.trans hE (fun b hb=> .inl hb)
       refine ⟨⟨some d1,by rw [hev.out,ycQ,HE.out.2.1]; exact hT,FdP.add ?_ L Hh.out,(HRk.out _ _ _ HR1.out E1.out.size e2).mono (fun L' h=>h.elim pf_keep (fun h=>h ▸ pf_new ls L'))⟩,e1⟩
       exact HDk.out W' e1 e3
      clear h3 hE3 hcut hw3 cE
      have c1:=H3.out.c1
      have k50:=H3.out.fc.c50
      cases sq
      ·go_wp2
       refine bodyPost_end (results_none rfl _ _ _) rfl ?_
       exact ⟨⟨_,rfl⟩,HFin.out _ (Eff.refl _ _) H3.out⟩
      ·obtain ⟨hdq,-,hTc⟩:=HK.out w3 EW3.out
       have cT:=hid (yfI d q w3 hTc hdq.2.2)
       rw [HE.out.2.2] at cT
       have hTl:Hid (∀W2,Below w3.heap.size w3 W2→Tab W2∧DiscAt W2 d q):=fun W2 hB=>⟨hTc.later hB,hdq.2.2.below hB hdq.2.2.lt⟩
       have cL:=hid (fun W=>TLen_any (ofM (hrL L)) (ofM (mnL L)) (ofM (scL L)) W (yao _) (yao _) (yao _))
       rw [yjA] at cL
       have cD:=hid (fun W (h:DiscAt W d q)=>DLenO_any (some d) q W h)
       rw [HE.out.2.2] at cD
       have HQ:Hid (sqB L=decide ((yaS (ofM (hrL L)) (ofM (mnL L)) (ofM (scL L))).length=L.length)):=rfl
       obtain ⟨A,hA⟩:∃x,(yaS (ofM (hrL L)) (ofM (mnL L)) (ofM (scL L))).length=x:=⟨_,rfl⟩
       obtain ⟨x2,hx2⟩:∃x,ofM (hrL L)=x:=⟨_,rfl⟩
       obtain ⟨x1,hx1⟩:∃x,ofM (mnL L)=x:=⟨_,rfl⟩
       obtain ⟨x0,hx0⟩:∃x,ofM (scL L)=x:=⟨_,rfl⟩
       rw [hA] at cL HQ
       rw [hx2,hx1,hx0] at cT cL
       obtain ⟨N,hN⟩:∃x,L.length=x:=⟨_,rfl⟩
       rw [hN] at cD HQ
       obtain ⟨g2,hg2⟩:∃x,sqB L=x:=⟨_,rfl⟩
       rw [hg2] at HQ HFin
       have hgb:((A:Int) == (N:Int))=g2:=by
        rw [HQ.out]
        by_cases e:A=N
        ·rw [e]; simp
        ·rw [zzd e]; simp; omega
       clear hdq hTc hA hx2 hx1 hx0 hN hg2
       go_wp2_with fail
       refine cT.out.mono ?_
       rintro e w4 ⟨rfl,hB4⟩
       have H4:=hid (H3.out.below hB4)
       have E4:Hid (Eff (fun b=>b=bf) w3 w4):=Eff.of_below hB4
       obtain ⟨-,hd4⟩:=hTl.out w4 hB4
       have cL4:=hid (cL.out w4.drew)
       have cD4:=hid (cD.out w4.drew hd4)
       have hS:Hid (w4.drew.cell? ⟨b1,0,none⟩=some (.pointer (some ⟨bf,0,none⟩))∧w4.drew.cell? ⟨bf,50,none⟩=some (.bool true)):=⟨H4.out.c1,H4.out.fc.c50⟩
       have HN:Hid (TmC b1 b3 b4 bx bm bf u fi la n (ev && g) g2 (some d1) (w4.drew.setCell ⟨bf,50,none⟩ (.bool g2))∧Eff (fun b=>b=bf) w3 (w4.drew.setCell ⟨bf,50,none⟩ (.bool g2))):=
        have hE:=((Eff.of_below (O:=fun b=>b=bf) (Below.refl w4.heap.size w4).drew).set rfl 50 (.bool g2))
        ⟨H4.out.face hE ((H4.out.fc.block (W':=w4.drew) (zG _) rfl).set50 g2),E4.out.trans hE (fun b hb=> .inl hb)⟩
       have hz:Hid (w4.drew.frozen? ⟨bf,50,none⟩=false):=H4.out.fc.z 50
       clear hB4 cT c1 k50 hd4
       go_upto_region 6 with fail
       refine regF [16] (S:=fun W=>Hid (W.cell? ⟨b1,0,none⟩=some (.pointer (some ⟨bf,0,none⟩))∧W.cell? ⟨bf,50,none⟩=some (.bool true))) (by kernel_rfl) hS (fun hHeld=>?_)
       refine zfA 0 ?_
       refine zfA 1 ?_
       refine zfA 2 ?_
       refine zfA 3 ?_
       refine zfA 4 ?_
       refine zfA 5 ?_
       refine zfA 6 ?_
       refine zfA 7 ?_
       refine zfA 8 ?_
       refine zfA 10 ?_
       refine zzO 9 (fun K hK=>?_)
       go_simp
       refine cL4.out.mono ?_
       rintro e w5 ⟨rfl,rfl⟩
       refine hK.out _ _ (fun _=>hS) ?_
       clear hK
       try simp only [rgPut]
       refine zzO 11 (fun K hK=>?_)
       go_simp
       refine cD4.out.mono ?_
       rintro e w5 ⟨rfl,rfl⟩
       refine hK.out _ _ (fun _=>hS) ?_
       clear hK
       try simp only [rgPut]
       refine zfE 12 ?_
       refine zfE 13 ?_
       refine zfE 14 (U:= [14,15,16]) ?_
       refine zfE 15 (U:= [15,16]) ?_
       have k50:=hS.out.2
       have z50:=hz.out
       refine zzO 16 (fun K hK=>?_)
       go_simp
       refine hK.out _ _ (fun h=>absurd h (by decide)) ?_
       clear hK k50 z50
       try simp only [rgPut]
       refine OrdF.done (by kernel_rfl) ?_ _
       clear hHeld hS hz
       go_wp2
       refine bodyPost_end (results_none rfl _ _ _) rfl ?_
       exact ⟨⟨_,rfl⟩,HFin.out _ HN.out.2 HN.out.1⟩
end Go.Proofs.YtkpgfmonhfnhdaaGreatDoor
