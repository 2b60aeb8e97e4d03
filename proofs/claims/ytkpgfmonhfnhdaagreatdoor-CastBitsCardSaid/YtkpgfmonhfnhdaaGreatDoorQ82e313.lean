/-
  A roll whose maps or cells turn.
-/
import Derived.Test.YtkpgfmonhfnhdaaGreatDoorQ4d98a8
set_option maxRecDepth 100000
set_option maxHeartbeats 25600000
namespace Go.Proofs.YtkpgfmonhfnhdaaGreatDoor
open Go.RowKit Go.Maps
set_option linter.unusedVariables false
section
variable {W W':World} {cs:List Cl} {br bk:Nat} {bps:List Nat} {F:Blk} {ws:Nat→Bool} {m:Nat}
theorem Eff.of_grown {M:Blk} {b:Nat} (hg:W.grownBy W' (some b)) (hM:M b):Eff M W W':=
 ⟨hg.os,hg.tape,hg.output,hg.size,fun k hk hn=>hg.block k hk (fun e=>hn (by cases e; exact hM))⟩
theorem yde {i:Nat} (hi:i < bps.length):bps.getD i 0∈bps:=by
 rw [List.getD_eq_getElem?_getD,zzp hi]
 exact zzr hi
theorem bps_ne {i j:Nat} (hn:bps.Nodup) (hi:i < bps.length) (hj:j < bps.length) (h:j≠i):bps.getD j 0≠bps.getD i 0:=by
 rw [List.getD_eq_getElem?_getD,List.getD_eq_getElem?_getD,zzp hi,zzp hj]
 exact fun e=>h ((List.getElem_inj hn).1 e)
theorem RollS.mem (h:RollS W cs br bk bps F ws m) {i:Nat} (hi:i < cs.length):RM br bk bps (bps.getD i 0):= .inr (.inr (yde (by rw [h.x.len]; exact hi)))
theorem RollS.turn (h:RollS W cs br bk bps F ws m) (hE:Eff (RM br bk bps) W W') (hbr:W'.heap[br]? =W.heap[br]?) (hK:MapS K8 (G8 cs W' F (RM br bk bps)) W' bk 256)
  (hP:∀i,i < cs.length→MapS K1 (G1 (atC cs i) W' F (RM br bk bps)) W' (bps.getD i 0) 256):RollS W' cs br bk bps F ws m:=by
 have cb:∀i,W'.cell? ⟨br,i,none⟩=W.cell? ⟨br,i,none⟩:=fun i=>zzJ (w:=W) (a:=⟨br,i,none⟩) hbr
 have fb:∀i,W'.frozen? ⟨br,i,none⟩=W.frozen? ⟨br,i,none⟩:=fun i=>zzM (w:=W) (a:=⟨br,i,none⟩) hbr
 exact ⟨h.x.eff hE (fun _ h=>h) (fun b hb=>zH (h.x.lt b hb) hE.size) (fun i _=>cb i) fb,hK,hP,
  fun j hj=>by obtain ⟨d,g1,g2,g3⟩:=h.whole j hj; exact ⟨d,(cb _).trans g1,g2,fun b hb=>(g3 b hb).eff hE (fun _ h=>h)⟩,(cb 260).trans h.many⟩
theorem RollS.mapPart (h:RollS W cs br bk bps F ws m) {i:Nat} (hi:i < cs.length) (hg:W.grownBy W' (some (bps.getD i 0))) (hM:MapS K1 (G1 (atC cs i) W F (RM br bk bps)) W' (bps.getD i 0) 256):RollS W' cs br bk bps F ws m:=by
 have hm:=h.mem hi
 have hE:=Eff.of_grown hg hm
 have hl:∀{k},k < cs.length→k < bps.length:=fun hk=>by rw [h.x.len]; exact hk
 obtain ⟨a1,a2,a3,a4⟩:=h.x.apart
 have hb:=yde (hl hi)
 have e1:=hg.block br h.rlt (fun e=>a2 (by rw [Option.some.inj e]; exact hb))
 have e2:=hg.block bk h.known.lt (fun e=>a3 (by rw [Option.some.inj e]; exact hb))
 refine h.turn hE e1 ((h.known.keep e2).mono (zG _) (fun _ h=>h) (fun _ _ g=>g.eff hE (fun _ h=>h))) (fun j hj=>?_)
 by_cases hji:j=i
 ·subst hji
  exact hM.mono (zG _) (fun _ h=>h) (fun _ _ g=>g.eff hE (fun _ h=>h))
 ·exact ((h.parts j hj).keep (hg.block _ (h.parts j hj).lt (fun e=>bps_ne a4 (hl hi) (hl hj) hji (Option.some.inj e)))).mono (zG _) (fun _ h=>h) (fun _ _ g=>g.eff hE (fun _ h=>h))
theorem RollS.mapKnown (h:RollS W cs br bk bps F ws m) (hg:W.grownBy W' (some bk)) (hM:MapS K8 (G8 cs W F (RM br bk bps)) W' bk 256):RollS W' cs br bk bps F ws m:=by
 have hE:=Eff.of_grown (M:=RM br bk bps) hg (.inr (.inl rfl))
 obtain ⟨a1,a2,a3,a4⟩:=h.x.apart
 refine h.turn hE (hg.block br h.rlt (fun e=>a1 (Option.some.inj e))) (hM.mono (zG _) (fun _ h=>h) (fun _ _ g=>g.eff hE (fun _ h=>h))) (fun j hj=>?_)
 exact ((h.parts j hj).keep (hg.block _ (h.parts j hj).lt (fun e=>a3 (by rw [←Option.some.inj e]; exact yde (by rw [h.x.len]; exact hj))))).mono (zG _) (fun _ h=>h) (fun _ _ g=>g.eff hE (fun _ h=>h))
theorem RollS.cells {ws':Nat→Bool} {m':Nat} (h:RollS W cs br bk bps F ws m) (hE:Eff (fun b=>b=br) W W') (hc:∀i,i < 4→W'.cell? ⟨br,i,none⟩=W.cell? ⟨br,i,none⟩) (hf:∀i,W'.frozen? ⟨br,i,none⟩=W.frozen? ⟨br,i,none⟩)
  (hw:∀j,j < 256→∃d:Option Nat,W'.cell? ⟨br,4+j,none⟩=some (dptr d)∧d.isSome=ws' j∧∀b,d=some b→DiF W F (RM br bk bps) b (yen cs j)) (hm:W'.cell? ⟨br,260,none⟩=some (.int .i64 (m':Nat))):RollS W' cs br bk bps F ws' m':=by
 have hE':Eff (RM br bk bps) W W':=hE.wide fun b hb=> .inl hb
 obtain ⟨a1,a2,a3,a4⟩:=h.x.apart
 have id':∀b,F b→F b:=fun _ h=>h
 exact ⟨h.x.eff hE' id' (fun b hb=>zH (h.x.lt b hb) hE.size) hc hf,(h.known.keep (hE.block bk h.known.lt (fun e=>a1 e.symm))).mono (zG _) (fun _ h=>h) (fun _ _ g=>g.eff hE' id'),
  fun j hj=>((h.parts j hj).keep (hE.block _ (h.parts j hj).lt (fun e=>a2 (by rw [←e]; exact yde (by rw [h.x.len]; exact hj))))).mono (zG _) (fun _ h=>h) (fun _ _ g=>g.eff hE' id'),
  fun j hj=>by obtain ⟨d,g1,g2,g3⟩:=hw j hj; exact ⟨d,g1,g2,fun b hb=>(g3 b hb).eff hE' id'⟩,hm⟩
theorem RollS.setWhole (h:RollS W cs br bk bps F ws m) {j b:Nat} (hj:j < 256) (hd:DiF W F (RM br bk bps) b (yen cs j)):RollS (W.setCell ⟨br,4+j,none⟩ (.pointer (some ⟨b,0,none⟩))) cs br bk bps F (fun i=>ws i || decide (i=j)) m:=by
 refine h.cells ((Eff.refl (fun b=>b=br) W).set rfl _ _) (fun i hi=>?_) (fun i=>?_) (fun i hi=>?_) ?_
 ·simp [go_sem]
 ·simp [go_sem]
 ·obtain ⟨d,g1,g2,g3⟩:=h.whole i hi
  by_cases e:i=j
  ·subst e
   exact ⟨some b,by simp [go_sem,g1,dptr],by simp,fun b' hb'=>by cases hb'; exact hd⟩
  ·exact ⟨d,by simp [go_sem,g1],by simp [g2,e],g3⟩
 ·simp [go_sem,h.many]
theorem RollS.setMany (h:RollS W cs br bk bps F ws m) (m':Nat):RollS (W.setCell ⟨br,260,none⟩ (.int .i64 (m':Nat))) cs br bk bps F ws m':=by
 refine h.cells ((Eff.refl (fun b=>b=br) W).set rfl _ _) (fun i hi=>?_) (fun i=>?_) (fun i hi=>?_) ?_
 ·simp [go_sem]
 ·simp [go_sem]
 ·obtain ⟨d,g1,g2,g3⟩:=h.whole i hi
  exact ⟨d,by simp [go_sem,g1],g2,g3⟩
 ·simp [go_sem,h.many]
end
end Go.Proofs.YtkpgfmonhfnhdaaGreatDoor
