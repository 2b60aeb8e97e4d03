/-
  roll.New: a new roll.
-/
import Derived.Test.YtjahgimnfliooaaGreatDoorQe13039
set_option maxRecDepth 100000
set_option maxHeartbeats 25600000
namespace Go.Proofs.YtjahgimnfliooaaGreatDoor
open Go.RowKit Go.Maps
set_option linter.unusedVariables false
theorem nw_start {W w1:World} {l:List Cl} {a1:Option Addr} {c1:Nat} (hB:Below W.heap.size W w1) (hO:w1.ownsRow W.heap.size 34 30 (.slice a1 l.length c1) l.length (cls l)) {Wa:World}
  (hW:(w1.alloc (.map #[] 0)).alloc (.cells ((Tryz.zeroCells153.setIfInBounds 0 (.slice a1 l.length c1)).setIfInBounds 2 (.map (some w1.heap.size))) 153)=Wa) :
  NwF W l a1 c1 w1.heap.size (w1.heap.size+1) Wa∧NwG W l (w1.heap.size+1) 0 0 (.slice none 0 0) (.slice none 0 0) [] [] Wa:=by
 have hs:=hB.size
 have hbel:Below W.heap.size W Wa:=by rw [←hW]; exact yaa (yaa hB hs) (by simp; omega)
 have hl:Wa.heap.size=w1.heap.size+2:=by rw [←hW]; simp
 obtain ⟨R,hR⟩:∃R:List Value,List.replicate 256 (Value.pointer none)=R:=⟨_,rfl⟩
 have hRl:R.length=256:=by rw [←hR,List.length_replicate]
 have hRg:∀j,j < 256→R[j]? =some (.pointer none):=fun j hj=>by rw [←hR,List.getElem?_replicate,if_pos hj]
 have hz:(Tryz.zeroCells153.setIfInBounds 0 (.slice a1 l.length c1)).setIfInBounds 2 (.map (some w1.heap.size))= (Value.slice a1 l.length c1 :: .slice none 0 0 :: .map (some w1.heap.size) :: .slice none 0 0 :: (R ++ [.int .i64 0])).toArray:=by
  rw [zcRoll,hR]; simp
 rw [hz] at hW
 clear hz hR
 have e1:w1.heap.size+1= (w1.alloc (.map #[] 0)).heap.size:=by simp
 have hc:∀(i:Nat) (v:Value),(Value.slice a1 l.length c1 :: .slice none 0 0 :: .map (some w1.heap.size) :: .slice none 0 0 :: (R ++ [.int .i64 0]))[i]? =some v→Wa.cell? ⟨w1.heap.size+1,i,none⟩=some v:=fun i v h=>by
  rw [←hW,e1]
  have:=yau (w1.alloc (.map #[] 0)) _ 153 i v h
  rwa [zzn] at this
 have ol:∀b,(Value.slice a1 l.length c1).ownBlock=some b→b < w1.heap.size:=fun b hb=>(yaX hO hb).2
 have hE:Below w1.heap.size w1 Wa:=by rw [←hW]; exact yaa (yaa (Below.refl _ _) (zG _)) (by simp)
 refine ⟨⟨hbel,⟨hs,rfl,by omega⟩,yaI hO (fun b hb=>hE.block b (ol b hb)),ol,hc 0 _ rfl,hc 2 _ rfl,fun j hj=>hc _ _ ?_,hc 260 _ ?_,fun i=>?_,?_⟩,⟨hc 1 _ rfl,hc 3 _ rfl,World.ownsRow_nil _ _ _ _,World.ownsRow_nil _ _ _ _,(fun b h=>by cases h),(fun b h=>by cases h),(fun b h=>by cases h),(fun b hb=>by cases hb),List.nodup_nil,rfl,rfl,fun i hi=>by omega⟩⟩
 ·rw [show 4+j=j+4 by omega]
  show (R ++ [Value.int .i64 0])[j]? = _
  rw [List.getElem?_append_left (by omega)]; exact hRg j hj
 ·show (R ++ [Value.int .i64 0])[256]? = _
  rw [List.getElem?_append_right (by omega),hRl]; rfl
 ·rw [←hW,e1]
  exact yaB _ _ _ i
 ·rw [←hW]
  exact ((yaa (o:= .cells _ 153) (Below.refl (w1.alloc (.map #[] 0)).heap.size _) (zG _)).block w1.heap.size (by simp)).trans (World.alloc_heap_new w1 _)
theorem yiE {P:Program} {t:TypeId} {o:Oper} {a:Act} {K:Act→World→Prop} {Q:Exit→Act→World→Prop} {W W':World} (s x:Operand)
  (ho:o.op= .call {callee:= .builtin .append,args:=#[s,x],argTypes:=#[t,t]}) {v u r:Value} (hs:a.eval s=v) (hx:a.eval x=u) (hr:(Builtin.append_ #[t,t] o.type #[v,u]).run P W= .ok r W') (hK:K (a.put o.dst r) W'):Oper.wp P o a W K Q:=by
 unfold Oper.wp execOp
 simp only [ho,resolve,invoke,builtin,Sem.run_bind,Sem.run_pure,Result.andThen_ok,List.map_toArray,List.map_cons,List.map_nil,hs,hx,hr]
 exact hK
def FNew (W W':World):Blk:=fun b=>(W.heap.size≤b∧b < W'.heap.size)∨b=0
def NewR (W:World) (l:List Cl) (e:Ending) (W':World):Prop:=
 (yaR l≠0∧e= .returned (.tuple #[.pointer none, .int .i64 (yaR l)]))∨
 (yaR l=0∧∃br bk bps,e= .returned (.tuple #[.pointer (some ⟨br,0,none⟩), .int .i64 0])∧RollS W' l br bk bps (FNew W W') (fun _=>false) 0∧∀b,RM br bk bps b→W.heap.size≤b)
theorem SlF.of_own {W w:World} {F M:Blk} {e:TypeId} {s n cap:Nat} {a:Option Addr} {xs:List Value} (h:w.ownsRow W.heap.size e s (.slice a n cap) n xs) (hF:∀b,(Value.slice a n cap).ownBlock=some b→F b∧¬M b):SlF w F M a xs:=by
 rcases yhX h with hc | ⟨b,off,rfl,hb,hc⟩
 ·exact .inl hc
 ·have:=hF b rfl
  exact .inr ⟨b,off,rfl,this.1,this.2,hb,hc⟩
theorem owns_cap {w:World} {base:Nat} {e:TypeId} {s n cap:Nat} {a:Option Addr} {xs:List Value} (h:w.ownsRow base e s (.slice a n cap) n xs):n≤cap:=by
 obtain ⟨hl,h⟩:=h
 rcases h with ⟨he,hn⟩ | ⟨g,cap',cur,he,hb,hg,hnc,hcm,hcs,ht⟩
 ·injection he with e1 e2 e3; omega
 ·injection he with e1 e2 e3; omega
theorem roll_new {W w:World} {l:List Cl} {a0:Option Addr} {c0 bk br:Nat} {v1 v3:Value} {gvs:List Value} {bps:List Nat} (hF:NwF W l a0 c0 bk br w) (hG:NwG W l br l.length l.length v1 v3 gvs bps w) (hok:∀c∈l,c.Ok) (hm:mayL l=true) (hT:Tab W) :
  RollS w l br bk bps (FNew W w) (fun _=>false) 0∧∀b,RM br bk bps b→W.heap.size≤b:=by
 obtain ⟨l1,l2,l3⟩:=hF.lo
 have hz:=hF.bel.size
 have hRM:∀b,RM br bk bps b→bk≤b∧b < w.heap.size:=fun b hb=>by
  rcases hb with rfl | rfl | hb
  ·omega
  ·omega
  ·have:=hG.mp b hb; omega
 have ht:=hT.1
 obtain ⟨a1,c1,rfl,-,-⟩:=ya6 hG.o1
 obtain ⟨a3,c3,rfl,-,-⟩:=ya6 hG.o3
 have own:∀{e:TypeId} {s:Nat} {v:Value} {n:Nat} {xs:List Value} {b:Nat},w.ownsRow W.heap.size e s v n xs→v.ownBlock=some b→FNew W w b:=fun h hb=> .inl (yaX h hb)
 have n1:∀b,(Value.slice a1 l.length c1).ownBlock=some b→¬RM br bk bps b:=fun b hb h=>by
  rcases h with rfl | rfl | h
  ·have:=hG.b1 _ hb; omega
  ·have:=hG.b1 _ hb; omega
  ·exact (hG.mp b h).2.2.2.1 hb
 have n3:∀b,(Value.slice a3 l.length c3).ownBlock=some b→¬RM br bk bps b:=fun b hb h=>by
  rcases h with rfl | rfl | h
  ·have:=hG.b3 _ hb; omega
  ·have:=hG.b3 _ hb; omega
  ·exact (hG.mp b h).2.2.2.2 hb
 refine ⟨⟨⟨hok,hm,fun b hb=>?_,fun b hb=> .inl ⟨by have:=hRM b hb; omega,(hRM b hb).2⟩,⟨hT.later hF.bel, .inr rfl,fun h=>by have:=hRM _ h; omega⟩,⟨by omega,fun h=>by have:=hG.mp _ h; omega,fun h=>by have:=hG.mp _ h; omega,hG.nd⟩,hG.g3,
  ⟨a0,c0,hF.r0,SlF.of_own hF.own (fun b hb=>⟨own hF.own hb,fun h=>by have:=hF.olt b hb; have:=hRM b h; omega⟩),owns_cap hF.own,owns_none hF.own⟩,
  ⟨a1,c1,gvs,hG.r1,SlF.of_own hG.o1 (fun b hb=>⟨own hG.o1 hb,n1 b hb⟩),hG.g1,fun i hi=>?_⟩,hF.r2,⟨a3,c3,hG.r3,SlF.of_own hG.o3 (fun b hb=>⟨own hG.o3 hb,n3 b hb⟩)⟩,hF.fz⟩,
  ⟨#[],0,hF.kn,by simp,by simp⟩,fun i hi=>?_,fun j hj=>⟨none,hF.rw' j hj,rfl,fun b hb=>by cases hb⟩,hF.rm⟩,fun b hb=>by have:=hRM b hb; omega⟩
 ·rcases hb with hb | rfl
  ·exact hb.2
  ·omega
 ·obtain ⟨lo,hi',q1,q2,q3,q4⟩:=hG.lp i hi
  refine ⟨lo,hi',q1,q3,fun b g1 g2=>⟨.inl ⟨by omega,by omega⟩,fun h=>?_⟩⟩
  rcases h with rfl | rfl | h
  ·omega
  ·omega
  ·exact (q4 b g1 g2).2.2 h
 ·have hm:=hG.mp _ (ydt (by rw [hG.g3]; exact hi):bps.getD i 0∈bps)
  exact ⟨#[],0,hm.2.2.1,by simp,by simp⟩
attribute [local go_sem ↓] yaC yaK
attribute [local go_sem] yaA
theorem RNew_any (a:Option Addr) (cap:Nat) (l:List Cl) (W:World) (hl:l.length≤9223372036854775807) (hlc:l.length≤cap) (hs:Sl W a (cls l)) (hno:a=none→cap=0) (hok:∀c∈l,c.Ok) (hT:Tab W) :
  Calls Tryz.prog 54 #[.slice a l.length cap] W fun e W'=>NewR W l e W'∧Below W.heap.size W W':=by
 have cO:=hid (IOf_any a cap l W hl hlc hs hno hok)
 have Hok:=hid hok
 have HT:=hid hT
 clear hlc hs hno hl hT hok
 by_cases hf:yaR l=0
 ·have ho:outL l=l:=by rw [outL,if_pos hf]
  have cO2:Hid (Calls Tryz.prog 94 #[.slice a l.length cap] W fun e w'=>(∃v,e= .returned (.tuple #[v, .int .i64 0])∧OwnR W w' l v)∧Below W.heap.size W w'):=by
   have:=cO.out; unfold OfR at this; rw [hf,ho] at this; exact this
  have h8:l.length≤8:=by
   have:=ydG l
   rw [hf] at this
   rw [mayL] at this
   simp at this
   exact this.1
  have Hf:=hid hf
  have H8:=hid h8
  clear hf ho cO h8
  have hmm:=hid (@run_makeMap Tryz.prog)
  go_enter Tryz.func54,Tryz.ntmps54
  go_wp2_with fail
  refine cO2.out.mono ?_
  rintro e w1 ⟨⟨v,rfl,hO⟩,hB1⟩
  obtain ⟨a1,cap1,rfl,hs1,-⟩:=ya6 hO
  have HO:=hid hO
  have HB1:=hid hB1
  have hmm2:=hmm.out
  clear hO hs1 hB1
  go_upto_region 5 with fail
  obtain ⟨Wa,hWa⟩:∃Wa,(w1.alloc (.map #[] 0)).alloc (.cells ((Tryz.zeroCells153.setIfInBounds 0 (.slice a1 l.length cap1)).setIfInBounds 2 (.map (some w1.heap.size))) 153)=Wa:=⟨_,rfl⟩
  have hst:=hid (nw_start HB1.out HO.out hWa)
  rw [hWa]
  obtain ⟨Z,hZ⟩:∃Z,Value.agg ((Tryz.zeroCells153.setIfInBounds 0 (.slice a1 l.length cap1)).setIfInBounds 2 (.map (some w1.heap.size)))=Z:=⟨_,rfl⟩
  rw [hZ]
  clear hWa hmm2 hZ
  obtain ⟨br,hbr⟩:∃br,w1.heap.size+1=br:=⟨_,rfl⟩
  obtain ⟨bk,hbk⟩:∃bk,w1.heap.size=bk:=⟨_,rfl⟩
  rw [hbr,hbk] at hst
  rw [hbr]
  clear hbr hbk
  go_upto_region 6 with fail
  go_loopw [23] (fun i wr=>∃k:Nat,i= .int .i64 k∧k≤l.length∧Hid (NwF W l a1 cap1 bk br wr∧∃v1 v3 gvs bps,NwG W l br k k v1 v3 gvs bps wr)) (fun i _=>l.length - (intOf i).toNat)
  case atStart=>exact ⟨0,rfl,by omega,hst.out.1,_,_,_,_,hst.out.2⟩
  case round=>
   obtain ⟨k,rfl,hk,HI⟩:=hrel
   by_cases hlt:k < l.length
   ·have hltI:(k:Int) < l.length:=by omega
    obtain ⟨hF,v1,v3,gvs,bps,hG⟩:=HI.out
    obtain ⟨b,off,rfl,hbk,hr⟩:=(yhX hF.own).atCl hlt
    have le:=yjZ hr
    have hat:atC l k=l[k]:=ycu hlt
    obtain ⟨c,hc⟩:∃c,l[k]=c:=⟨_,rfl⟩
    rw [hc] at hr le hat
    have hcok:c.Ok:=by rw [←hc]; exact Hok.out _ (zzr hlt)
    have hth2:(wr.alloc (.cells zL.toArray 34)).there wr.heap.size 0 30:=yat wr _ _
    have hn2:=yaa (o:= .cells zL.toArray 34) (Below.refl wr.heap.size wr) (zG _)
    have hC1:ClB (yas (wr.alloc (.cells zL.toArray 34)) wr.heap.size (yac c)) wr.heap.size c:=yak _ rfl hth2
    have hb1:Below wr.heap.size wr (yas (wr.alloc (.cells zL.toArray 34)) wr.heap.size (yac c)):=yaj hn2 (zG _) _
    have hl3:wr.heap.size < (yas (wr.alloc (.cells zL.toArray 34)) wr.heap.size (yac c)).heap.size:=by show wr.heap.size < (World.setCells _ _ _ _).heap.size; rw [yaN]; simp
    obtain ⟨W3,hW3⟩:∃W,yas (wr.alloc (.cells zL.toArray 34)) wr.heap.size (yac c)=W:=⟨_,rfl⟩
    rw [hW3] at hC1 hb1 hl3
    obtain ⟨lo1,lo2,lo3⟩:=hF.lo
    have hF3:=hF.keep (w':=W3) (hF.bel.trans (hb1.mono hF.bel.size)) hb1.size (fun b hb=>hb1.block b (by omega))
    have hG3:=hG.keep (w':=W3) lo3 hb1.size (fun b hb=>hb1.block b hb)
    have HF3:=hid hF3
    have HG3:=hid hG3
    have HC1:=hid hC1
    have HL3:=hid hl3
    have Hat:=hid hat
    have cL:=hid (fun W=>LapsG_any c W hcok)
    have HW3:=hid hW3
    have HGr:=hid hG
    have HFr:=hid hF
    have HBr3:=hid hb1
    clear HI hF hG hr hat hc hcok hn2 hC1 hb1 hl3 lo1 lo2 lo3 hF3 hG3 hW3 hbk
    go_upto_region 8 with fail
    rw [HW3.out]
    clear le hth2
    obtain ⟨Wd,hWd⟩:∃Wd,W3.drew=Wd:=⟨_,rfl⟩
    have hBd:Below W3.heap.size W3 Wd:=by rw [←hWd]; exact (Below.refl _ _).drew
    have HWd:Hid (Wd=W3.drew):=hWd.symm
    have HFd:=hid (HF3.out.keep (w':=Wd) (HF3.out.bel.trans (hBd.mono HF3.out.bel.size)) hBd.size (fun b hb=>hBd.block b (by have:=HF3.out.lo; omega)))
    have HGd:=hid (HG3.out.keep (w':=Wd) HF3.out.lo.2.2 hBd.size (fun b hb=>hBd.block b hb))
    have HCd:Hid (ClB Wd wr.heap.size c):=HC1.out.below hBd HL3.out
    have HLd:Hid (wr.heap.size < Wd.heap.size):=zH HL3.out hBd.size
    have HBrd:Hid (Below wr.heap.size wr Wd):=HBr3.out.trans (hBd.mono HBr3.out.size)
    clear hBd hWd HF3 HG3 HC1
    refine wp_region_held_drew (S:=fun w=>Hid (ClB w wr.heap.size c)) (by kernel_rfl) (by rw [←HWd.out]; exact HCd) (fun hHeld=>?_)
    rw [←HWd.out]
    clear hHeld
    refine zT 0 (v:=?_) ?_ ?_
    rotate_left
    ·intro w hSw; have hl:=hSw.out.ld; clear hSw; go_simp; (try with_reducible rfl)
    try simp only [zP]
    refine zT 1 (v:=?_) ?_ ?_
    rotate_left
    ·intro w hSw; have hl:=hSw.out.ld; clear hSw; go_simp; (try with_reducible rfl)
    try simp only [zP]
    refine zT 2 (v:=?_) ?_ ?_
    rotate_left
    ·intro w hSw; have hl:=hSw.out.ld; clear hSw; go_simp; (try with_reducible rfl)
    try simp only [zP]
    refine zT 3 (v:=?_) ?_ ?_
    rotate_left
    ·intro w hSw; have hl:=hSw.out.ld; clear hSw; go_simp; (try with_reducible rfl)
    try simp only [zP]
    refine zT 5 (v:=?_) ?_ ?_
    rotate_left
    ·intro w hSw; have hl:=hSw.out.ld; clear hSw; go_simp; (try with_reducible rfl)
    try simp only [zP]
    refine wpAnyH_ready (rs:= [4,6]) (by kernel_rfl) (by simp) ?_
    refine AllReadyH.cons rfl (fun K hK=>?_) (AllReadyH.cons rfl (fun K hK=>?_) AllReadyH.nil)
    ·have r1:=HGd.out.r1
     go_simp
     clear r1
     refine hK.out _ _ HCd (fun hHeld=>?_)
     clear hK K hHeld
     try simp only [zP]
     refine zzK 6 (fun K hK=>?_)
     go_simp
     refine (cL.out Wd).mono ?_
     clear cL
     rintro e w4 ⟨⟨gv,rfl,hL⟩,hB4⟩
     have hL0:=hL
     obtain ⟨y1,y2,y3,y4,y5,y6,fv,rfl,-⟩:=hL0
     have HF4:=hid (HFd.out.keep (w':=w4) (HFd.out.bel.trans (hB4.mono HFd.out.bel.size)) hB4.size (fun b hb=>hB4.block b (by have:=HFd.out.lo; omega)))
     have HG4:=hid (HGd.out.keep (w':=w4) HFd.out.lo.2.2 hB4.size (fun b hb=>hB4.block b hb))
     have HC4:Hid (ClB w4 wr.heap.size c):=HCd.out.below hB4 HLd.out
     have HL4:Hid (wr.heap.size < w4.heap.size):=zH HLd.out hB4.size
     have HLp:Hid (LapV w4 Wd.heap.size w4.heap.size (atC l k) (ydd y1 y2 y3 y4 y5 y6)):=by show LapV _ _ _ _ _; rw [Hat.out]; exact hL
     have HB4:=hid hB4
     clear hL hB4
     (try go_wp2_with fail)
     refine hK.out _ _ HC4 (fun hHeld=>?_)
     clear hK K hHeld
     try simp only [zP]
     refine zzK 7 (fun K hK=>?_)
     obtain ⟨W5,hW5⟩:∃W5,w4.alloc (.cells #[ydd y1 y2 y3 y4 y5 y6] 154)=W5:=⟨_,rfl⟩
     have hB5:Below w4.heap.size w4 W5:=by rw [←hW5]; exact yaa (Below.refl _ _) (zG _)
     have HC5:Hid (ClB W5 wr.heap.size c):=HC4.out.below hB5 HL4.out
     have HL5:Hid (wr.heap.size < W5.heap.size):=zH HL4.out hB5.size
     have HG5:=hid (HG4.out.keep (w':=W5) HF4.out.lo.2.2 hB5.size (fun b hb=>hB5.block b hb))
     have HF5:=hid (HF4.out.keep (w':=W5) (HF4.out.bel.trans (hB5.mono HF4.out.bel.size)) hB5.size (fun b hb=>hB5.block b (by have:=HF4.out.lo; omega)))
     have HB5:=hid hB5
     have HW5:=hid hW5
     clear hB5 hW5
     go_simp
     rw [HW5.out]
     refine hK.out _ _ HC5 (fun hHeld=>?_)
     clear hK K hHeld
     try simp only [zP]
     have hap:=yeY eLapF W5 149 HG5.out.o1 (ax:=some ⟨w4.heap.size,0,none⟩) (m:=1) (c:=1) (news:= [ydd y1 y2 y3 y4 y5 y6]) rfl ?_ (fun h=>by cases h) ?_ (by have:=H8.out; omega) (by have:=H8.out; omega) HF5.out.bel.size
     rotate_left
     ·refine .inr ⟨w4.heap.size,0,rfl,by rw [←HW5.out]; simp,fun j hj=>?_⟩
      have:j=0:=by simp at hj; omega
      subst this
      rw [←HW5.out]; simp
     ·intro u hu; simp at hu; subst hu; rfl
     obtain ⟨a6,cap6,w6,hr6,ho6,hg6,hb6,hn6⟩:=hap
     have hg46:w4.grownBy w6 v1.ownBlock:=ybU (by rw [←HW5.out]; exact World.grownBy_alloc w4 _ _) hg6
     have hC6:ClB w6 wr.heap.size c:=fun j x hx=>by
      have e:v1.ownBlock≠some wr.heap.size:=fun e=>by have:=(yaX HGr.out.o1 e).2; omega
      exact (zzJ (w:=W5) (a:=⟨wr.heap.size,0+j,none⟩) (hg6.block wr.heap.size HL5.out (fun e'=>e e'.symm))).trans (HC5.out j x hx)
     have hF6:=HF5.out.keep (w':=w6) (HF5.out.bel.trans hb6) hg6.size (fun b hb=>hg6.block b (by have:=HF5.out.lo; omega) (fun e=>by have:=HG5.out.b1 b e.symm; omega))
     have r16:w6.cell? ⟨br,1,none⟩=some v1:=(zzJ (w:=W5) (a:=⟨br,1,none⟩) (hg6.block br HF5.out.lo.2.2 (fun e=>by have:=HG5.out.b1 br e.symm; omega))).trans HG5.out.r1
     have hn46:∀b,(Value.slice a6 (k+1) cap6).ownBlock=some b→v1.ownBlock=some b∨w4.heap.size≤b:=fun b e=>(hn6 b e).imp id (fun h=>zI HB5.out.size h)
     have HGn:=hid (HGr.out.lap (gv:=ydd y1 y2 y3 y4 y5 y6) HFr.out.lo.2.2 (HBrd.out.trans (HB4.out.mono HBrd.out.size)) HBrd.out.size HLp.out ho6 hg46 hn46)
     have HC6:=hid hC6
     have HF6:=hid hF6
     have HR16:=hid r16
     have HL6:Hid (wr.heap.size < w6.heap.size):=zH HL5.out hg6.size
     clear hg46 hC6 hF6 r16 hn46 hn6 hb6 hg6 ho6
     refine zzK 8 (fun K hK=>?_)
     rw [if_pos (by rfl)]
     refine yiE (.tmp 31) (.tmp 34) rfl rfl rfl hr6 ?_
     refine hK.out _ _ HC6 (fun hHeld=>?_)
     clear hK K hHeld hr6
     try simp only [zP]
     refine zhE 9 ?_
     refine zhE 10 ?_
     have r16:=HR16.out
     have f16:=HF6.out.fz 1
     refine zzK 11 (fun K hK=>?_)
     go_simp
     obtain ⟨w7,hw7⟩:∃w7,w6.setCell ⟨br,1,none⟩ (.slice a6 (k+1) cap6)=w7:=⟨_,rfl⟩
     have hF7:=HF6.out.set (v:= .slice a6 (k+1) cap6) (i:=1) (.inl rfl)
     have hC7:ClB w7 wr.heap.size c:=fun j x hx=>by
      rw [←hw7,zzL _ _ _ _ (by intro e; injection e with e _ _; have:=HFr.out.lo; omega)]; exact HC6.out j x hx
     rw [hw7] at hF7 HGn⊢
     have HF7:=hid hF7
     have HC7:=hid hC7
     clear hF7 hC7 hw7 r16 f16
     refine hK.out _ _ HC7 (fun hHeld=>?_)
     clear hK K hHeld
     refine wpAnyH_done (by kernel_rfl) ?_ _
     have r37:=HGn.out.r3
     have o8:=hid ((HGn.out.o3).alloc (.map #[] 0))
     have hz8:Hid (W.heap.size≤(w7.alloc (.map #[] 0)).heap.size):=by have:=HF7.out.bel.size; simp [Hid]; omega
     have h8:=H8.out
     have hmm3:=hmm.out
     go_wp2_with (at_builtin; refine app1 eMapS (.tmp 42) (.tmp 44) rfl rfl rfl rfl (by simp) o8.out rfl (by omega) (by omega) hz8.out ?_)
     intro a9 cap9 w9 ho9 hg9 hb9 hn9
     have hB9:∀b,b < w7.heap.size→v3.ownBlock≠some b→w9.heap[b]? =w7.heap[b]?:=fun b g1 g2=>(hg9.block b (by simp; omega) (fun e=>g2 e.symm)).trans ((yaa (o:= .map #[] 0) (Below.refl w7.heap.size w7) (zG _)).block b g1)
     have hs9:w7.heap.size+1≤w9.heap.size:=by have:=hg9.size; simpa using this
     have hbe9:Below W.heap.size W w9:=HF7.out.bel.trans ((yaa (o:= .map #[] 0) (Below.refl W.heap.size w7) HF7.out.bel.size).trans hb9)
     have h3b:∀b,b≤br→v3.ownBlock≠some b:=fun b hb e=>by have:=HGn.out.b3 b e; omega
     have hF9:=HF7.out.keep (w':=w9) hbe9 (by omega) (fun b hb=>hB9 b (by have:=HF7.out.lo; omega) (h3b b hb))
     have r39:w9.cell? ⟨br,3,none⟩=some v3:=(zzJ (w:=w7) (a:=⟨br,3,none⟩) (hB9 br HF7.out.lo.2.2 (h3b br (zG _)))).trans HGn.out.r3
     have f39:=hF9.fz 3
     have HFx:=hid (hF9.set (v:= .slice a9 (k+1) cap9) (i:=3) (.inr rfl))
     have HGx:=hid (HGn.out.part HF7.out.lo.2.2 (v3':= .slice a9 (k+1) cap9) (w6:=w9) (by rw [List.map_append]; exact ho9) hg9 (fun b e=>by rcases hn9 b e with h | h; exact .inl h; exact .inr (by omega)))
     clear r37 hmm3 ho9 hg9 hb9 hn9 hB9 hs9 hbe9 h3b hF9
     go_wp2
     exact ⟨⟨k+1,by go_num,by omega,HFx.out,_,_,_,_,HGx.out⟩,by simp [intOf]; omega⟩
    ·go_simp
     refine (cL.out Wd).mono ?_
     clear cL
     rintro e w4 ⟨⟨gv,rfl,hL⟩,hB4⟩
     have hL0:=hL
     obtain ⟨y1,y2,y3,y4,y5,y6,fv,rfl,-⟩:=hL0
     have HF4:=hid (HFd.out.keep (w':=w4) (HFd.out.bel.trans (hB4.mono HFd.out.bel.size)) hB4.size (fun b hb=>hB4.block b (by have:=HFd.out.lo; omega)))
     have HG4:=hid (HGd.out.keep (w':=w4) HFd.out.lo.2.2 hB4.size (fun b hb=>hB4.block b hb))
     have HC4:Hid (ClB w4 wr.heap.size c):=HCd.out.below hB4 HLd.out
     have HL4:Hid (wr.heap.size < w4.heap.size):=zH HLd.out hB4.size
     have HLp:Hid (LapV w4 Wd.heap.size w4.heap.size (atC l k) (ydd y1 y2 y3 y4 y5 y6)):=by show LapV _ _ _ _ _; rw [Hat.out]; exact hL
     have HB4:=hid hB4
     clear hL hB4
     (try go_wp2_with fail)
     refine hK.out _ _ HC4 (fun hHeld=>?_)
     clear hK K hHeld
     try simp only [zP]
     refine wpAnyH_ready (rs:= [4,7]) (by kernel_rfl) (by simp) ?_
     refine AllReadyH.cons rfl (fun K hK=>?_) (AllReadyH.cons rfl (fun K hK=>?_) AllReadyH.nil)
     ·have r1:=HG4.out.r1
      go_simp
      clear r1
      refine hK.out _ _ HC4 (fun hHeld=>?_)
      clear hK K hHeld
      try simp only [zP]
      refine zzK 7 (fun K hK=>?_)
      obtain ⟨W5,hW5⟩:∃W5,w4.alloc (.cells #[ydd y1 y2 y3 y4 y5 y6] 154)=W5:=⟨_,rfl⟩
      have hB5:Below w4.heap.size w4 W5:=by rw [←hW5]; exact yaa (Below.refl _ _) (zG _)
      have HC5:Hid (ClB W5 wr.heap.size c):=HC4.out.below hB5 HL4.out
      have HL5:Hid (wr.heap.size < W5.heap.size):=zH HL4.out hB5.size
      have HG5:=hid (HG4.out.keep (w':=W5) HF4.out.lo.2.2 hB5.size (fun b hb=>hB5.block b hb))
      have HF5:=hid (HF4.out.keep (w':=W5) (HF4.out.bel.trans (hB5.mono HF4.out.bel.size)) hB5.size (fun b hb=>hB5.block b (by have:=HF4.out.lo; omega)))
      have HB5:=hid hB5
      have HW5:=hid hW5
      clear hB5 hW5
      go_simp
      rw [HW5.out]
      refine hK.out _ _ HC5 (fun hHeld=>?_)
      clear hK K hHeld
      try simp only [zP]
      have hap:=yeY eLapF W5 149 HG5.out.o1 (ax:=some ⟨w4.heap.size,0,none⟩) (m:=1) (c:=1) (news:= [ydd y1 y2 y3 y4 y5 y6]) rfl ?_ (fun h=>by cases h) ?_ (by have:=H8.out; omega) (by have:=H8.out; omega) HF5.out.bel.size
      rotate_left
      ·refine .inr ⟨w4.heap.size,0,rfl,by rw [←HW5.out]; simp,fun j hj=>?_⟩
       have:j=0:=by simp at hj; omega
       subst this
       rw [←HW5.out]; simp
      ·intro u hu; simp at hu; subst hu; rfl
      obtain ⟨a6,cap6,w6,hr6,ho6,hg6,hb6,hn6⟩:=hap
      have hg46:w4.grownBy w6 v1.ownBlock:=ybU (by rw [←HW5.out]; exact World.grownBy_alloc w4 _ _) hg6
      have hC6:ClB w6 wr.heap.size c:=fun j x hx=>by
       have e:v1.ownBlock≠some wr.heap.size:=fun e=>by have:=(yaX HGr.out.o1 e).2; omega
       exact (zzJ (w:=W5) (a:=⟨wr.heap.size,0+j,none⟩) (hg6.block wr.heap.size HL5.out (fun e'=>e e'.symm))).trans (HC5.out j x hx)
      have hF6:=HF5.out.keep (w':=w6) (HF5.out.bel.trans hb6) hg6.size (fun b hb=>hg6.block b (by have:=HF5.out.lo; omega) (fun e=>by have:=HG5.out.b1 b e.symm; omega))
      have r16:w6.cell? ⟨br,1,none⟩=some v1:=(zzJ (w:=W5) (a:=⟨br,1,none⟩) (hg6.block br HF5.out.lo.2.2 (fun e=>by have:=HG5.out.b1 br e.symm; omega))).trans HG5.out.r1
      have hn46:∀b,(Value.slice a6 (k+1) cap6).ownBlock=some b→v1.ownBlock=some b∨w4.heap.size≤b:=fun b e=>(hn6 b e).imp id (fun h=>zI HB5.out.size h)
      have HGn:=hid (HGr.out.lap (gv:=ydd y1 y2 y3 y4 y5 y6) HFr.out.lo.2.2 (HBrd.out.trans (HB4.out.mono HBrd.out.size)) HBrd.out.size HLp.out ho6 hg46 hn46)
      have HC6:=hid hC6
      have HF6:=hid hF6
      have HR16:=hid r16
      have HL6:Hid (wr.heap.size < w6.heap.size):=zH HL5.out hg6.size
      clear hg46 hC6 hF6 r16 hn46 hn6 hb6 hg6 ho6
      refine zzK 8 (fun K hK=>?_)
      rw [if_pos (by rfl)]
      refine yiE (.tmp 31) (.tmp 34) rfl rfl rfl hr6 ?_
      refine hK.out _ _ HC6 (fun hHeld=>?_)
      clear hK K hHeld hr6
      try simp only [zP]
      refine zhE 9 ?_
      refine zhE 10 ?_
      have r16:=HR16.out
      have f16:=HF6.out.fz 1
      refine zzK 11 (fun K hK=>?_)
      go_simp
      obtain ⟨w7,hw7⟩:∃w7,w6.setCell ⟨br,1,none⟩ (.slice a6 (k+1) cap6)=w7:=⟨_,rfl⟩
      have hF7:=HF6.out.set (v:= .slice a6 (k+1) cap6) (i:=1) (.inl rfl)
      have hC7:ClB w7 wr.heap.size c:=fun j x hx=>by
       rw [←hw7,zzL _ _ _ _ (by intro e; injection e with e _ _; have:=HFr.out.lo; omega)]; exact HC6.out j x hx
      rw [hw7] at hF7 HGn⊢
      have HF7:=hid hF7
      have HC7:=hid hC7
      clear hF7 hC7 hw7 r16 f16
      refine hK.out _ _ HC7 (fun hHeld=>?_)
      clear hK K hHeld
      refine wpAnyH_done (by kernel_rfl) ?_ _
      have r37:=HGn.out.r3
      have o8:=hid ((HGn.out.o3).alloc (.map #[] 0))
      have hz8:Hid (W.heap.size≤(w7.alloc (.map #[] 0)).heap.size):=by have:=HF7.out.bel.size; simp [Hid]; omega
      have h8:=H8.out
      have hmm3:=hmm.out
      go_wp2_with (at_builtin; refine app1 eMapS (.tmp 42) (.tmp 44) rfl rfl rfl rfl (by simp) o8.out rfl (by omega) (by omega) hz8.out ?_)
      intro a9 cap9 w9 ho9 hg9 hb9 hn9
      have hB9:∀b,b < w7.heap.size→v3.ownBlock≠some b→w9.heap[b]? =w7.heap[b]?:=fun b g1 g2=>(hg9.block b (by simp; omega) (fun e=>g2 e.symm)).trans ((yaa (o:= .map #[] 0) (Below.refl w7.heap.size w7) (zG _)).block b g1)
      have hs9:w7.heap.size+1≤w9.heap.size:=by have:=hg9.size; simpa using this
      have hbe9:Below W.heap.size W w9:=HF7.out.bel.trans ((yaa (o:= .map #[] 0) (Below.refl W.heap.size w7) HF7.out.bel.size).trans hb9)
      have h3b:∀b,b≤br→v3.ownBlock≠some b:=fun b hb e=>by have:=HGn.out.b3 b e; omega
      have hF9:=HF7.out.keep (w':=w9) hbe9 (by omega) (fun b hb=>hB9 b (by have:=HF7.out.lo; omega) (h3b b hb))
      have r39:w9.cell? ⟨br,3,none⟩=some v3:=(zzJ (w:=w7) (a:=⟨br,3,none⟩) (hB9 br HF7.out.lo.2.2 (h3b br (zG _)))).trans HGn.out.r3
      have f39:=hF9.fz 3
      have HFx:=hid (hF9.set (v:= .slice a9 (k+1) cap9) (i:=3) (.inr rfl))
      have HGx:=hid (HGn.out.part HF7.out.lo.2.2 (v3':= .slice a9 (k+1) cap9) (w6:=w9) (by rw [List.map_append]; exact ho9) hg9 (fun b e=>by rcases hn9 b e with h | h; exact .inl h; exact .inr (by omega)))
      clear r37 hmm3 ho9 hg9 hb9 hn9 hB9 hs9 hbe9 h3b hF9
      go_wp2
      exact ⟨⟨k+1,by go_num,by omega,HFx.out,_,_,_,_,HGx.out⟩,by simp [intOf]; omega⟩
     ·obtain ⟨W5,hW5⟩:∃W5,w4.alloc (.cells #[ydd y1 y2 y3 y4 y5 y6] 154)=W5:=⟨_,rfl⟩
      have hB5:Below w4.heap.size w4 W5:=by rw [←hW5]; exact yaa (Below.refl _ _) (zG _)
      have HC5:Hid (ClB W5 wr.heap.size c):=HC4.out.below hB5 HL4.out
      have HL5:Hid (wr.heap.size < W5.heap.size):=zH HL4.out hB5.size
      have HG5:=hid (HG4.out.keep (w':=W5) HF4.out.lo.2.2 hB5.size (fun b hb=>hB5.block b hb))
      have HF5:=hid (HF4.out.keep (w':=W5) (HF4.out.bel.trans (hB5.mono HF4.out.bel.size)) hB5.size (fun b hb=>hB5.block b (by have:=HF4.out.lo; omega)))
      have HB5:=hid hB5
      have HW5:=hid hW5
      clear hB5 hW5
      go_simp
      rw [HW5.out]
      refine hK.out _ _ HC5 (fun hHeld=>?_)
      clear hK K hHeld
      try simp only [zP]
      refine zzK 4 (fun K hK=>?_)
      have r1:=HG5.out.r1
      go_simp
      clear r1
      refine hK.out _ _ HC5 (fun hHeld=>?_)
      clear hK K hHeld
      try simp only [zP]
      have hap:=yeY eLapF W5 149 HG5.out.o1 (ax:=some ⟨w4.heap.size,0,none⟩) (m:=1) (c:=1) (news:= [ydd y1 y2 y3 y4 y5 y6]) rfl ?_ (fun h=>by cases h) ?_ (by have:=H8.out; omega) (by have:=H8.out; omega) HF5.out.bel.size
      rotate_left
      ·refine .inr ⟨w4.heap.size,0,rfl,by rw [←HW5.out]; simp,fun j hj=>?_⟩
       have:j=0:=by simp at hj; omega
       subst this
       rw [←HW5.out]; simp
      ·intro u hu; simp at hu; subst hu; rfl
      obtain ⟨a6,cap6,w6,hr6,ho6,hg6,hb6,hn6⟩:=hap
      have hg46:w4.grownBy w6 v1.ownBlock:=ybU (by rw [←HW5.out]; exact World.grownBy_alloc w4 _ _) hg6
      have hC6:ClB w6 wr.heap.size c:=fun j x hx=>by
       have e:v1.ownBlock≠some wr.heap.size:=fun e=>by have:=(yaX HGr.out.o1 e).2; omega
       exact (zzJ (w:=W5) (a:=⟨wr.heap.size,0+j,none⟩) (hg6.block wr.heap.size HL5.out (fun e'=>e e'.symm))).trans (HC5.out j x hx)
      have hF6:=HF5.out.keep (w':=w6) (HF5.out.bel.trans hb6) hg6.size (fun b hb=>hg6.block b (by have:=HF5.out.lo; omega) (fun e=>by have:=HG5.out.b1 b e.symm; omega))
      have r16:w6.cell? ⟨br,1,none⟩=some v1:=(zzJ (w:=W5) (a:=⟨br,1,none⟩) (hg6.block br HF5.out.lo.2.2 (fun e=>by have:=HG5.out.b1 br e.symm; omega))).trans HG5.out.r1
      have hn46:∀b,(Value.slice a6 (k+1) cap6).ownBlock=some b→v1.ownBlock=some b∨w4.heap.size≤b:=fun b e=>(hn6 b e).imp id (fun h=>zI HB5.out.size h)
      have HGn:=hid (HGr.out.lap (gv:=ydd y1 y2 y3 y4 y5 y6) HFr.out.lo.2.2 (HBrd.out.trans (HB4.out.mono HBrd.out.size)) HBrd.out.size HLp.out ho6 hg46 hn46)
      have HC6:=hid hC6
      have HF6:=hid hF6
      have HR16:=hid r16
      have HL6:Hid (wr.heap.size < w6.heap.size):=zH HL5.out hg6.size
      clear hg46 hC6 hF6 r16 hn46 hn6 hb6 hg6 ho6
      refine zzK 8 (fun K hK=>?_)
      rw [if_pos (by rfl)]
      refine yiE (.tmp 31) (.tmp 34) rfl rfl rfl hr6 ?_
      refine hK.out _ _ HC6 (fun hHeld=>?_)
      clear hK K hHeld hr6
      try simp only [zP]
      refine zhE 9 ?_
      refine zhE 10 ?_
      have r16:=HR16.out
      have f16:=HF6.out.fz 1
      refine zzK 11 (fun K hK=>?_)
      go_simp
      obtain ⟨w7,hw7⟩:∃w7,w6.setCell ⟨br,1,none⟩ (.slice a6 (k+1) cap6)=w7:=⟨_,rfl⟩
      have hF7:=HF6.out.set (v:= .slice a6 (k+1) cap6) (i:=1) (.inl rfl)
      have hC7:ClB w7 wr.heap.size c:=fun j x hx=>by
       rw [←hw7,zzL _ _ _ _ (by intro e; injection e with e _ _; have:=HFr.out.lo; omega)]; exact HC6.out j x hx
      rw [hw7] at hF7 HGn⊢
      have HF7:=hid hF7
      have HC7:=hid hC7
      clear hF7 hC7 hw7 r16 f16
      refine hK.out _ _ HC7 (fun hHeld=>?_)
      clear hK K hHeld
      refine wpAnyH_done (by kernel_rfl) ?_ _
      have r37:=HGn.out.r3
      have o8:=hid ((HGn.out.o3).alloc (.map #[] 0))
      have hz8:Hid (W.heap.size≤(w7.alloc (.map #[] 0)).heap.size):=by have:=HF7.out.bel.size; simp [Hid]; omega
      have h8:=H8.out
      have hmm3:=hmm.out
      go_wp2_with (at_builtin; refine app1 eMapS (.tmp 42) (.tmp 44) rfl rfl rfl rfl (by simp) o8.out rfl (by omega) (by omega) hz8.out ?_)
      intro a9 cap9 w9 ho9 hg9 hb9 hn9
      have hB9:∀b,b < w7.heap.size→v3.ownBlock≠some b→w9.heap[b]? =w7.heap[b]?:=fun b g1 g2=>(hg9.block b (by simp; omega) (fun e=>g2 e.symm)).trans ((yaa (o:= .map #[] 0) (Below.refl w7.heap.size w7) (zG _)).block b g1)
      have hs9:w7.heap.size+1≤w9.heap.size:=by have:=hg9.size; simpa using this
      have hbe9:Below W.heap.size W w9:=HF7.out.bel.trans ((yaa (o:= .map #[] 0) (Below.refl W.heap.size w7) HF7.out.bel.size).trans hb9)
      have h3b:∀b,b≤br→v3.ownBlock≠some b:=fun b hb e=>by have:=HGn.out.b3 b e; omega
      have hF9:=HF7.out.keep (w':=w9) hbe9 (by omega) (fun b hb=>hB9 b (by have:=HF7.out.lo; omega) (h3b b hb))
      have r39:w9.cell? ⟨br,3,none⟩=some v3:=(zzJ (w:=w7) (a:=⟨br,3,none⟩) (hB9 br HF7.out.lo.2.2 (h3b br (zG _)))).trans HGn.out.r3
      have f39:=hF9.fz 3
      have HFx:=hid (hF9.set (v:= .slice a9 (k+1) cap9) (i:=3) (.inr rfl))
      have HGx:=hid (HGn.out.part HF7.out.lo.2.2 (v3':= .slice a9 (k+1) cap9) (w6:=w9) (by rw [List.map_append]; exact ho9) hg9 (fun b e=>by rcases hn9 b e with h | h; exact .inl h; exact .inr (by omega)))
      clear r37 hmm3 ho9 hg9 hb9 hn9 hB9 hs9 hbe9 h3b hF9
      go_wp2
      exact ⟨⟨k+1,by go_num,by omega,HFx.out,_,_,_,_,HGx.out⟩,by simp [intOf]; omega⟩
   ·have hke:k=l.length:=by omega
    subst hke
    obtain ⟨hF,v1,v3,gvs,bps,hG⟩:=HI.out
    have hfin:Hid (NewR W l (.returned (.tuple #[.pointer (some ⟨br,0,none⟩), .int .i64 0])) wr∧Below W.heap.size W wr):=by
     have h:=roll_new hF hG Hok.out (by rw [ydG,Hf.out]; rfl) HT.out
     exact ⟨.inr ⟨Hf.out,br,bk,bps,rfl,h.1,h.2⟩,hF.bel⟩
    clear HI hF hG
    go_wp2
    go_ret2
    exact hfin.out
 ·have ho:outL l= []:=by rw [outL,if_neg hf]
  obtain ⟨X,hX⟩:∃X,yaR l=X:=⟨_,rfl⟩
  have cO2:Hid (Calls Tryz.prog 94 #[.slice a l.length cap] W fun e w'=>(∃v,e= .returned (.tuple #[v, .int .i64 X])∧OwnR W w' [] v)∧Below W.heap.size W w'):=by
   have:=cO.out; unfold OfR at this; rw [hX,ho] at this; exact this
  have hN:Hid (∀w',NewR W l (.returned (.tuple #[.pointer none, .int .i64 X])) w'):=fun w'=> .inl ⟨hf,by rw [hX]⟩
  have hx0:¬X=0:=by rw [←hX]; exact hf
  clear hf ho cO hX Hok HT
  go_enter Tryz.func54,Tryz.ntmps54
  go_wp2_with fail
  refine cO2.out.mono ?_
  rintro e w1 ⟨⟨v,rfl,hO⟩,hB1⟩
  have HB1:=hid hB1
  clear hO hB1
  go_wp2
  go_ret2
  exact ⟨hN.out _,HB1.out⟩
end Go.Proofs.YtjahgimnfliooaaGreatDoor
