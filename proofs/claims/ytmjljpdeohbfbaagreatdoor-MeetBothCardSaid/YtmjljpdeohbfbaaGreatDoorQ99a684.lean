/-
  ferialaw21.MeetWork answers true for every two lists of clauses.
  ferialaw21.MeetBoth answers true for every two lists of clauses.
-/
import Derived.Test.YtmjljpdeohbfbaaGreatDoorQe990fe
import Derived.BigRegion
import Derived.Test.YtmjljpdeohbfbaaGreatDoorQa1fa8d
namespace Go.Proofs.YtmjljpdeohbfbaaGreatDoor
set_option linter.unusedVariables false
section
open Go.RowKit Go.Maps
set_option maxRecDepth 100000 in
set_option maxHeartbeats 12800000 in
theorem MeetWork_walk (a:Option Addr) (cap:Nat) (la:List Cl) (b:Option Addr) (capb:Nat) (lb:List Cl) (w:World)
  (hl:la.length≤9223372036854775807) (hlc:la.length≤cap) (hs:Sl w a (cls la)) (hno:a=none→cap=0) (hok:∀c∈la,c.Ok)
  (hlb:lb.length≤9223372036854775807) (hlcb:lb.length≤capb) (hsb:Sl w b (cls lb)) (hnob:b=none→capb=0) (hokb:∀c∈lb,c.Ok) (hT:Tab w) :
  Calls Tryz.prog 4 #[.slice a la.length cap, .slice b lb.length capb] w fun e w'=>e= .returned (.bool true)∧Below w.heap.size w w':=by
 have cL:=hid (fun W (hB:Below w.heap.size w W)=>Lives21_any W (hT.later hB))
 by_cases h20:20 < la.length
 ·clear hs hok hno hsb hokb hnob hT
  go_enter Tryz.func4,Tryz.ntmps4
  have q:=hid (cL.out w (Below.refl _ _))
  go_wp2_with fail
  refine q.out.mono ?_
  rintro e w1 ⟨rfl,hB⟩
  have HB1:=hid (hB)
  clear hB q 
  go_wp2
  go_ret
  exact ⟨rfl,HB1.out⟩
 by_cases h21:20 < lb.length
 ·clear hs hok hno hsb hokb hnob hT
  go_enter Tryz.func4,Tryz.ntmps4
  have q:=hid (cL.out w (Below.refl _ _))
  go_wp2_with fail
  refine q.out.mono ?_
  rintro e w1 ⟨rfl,hB⟩
  have HB1:=hid (hB)
  clear hB q 
  go_wp2
  go_ret
  exact ⟨rfl,HB1.out⟩
 obtain ⟨D,hD⟩:∃D,dM (hF la) (hU la) (hF lb) (hU lb)=D:=⟨_,rfl⟩
 have hDm:∀n∈D,0≤n∧n < 146097:=fun n hn=>by
  obtain ⟨k,hk⟩:=List.getElem?_of_mem hn
  rw [←hD] at hk
  exact ⟨(dM_mem hk).1,(dM_mem hk).2.1⟩
 have cW:=hid (MWork_any a cap la b capb lb w (fun k j ws m=>WkI la D (la.length≤8) k j ws m) (fun k j ws m=>WkI lb D (lb.length≤8) k j ws m)
  (fun k j n ws m ws' m' hn h hs=>h.step id (hD ▸ hn) hs) (fun k j n ws m ws' m' hn h hs=>h.step id (hD ▸ hn) hs) (fun k j ws m h=>h.skip) (fun k j ws m h=>h.skip)
  (fun k j ws m h hj=>by have:=h.mj; omega) (fun k j ws m h hj=>by have:=h.mj; omega) (fun _=>WkI.start _ _ _) (fun _=>WkI.start _ _ _)
  (by omega) hlc hs hno hok (by omega) hlcb hsb hnob hokb hT)
 have cE:=hid (fun W (hB:Below w.heap.size w W)=>MtEqual_any a cap la b capb lb W (by omega) hlc (hs.below hB) hno hok (by omega) hlcb (hsb.below hB) hnob hokb (hT.later hB))
 have cF:=hid (fun W (hB:Below w.heap.size w W)=>Fault21_any a cap la b capb lb W (by omega) hlc (hs.below hB) hno hok (by omega) hlcb (hsb.below hB) hnob hokb)
 have cS:=hid (fun W (hB:Below w.heap.size w W)=>RSteps_any a cap la W (by omega) (hs.below hB) hok)
 have cS2:=hid (fun W (hB:Below w.heap.size w W)=>RSteps_any b capb lb W (by omega) (hsb.below hB) hokb)
 have HSa:=hid (fun W (hB:Below w.heap.size w W)=>hs.below hB)
 have HSb:=hid (fun W (hB:Below w.heap.size w W)=>hsb.below hB)
 have HD:=hid (And.intro hD hDm)
 clear hs hok hno hsb hokb hnob hT hD hDm
 go_enter Tryz.func4,Tryz.ntmps4
 have q:=cW
 go_wp2_with fail
 refine q.out.mono ?_
 rintro e w1 ⟨hW,hB⟩
 have HB1:=hid (hB)
 clear hB q cW
 rcases hW with ⟨hf,rfl⟩ | ⟨hf,hf2,rfl⟩ | ⟨hf,hf2,t,ok,wa,wb,ma,mb,j,kD,rfl,hFD,hA,hB,hkD⟩
 ·have hF2:fault2 la lb=faultL la:=by rw [fault2,if_pos hf]
  obtain ⟨X,hX⟩:∃X,faultL la=X:=⟨_,rfl⟩
  rw [hX] at hF2 hf⊢
  rw [hF2] at cF
  have hn:(X == 0)=false:=by simpa using hf
  have hn2:(X != 0)=true:=by simpa using hf
  clear hF2 hX cE cS cS2
  have q:=hid (cF.out w1 HB1.out)
  go_wp2_with fail
  refine q.out.mono ?_
  rintro e w2 ⟨rfl,hB⟩
  have HB2:=hid (HB1.out.trans (hB.mono HB1.out.size))
  clear hB q 
  have q:=hid (cL.out w2 HB2.out)
  go_wp2_with fail
  refine q.out.mono ?_
  rintro e w3 ⟨rfl,hB⟩
  have HB3:=hid (HB2.out.trans (hB.mono HB2.out.size))
  clear hB q 
  go_wp2
  go_ret
  exact ⟨rfl,HB3.out⟩
 ·have hF2:fault2 la lb=faultL lb:=by rw [fault2,if_neg (by simpa using hf)]
  obtain ⟨X,hX⟩:∃X,faultL lb=X:=⟨_,rfl⟩
  rw [hX] at hF2 hf2⊢
  rw [hF2] at cF
  have hn:(X == 0)=false:=by simpa using hf2
  have hn2:(X != 0)=true:=by simpa using hf2
  clear hF2 hX cE cS cS2
  have q:=hid (cF.out w1 HB1.out)
  go_wp2_with fail
  refine q.out.mono ?_
  rintro e w2 ⟨rfl,hB⟩
  have HB2:=hid (HB1.out.trans (hB.mono HB1.out.size))
  clear hB q 
  have q:=hid (cL.out w2 HB2.out)
  go_wp2_with fail
  refine q.out.mono ?_
  rintro e w3 ⟨rfl,hB⟩
  have HB3:=hid (HB2.out.trans (hB.mono HB2.out.size))
  clear hB q 
  go_wp2
  go_ret
  exact ⟨rfl,HB3.out⟩
 ·have hF2:fault2 la lb=0:=by rw [fault2,if_neg (by simpa using hf),hf2]
  rw [hF2] at cF
  have hma:=fault_may hf
  have hmb:=fault_may hf2
  have h8a:la.length≤8:=mayL_len hma
  have h8b:lb.length≤8:=mayL_len hmb
  have hj:j≤146097:=zI hFD.j_le (dM_len _ _ _ _)
  have ba:=hA.mj
  have bb:=hB.mj
  have hfp:=first_plain rfl hFD
  have HA:=hid hA
  have HBb:=hid hB
  have HF2:=hid hF2
  have Hla:Hid (la.length≤8):=h8a
  have Hlb:Hid (lb.length≤8):=h8b
  have Hm:=hid (And.intro hma hmb)
  clear hf hf2 hFD hA hB hkD hF2 hma hmb
  have q:=hid (cF.out w1 HB1.out)
  go_wp2_with fail
  refine q.out.mono ?_
  rintro e w2 ⟨rfl,hB⟩
  have HB2:=hid (HB1.out.trans (hB.mono HB1.out.size))
  clear hB q 
  have q:=hid (cE.out w2 HB2.out)
  go_wp2_with fail
  refine q.out.mono ?_
  rintro e w3 ⟨⟨y1,t1,f1,er1,rfl,hV1⟩,hB⟩
  have HB3:=hid (HB2.out.trans (hB.mono HB2.out.size))
  clear hB q 
  unfold verV
  go_upto_region 8 with fail
  obtain ⟨w4,hw⟩:∃W,w3.alloc (.cells #[.bool y1, .int .i64 t1, .bool f1] 26)=W:=⟨_,rfl⟩
  have hB:Below w3.heap.size w3 w4:=by rw [←hw]; exact below_new (Below.refl _ _) (zG _)
  have kb:=vrB_new w3 26 y1 t1 f1
  rw [hw] at kb
  rw [hw]
  obtain ⟨v,hb⟩:∃c,w3.heap.size=c:=⟨_,rfl⟩
  rw [hb] at kb
  rw [hb]
  have HB4:=hid (HB3.out.trans (hB.mono HB3.out.size))
  have Kv_4:=hid kb
  clear hB hw hb kb
  have hz:=hV1.1
  rw [HF2.out] at hz
  subst hz
  have hV:=hV1.2.2 rfl
  clear hV1
  have hday:y1=false→(j:Int)≤t1 / 86400+1∧0≤t1∧t1 < 12622780800:=fun hy=>by
   rcases hV with ⟨-,rfl,-,-⟩ | ⟨hL,-,-⟩
   ·cases hy
   ·rcases hfp.1 with ⟨-,hL2,hj2⟩ | ⟨-,-,hN⟩
    ·cases hL.unique hL2; exact ⟨hj2,hL.1,hL.2.1⟩
    ·have:=hL.2.2.1; rw [hN t1] at this; cases this
  have hw2:IntKind.i64.wrap (2 * (j:Int))=2 * (j:Int):=IntWalk.i64_in _ (by omega)
  have d1:decide ((j:Int) < 0)=false:=by simp
  have d2:decide (146097 < (j:Int))=false:=by simp; omega
  have d3:decide (2 * (j:Int) < (ma:Int)+mb)=false:=by simp; omega
  obtain ⟨sa,hsa⟩:∃x,la.countP stpB=x:=⟨_,rfl⟩
  obtain ⟨sb,hsb⟩:∃x,lb.countP stpB=x:=⟨_,rfl⟩
  rw [hsa] at cS
  rw [hsb] at cS2
  have hsal:sa≤8:=by have:=countP_bd stpB la la.length; rw [List.take_of_length_le (zG _),hsa] at this; omega
  have hsbl:sb≤8:=by have:=countP_bd stpB lb lb.length; rw [List.take_of_length_le (zG _),hsb] at this; omega
  have HSab:=hid (And.intro hsa hsb)
  have Hmm:=hid (And.intro ba bb)
  have hsm:IntKind.i64.wrap ((sa:Int)+sb)= (sa:Int)+sb:=IntWalk.i64_in _ (by omega)
  clear hV hfp ba bb hsa hsb
  obtain ⟨v0,v1,v2,-⟩:=Kv_4.out
  have hov:∃q1 q2:Bool,y1=q1∧(q1=false→IntKind.i64.wrap (Int.tdiv t1 86400)=t1 / 86400∧IntKind.i64.wrap (t1 / 86400+1)=t1 / 86400+1∧decide (t1 / 86400+1 < (j:Int))=false):=by
   refine ⟨y1,true,rfl,fun hy=>?_⟩
   obtain ⟨h1,h2,h3⟩:=hday hy
   refine ⟨?_,IntWalk.i64_in _ (by omega),by simp; omega⟩
   rw [Int.tdiv_eq_ediv_of_nonneg h2]; exact IntWalk.i64_in _ (by omega)
  obtain ⟨q1,-,rfl,hq1⟩:=hov
  clear hday
  go_cut [5,6,86] from 87 (fun xv mv bv wx=>xv= .int .i64 j∧mv= .int .i64 ((ma:Int)+mb)∧bv= .bool false∧w4=wx)
  case first=>
   cases y1
   ·obtain ⟨g1,g2,g3⟩:=hq1 rfl
    clear hq1 cS cS2 cL
    go_wp2_with fail
    go_meet
    exact ⟨rfl,rfl,rfl,rfl⟩
   ·clear hq1 cS cS2 cL
    go_wp2_with fail
    go_meet
    exact ⟨rfl,rfl,rfl,rfl⟩
  case rest=>
   obtain ⟨rfl,rfl,rfl,rfl⟩:=hcut
   clear v0 v1 v2 hq1 d1 d2 d3 hw2
   have q:=hid (cS.out w4 HB4.out)
   go_wp2_with fail
   refine q.out.mono ?_
   rintro e w5 ⟨rfl,hB⟩
   have HB5:=hid (HB4.out.trans (hB.mono HB4.out.size))
   have Kv_5:=hid (Kv_4.out.below hB)
   clear hB q 
   have q:=hid (cS2.out w5 HB5.out)
   go_wp2_with fail
   refine q.out.mono ?_
   rintro e w6 ⟨rfl,hB⟩
   have HB6:=hid (HB5.out.trans (hB.mono HB5.out.size))
   have Kv_6:=hid (Kv_5.out.below hB)
   clear hB q 
   obtain ⟨st,hst⟩:∃st:Bool,((sa:Int)+sb == 0)=st:=⟨_,rfl⟩
   obtain ⟨P,hP⟩:∃P:Nat→Int,P=fun i=>((2 ^ i:Nat):Int):=⟨_,rfl⟩
   have HP:Hid (P 0=1∧(∀i,i < 8→P (i+1)=2 * P i)∧∀i,i≤8→0≤P i∧P i≤256):=by
    rw [hP]
    refine ⟨rfl,fun i _=>?_,fun i hi=>?_⟩
    ·show ((2 ^ (i+1):Nat):Int)=2 * ((2 ^ i:Nat):Int)
     rw [Nat.pow_succ]
     obtain ⟨p,hp⟩:∃p:Nat,2 ^ i=p:=⟨_,rfl⟩
     rw [hp]; omega
    ·have h9:2 ^ i≤2 ^ 8:=Nat.pow_le_pow_right (n:=2) (by omega) hi
     show 0≤((2 ^ i:Nat):Int)∧((2 ^ i:Nat):Int)≤256
     obtain ⟨p,hp⟩:∃p:Nat,2 ^ i=p:=⟨_,rfl⟩
     rw [hp] at h9⊢
     rw [show (2:Nat) ^ 8=256 from rfl] at h9
     omega
   obtain ⟨Q,hQ⟩:∃Q:List Cl→Nat→Bool,Q=fun l i=>(l.take i).all (fun c=>decide (c.fr≤0) && decide (12622780799≤c.un)):=⟨_,rfl⟩
   have HQ:Hid ((∀l,Q l 0=true)∧∀(l:List Cl) (i:Nat) (hi:i < l.length),Q l (i+1)= (Q l i && (decide (l[i].fr≤0) && decide (12622780799≤l[i].un)))):=by
    rw [hQ]
    refine ⟨fun l=>rfl,fun l i hi=>?_⟩
    show (l.take (i+1)).all _ = ((l.take i).all _ && _)
    rw [take_snoc l i hi,List.all_append]; simp
   have HEnd:Hid ((st && Q la la.length && Q lb lb.length)=true→(ma:Int)+mb≤P la.length+P lb.length):=fun h=>by
    rw [Bool.and_eq_true,Bool.and_eq_true] at h
    obtain ⟨⟨h1,h2⟩,h3⟩:=h
    rw [←hst,beq_iff_eq] at h1
    rw [hQ] at h2 h3
    simp only [List.take_of_length_le (zG _),List.all_eq_true,Bool.and_eq_true,decide_eq_true_eq] at h2 h3
    obtain ⟨e1,e2⟩:=HSab.out
    have n1:=noStep_of Hm.out.1 (by rw [e1]; omega)
    have n2:=noStep_of Hm.out.2 (by rw [e2]; omega)
    have w1:=HA.out.whole Hla.out n1 h2 HD.out.2
    have w2:=HBb.out.whole Hlb.out n2 h3 HD.out.2
    rw [hP]
    show (ma:Int)+mb≤((2 ^ la.length:Nat):Int)+((2 ^ lb.length:Nat):Int)
    omega
   have Hla:=hid (And.intro Hla.out (HSa.out w6 HB6.out))
   have Hlb:=hid (And.intro Hlb.out (HSb.out w6 HB6.out))
   have HwP:Hid (∀i,i≤8→∀x:Int,0≤x→x≤256→IntKind.i64.wrap (x+P i)=x+P i):=fun i hi x h0 h1=>IntWalk.i64_in _ (by have:=HP.out.2.2 i hi; omega)
   have hwm0:IntKind.i64.wrap (0+1:Int)=1:=by decide
   clear hP hQ HSa HSb HA HBb HSab Hm HD hsal hsbl Hmm
   go_wp2_with fail
   go_loopw [11,12,13,14,15,16] (fun mv wv kv lv nv iv wr=>∃k:Nat,kv= .int .i64 k∧w6=wr∧((k=0∧mv= .int .i64 0∧wv= .bool st)∨(k=1∧mv= .int .i64 (P la.length)∧wv= .bool (st && Q la la.length))∨(k=2∧mv= .int .i64 (P la.length+P lb.length)∧wv= .bool (st && Q la la.length && Q lb lb.length)))) (fun _ _ kv _ _ _ _=>2 - (intOf kv).toNat)
   case atStart=>exact ⟨0,rfl,rfl, .inl ⟨rfl,rfl,rfl⟩⟩
   case round=>
    obtain ⟨k,rfl,rfl,⟨rfl,rfl,rfl⟩ | ⟨rfl,rfl,rfl⟩ | ⟨rfl,rfl,rfl⟩⟩:=hrel
    ·go_wp2_with fail
     go_loopw [12,15,16] (fun wv nv iv wr2=>∃i:Nat,iv= .int .i64 i∧i≤la.length∧nv= .int .i64 (P i)∧wv= .bool (st && Q la i)∧w6=wr2) (fun _ _ iv _=>la.length - (intOf iv).toNat)
     case atStart=>
      refine ⟨0,rfl,Nat.zero_le _,by rw [HP.out.1],?_,rfl⟩
      rw [HQ.out.1]; simp
     case round=>
      obtain ⟨i,rfl,hi,rfl,rfl,rfl⟩:=hrel
      by_cases hil:i < la.length
      ·have hdi:decide ((i:Int) < (la.length:Int))=true:=by simp; omega
       obtain ⟨g,off,rfl,hg,hr⟩:=Hla.out.2.atCl hil
       have r28:w6.cell? ⟨g,off+i * 30+28,none⟩=some (.int .i64 la[i].fr):=hr 28 _ rfl
       have r29:w6.cell? ⟨g,off+i * 30+29,none⟩=some (.int .i64 la[i].un):=hr 29 _ rfl
       have hq:=HQ.out.2 la i hil
       have hp:=HP.out.2.1 i (by have:=Hla.out.1; omega)
       have hpb:=HP.out.2.2 i (by have:=Hla.out.1; omega)
       have hpw:IntKind.i64.wrap (2 * P i)=2 * P i:=IntWalk.i64_in _ (by omega)
       obtain ⟨c,hc⟩:∃c,la[i]=c:=⟨_,rfl⟩
       rw [hc] at r28 r29 hq
       obtain ⟨fr,hfr⟩:∃x,c.fr=x:=⟨_,rfl⟩
       obtain ⟨un,hun⟩:∃x,c.un=x:=⟨_,rfl⟩
       rw [hfr] at r28 hq
       rw [hun] at r29 hq
       obtain ⟨x,hx⟩:∃x,(st && Q la i)=x:=⟨_,rfl⟩
       have hx2:(st && Q la (i+1))= (x && (decide (fr≤0) && decide (12622780799≤un))):=by rw [hq,←hx]; simp [Bool.and_assoc]
       have HX2:=hid hx2
       have HPn:=hid hp
       rw [hx]
       clear hr hc hfr hun hq hx hx2 hp
       cases x
       ·clear r28 r29
        go_wp2
        exact ⟨⟨i+1,by go_num,by omega,by rw [HPn.out],by rw [HX2.out]; simp,by first | rfl | trivial⟩,by simp [intOf]; omega⟩
       ·by_cases hf:fr≤0
        ·have hfd:decide (fr≤0)=true:=decide_eq_true hf
         by_cases hu:12622780799≤un
         ·have hud:decide (12622780799≤un)=true:=decide_eq_true hu
          rw [hfd,hud] at HX2
          go_wp2
          exact ⟨⟨i+1,by go_num,by omega,by rw [HPn.out],by rw [HX2.out]; simp,by first | rfl | trivial⟩,by simp [intOf]; omega⟩
         ·have hud:decide (12622780799≤un)=false:=decide_eq_false hu
          rw [hfd,hud] at HX2
          go_wp2
          exact ⟨⟨i+1,by go_num,by omega,by rw [HPn.out],by rw [HX2.out]; simp,by first | rfl | trivial⟩,by simp [intOf]; omega⟩
        ·have hfd:decide (fr≤0)=false:=decide_eq_false hf
         rw [hfd] at HX2
         clear r29
         go_wp2
         exact ⟨⟨i+1,by go_num,by omega,by rw [HPn.out],by rw [HX2.out]; simp,by first | rfl | trivial⟩,by simp [intOf]; omega⟩
      ·obtain rfl:i=la.length:=by omega
       have hdi:decide ((la.length:Int) < (la.length:Int))=false:=by simp
       have hpb:=HP.out.2.2 la.length (by have:=Hla.out.1; omega)
       have hw0:=HwP.out la.length (by have:=Hla.out.1; omega) 0 (by omega) (by omega)
       have hw00:(0:Int)+P la.length=P la.length:=by omega
       rw [hw00] at hw0
       clear hil
       go_wp2
       exact ⟨⟨1,by go_num,by first | rfl | trivial, .inr (.inl ⟨by first | rfl | trivial,by first | rfl | trivial,by first | rfl | trivial⟩)⟩,by simp [intOf]⟩
    ·go_wp2_with fail
     go_loopw [12,15,16] (fun wv nv iv wr2=>∃i:Nat,iv= .int .i64 i∧i≤lb.length∧nv= .int .i64 (P i)∧wv= .bool ((st && Q la la.length) && Q lb i)∧w6=wr2) (fun _ _ iv _=>lb.length - (intOf iv).toNat)
     case atStart=>
      refine ⟨0,rfl,Nat.zero_le _,by rw [HP.out.1],?_,rfl⟩
      rw [HQ.out.1]; simp
     case round=>
      obtain ⟨i,rfl,hi,rfl,rfl,rfl⟩:=hrel
      by_cases hil:i < lb.length
      ·have hdi:decide ((i:Int) < (lb.length:Int))=true:=by simp; omega
       obtain ⟨g,off,rfl,hg,hr⟩:=Hlb.out.2.atCl hil
       have r28:w6.cell? ⟨g,off+i * 30+28,none⟩=some (.int .i64 lb[i].fr):=hr 28 _ rfl
       have r29:w6.cell? ⟨g,off+i * 30+29,none⟩=some (.int .i64 lb[i].un):=hr 29 _ rfl
       have hq:=HQ.out.2 lb i hil
       have hp:=HP.out.2.1 i (by have:=Hlb.out.1; omega)
       have hpb:=HP.out.2.2 i (by have:=Hlb.out.1; omega)
       have hpw:IntKind.i64.wrap (2 * P i)=2 * P i:=IntWalk.i64_in _ (by omega)
       obtain ⟨c,hc⟩:∃c,lb[i]=c:=⟨_,rfl⟩
       rw [hc] at r28 r29 hq
       obtain ⟨fr,hfr⟩:∃x,c.fr=x:=⟨_,rfl⟩
       obtain ⟨un,hun⟩:∃x,c.un=x:=⟨_,rfl⟩
       rw [hfr] at r28 hq
       rw [hun] at r29 hq
       obtain ⟨x,hx⟩:∃x,((st && Q la la.length) && Q lb i)=x:=⟨_,rfl⟩
       have hx2:((st && Q la la.length) && Q lb (i+1))= (x && (decide (fr≤0) && decide (12622780799≤un))):=by rw [hq,←hx]; simp [Bool.and_assoc]
       have HX2:=hid hx2
       have HPn:=hid hp
       rw [hx]
       clear hr hc hfr hun hq hx hx2 hp
       cases x
       ·clear r28 r29
        go_wp2
        exact ⟨⟨i+1,by go_num,by omega,by rw [HPn.out],by rw [HX2.out]; simp,by first | rfl | trivial⟩,by simp [intOf]; omega⟩
       ·by_cases hf:fr≤0
        ·have hfd:decide (fr≤0)=true:=decide_eq_true hf
         by_cases hu:12622780799≤un
         ·have hud:decide (12622780799≤un)=true:=decide_eq_true hu
          rw [hfd,hud] at HX2
          go_wp2
          exact ⟨⟨i+1,by go_num,by omega,by rw [HPn.out],by rw [HX2.out]; simp,by first | rfl | trivial⟩,by simp [intOf]; omega⟩
         ·have hud:decide (12622780799≤un)=false:=decide_eq_false hu
          rw [hfd,hud] at HX2
          go_wp2
          exact ⟨⟨i+1,by go_num,by omega,by rw [HPn.out],by rw [HX2.out]; simp,by first | rfl | trivial⟩,by simp [intOf]; omega⟩
        ·have hfd:decide (fr≤0)=false:=decide_eq_false hf
         rw [hfd] at HX2
         clear r29
         go_wp2
         exact ⟨⟨i+1,by go_num,by omega,by rw [HPn.out],by rw [HX2.out]; simp,by first | rfl | trivial⟩,by simp [intOf]; omega⟩
      ·obtain rfl:i=lb.length:=by omega
       have hdi:decide ((lb.length:Int) < (lb.length:Int))=false:=by simp
       have hpb:=HP.out.2.2 lb.length (by have:=Hlb.out.1; omega)
       have hw0:=HwP.out lb.length (by have:=Hlb.out.1; omega) (P la.length) (HP.out.2.2 la.length (by have:=Hla.out.1; omega)).1 (HP.out.2.2 la.length (by have:=Hla.out.1; omega)).2
       clear hil
       go_wp2
       exact ⟨⟨2,by go_num,by first | rfl | trivial, .inr (.inr ⟨by first | rfl | trivial,by first | rfl | trivial,by first | rfl | trivial⟩)⟩,by simp [intOf]⟩
    ·have hE:=HEnd.out
     obtain ⟨x,hx⟩:∃x,(st && Q la la.length && Q lb lb.length)=x:=⟨_,rfl⟩
     rw [hx] at hE⊢
     obtain ⟨mm,hmm⟩:∃mm,P la.length+P lb.length=mm:=⟨_,rfl⟩
     rw [hmm] at hE⊢
     clear hx hmm
     cases x
     ·clear hE
      have q:=hid (cL.out w6 HB6.out)
      go_wp2_with fail
      refine q.out.mono ?_
      rintro e w7 ⟨rfl,hB⟩
      have HB7:=hid (HB6.out.trans (hB.mono HB6.out.size))
      clear hB q 
      go_wp2
      go_ret
      exact ⟨rfl,HB7.out⟩
     ·have hle:decide ((ma:Int)+mb≤mm)=true:=decide_eq_true (hE rfl)
      clear hE
      have q:=hid (cL.out w6 HB6.out)
      go_wp2_with fail
      refine q.out.mono ?_
      rintro e w7 ⟨rfl,hB⟩
      have HB7:=hid (HB6.out.trans (hB.mono HB6.out.size))
      clear hB q 
      go_wp2
      go_ret
      exact ⟨rfl,HB7.out⟩
end
section
open Go.RowKit Go.Maps
attribute [local go_sem ↓] eql_verS
set_option maxRecDepth 100000 in
set_option maxHeartbeats 12800000 in
theorem MeetBoth_walk (a:Option Addr) (cap:Nat) (la:List Cl) (b:Option Addr) (capb:Nat) (lb:List Cl) (w:World)
  (hl:la.length≤9223372036854775807) (hlc:la.length≤cap) (hs:Sl w a (cls la)) (hno:a=none→cap=0) (hok:∀c∈la,c.Ok)
  (hlb:lb.length≤9223372036854775807) (hlcb:lb.length≤capb) (hsb:Sl w b (cls lb)) (hnob:b=none→capb=0) (hokb:∀c∈lb,c.Ok) (hT:Tab w) :
  Calls Tryz.prog 5 #[.slice a la.length cap, .slice b lb.length capb] w fun e w'=>e= .returned (.bool true)∧Below w.heap.size w w':=by
 have cL:=hid (fun W (hB:Below w.heap.size w W)=>Lives21_any W (hT.later hB))
 by_cases h20:4 < la.length
 ·clear hs hok hno hsb hokb hnob hT
  go_enter Tryz.func5,Tryz.ntmps5
  have q:=hid (cL.out w (Below.refl _ _))
  go_wp2_with fail
  refine q.out.mono ?_
  rintro e w1 ⟨rfl,hB⟩
  have HB1:=hid (hB)
  clear hB q 
  go_wp2
  go_ret
  exact ⟨rfl,HB1.out⟩
 by_cases h21:4 < lb.length
 ·clear hs hok hno hsb hokb hnob hT
  go_enter Tryz.func5,Tryz.ntmps5
  have q:=hid (cL.out w (Below.refl _ _))
  go_wp2_with fail
  refine q.out.mono ?_
  rintro e w1 ⟨rfl,hB⟩
  have HB1:=hid (hB)
  clear hB q 
  go_wp2
  go_ret
  exact ⟨rfl,HB1.out⟩
 have cM:=hid (RMay17_any a cap la w (by omega) hs hok)
 have cM2:=hid (fun W (hB:Below w.heap.size w W)=>RMay17_any b capb lb W (by omega) (hsb.below hB) hokb)
 by_cases hma:mayL la=true
 rotate_left
 ·rw [show mayL la=false by simpa using hma] at cM
  clear hs hok hno hsb hokb hnob hT cM2 hma
  go_enter Tryz.func5,Tryz.ntmps5
  have q:=hid (cM.out)
  go_wp2_with fail
  refine q.out.mono ?_
  rintro e w1 ⟨rfl,hB⟩
  have HB1:=hid (hB)
  clear hB q 
  have q:=hid (cL.out w1 HB1.out)
  go_wp2_with fail
  refine q.out.mono ?_
  rintro e w2 ⟨rfl,hB⟩
  have HB2:=hid (HB1.out.trans (hB.mono HB1.out.size))
  clear hB q 
  go_wp2
  go_ret
  exact ⟨rfl,HB2.out⟩
 by_cases hmb:mayL lb=true
 rotate_left
 ·rw [show mayL lb=false by simpa using hmb] at cM2
  rw [hma] at cM
  clear hs hok hno hsb hokb hnob hT hma hmb
  go_enter Tryz.func5,Tryz.ntmps5
  have q:=hid (cM.out)
  go_wp2_with fail
  refine q.out.mono ?_
  rintro e w1 ⟨rfl,hB⟩
  have HB1:=hid (hB)
  clear hB q 
  have q:=hid (cM2.out w1 HB1.out)
  go_wp2_with fail
  refine q.out.mono ?_
  rintro e w2 ⟨rfl,hB⟩
  have HB2:=hid (HB1.out.trans (hB.mono HB1.out.size))
  clear hB q 
  have q:=hid (cL.out w2 HB2.out)
  go_wp2_with fail
  refine q.out.mono ?_
  rintro e w3 ⟨rfl,hB⟩
  have HB3:=hid (HB2.out.trans (hB.mono HB2.out.size))
  clear hB q 
  go_wp2
  go_ret
  exact ⟨rfl,HB3.out⟩
 rw [hma] at cM
 rw [hmb] at cM2
 have hokA:∀c∈la ++ lb,c.Ok:=fun c hc=>by
  rcases List.mem_append.1 hc with h | h
  ·exact hok c h
  ·exact hokb c h
 have hfa:faultL la=0:=by rw [may_fault,decide_eq_true_eq] at hma; exact hma
 have hfb:faultL lb=0:=by rw [may_fault,decide_eq_true_eq] at hmb; exact hmb
 have hfj:faultL (la ++ lb)=0:=by
  have e:mayL (la ++ lb)=true:=by
   rw [mayL,Bool.and_eq_true,decide_eq_true_eq] at hma hmb⊢
   exact ⟨by rw [List.length_append]; omega,by rw [List.all_append,hma.2,hmb.2]; rfl⟩
  rw [may_fault,decide_eq_true_eq] at e; exact e
 have f2a:fault2 la lb=0:=by rw [fault2,if_neg (by simpa using hfa),hfb]
 have f2b:fault2 lb la=0:=by rw [fault2,if_neg (by simpa using hfb),hfa]
 have f2j:fault2 (la ++ lb) lb=0:=by rw [fault2,if_neg (by simpa using hfj),hfb]
 have f2n:fault2 la []=0:=by rw [fault2_nil,hfa]
 have cE:=hid (fun W (hB:Below w.heap.size w W)=>MtEqual_any a cap la b capb lb W (by omega) hlc (hs.below hB) hno hok (by omega) hlcb (hsb.below hB) hnob hokb (hT.later hB))
 have cE2:=hid (fun W (hB:Below w.heap.size w W)=>MtWithin_any a cap la b capb lb W (by omega) hlc (hs.below hB) hno hok (by omega) hlcb (hsb.below hB) hnob hokb (hT.later hB))
 have cE3:=hid (fun W (hB:Below w.heap.size w W)=>MtWithin_any b capb lb a cap la W (by omega) hlcb (hsb.below hB) hnob hokb (by omega) hlc (hs.below hB) hno hok (hT.later hB))
 have cE5:=hid (fun W (hB:Below w.heap.size w W)=>MtEmpty_any a cap la W (by omega) hlc (hs.below hB) hno hok (hT.later hB))
 have cE6:=hid (fun W (hB:Below w.heap.size w W)=>MtWithin_any a cap la none 0 [] W (by omega) hlc (hs.below hB) hno hok (by simp) (by simp) (.inl rfl) (fun _=>rfl) (by simp) (hT.later hB))
 have cE4:=hid (fun (aa:Option Addr) (capa:Nat) (h1:(la ++ lb).length≤capa) W (h2:Sl W aa (cls (la ++ lb))) (h3:aa=none→capa=0) (hB:Below w.heap.size w W)=>MtEqual_any aa capa (la ++ lb) b capb lb W (by rw [List.length_append]; omega) h1 h2 h3 hokA (by omega) hlcb (hsb.below hB) hnob hokb (hT.later hB))
 have cJ:=hid (fun W (hB:Below w.heap.size w W)=>by
  have hb:=below_new (o:= .cells #[.slice a la.length cap, .slice b lb.length capb] 22) (Below.refl W.heap.size W) (zG _)
  exact (IJoin_any (some ⟨W.heap.size,0,none⟩) 2 [⟨a,cap,la⟩,⟨b,capb,lb⟩] (W.alloc (.cells #[.slice a la.length cap, .slice b lb.length capb] 22)) (by simp) stv_two (by simp [stLen]; omega)
   (fun s hs'=>by
     rcases List.mem_cons.1 hs' with h1 | h1
     ·rw [h1]; exact ⟨(hs.below hB).below hb,hno⟩
     ·rw [List.mem_singleton] at h1; rw [h1]; exact ⟨(hsb.below hB).below hb,hnob⟩) (fun c hc=>hokA c (by simpa [stAll] using hc))).mono fun e w' ⟨h1,h2⟩=>(⟨by simpa [stAll] using h1,hb.trans (h2.mono (by simp))⟩:OfR (W.alloc (.cells #[.slice a la.length cap, .slice b lb.length capb] 22)) w' (la ++ lb) e∧Below W.heap.size W w'))
 have hout:Hid (outL (la ++ lb)=la ++ lb):=by show _ = _; rw [outL,if_pos hfj]
 have Hf:=hid (And.intro f2a (And.intro f2b (And.intro f2j (And.intro f2n hfj))))
 clear hs hok hno hsb hokb hnob hT hokA hma hmb hfa hfb hfj f2a f2b f2j f2n
 go_enter Tryz.func5,Tryz.ntmps5
 have q:=hid (cM.out)
 go_wp2_with fail
 refine q.out.mono ?_
 rintro e w1 ⟨rfl,hB⟩
 have HB1:=hid (hB)
 clear hB q 
 have q:=hid (cM2.out w1 HB1.out)
 go_wp2_with fail
 refine q.out.mono ?_
 rintro e w2 ⟨rfl,hB⟩
 have HB2:=hid (HB1.out.trans (hB.mono HB1.out.size))
 clear hB q 
 have q:=hid (cE.out w2 HB2.out)
 go_wp2_with fail
 refine q.out.mono ?_
 rintro e w3 ⟨⟨y1,t1,f1,er1,rfl,hV1⟩,hB⟩
 have HB3:=hid (HB2.out.trans (hB.mono HB2.out.size))
 clear hB q 
 unfold verV
 go_upto_region 4 with fail
 obtain ⟨w4,hw⟩:∃W,w3.alloc (.cells #[.bool y1, .int .i64 t1, .bool f1] 26)=W:=⟨_,rfl⟩
 have hB:Below w3.heap.size w3 w4:=by rw [←hw]; exact below_new (Below.refl _ _) (zG _)
 have kb:=vrB_new w3 26 y1 t1 f1
 rw [hw] at kb
 rw [hw]
 obtain ⟨v,hb⟩:∃c,w3.heap.size=c:=⟨_,rfl⟩
 rw [hb] at kb
 rw [hb]
 have HB4:=hid (HB3.out.trans (hB.mono HB3.out.size))
 have Kv_4:=hid kb
 clear hB hw hb kb
 have q:=hid (cE2.out w4 HB4.out)
 go_wp2_with fail
 refine q.out.mono ?_
 rintro e w5 ⟨⟨y2,t2,f2,er2,rfl,hV2⟩,hB⟩
 have HB5:=hid (HB4.out.trans (hB.mono HB4.out.size))
 have Kv_5:=hid (Kv_4.out.below hB)
 clear hB q 
 unfold verV
 go_upto_region 5 with fail
 obtain ⟨w6,hw⟩:∃W,w5.alloc (.cells #[.bool y2, .int .i64 t2, .bool f2] 26)=W:=⟨_,rfl⟩
 have hB:Below w5.heap.size w5 w6:=by rw [←hw]; exact below_new (Below.refl _ _) (zG _)
 have kb:=vrB_new w5 26 y2 t2 f2
 rw [hw] at kb
 rw [hw]
 obtain ⟨u,hb⟩:∃c,w5.heap.size=c:=⟨_,rfl⟩
 rw [hb] at kb
 rw [hb]
 have HB6:=hid (HB5.out.trans (hB.mono HB5.out.size))
 have Kv_6:=hid (Kv_5.out.below hB)
 have Ku_6:=hid kb
 clear hB hw hb kb
 have q:=hid (cE3.out w6 HB6.out)
 go_wp2_with fail
 refine q.out.mono ?_
 rintro e w7 ⟨⟨y3,t3,f3,er3,rfl,hV3⟩,hB⟩
 have HB7:=hid (HB6.out.trans (hB.mono HB6.out.size))
 have Kv_7:=hid (Kv_6.out.below hB)
 have Ku_7:=hid (Ku_6.out.below hB)
 clear hB q 
 unfold verV
 go_upto_region 6 with fail
 obtain ⟨w8,hw⟩:∃W,w7.alloc (.cells #[.bool y3, .int .i64 t3, .bool f3] 26)=W:=⟨_,rfl⟩
 have hB:Below w7.heap.size w7 w8:=by rw [←hw]; exact below_new (Below.refl _ _) (zG _)
 have kb:=vrB_new w7 26 y3 t3 f3
 rw [hw] at kb
 rw [hw]
 obtain ⟨x,hb⟩:∃c,w7.heap.size=c:=⟨_,rfl⟩
 rw [hb] at kb
 rw [hb]
 have HB8:=hid (HB7.out.trans (hB.mono HB7.out.size))
 have Kv_8:=hid (Kv_7.out.below hB)
 have Ku_8:=hid (Ku_7.out.below hB)
 have Kx_8:=hid kb
 clear hB hw hb kb
 have q:=hid (cJ.out w8 HB8.out)
 go_wp2_with fail
 refine q.out.mono ?_
 rintro e w9 ⟨⟨vj,rfl,hvj⟩,hB⟩
 have HB9:=hid (HB8.out.trans (hB.mono HB8.out.size))
 have Kv_9:=hid (Kv_8.out.below hB)
 have Ku_9:=hid (Ku_8.out.below hB)
 have Kx_9:=hid (Kx_8.out.below hB)
 clear hB q 
 obtain ⟨a1,cap1,rfl,hsj,-⟩:=owns_form hvj
 rw [hout.out] at hvj hsj
 have hnone:a1=none→cap1=0:=owns_none hvj
 have hle:(la ++ lb).length≤cap1:=by
  rcases hvj.2 with ⟨e1,e2⟩ | ⟨g,c,cur,e1,_,_,e2,_⟩
  ·simp only [Value.slice.injEq] at e1; omega
  ·simp only [Value.slice.injEq] at e1; omega
 rw [hout.out,Hf.out.2.2.2.2]
 have HLen:Hid ((la ++ lb).length=la.length+lb.length):=List.length_append
 have q7:=hid (cE4.out a1 cap1 hle w9 hsj hnone HB9.out)
 rw [HLen.out] at q7
 clear hvj hsj hnone hle cE4
 have q:=hid (q7.out)
 go_wp2_with fail
 refine q.out.mono ?_
 rintro e w10 ⟨⟨y4,t4,f4,er4,rfl,hV4⟩,hB⟩
 have HB10:=hid (HB9.out.trans (hB.mono HB9.out.size))
 have Kv_10:=hid (Kv_9.out.below hB)
 have Ku_10:=hid (Ku_9.out.below hB)
 have Kx_10:=hid (Kx_9.out.below hB)
 clear hB q 
 unfold verV
 go_upto_region 8 with fail
 obtain ⟨w11,hw⟩:∃W,w10.alloc (.cells #[.bool y4, .int .i64 t4, .bool f4] 26)=W:=⟨_,rfl⟩
 have hB:Below w10.heap.size w10 w11:=by rw [←hw]; exact below_new (Below.refl _ _) (zG _)
 have kb:=vrB_new w10 26 y4 t4 f4
 rw [hw] at kb
 rw [hw]
 obtain ⟨z,hb⟩:∃c,w10.heap.size=c:=⟨_,rfl⟩
 rw [hb] at kb
 rw [hb]
 have HB11:=hid (HB10.out.trans (hB.mono HB10.out.size))
 have Kv_11:=hid (Kv_10.out.below hB)
 have Ku_11:=hid (Ku_10.out.below hB)
 have Kx_11:=hid (Kx_10.out.below hB)
 have Kz_11:=hid kb
 clear hB hw hb kb
 have q:=hid (cE5.out w11 HB11.out)
 go_wp2_with fail
 refine q.out.mono ?_
 rintro e w12 ⟨⟨y5,t5,f5,er5,rfl,hV5⟩,hB⟩
 have HB12:=hid (HB11.out.trans (hB.mono HB11.out.size))
 have Kv_12:=hid (Kv_11.out.below hB)
 have Ku_12:=hid (Ku_11.out.below hB)
 have Kx_12:=hid (Kx_11.out.below hB)
 have Kz_12:=hid (Kz_11.out.below hB)
 clear hB q 
 unfold verV
 go_upto_region 9 with fail
 obtain ⟨w13,hw⟩:∃W,w12.alloc (.cells #[.bool y5, .int .i64 t5, .bool f5] 26)=W:=⟨_,rfl⟩
 have hB:Below w12.heap.size w12 w13:=by rw [←hw]; exact below_new (Below.refl _ _) (zG _)
 have kb:=vrB_new w12 26 y5 t5 f5
 rw [hw] at kb
 rw [hw]
 obtain ⟨n,hb⟩:∃c,w12.heap.size=c:=⟨_,rfl⟩
 rw [hb] at kb
 rw [hb]
 have HB13:=hid (HB12.out.trans (hB.mono HB12.out.size))
 have Kv_13:=hid (Kv_12.out.below hB)
 have Ku_13:=hid (Ku_12.out.below hB)
 have Kx_13:=hid (Kx_12.out.below hB)
 have Kz_13:=hid (Kz_12.out.below hB)
 have Kn_13:=hid kb
 clear hB hw hb kb
 have q:=hid (cE6.out w13 HB13.out)
 go_wp2_with fail
 refine q.out.mono ?_
 rintro e w14 ⟨⟨y6,t6,f6,er6,rfl,hV6⟩,hB⟩
 have HB14:=hid (HB13.out.trans (hB.mono HB13.out.size))
 have Kv_14:=hid (Kv_13.out.below hB)
 have Ku_14:=hid (Ku_13.out.below hB)
 have Kx_14:=hid (Kx_13.out.below hB)
 have Kz_14:=hid (Kz_13.out.below hB)
 have Kn_14:=hid (Kn_13.out.below hB)
 clear hB q 
 unfold verV
 go_upto_region 10 with fail
 obtain ⟨w15,hw⟩:∃W,w14.alloc (.cells #[.bool y6, .int .i64 t6, .bool f6] 26)=W:=⟨_,rfl⟩
 have hB:Below w14.heap.size w14 w15:=by rw [←hw]; exact below_new (Below.refl _ _) (zG _)
 have kb:=vrB_new w14 26 y6 t6 f6
 rw [hw] at kb
 rw [hw]
 obtain ⟨m,hb⟩:∃c,w14.heap.size=c:=⟨_,rfl⟩
 rw [hb] at kb
 rw [hb]
 have HB15:=hid (HB14.out.trans (hB.mono HB14.out.size))
 have Kv_15:=hid (Kv_14.out.below hB)
 have Ku_15:=hid (Ku_14.out.below hB)
 have Kx_15:=hid (Kx_14.out.below hB)
 have Kz_15:=hid (Kz_14.out.below hB)
 have Kn_15:=hid (Kn_14.out.below hB)
 have Km_15:=hid kb
 clear hB hw hb kb
 have g1:=hV1.2.2 (hV1.1.trans Hf.out.1)
 have g2:=hV2.2.2 (hV2.1.trans Hf.out.1)
 have g3:=hV3.2.2 (hV3.1.trans Hf.out.2.1)
 have g4:=hV4.2.2 (hV4.1.trans Hf.out.2.2.1)
 have g5:=hV5.2.2 (hV5.1.trans Hf.out.2.2.2.1)
 have g6:=hV6.2.2 (hV6.1.trans Hf.out.2.2.2.1)
 have z1:=none_both g1 g2 g3
 have z2:=none_join g2 g4
 obtain ⟨z3,z4,z5⟩:=g5.unique g6
 have z6:=eqlVer_same (y:=y6) (f:=f6) g6.rng w15
 subst z2
 subst z3
 subst z4
 subst z5
 subst z1
 clear hV1 hV2 hV3 hV4 hV5 hV6 g1 g2 g3 g4 g5 g6
 obtain ⟨v0,v1,v2,-⟩:=Kv_15.out
 obtain ⟨u0,u1,u2,-⟩:=Ku_15.out
 obtain ⟨x0,x1,x2,-⟩:=Kx_15.out
 obtain ⟨z0,z1,z2,-⟩:=Kz_15.out
 obtain ⟨n0,n1,n2,-⟩:=Kn_15.out
 obtain ⟨m0,m1,m2,-⟩:=Km_15.out
 cases y4 <;> cases y3
 all_goals
  have q:=hid (cL.out w15 HB15.out)
  go_wp2_with fail
  refine q.out.mono ?_
  rintro e w16 ⟨rfl,hB⟩
  have HB16:=hid (HB15.out.trans (hB.mono HB15.out.size))
  have Kv_16:=hid (Kv_15.out.below hB)
  have Ku_16:=hid (Ku_15.out.below hB)
  have Kx_16:=hid (Kx_15.out.below hB)
  have Kz_16:=hid (Kz_15.out.below hB)
  have Kn_16:=hid (Kn_15.out.below hB)
  have Km_16:=hid (Km_15.out.below hB)
  clear hB q 
  go_wp2
  go_ret
  exact ⟨rfl,HB16.out⟩
end
end Go.Proofs.YtmjljpdeohbfbaaGreatDoor
