/-
  ferialaw45.BoundHolds answers true for every two lists of clauses.
  The table of math/bits that this seat's rows list: what a row's premise gives of it, and a world that holds it.
-/
import Derived.Test.YthimhfmnikfgaaaGreatDoorQda9cca
import Derived.Test.YthimhfmnikfgaaaGreatDoorQ214902
import Derived.Test.YthimhfmnikfgaaaGreatDoorCards
import Derived.Test.YthimhfmnikfgaaaGreatDoorTie
import Derived.Test.YthimhfmnikfgaaaGreatDoorQba836d
import Derived.Test.YthimhfmnikfgaaaGreatDoorQ4acd54
import Derived.Deep.DeepHandedRow
import Derived.Lib.LaidTab
namespace Go.Proofs.YthimhfmnikfgaaaGreatDoor
set_option linter.unusedVariables false
section
open Go.RowKit Go.Maps
set_option maxRecDepth 100000 in
set_option maxHeartbeats 3200000 in
theorem BHolds_any (a:Option Addr) (cap:Nat) (la:List Cl) (b:Option Addr) (capb:Nat) (lb:List Cl) (w:World)
  (hl:la.length≤1000) (hlc:la.length≤cap) (hs:Sl w a (cls la)) (hno:a=none→cap=0) (hok:∀c∈la,c.Ok)
  (hlb:lb.length≤1000) (hlcb:lb.length≤capb) (hsb:Sl w b (cls lb)) (hnob:b=none→capb=0) (hokb:∀c∈lb,c.Ok)
  (cW:∀W,Below w.heap.size w W→Calls Tryz.prog 19 #[.slice a la.length cap, .slice b lb.length capb] W fun e W'=>(∃j m:Int,e= .returned (.tuple #[.int .i64 j, .int .i64 m, .int .i64 (fault2 la lb)])∧(fault2 la lb≠0→j=0∧m=0)∧(fault2 la lb=0→j≤dyV la lb∧m≤dcV la lb))∧Below W.heap.size W W') :
  Calls Tryz.prog 16 #[.slice a la.length cap, .slice b lb.length capb] w fun e w'=>e= .returned (.tuple #[.bool (decide (fault2 la lb=0)), .int .i64 (fault2 la lb)])∧Below w.heap.size w w':=by
 have cW0:=hid (cW w (Below.refl _ _))
 have cD:=hid (fun W (hB:Below w.heap.size w W)=>BDays_any a cap la b capb lb W hl hlc (hs.below hB) hno hok hlb hlcb (hsb.below hB) hnob hokb)
 have cC:=hid (fun W (hB:Below w.heap.size w W)=>BDiscs_any a cap la b capb lb W hl hlc (hs.below hB) hno hok hlb hlcb (hsb.below hB) hnob hokb)
 obtain ⟨V,hV⟩:∃X,dyV la lb=X:=⟨_,rfl⟩
 obtain ⟨C,hC⟩:∃X,dcV la lb=X:=⟨_,rfl⟩
 obtain ⟨Z,hZ⟩:∃X,fault2 la lb=X:=⟨_,rfl⟩
 rw [hV,hC,hZ] at cW0
 rw [hV,hZ] at cD
 rw [hC,hZ] at cC
 rw [hZ]
 obtain ⟨D,hD⟩:∃D,decide (Z=0)=D:=⟨_,rfl⟩
 obtain ⟨RV,hRV⟩:∃R,(if Z=0 then V else 0)=R:=⟨_,rfl⟩
 obtain ⟨RC,hRC⟩:∃R,(if Z=0 then C else 0)=R:=⟨_,rfl⟩
 rw [hD]
 rw [hRV] at cD
 rw [hRC] at cC
 have HD:=hid (And.intro hD (And.intro hRV hRC))
 clear hs hno hok hsb hnob hokb hV hC hZ cW hD hRV hRC
 go_enter Tryz.func16,Tryz.ntmps16
 go_wp2_with fail
 refine cW0.out.mono ?_
 rintro e w1 ⟨⟨j,m,rfl,h1,h2⟩,hB⟩
 have HB1:=hid hB
 clear hB cW0
 by_cases hz:Z=0
 rotate_left
 ·have hX0:(Z == 0)=false:=by simpa using hz
  have hX1:(Z != 0)=true:=by simpa using hz
  have E:Hid (D=false):=by show _ = _; rw [←HD.out.1,decide_eq_false hz]
  clear hz cD cC h1 h2
  go_wp2
  go_ret2
  exact ⟨by rw [E.out]; rfl,HB1.out⟩
 ·subst hz
  obtain ⟨b1,b2⟩:=h2 rfl
  have d1:decide (j≤V)=true:=decide_eq_true b1
  have d2:decide (m≤C)=true:=decide_eq_true b2
  have E:Hid (D=true):=by show _ = _; rw [←HD.out.1,decide_eq_true rfl]
  have e1:RV=V:=by rw [←HD.out.2.1,if_pos rfl]
  have e2:RC=C:=by rw [←HD.out.2.2,if_pos rfl]
  subst e1 e2
  clear h1 h2 b1 b2
  have q:=hid (cD.out w1 HB1.out)
  go_wp2_with fail
  refine q.out.mono ?_
  rintro e w2 ⟨rfl,hB⟩
  have HB2:=hid (HB1.out.trans (hB.mono HB1.out.size))
  clear hB q cD
  have q:=hid (cC.out w2 HB2.out)
  go_wp2_with fail
  refine q.out.mono ?_
  rintro e w3 ⟨rfl,hB⟩
  have HB3:=hid (HB2.out.trans (hB.mono HB2.out.size))
  clear hB q cC
  go_wp2
  go_ret2
  exact ⟨by rw [E.out]; rfl,HB3.out⟩
theorem MWork_in (a:Option Addr) (cap:Nat) (la:List Cl) (b:Option Addr) (capb:Nat) (lb:List Cl) (w:World)
  (hl:la.length≤1000) (hlc:la.length≤cap) (hs:Sl w a (cls la)) (hno:a=none→cap=0) (hok:∀c∈la,c.Ok)
  (hlb:lb.length≤1000) (hlcb:lb.length≤capb) (hsb:Sl w b (cls lb)) (hnob:b=none→capb=0) (hokb:∀c∈lb,c.Ok) (hT:Tab w) :
  Calls Tryz.prog 19 #[.slice a la.length cap, .slice b lb.length capb] w fun e W'=>(∃j m:Int,e= .returned (.tuple #[.int .i64 j, .int .i64 m, .int .i64 (fault2 la lb)])∧(fault2 la lb≠0→j=0∧m=0)∧(fault2 la lb=0→j≤dyV la lb∧m≤dcV la lb))∧Below w.heap.size w W':=by
 obtain ⟨D,hD⟩:∃D,dM (hF la) (hU la) (hF lb) (hU lb)=D:=⟨_,rfl⟩
 refine (MWork_any a cap la b capb lb w (fun k j ws m=>WkI la D (la.length≤8) k j ws m) (fun k j ws m=>WkI lb D (lb.length≤8) k j ws m)
  (fun k j n ws m ws' m' hn h hs=>h.step id (hD ▸ hn) hs) (fun k j n ws m ws' m' hn h hs=>h.step id (hD ▸ hn) hs) (fun k j ws m h=>h.skip) (fun k j ws m h=>h.skip)
  (fun k j ws m h hj=>by have:=h.mj; omega) (fun k j ws m h hj=>by have:=h.mj; omega) (fun _=>WkI.start _ _ _) (fun _=>WkI.start _ _ _)
  hl hlc hs hno hok hlb hlcb hsb hnob hokb hT).mono ?_
 rintro e W' ⟨hW,hB⟩
 refine ⟨?_,hB⟩
 rcases hW with ⟨hf,rfl⟩ | ⟨hf,hf2,rfl⟩ | ⟨hf,hf2,t,ok,wa,wb,ma,mb,j,kD,rfl,hFD,hA,hB,hkD⟩
 ·exact ⟨0,0,by rw [fault2,if_pos hf],fun _=>⟨rfl,rfl⟩,fun h=>by rw [fault2,if_pos hf] at h; exact absurd h hf⟩
 ·exact ⟨0,0,by rw [fault2,if_neg (by simpa using hf)],fun _=>⟨rfl,rfl⟩,fun h=>by rw [fault2,if_neg (by simpa using hf)] at h; exact absurd h hf2⟩
 ·have e2:fault2 la lb=0:=by rw [fault2,if_neg (by simpa using hf),hf2]
  refine ⟨j,(ma:Int)+mb,by rw [e2],fun h=>absurd e2 h,fun _=>?_⟩
  subst hD
  exact work_le hA hB hFD.j_le (fault_may hf) (fault_may hf2)
set_option maxRecDepth 100000 in
set_option maxHeartbeats 6400000 in
theorem BoundHolds_walk (a:Option Addr) (cap:Nat) (la:List Cl) (b:Option Addr) (capb:Nat) (lb:List Cl) (w:World)
  (hl:la.length≤9223372036854775807) (hlc:la.length≤cap) (hs:Sl w a (cls la)) (hno:a=none→cap=0) (hok:∀c∈la,c.Ok)
  (hlb:lb.length≤9223372036854775807) (hlcb:lb.length≤capb) (hsb:Sl w b (cls lb)) (hnob:b=none→capb=0) (hokb:∀c∈lb,c.Ok) (hT:Tab w) :
  Calls Tryz.prog 4 #[.slice a la.length cap, .slice b lb.length capb] w fun e w'=>e= .returned (.bool true)∧Below w.heap.size w w':=by
 have cL:=hid (fun (W:World) (hB:Below w.heap.size w W)=>Lives45_any W)
 by_cases h20:20 < la.length
 ·clear hs hok hno hsb hokb hnob hT
  go_enter Tryz.func4,Tryz.ntmps4
  have q:=hid (cL.out w (Below.refl _ _))
  go_wp2_with fail
  refine q.out.mono ?_
  rintro e w1 ⟨rfl,hB⟩
  have HB1:=hid (hB)
  clear hB q
  go_wp2
  go_ret
  exact ⟨rfl,HB1.out⟩
 by_cases h21:20 < lb.length
 ·clear hs hok hno hsb hokb hnob hT
  go_enter Tryz.func4,Tryz.ntmps4
  have q:=hid (cL.out w (Below.refl _ _))
  go_wp2_with fail
  refine q.out.mono ?_
  rintro e w1 ⟨rfl,hB⟩
  have HB1:=hid (hB)
  clear hB q
  go_wp2
  go_ret
  exact ⟨rfl,HB1.out⟩
 have cW:=fun W (hB:Below w.heap.size w W)=>MWork_in a cap la b capb lb W (by omega) hlc (hs.below hB) hno hok (by omega) hlcb (hsb.below hB) hnob hokb (hT.later hB)
 have cH:=hid (BHolds_any a cap la b capb lb w (by omega) hlc hs hno hok (by omega) hlcb hsb hnob hokb cW)
 have cD:=hid (fun W (hB:Below w.heap.size w W)=>BDays_any a cap la b capb lb W (by omega) hlc (hs.below hB) hno hok (by omega) hlcb (hsb.below hB) hnob hokb)
 have cC:=hid (fun W (hB:Below w.heap.size w W)=>BDiscs_any a cap la b capb lb W (by omega) hlc (hs.below hB) hno hok (by omega) hlcb (hsb.below hB) hnob hokb)
 have cA:=hid (fun W (hB:Below w.heap.size w W)=>IOf_any a cap la W (by omega) hlc (hs.below hB) hno hok)
 have cB:=hid (fun W (hB:Below w.heap.size w W)=>IOf_any b capb lb W (by omega) hlcb (hsb.below hB) hnob hokb)
 have cM:=hid (fun W (hB:Below w.heap.size w W)=>RMay17_any a cap la W (by omega) (hs.below hB) hok)
 have cM2:=hid (fun W (hB:Below w.heap.size w W)=>RMay17_any b capb lb W (by omega) (hsb.below hB) hokb)
 have CW:=hid cW
 have HF:Hid (fault2 la lb=if faultL la≠0 then faultL la else faultL lb):=rfl
 have HMa:=hid (may_fault la)
 have HMb:=hid (may_fault lb)
 have HR:=hid (dy_rng la lb)
 have HC:=hid (And.intro (dc_le la lb) (dc_nn la lb))
 obtain ⟨V,hV⟩:∃X,dyV la lb=X:=⟨_,rfl⟩
 obtain ⟨C,hC⟩:∃X,dcV la lb=X:=⟨_,rfl⟩
 obtain ⟨Z,hZ⟩:∃X,fault2 la lb=X:=⟨_,rfl⟩
 obtain ⟨X,hX⟩:∃X,faultL la=X:=⟨_,rfl⟩
 obtain ⟨Y,hY⟩:∃X,faultL lb=X:=⟨_,rfl⟩
 obtain ⟨pa,hpa⟩:∃X,mayL la=X:=⟨_,rfl⟩
 obtain ⟨pb,hpb⟩:∃X,mayL lb=X:=⟨_,rfl⟩
 rw [hV,hC,hZ] at CW
 rw [hZ] at cH
 rw [hV,hZ] at cD
 rw [hC,hZ] at cC
 rw [hV] at HR
 rw [hV,hC] at HC
 rw [hZ,hX,hY] at HF
 rw [hX,hpa] at HMa
 rw [hY,hpb] at HMb
 rw [hpa] at cM
 rw [hpb] at cM2
 have HX:=hid hX
 have HY:=hid hY
 obtain ⟨D,hD⟩:∃D,decide (Z=0)=D:=⟨_,rfl⟩
 obtain ⟨RV,hRV⟩:∃R,(if Z=0 then V else 0)=R:=⟨_,rfl⟩
 obtain ⟨RC,hRC⟩:∃R,(if Z=0 then C else 0)=R:=⟨_,rfl⟩
 rw [hD] at cH
 rw [hRV] at cD
 rw [hRC] at cC
 have HD:=hid (And.intro hD (And.intro hRV hRC))
 clear hD hRV hRC hs hok hno hsb hokb hnob hT cW hV hC hZ hX hY hpa hpb
 go_enter Tryz.func4,Tryz.ntmps4
 go_wp2_with fail
 refine cH.out.mono ?_
 rintro e w1 ⟨rfl,hB⟩
 have HB1:=hid hB
 clear hB cH
 have q:=hid (cD.out w1 HB1.out)
 go_wp2_with fail
 refine q.out.mono ?_
 rintro e w2 ⟨rfl,hB⟩
 have HB2:=hid (HB1.out.trans (hB.mono HB1.out.size))
 clear hB q cD
 have q:=hid (cC.out w2 HB2.out)
 go_wp2_with fail
 refine q.out.mono ?_
 rintro e w3 ⟨rfl,hB⟩
 have HB3:=hid (HB2.out.trans (hB.mono HB2.out.size))
 clear hB q cC
 have q:=hid (CW.out w3 HB3.out)
 go_wp2_with fail
 refine q.out.mono ?_
 rintro e w4 ⟨⟨j,m,rfl,h1,h2⟩,hB⟩
 have HB4:=hid (HB3.out.trans (hB.mono HB3.out.size))
 clear hB q CW
 have q:=hid (cM.out w4 HB4.out)
 have H12:=hid (And.intro h1 h2)
 clear h1 h2
 go_wp2_with fail
 refine q.out.mono ?_
 rintro e w5 ⟨rfl,hB⟩
 have HB5:=hid (HB4.out.trans (hB.mono HB4.out.size))
 clear hB q cM
 cases pa
 ·have hx:¬X=0:=fun h=>by have:=HMa.out; rw [decide_eq_true h] at this; cases this
  have hzx:Z=X:=by rw [HF.out,if_pos hx]
  subst hzx
  have hn:(Z == 0)=false:=by simpa using hx
  have hn2:(Z != 0)=true:=by simpa using hx
  obtain ⟨rfl,rfl⟩:=H12.out.1 hx
  have q:=hid (cA.out w5 HB5.out)
  have e0:D=false:=by rw [←HD.out.1,decide_eq_false hx]
  have e1:RV=0:=by rw [←HD.out.2.1,if_neg hx]
  have e2:RC=0:=by rw [←HD.out.2.2,if_neg hx]
  subst e0 e1 e2
  clear hx cM2 cB HC HR
  go_wp2_with fail
  refine q.out.mono ?_
  rintro e w6 ⟨⟨v,rfl,-⟩,hB⟩
  rw [HX.out]
  have HB6:=hid (HB5.out.trans (hB.mono HB5.out.size))
  clear hB q cA
  have q:=hid (cL.out w6 HB6.out)
  go_wp2_with fail
  refine q.out.mono ?_
  rintro e w7 ⟨rfl,hB⟩
  have HB7:=hid (HB6.out.trans (hB.mono HB6.out.size))
  clear hB q
  go_wp2
  go_ret
  exact ⟨rfl,HB7.out⟩
 ·have hx:X=0:=by have:=HMa.out; exact of_decide_eq_true this.symm
  subst hx
  have hzy:Z=Y:=by rw [HF.out,if_neg (by omega)]
  subst hzy
  have q:=hid (cM2.out w5 HB5.out)
  go_wp2_with fail
  refine q.out.mono ?_
  rintro e w6 ⟨rfl,hB⟩
  have HB6:=hid (HB5.out.trans (hB.mono HB5.out.size))
  clear hB q cM2
  cases pb
  ·have hx:¬Z=0:=fun h=>by have:=HMb.out; rw [decide_eq_true h] at this; cases this
   have hn:(Z == 0)=false:=by simpa using hx
   have hn2:(Z != 0)=true:=by simpa using hx
   obtain ⟨rfl,rfl⟩:=H12.out.1 hx
   have q:=hid (cA.out w6 HB6.out)
   have e0:D=false:=by rw [←HD.out.1,decide_eq_false hx]
   have e1:RV=0:=by rw [←HD.out.2.1,if_neg hx]
   have e2:RC=0:=by rw [←HD.out.2.2,if_neg hx]
   subst e0 e1 e2
   clear hx HC HR
   go_wp2_with fail
   refine q.out.mono ?_
   rintro e w7 ⟨⟨v,rfl,-⟩,hB⟩
   rw [HX.out]
   have HB7:=hid (HB6.out.trans (hB.mono HB6.out.size))
   clear hB q cA
   have q:=hid (cB.out w7 HB7.out)
   go_wp2_with fail
   refine q.out.mono ?_
   rintro e w8 ⟨⟨v2,rfl,-⟩,hB⟩
   rw [HY.out]
   have HB8:=hid (HB7.out.trans (hB.mono HB7.out.size))
   clear hB q cB
   have q:=hid (cL.out w8 HB8.out)
   go_wp2_with fail
   refine q.out.mono ?_
   rintro e w9 ⟨rfl,hB⟩
   have HB9:=hid (HB8.out.trans (hB.mono HB8.out.size))
   clear hB q
   go_wp2
   go_ret
   exact ⟨rfl,HB9.out⟩
  ·have hx:Z=0:=by have:=HMb.out; exact of_decide_eq_true this.symm
   subst hx
   obtain ⟨b1,b2⟩:=H12.out.2 rfl
   obtain ⟨b3,b4⟩:=HR.out
   obtain ⟨b5,b6⟩:=HC.out
   have d1:decide (j≤V)=true:=decide_eq_true b1
   have d2:decide (m≤C)=true:=decide_eq_true b2
   have d3:decide (V≤146097)=true:=decide_eq_true b4
   have hw:IntKind.i64.wrap (2 * V)=2 * V:=IntWalk.i64_in _ (by omega)
   have d4:decide (C≤2 * V)=true:=decide_eq_true b5
   have q:=hid (cL.out w6 HB6.out)
   have e0:D=true:=by rw [←HD.out.1,decide_eq_true rfl]
   have e1:RV=V:=by rw [←HD.out.2.1,if_pos rfl]
   have e2:RC=C:=by rw [←HD.out.2.2,if_pos rfl]
   subst e0 e1 e2
   clear b1 b2 b3 b4 b5 b6 cA cB
   go_wp2_with fail
   refine q.out.mono ?_
   rintro e w7 ⟨rfl,hB⟩
   have HB7:=hid (HB6.out.trans (hB.mono HB6.out.size))
   clear hB q
   go_wp2
   go_ret
   exact ⟨rfl,HB7.out⟩
end
section
open Go.ChangeShapes Go.WideShapes Go.ChangeAt Go.RowKit
theorem ownKnobNone:ownKnob Tryz.prog.godebug=none:=by kernel_rfl
theorem laidOut:laidOutB Tryz.prog=true:=by kernel_rfl
theorem gTab:Tryz.prog.globalNamed "math/bits.deBruijn64tab" =some 0:=by kernel_rfl
theorem gTabType:(Tryz.prog.globals[0]?).map (·.type)=some 272:=by kernel_rfl
theorem cellsTab:Tryz.prog.cellsOf 272=64:=by kernel_rfl
theorem cellsU8:Tryz.prog.cellsOf 5=1:=by kernel_rfl
def tabInts:List Int:=Lib.deBruijn64tab.map fun (n:Nat)=>(n:Int)
theorem tabInts_get:∀i,i < 64→tabInts.getD i 0= ((Lib.deBruijn64tab.getD i 0:Nat):Int):=by decide
theorem tab_of {W:World} (h:laidMetH Tryz.prog [("math/bits.deBruijn64tab",Rows.laid_math_bits_deBruijn64tab)] W):Tab W:=by
 have ht:Lib.TabIs Tryz.prog W "math/bits.deBruijn64tab" .u8 tabInts:=Lib.tabIs_of_head (rest:= []) gTab gTabType Tryz.underlying272 Tryz.underlying5 cellsU8 cellsTab h
 have hc:∀i,i < 64→W.cell? ⟨0,i,none⟩=some (.int .u8 (tabInts.getD i 0)):=fun i hi=>ht.cell gTab i hi
 exact ⟨Nat.lt_of_le_of_lt (Nat.zero_le _) (World.block_lt_of_cell? W _ (hc 0 (by omega))),fun i hi=>by rw [hc i hi,tabInts_get i hi]⟩
noncomputable def laidWorld (os:Os):World:=
 {World.holding Tryz.prog os ⟨#[],#[],[]⟩ with heap:=(World.holding Tryz.prog os ⟨#[],#[],[]⟩).heap.modify 0 fun
   | .cells _ t frozen=> .cells (tabInts.map (Value.int .u8)).toArray t frozen
   | o=>o}
end
end Go.Proofs.YthimhfmnikfgaaaGreatDoor
