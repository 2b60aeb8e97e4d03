/-
  bound.fault, bound.Days, bound.Discs.
  bound.Days, bound.Discs, bound.Holds.
  bound.Discs, bound.Holds.
-/
import Derived.Test.YthimhfmnikfgaaaGreatDoorQ0efe75
import Derived.BigRegion
namespace Go.Proofs.YthimhfmnikfgaaaGreatDoor
set_option linter.unusedVariables false
section
open Go.RowKit Go.Maps
set_option maxRecDepth 100000 in
set_option maxHeartbeats 1600000 in
theorem BFault_any (s:Nat) (a:Option Addr) (cap:Nat) (la:List Cl) (b:Option Addr) (capb:Nat) (lb:List Cl) (w:World) (h0:w.cell? ⟨s,0,none⟩=some (.slice a la.length cap)) (h1:w.cell? ⟨s,1,none⟩=some (.slice b lb.length capb)) (hlt:s < w.heap.size)
  (hl:la.length≤1000) (hlc:la.length≤cap) (hs:Sl w a (cls la)) (hno:a=none→cap=0) (hok:∀c∈la,c.Ok)
  (hlb:lb.length≤1000) (hlcb:lb.length≤capb) (hsb:Sl w b (cls lb)) (hnob:b=none→capb=0) (hokb:∀c∈lb,c.Ok) :
  Calls Tryz.prog 49 #[.slice (some ⟨s,0,none⟩) 2 2] w fun e w'=>e= .returned (.int .i64 (fault2 la lb))∧Below w.heap.size w w':=by
 have cA:=hid (fun W (hB:Below w.heap.size w W)=>IOf_any a cap la W (by omega) hlc (hs.below hB) hno hok)
 have cB:=hid (fun W (hB:Below w.heap.size w W)=>IOf_any b capb lb W (by omega) hlcb (hsb.below hB) hnob hokb)
 have HK:Hid (∀W,Below w.heap.size w W→W.cell? ⟨s,0,none⟩=some (.slice a la.length cap)∧W.cell? ⟨s,1,none⟩=some (.slice b lb.length capb)):=fun W hB=>⟨(hB.cell (p:=⟨s,0,none⟩) hlt).trans h0,(hB.cell (p:=⟨s,1,none⟩) hlt).trans h1⟩
 have HF:Hid (fault2 la lb=if faultL la≠0 then faultL la else faultL lb):=rfl
 obtain ⟨X,hX⟩:∃X,faultL la=X:=⟨_,rfl⟩
 obtain ⟨Y,hY⟩:∃X,faultL lb=X:=⟨_,rfl⟩
 obtain ⟨Z,hZ⟩:∃X,fault2 la lb=X:=⟨_,rfl⟩
 rw [hX,hY,hZ] at HF
 rw [hZ]
 have HX:=hid hX
 have HY:=hid hY
 clear h0 h1 hlt hs hno hok hsb hnob hokb hX hY hZ
 go_enter Tryz.func49,Tryz.ntmps49
 go_wp2_with fail
 go_loopw [4,5,6,9] (fun _ _ _ iv wr=>∃i:Int,0≤i∧i≤2∧iv= .int .i64 i∧Hid ((1≤i→X=0)∧(2≤i→Y=0))∧Hid (Below w.heap.size w wr)) (fun _ _ _ iv _=>(2 - intOf iv).toNat)
 case atStart=>exact ⟨0,by omega,by omega,rfl,⟨fun h=>by omega,fun h=>by omega⟩,Below.refl _ _⟩
 case round=>
  obtain ⟨i,hi0,hi,rfl,HXY,HB⟩:=hrel
  obtain ⟨k0,k1⟩:=HK.out wr HB.out
  have:i=0∨i=1∨i=2:=by omega
  rcases this with rfl | rfl | rfl
  ·have c:=hid (cA.out wr HB.out)
   clear k1
   go_wp2_with fail
   refine c.out.mono ?_
   rintro e w1 ⟨⟨v,rfl,-⟩,hB⟩
   have HB1:=hid (HB.out.trans (hB.mono HB.out.size))
   clear hB c k0
   rw [HX.out]
   by_cases e:X=0
   ·have hX0:(X == 0)=true:=by simpa using e
    have hX1:(X != 0)=false:=by simpa using e
    have E:=hid e
    clear e
    go_wp2
    exact ⟨⟨1,by omega,by omega,rfl,⟨fun _=>E.out,fun h=>by omega⟩,HB1.out⟩,by simp [intOf]⟩
   ·have hX0:(X == 0)=false:=by simpa using e
    have hX1:(X != 0)=true:=by simpa using e
    have E:Hid (Z=X):=by show _ = _; rw [HF.out,if_pos e]
    clear e
    go_wp2
    go_ret
    exact ⟨by rw [E.out]; rfl,HB1.out⟩
  ·have c:=hid (cB.out wr HB.out)
   clear k0
   go_wp2_with fail
   refine c.out.mono ?_
   rintro e w1 ⟨⟨v,rfl,-⟩,hB⟩
   have HB1:=hid (HB.out.trans (hB.mono HB.out.size))
   clear hB c k1
   rw [HY.out]
   by_cases e:Y=0
   ·have hX0:(Y == 0)=true:=by simpa using e
    have hX1:(Y != 0)=false:=by simpa using e
    have E:=hid e
    clear e
    go_wp2
    exact ⟨⟨2,by omega,by omega,rfl,⟨fun _=>HXY.out.1 (by omega),fun _=>E.out⟩,HB1.out⟩,by simp [intOf]⟩
   ·have hX0:(Y == 0)=false:=by simpa using e
    have hX1:(Y != 0)=true:=by simpa using e
    have E:Hid (Z=Y):=by show _ = _; rw [HF.out,if_neg (by have:=HXY.out.1 (by omega); omega)]
    clear e
    go_wp2
    go_ret
    exact ⟨by rw [E.out]; rfl,HB1.out⟩
  ·have E:Hid (Z=0):=by show _ = _; rw [HF.out,if_neg (by have:=HXY.out.1 (by omega); omega)]; exact HXY.out.2 (by omega)
   clear k0 k1
   go_wp2
   go_ret
   exact ⟨by rw [E.out]; rfl,HB.out⟩
structure Bx2 (x y:Nat) (f u:Int) (W:World):Prop where
 cx:W.cell? ⟨x,0,none⟩=some (.int .i64 f)
 cy:W.cell? ⟨y,0,none⟩=some (.int .i64 u)
 zx:W.frozen? ⟨x,0,none⟩=false
 zy:W.frozen? ⟨y,0,none⟩=false
 lx:x < W.heap.size
 ly:y < W.heap.size
theorem Bx2.below {x y:Nat} {f u:Int} {W W':World} (h:Bx2 x y f u W) (hB:Below W.heap.size W W'):Bx2 x y f u W':=
 ⟨(hB.cell (p:=⟨x,0,none⟩) h.lx).trans h.cx,(hB.cell (p:=⟨y,0,none⟩) h.ly).trans h.cy,(hB.frozen (p:=⟨x,0,none⟩) h.lx).trans h.zx,(hB.frozen (p:=⟨y,0,none⟩) h.ly).trans h.zy,zH h.lx hB.size,zH h.ly hB.size⟩
theorem Bx2.put {x y:Nat} {f u:Int} {W:World} (h:Bx2 x y f u W) (hne:x≠y) (f' u':Int):Bx2 x y f' u' ((W.setCell ⟨x,0,none⟩ (.int .i64 f')).setCell ⟨y,0,none⟩ (.int .i64 u')):=by
 refine ⟨?_,?_,by simpa [go_sem] using h.zx,by simpa [go_sem] using h.zy,by simpa using h.lx,by simpa using h.ly⟩
 ·rw [World.cell?_setCell_other _ _ _ _ (fun e=>by injection e with e; exact hne e.symm)]
  exact World.cell?_setCell_same _ _ _ (by rw [h.cx])
 ·exact World.cell?_setCell_same _ _ _ (by rw [World.cell?_setCell_other _ _ _ _ (fun e=>by injection e with e; exact hne e),h.cy])
set_option maxRecDepth 100000 in
set_option maxHeartbeats 1600000 in
theorem BTk_any (a:Option Addr) (cap:Nat) (l:List Cl) (x y:Nat) (f u:Int) (w:World) (hl:l.length≤1000) (hs:Sl w a (cls l)) (hx:Bx2 x y f u w) (hne:x≠y) :
  Calls Tryz.prog 50 #[.slice a l.length cap, .pointer (some ⟨x,0,none⟩), .pointer (some ⟨y,0,none⟩)] w fun e w'=>(∃v,e= .returned v)∧Bx2 x y (mbF (hF l) (hU l) f) (mbU (hF l) (hU l) u) w'∧Eff (fun b=>b=x∨b=y) w w':=by
 have cH:=hid (Hull_any a cap l w hl hs)
 have cD:=hid (fun f u W=>SDaysG_any f u W)
 change Hid (Calls Tryz.prog 52 #[.slice a l.length cap] w fun e w'=>e= .returned (spv (hF l) (hU l))∧Below w.heap.size w w') at cH
 have HM:Hid (mbF (hF l) (hU l) f= (if heldB (hF l) (hU l)=true then min f (max (hF l) 0 / 86400) else f)∧mbU (hF l) (hU l) u= (if heldB (hF l) (hU l)=true then max u (min (hU l) 12622780799 / 86400) else u)):=⟨rfl,rfl⟩
 obtain ⟨F,hF1⟩:∃X,hF l=X:=⟨_,rfl⟩
 obtain ⟨U,hU1⟩:∃X,hU l=X:=⟨_,rfl⟩
 rw [hF1,hU1] at cH HM⊢
 obtain ⟨F2,hF2⟩:∃X,mbF F U f=X:=⟨_,rfl⟩
 obtain ⟨U2,hU2⟩:∃X,mbU F U u=X:=⟨_,rfl⟩
 rw [hF2,hU2] at HM⊢
 have HX:=hid hx
 clear hs hF1 hU1 hF2 hU2 hx
 have cD2:=hid (cD.out F U)
 clear cD
 unfold spv at cH
 go_enter Tryz.func50,Tryz.ntmps50
 go_wp2_with fail
 refine cH.out.mono ?_
 rintro e w1 ⟨rfl,hB1⟩
 have HB1:=hid hB1
 have HX1:=hid (HX.out.below hB1)
 clear hB1 cH
 cases e:heldB F U
 ·rw [e] at cD2 HM
  simp only [Bool.false_eq_true,if_false] at cD2 HM
  clear e
  go_wp2_with fail
  refine (cD2.out _).mono ?_
  rintro e w2 ⟨rfl,hB2⟩
  have HB2:=hid (HB1.out.trans (hB2.mono HB1.out.size))
  have HX2:=hid (HX1.out.below hB2)
  clear hB2 cD2
  go_wp2
  refine bodyPost_end (results_none rfl _ _ _) rfl ?_
  exact ⟨⟨_,rfl⟩,by rw [HM.out.1,HM.out.2]; exact HX2.out,Eff.of_below HB2.out⟩
 ·rw [e] at cD2 HM
  simp only [if_true] at cD2 HM
  obtain ⟨x1,hx1⟩:∃x1,max F 0 / 86400=x1:=⟨_,rfl⟩
  obtain ⟨x2,hx2⟩:∃x2,min U 12622780799 / 86400=x2:=⟨_,rfl⟩
  rw [hx1,hx2] at cD2 HM
  clear e hx1 hx2
  go_wp2_with fail
  refine (cD2.out _).mono ?_
  rintro e w2 ⟨rfl,hB2⟩
  have HB2:=hid (HB1.out.trans (hB2.mono HB1.out.size))
  have HX2:=hid (HX1.out.below hB2)
  clear hB2 cD2
  obtain ⟨q1,q2,q3,q4,q5,q6⟩:=HX2.out
  go_upto_region 2 with fail
  have HX3:=hid (HX2.out.below (Below.refl w2.heap.size w2).drew)
  refine regE (fun i=>i == 7) (S:=fun W=>W.cell? ⟨y,0,none⟩=some (.int .i64 u)) (by kernel_rfl) q2 (fun hHeld=>?_)
  refine eT 1 (v:=?_) ?_ ?_
  rotate_left
  ·intro w hSw; go_simp; (try with_reducible rfl)
  try simp only [ePut]
  refine eT 3 (v:=?_) ?_ ?_
  rotate_left
  ·intro w hSw; go_simp; (try with_reducible rfl)
  try simp only [ePut]
  refine eT 4 (v:=?_) ?_ ?_
  rotate_left
  ·intro w hSw; go_simp; (try with_reducible rfl)
  try simp only [ePut]
  refine eT 5 (v:= .int .i64 U2) ?_ ?_
  ·intro w hSw; have h:=HM.out.2; go_simp; (try (intro _; omega)); (try omega)
  try simp only [ePut]
  refine eO 0 (fun K hK=>?_)
  rw [if_pos (by rfl)]
  go_simp
  refine hK.out _ _ (fun _=>q2) ?_
  clear hK
  try simp only [ePut]
  refine eT 2 (v:= .int .i64 F2) ?_ ?_
  ·intro w hSw; have h:=HM.out.1; go_simp; (try (intro _; omega)); (try omega)
  try simp only [ePut]
  refine eO 6 (fun K hK=>?_)
  rw [if_pos (by rfl)]
  go_simp
  refine hK.out _ _ (fun _=>(World.cell?_setCell_other _ _ _ _ (fun e=>by injection e with e; exact hne e)).trans q2) ?_
  clear hK
  try simp only [ePut]
  have q2':(w2.drew.setCell ⟨x,0,none⟩ (.int .i64 F2)).cell? ⟨y,0,none⟩=some (.int .i64 u):=(World.cell?_setCell_other _ _ _ _ (fun e=>by injection e with e; exact hne e)).trans q2
  refine eO 7 (fun K hK=>?_)
  rw [if_pos (by rfl)]
  go_simp
  refine hK.out _ _ (fun h=>absurd h (by decide)) ?_
  clear hK
  try simp only [ePut]
  refine OrdE.done (by kernel_rfl) ?_ _
  clear q1 q2 q3 q4 q5 q6 hHeld q2'
  go_wp2
  refine bodyPost_end (results_none rfl _ _ _) rfl ?_
  exact ⟨⟨_,rfl⟩,HX3.out.put hne F2 U2,(((Eff.of_below (O:=fun b=>b=x∨b=y) HB2.out.drew).set (.inl rfl) _ _)).set (.inr rfl) _ _⟩
end
section
open Go.RowKit Go.Maps
def bdF (la lb:List Cl):Int:=mbF (hF lb) (hU lb) (mbF (hF la) (hU la) 146097)
def bdU (la lb:List Cl):Int:=mbU (hF lb) (hU lb) (mbU (hF la) (hU la) (-1))
def dyV (la lb:List Cl):Int:=max 0 (bdU la lb - bdF la lb+1)
theorem bd_rng (la lb:List Cl):0≤bdF la lb∧bdF la lb≤146097∧-1≤bdU la lb∧bdU la lb≤146096:=by
 have h1:=mb_rng (hF la) (hU la) 146097 (-1) (by omega) (by omega)
 exact mb_rng (hF lb) (hU lb) _ _ ⟨h1.1,h1.2.1⟩ ⟨h1.2.2.1,h1.2.2.2⟩
theorem dy_len (la lb:List Cl):((dM (hF la) (hU la) (hF lb) (hU lb)).length:Int)=dyV la lb:=by
 have e:dM (hF la) (hU la) (hF lb) (hU lb)=daysL (bdF la lb) (bdU la lb):=rfl
 rw [e,daysL_len,dyV]; omega
theorem dy_rng (la lb:List Cl):0≤dyV la lb∧dyV la lb≤146097:=by
 have:=bd_rng la lb
 rw [dyV]; omega
def dcV (la lb:List Cl):Int:=if 0 < la.countP stpB+lb.countP stpB then 2 * dyV la lb else min (2 * dyV la lb) (((2 ^ la.length:Nat):Int)+((2 ^ lb.length:Nat):Int)+4 * ((la.length:Int)+lb.length))
theorem dc_le (la lb:List Cl):dcV la lb≤2 * dyV la lb:=by rw [dcV]; split <;> omega
theorem dc_nn (la lb:List Cl):0≤dcV la lb:=by
 have:=dy_rng la lb
 rw [dcV]
 obtain ⟨p,hp⟩:∃p:Nat,2 ^ la.length=p:=⟨_,rfl⟩
 obtain ⟨q,hq⟩:∃p:Nat,2 ^ lb.length=p:=⟨_,rfl⟩
 rw [hp,hq]
 split <;> omega
theorem work_le {la lb:List Cl} {k j:Nat} {wa wb:Nat→Bool} {ma mb:Nat} (ha:WkI la (dM (hF la) (hU la) (hF lb) (hU lb)) (la.length≤8) k j wa ma) (hb:WkI lb (dM (hF la) (hU la) (hF lb) (hU lb)) (lb.length≤8) k j wb mb)
  (hj:j≤(dM (hF la) (hU la) (hF lb) (hU lb)).length) (ma':mayL la=true) (mb':mayL lb=true):(j:Int)≤dyV la lb∧(ma:Int)+mb≤dcV la lb:=by
 have hl:=dy_len la lb
 have h1:=ha.mj
 have h2:=hb.mj
 refine ⟨by omega,?_⟩
 rw [dcV]
 by_cases hc:0 < la.countP stpB+lb.countP stpB
 ·rw [if_pos hc]; omega
 ·rw [if_neg hc]
  have hD:(dM (hF la) (hU la) (hF lb) (hU lb)).Pairwise (·< ·):=daysL_rise _ _
  have hr:∀n∈dM (hF la) (hU la) (hF lb) (hU lb),0≤n∧n < 146097:=fun n hn=>by
   obtain ⟨k,hk⟩:=List.getElem?_of_mem hn
   exact ⟨(dM_mem hk).1,(dM_mem hk).2.1⟩
  have b1:=ha.bound (mayL_len ma') (noStep_of ma' (by omega)) hD hr
  have b2:=hb.bound (mayL_len mb') (noStep_of mb' (by omega)) hD hr
  omega
theorem p2_bd {n:Nat} (h:n≤8):0≤((2 ^ n:Nat):Int)∧((2 ^ n:Nat):Int)≤256:=by
 have h9:2 ^ n≤2 ^ 8:=Nat.pow_le_pow_right (n:=2) (by omega) h
 rw [show (2:Nat) ^ 8=256 from rfl] at h9
 obtain ⟨p,hp⟩:∃p:Nat,2 ^ n=p:=⟨_,rfl⟩
 rw [hp] at h9⊢
 omega
set_option maxRecDepth 100000 in
set_option maxHeartbeats 1600000 in
theorem BDays_any (a:Option Addr) (cap:Nat) (la:List Cl) (b:Option Addr) (capb:Nat) (lb:List Cl) (w:World)
  (hl:la.length≤1000) (hlc:la.length≤cap) (hs:Sl w a (cls la)) (hno:a=none→cap=0) (hok:∀c∈la,c.Ok)
  (hlb:lb.length≤1000) (hlcb:lb.length≤capb) (hsb:Sl w b (cls lb)) (hnob:b=none→capb=0) (hokb:∀c∈lb,c.Ok) :
  Calls Tryz.prog 17 #[.slice a la.length cap, .slice b lb.length capb] w fun e w'=>e= .returned (.tuple #[.int .i64 (if fault2 la lb=0 then dyV la lb else 0), .int .i64 (fault2 la lb)])∧Below w.heap.size w w':=by
 have hB1:=below_new (o:= .cells #[.slice a la.length cap, .slice b lb.length capb] 22) (Below.refl w.heap.size w) (zG _)
 have cF:=hid (BFault_any w.heap.size a cap la b capb lb (w.alloc (.cells #[.slice a la.length cap, .slice b lb.length capb] 22)) (by simp [go_sem]) (by simp [go_sem]) (by simp) hl hlc (hs.below hB1) hno hok hlb hlcb (hsb.below hB1) hnob hokb)
 have cA:=hid (fun W (hB:Below w.heap.size w W) x y f u (hx:Bx2 x y f u W) (hne:x≠y)=>BTk_any a cap la x y f u W hl (hs.below hB) hx hne)
 have cB:=hid (fun W (hB:Below w.heap.size w W) x y f u (hx:Bx2 x y f u W) (hne:x≠y)=>BTk_any b capb lb x y f u W hlb (hsb.below hB) hx hne)
 have HB1:=hid hB1
 have HV:Hid (dyV la lb=max 0 (bdU la lb - bdF la lb+1)∧bdF la lb=mbF (hF lb) (hU lb) (mbF (hF la) (hU la) 146097)∧bdU la lb=mbU (hF lb) (hU lb) (mbU (hF la) (hU la) (-1))):=⟨rfl,rfl,rfl⟩
 have HR:=hid (bd_rng la lb)
 obtain ⟨V,hV⟩:∃X,dyV la lb=X:=⟨_,rfl⟩
 obtain ⟨F,hFe⟩:∃X,bdF la lb=X:=⟨_,rfl⟩
 obtain ⟨U,hUe⟩:∃X,bdU la lb=X:=⟨_,rfl⟩
 obtain ⟨Z,hZ⟩:∃X,fault2 la lb=X:=⟨_,rfl⟩
 rw [hV,hFe,hUe] at HV
 rw [hFe,hUe] at HR
 rw [hZ] at cF⊢
 rw [hV]
 obtain ⟨R,hRR⟩:∃R,(if Z=0 then V else 0)=R:=⟨_,rfl⟩
 rw [hRR]
 have HRR:=hid hRR
 clear hRR hB1 hs hno hok hsb hnob hokb hV hFe hUe hZ
 go_enter Tryz.func17,Tryz.ntmps17
 go_wp2_with fail
 refine cF.out.mono ?_
 rintro e w1 ⟨rfl,hB⟩
 have HB2:=hid (HB1.out.trans (hB.mono HB1.out.size))
 clear hB cF
 by_cases hz:Z=0
 rotate_left
 ·have hX0:(Z == 0)=false:=by simpa using hz
  have hX1:(Z != 0)=true:=by simpa using hz
  have E:Hid (R=0):=by show _ = _; rw [←HRR.out,if_neg hz]
  clear hz cA cB HV HR HRR
  go_wp2
  go_ret2
  exact ⟨by rw [E.out]; rfl,HB2.out⟩
 ·subst hz
  have E:Hid (R=V):=by show _ = _; rw [←HRR.out,if_pos rfl]
  clear HRR
  obtain ⟨w3,hw3⟩:∃W,(w1.alloc (.cells #[.int .i64 146097] 2)).alloc (.cells #[.int .i64 (-1)] 2)=W:=⟨_,rfl⟩
  have hB3:Below w1.heap.size w1 w3:=by rw [←hw3]; exact below_new (below_new (Below.refl _ _) (zG _)) (by simp)
  have hX3:Bx2 w1.heap.size (w1.heap.size+1) 146097 (-1) w3:=by
   rw [←hw3]
   exact ⟨by simp [go_sem],by simp [go_sem],by simp [go_sem],by simp [go_sem],by simp; omega,by simp⟩
  have HB3:=hid (HB2.out.trans (hB3.mono HB2.out.size))
  have c1:=hid (cA.out w3 HB3.out _ _ _ _ hX3 (by omega))
  have HW3:=hid hw3
  have Hl1:Hid (w.heap.size≤w1.heap.size):=HB2.out.size
  clear hw3 hB3 hX3 cA
  go_upto_region 5 with fail
  rw [HW3.out]
  go_wp2_with fail
  refine c1.out.mono ?_
  rintro e w4 ⟨⟨v4,rfl⟩,hX4,hE4⟩
  have HB4:Hid (Below w.heap.size w w4):=HB3.out.trans (hE4.below (fun b hb=>by have:=Hl1.out; omega) HB3.out.size)
  have c2:=hid (cB.out w4 HB4.out _ _ _ _ hX4 (by omega))
  rw [←HV.out.2.1,←HV.out.2.2] at c2
  clear hX4 hE4 c1 cB
  go_wp2_with fail
  refine c2.out.mono ?_
  rintro e w5 ⟨⟨v5,rfl⟩,hX5,hE5⟩
  have HB5:Hid (Below w.heap.size w w5):=HB4.out.trans (hE5.below (fun b hb=>by have:=Hl1.out; omega) HB4.out.size)
  obtain ⟨k0,k1,-,-,-,-⟩:=hX5
  have hR:=HR.out
  have hw1:IntKind.i64.wrap (U - F)=U - F:=IntWalk.i64_in _ (by omega)
  have hw2:IntKind.i64.wrap (U - F+1)=U - F+1:=IntWalk.i64_in _ (by omega)
  have HVe:=hid (E.out.trans HV.out.1)
  clear hE5 c2 hR
  rcases Int.lt_or_le (U - F+1) 0 with h0 | h0
  ·go_wp2
   go_ret2
   exact ⟨by rw [HVe.out]; congr 4; (try simp); (try omega),HB5.out⟩
  ·go_wp2
   go_ret2
   exact ⟨by rw [HVe.out]; congr 4; (try simp); (try omega),HB5.out⟩
end
section
open Go.RowKit Go.Maps
theorem fault2_may {la lb:List Cl} (h:fault2 la lb=0):mayL la=true∧mayL lb=true:=by
 rw [fault2] at h
 by_cases e:faultL la=0
 ·rw [if_neg (by simpa using e)] at h; exact ⟨fault_may e,fault_may h⟩
 ·rw [if_pos e] at h; exact absurd h e
set_option maxRecDepth 100000 in
set_option maxHeartbeats 3200000 in
theorem BDiscs_any (a:Option Addr) (cap:Nat) (la:List Cl) (b:Option Addr) (capb:Nat) (lb:List Cl) (w:World)
  (hl:la.length≤1000) (hlc:la.length≤cap) (hs:Sl w a (cls la)) (hno:a=none→cap=0) (hok:∀c∈la,c.Ok)
  (hlb:lb.length≤1000) (hlcb:lb.length≤capb) (hsb:Sl w b (cls lb)) (hnob:b=none→capb=0) (hokb:∀c∈lb,c.Ok) :
  Calls Tryz.prog 18 #[.slice a la.length cap, .slice b lb.length capb] w fun e w'=>e= .returned (.tuple #[.int .i64 (if fault2 la lb=0 then dcV la lb else 0), .int .i64 (fault2 la lb)])∧Below w.heap.size w w':=by
 have cD:=hid (BDays_any a cap la b capb lb w hl hlc hs hno hok hlb hlcb hsb hnob hokb)
 have cS:=hid (fun W (hB:Below w.heap.size w W)=>RSteps_any a cap la W hl (hs.below hB) hok)
 have cS2:=hid (fun W (hB:Below w.heap.size w W)=>RSteps_any b capb lb W hlb (hsb.below hB) hokb)
 have HV:Hid (dcV la lb=if 0 < la.countP stpB+lb.countP stpB then 2 * dyV la lb else min (2 * dyV la lb) (((2 ^ la.length:Nat):Int)+((2 ^ lb.length:Nat):Int)+4 * ((la.length:Int)+lb.length))):=rfl
 have HR:=hid (dy_rng la lb)
 have HM:Hid (fault2 la lb=0→la.length≤8∧lb.length≤8):=fun h=>⟨mayL_len (fault2_may h).1,mayL_len (fault2_may h).2⟩
 have HC:Hid (la.countP stpB≤la.length∧lb.countP stpB≤lb.length):=by
  have h1:=countP_bd stpB la la.length
  have h2:=countP_bd stpB lb lb.length
  rw [List.take_of_length_le (zG _)] at h1 h2
  exact ⟨by omega,by omega⟩
 obtain ⟨V,hV⟩:∃X,dyV la lb=X:=⟨_,rfl⟩
 obtain ⟨C,hC⟩:∃X,dcV la lb=X:=⟨_,rfl⟩
 obtain ⟨Z,hZ⟩:∃X,fault2 la lb=X:=⟨_,rfl⟩
 obtain ⟨sa,hqa⟩:∃x,la.countP stpB=x:=⟨_,rfl⟩
 obtain ⟨sb,hqb⟩:∃x,lb.countP stpB=x:=⟨_,rfl⟩
 rw [hV,hC,hqa,hqb] at HV
 rw [hV] at HR cD
 rw [hZ] at cD HM⊢
 rw [hqa] at cS
 rw [hqb] at cS2
 rw [hqa,hqb] at HC
 rw [hC]
 obtain ⟨R,hRR⟩:∃R,(if Z=0 then C else 0)=R:=⟨_,rfl⟩
 obtain ⟨R2,hR2⟩:∃R,(if Z=0 then V else 0)=R:=⟨_,rfl⟩
 rw [hRR]
 rw [hR2] at cD
 have HRR:=hid hRR
 have HR2:=hid hR2
 clear hRR hR2 hs hno hok hsb hnob hokb hV hC hZ hqa hqb
 go_enter Tryz.func18,Tryz.ntmps18
 go_wp2_with fail
 refine cD.out.mono ?_
 rintro e w1 ⟨rfl,hB⟩
 have HB1:=hid hB
 clear hB cD
 by_cases hz:Z=0
 rotate_left
 ·have hX0:(Z == 0)=false:=by simpa using hz
  have hX1:(Z != 0)=true:=by simpa using hz
  have E:Hid (R=0):=by show _ = _; rw [←HRR.out,if_neg hz]
  clear hz cS cS2 HV HR HM HC HR2 HRR
  go_wp2
  go_ret2
  exact ⟨by rw [E.out]; rfl,HB1.out⟩
 ·subst hz
  have E1:Hid (R=C):=by show _ = _; rw [←HRR.out,if_pos rfl]
  have e2:R2=V:=by rw [←HR2.out,if_pos rfl]
  subst e2
  clear HRR HR2
  obtain ⟨m1,m2⟩:=HM.out rfl
  obtain ⟨n1,n2⟩:=HC.out
  have q:=hid (cS.out w1 HB1.out)
  go_wp2_with fail
  refine q.out.mono ?_
  rintro e w2 ⟨rfl,hB⟩
  have HB2:=hid (HB1.out.trans (hB.mono HB1.out.size))
  clear hB q cS
  have q:=hid (cS2.out w2 HB2.out)
  go_wp2_with fail
  refine q.out.mono ?_
  rintro e w3 ⟨rfl,hB⟩
  have HB3:=hid (HB2.out.trans (hB.mono HB2.out.size))
  clear hB q cS2
  have hR:=HR.out
  have hsm:IntKind.i64.wrap ((sa:Int)+sb)= (sa:Int)+sb:=IntWalk.i64_in _ (by omega)
  have hv2:IntKind.i64.wrap (2 * R2)=2 * R2:=IntWalk.i64_in _ (by omega)
  by_cases hc:0 < sa+sb
  ·have hd:decide ((0:Int) < (sa:Int)+sb)=true:=decide_eq_true (by omega)
   have E:Hid (R=2 * R2):=by show _ = _; rw [E1.out,HV.out,if_pos hc]
   clear hc hR m1 m2 n1 n2
   go_wp2
   go_ret2
   exact ⟨by rw [E.out]; rfl,HB3.out⟩
  ·have hd:decide ((0:Int) < (sa:Int)+sb)=false:=decide_eq_false (by omega)
   have E:Hid (R=min (2 * R2) (((2 ^ la.length:Nat):Int)+((2 ^ lb.length:Nat):Int)+4 * ((la.length:Int)+lb.length))):=by show _ = _; rw [E1.out,HV.out,if_neg hc]
   clear hc
   have b1:=p2_bd m1
   have b2:=p2_bd m2
   have hR6:=HR.out
   obtain ⟨na,hna⟩:∃x,la.length=x:=⟨_,rfl⟩
   obtain ⟨nb,hnb⟩:∃x,lb.length=x:=⟨_,rfl⟩
   rw [hna,hnb] at E
   rw [hna] at m1 b1⊢
   rw [hnb] at m2 b2⊢
   obtain ⟨pa,hpa⟩:∃p:Int,((2 ^ na:Nat):Int)=p:=⟨_,rfl⟩
   obtain ⟨pb,hpb⟩:∃p:Int,((2 ^ nb:Nat):Int)=p:=⟨_,rfl⟩
   rw [hpa,hpb] at E
   rw [hpa] at b1
   rw [hpb] at b2
   have ha0:¬(na:Int) < 0:=by omega
   have hb0:¬(nb:Int) < 0:=by omega
   have w1':IntKind.i64.wrap ((2:Int) ^ na)=pa:=by rw [←hpa]; push_cast; rw [show ((2:Int) ^ na)=pa by rw [←hpa]; push_cast; rfl]; exact IntWalk.i64_in _ (by omega)
   have w2':IntKind.i64.wrap ((2:Int) ^ nb)=pb:=by rw [←hpb]; push_cast; rw [show ((2:Int) ^ nb)=pb by rw [←hpb]; push_cast; rfl]; exact IntWalk.i64_in _ (by omega)
   have w3':IntKind.i64.wrap (pa+pb)=pa+pb:=IntWalk.i64_in _ (by omega)
   have w4':IntKind.i64.wrap ((na:Int)+nb)= (na:Int)+nb:=IntWalk.i64_in _ (by omega)
   have w5':IntKind.i64.wrap (4 * ((na:Int)+nb))=4 * ((na:Int)+nb):=IntWalk.i64_in _ (by omega)
   have w6':IntKind.i64.wrap (pa+pb+4 * ((na:Int)+nb))=pa+pb+4 * ((na:Int)+nb):=IntWalk.i64_in _ (by omega)
   clear hna hnb hpa hpb n1 n2 hR
   go_upto_region 6 with fail
   refine regE (fun _=>false) (S:=fun _=>True) (by kernel_rfl) trivial (fun hHeld=>?_)
   refine eT 0 (v:=?_) ?_ ?_
   rotate_left
   ·intro w hSw; go_simp; (try with_reducible rfl)
   try simp only [ePut]
   refine eT 1 (v:=?_) ?_ ?_
   rotate_left
   ·intro w hSw; go_simp; (try with_reducible rfl)
   try simp only [ePut]
   refine eT 2 (v:=?_) ?_ ?_
   rotate_left
   ·intro w hSw; go_simp; (try with_reducible rfl)
   try simp only [ePut]
   refine eT 3 (v:=?_) ?_ ?_
   rotate_left
   ·intro w hSw; go_simp; (try with_reducible rfl)
   try simp only [ePut]
   refine eT 4 (v:=?_) ?_ ?_
   rotate_left
   ·intro w hSw; go_simp; (try with_reducible rfl)
   try simp only [ePut]
   refine eT 5 (v:=?_) ?_ ?_
   rotate_left
   ·intro w hSw; go_simp; (try with_reducible rfl)
   try simp only [ePut]
   refine eT 6 (v:=?_) ?_ ?_
   rotate_left
   ·intro w hSw; go_simp; (try with_reducible rfl)
   try simp only [ePut]
   refine eT 7 (v:=?_) ?_ ?_
   rotate_left
   ·intro w hSw; go_simp; (try with_reducible rfl)
   try simp only [ePut]
   refine eT 8 (v:=?_) ?_ ?_
   rotate_left
   ·intro w hSw; go_simp; (try with_reducible rfl)
   try simp only [ePut]
   refine eT 9 (v:=?_) ?_ ?_
   rotate_left
   ·intro w hSw; go_simp; (try with_reducible rfl)
   try simp only [ePut]
   refine eT 10 (v:=?_) ?_ ?_
   rotate_left
   ·intro w hSw; go_simp; (try with_reducible rfl)
   try simp only [ePut]
   refine eT 11 (v:=?_) ?_ ?_
   rotate_left
   ·intro w hSw; go_simp; (try with_reducible rfl)
   try simp only [ePut]
   refine eT 12 (v:=?_) ?_ ?_
   rotate_left
   ·intro w hSw; go_simp; (try with_reducible rfl)
   try simp only [ePut]
   refine eT 13 (v:=?_) ?_ ?_
   rotate_left
   ·intro w hSw; go_simp; (try with_reducible rfl)
   try simp only [ePut]
   refine eT 14 (v:=?_) ?_ ?_
   rotate_left
   ·intro w hSw; go_simp; (try with_reducible rfl)
   try simp only [ePut]
   refine eT 15 (v:=?_) ?_ ?_
   rotate_left
   ·intro w hSw; go_simp; (try with_reducible rfl)
   try simp only [ePut]
   refine eT 16 (v:= .int .i64 R) ?_ ?_
   ·intro w hSw; have h:=E.out; go_simp; (try (intro _; omega)); (try omega)
   try simp only [ePut]
   refine eT 17 (v:=?_) ?_ ?_
   rotate_left
   ·intro w hSw; go_simp; (try with_reducible rfl)
   try simp only [ePut]
   refine eT 18 (v:=?_) ?_ ?_
   rotate_left
   ·intro w hSw; go_simp; (try with_reducible rfl)
   try simp only [ePut]
   refine OrdE.done (by kernel_rfl) ?_ _
   go_wp2
   go_ret2
   exact ⟨rfl,HB3.out.drew⟩
end
end Go.Proofs.YthimhfmnikfgaaaGreatDoor
