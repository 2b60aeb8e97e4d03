/-
  A verdict in a box; verdicts of two sets, and of the same ones turned.
  ferialaw21.MeetEqual answers true for every two lists of clauses, and any days.
  The table of math/bits that this seat's rows list: what a row's premise gives of it, and a world that holds it.
  Lists of uint32, and two of them, that came in, as a row hands them over.
  ferialaw21.MeetWithin answers true for every two lists of clauses, and any days.
  meet.Work: how many days are asked for, and how many discs are made.
  roll.Steps: how many clauses of a set have a step below a day.
  Sets without a step below a day, of the whole window: how many discs a roll makes of them.
  How many discs two rolls make, of sets without a step below a day (plain).
-/
import Derived.Test.YtmjljpdeohbfbaaGreatDoorQf2d297
import Derived.Test.YtmjljpdeohbfbaaGreatDoorQ1925a9
import Derived.BigRegion
import Derived.Test.YtmjljpdeohbfbaaGreatDoorCards
import Derived.Test.YtmjljpdeohbfbaaGreatDoorTie
import Derived.Test.YtmjljpdeohbfbaaGreatDoorQ221bbe
import Derived.Test.YtmjljpdeohbfbaaGreatDoorQ671e04
import Derived.Deep.DeepHandedRow
import Derived.Lib.LaidTab
import Derived.Test.YtmjljpdeohbfbaaGreatDoorQfd3d2b
import Derived.BigQuiet
import Derived.Test.YtmjljpdeohbfbaaGreatDoorQ368508
import Derived.Test.YtmjljpdeohbfbaaGreatDoorQ123253
import Derived.Test.YtmjljpdeohbfbaaGreatDoorQd86d0d
namespace Go.Proofs.YtmjljpdeohbfbaaGreatDoor
set_option linter.unusedVariables false
section
open Go.RowKit Go.Maps
structure VrB (W:World) (b:Nat) (y:Bool) (t:Int) (f:Bool):Prop where
 c0:W.cell? ⟨b,0,none⟩=some (.bool y)
 c1:W.cell? ⟨b,1,none⟩=some (.int .i64 t)
 c2:W.cell? ⟨b,2,none⟩=some (.bool f)
 lt:b < W.heap.size
theorem VrB.below {W W':World} {b:Nat} {y:Bool} {t:Int} {f:Bool} (h:VrB W b y t f) (hB:Below W.heap.size W W'):VrB W' b y t f:=
 ⟨(hB.cell (p:=⟨b,0,none⟩) h.lt).trans h.c0,(hB.cell (p:=⟨b,1,none⟩) h.lt).trans h.c1,(hB.cell (p:=⟨b,2,none⟩) h.lt).trans h.c2,zH h.lt hB.size⟩
theorem vrB_new (W:World) (T:TypeId) (y:Bool) (t:Int) (f:Bool):VrB (W.alloc (.cells #[.bool y, .int .i64 t, .bool f] T)) W.heap.size y t f:=
 ⟨by simp [go_sem],by simp [go_sem],by simp [go_sem],by simp⟩
theorem ver_swap {la lb:List Cl} {y y':Bool} {t t':Int} {f f':Bool} (h:VerP (fun p q=>p != q) la lb y t f) (h':VerP (fun p q=>p != q) lb la y' t' f'):y' =y∧t' =t∧(y=false→f' = !f):=by
 have sw:∀s,(instB lb s != instB la s)= (instB la s != instB lb s):=fun s=>by cases instB la s <;> cases instB lb s <;> rfl
 rcases h with ⟨h,rfl,rfl,rfl⟩ | ⟨h,rfl,rfl⟩ <;> rcases h' with ⟨h',rfl,rfl,rfl⟩ | ⟨h',rfl,rfl⟩
 ·exact ⟨rfl,rfl,fun e=>by cases e⟩
 ·have h1:=h'.2.2.1; have h2:=h t'; simp only at h1 h2; rw [sw,h2] at h1; cases h1
 ·have h1:=h.2.2.1; have h2:=h' t; simp only at h1 h2; rw [←sw,h2] at h1; cases h1
 ·have e:LeastP (fun p q=>p != q) la lb t':=⟨h'.1,h'.2.1,by have:=h'.2.2.1; simp only at this⊢; rw [←sw]; exact this,fun s hs=>by have:=h'.2.2.2 s hs; simp only at this⊢; rw [←sw]; exact this⟩
  have:=h.unique e
  subst this
  refine ⟨rfl,rfl,fun _=>?_⟩
  have h1:=h.2.2.1
  simp only at h1
  revert h1
  cases instB la t <;> cases instB lb t <;> simp
theorem VerP.rng {r:Bool→Bool→Bool} {la lb:List Cl} {y:Bool} {t:Int} {f:Bool} (h:VerP r la lb y t f):0≤t∧t < 12622780800:=by
 rcases h with ⟨h,rfl,rfl,rfl⟩ | ⟨h,rfl,rfl⟩
 ·omega
 ·exact ⟨h.1,h.2.1⟩
theorem stv_two {W:World} {a am:Option Addr} {n1 n2 c1 c2:Nat}:Sl (W.alloc (.cells #[.slice a n1 c1, .slice am n2 c2] 22)) (some ⟨W.heap.size,0,none⟩) [.slice a n1 c1, .slice am n2 c2]:=
 sl_range (cs:= [.slice a n1 c1, .slice am n2 c2]) (range_new W _ _) (by simp)
theorem fault_nil:faultL []=0:=by kernel_rfl
theorem fault2_nil (la:List Cl):fault2 la []=faultL la:=by
 rw [fault2]; split
 ·rfl
 ·rename_i h; rw [fault_nil]; have:faultL la=0:=by simpa using h
  exact this.symm
theorem none_both {la lb:List Cl} {y1 y2 y3:Bool} {t1 t2 t3:Int} {f1 f2 f3:Bool} (h1:VerP (fun p q=>p != q) la lb y1 t1 f1) (h2:VerP (fun p q=>p && !q) la lb y2 t2 f2) (h3:VerP (fun p q=>p && !q) lb la y3 t3 f3):y1= (y2 && y3):=by
 have e:∀r la lb (y:Bool) t f,VerP r la lb y t f→(y=true↔NoneP r la lb):=fun r la lb y t f h=>by
  rcases h with ⟨h,rfl,-,-⟩ | ⟨h,rfl,-⟩
  ·exact ⟨fun _=>h,fun _=>rfl⟩
  ·exact ⟨fun h=>(by cases h),fun k=>by have:=h.2.2.1; rw [k t] at this; cases this⟩
 rw [Bool.eq_iff_iff,Bool.and_eq_true,e _ _ _ _ _ _ h1,e _ _ _ _ _ _ h2,e _ _ _ _ _ _ h3]
 constructor
 ·intro h
  exact ⟨fun s=>by have:=h s; revert this; simp only; cases instB la s <;> cases instB lb s <;> simp,fun s=>by have:=h s; revert this; simp only; cases instB la s <;> cases instB lb s <;> simp⟩
 ·rintro ⟨p,q⟩ s
  have a1:=p s
  have a2:=q s
  revert a1 a2
  simp only
  cases instB la s <;> cases instB lb s <;> simp
theorem join_inst (la lb:List Cl) (t:Int):instB (la ++ lb) t= (instB la t || instB lb t):=by rw [instB,instB,instB,List.any_append]
theorem none_join {la lb:List Cl} {y2 y4:Bool} {t2 t4:Int} {f2 f4:Bool} (h2:VerP (fun p q=>p && !q) la lb y2 t2 f2) (h4:VerP (fun p q=>p != q) (la ++ lb) lb y4 t4 f4):y4=y2:=by
 have e:∀r la lb (y:Bool) t f,VerP r la lb y t f→(y=true↔NoneP r la lb):=fun r la lb y t f h=>by
  rcases h with ⟨h,rfl,-,-⟩ | ⟨h,rfl,-⟩
  ·exact ⟨fun _=>h,fun _=>rfl⟩
  ·exact ⟨fun h=>(by cases h),fun k=>by have:=h.2.2.1; rw [k t] at this; cases this⟩
 rw [Bool.eq_iff_iff,e _ _ _ _ _ _ h4,e _ _ _ _ _ _ h2]
 constructor
 ·intro h s
  have:=h s
  revert this
  simp only [join_inst]
  cases instB la s <;> cases instB lb s <;> simp
 ·intro h s
  have:=h s
  revert this
  simp only [join_inst]
  cases instB la s <;> cases instB lb s <;> simp
theorem eqlVer_same {y:Bool} {t:Int} {f:Bool} (ht:0≤t∧t < 12622780800) (W:World):(eqlVerS (.agg #[.bool y, .int .i64 t, .bool f]) (.agg #[.bool y, .int .i64 t, .bool f])).run Tryz.prog W= .ok (.bool true) W:=by
 have h:=eqlVer_run y y t t f f W ⟨by omega,by omega⟩ ⟨by omega,by omega⟩
 rw [decide_eq_true ⟨rfl,rfl,rfl⟩] at h
 exact h
theorem eqlVer0 (W:World):(eqlVerS (.agg #[.bool false, .int .i64 0, .bool false]) (.agg #[.bool false, .int .i64 0, .bool false])).run Tryz.prog W= .ok (.bool true) W:=eqlVer_run false false 0 0 false false W ⟨by decide,by decide⟩ ⟨by decide,by decide⟩
theorem fault_may {l:List Cl} (h:faultL l=0):mayL l=true:=by rw [may_fault,decide_eq_true h]
end
section
open Go.RowKit Go.Maps
attribute [local go_sem ↓] eql_verS
attribute [local go_sem] eqlVer0
set_option maxRecDepth 100000 in
set_option maxHeartbeats 12800000 in
theorem MeetEqual_walk (a:Option Addr) (cap:Nat) (la:List Cl) (b:Option Addr) (capb:Nat) (lb:List Cl) (d:Option Addr) (capd:Nat) (ds:List Nat) (w:World)
  (hl:la.length≤9223372036854775807) (hlc:la.length≤cap) (hs:Sl w a (cls la)) (hno:a=none→cap=0) (hok:∀c∈la,c.Ok)
  (hlb:lb.length≤9223372036854775807) (hlcb:lb.length≤capb) (hsb:Sl w b (cls lb)) (hnob:b=none→capb=0) (hokb:∀c∈lb,c.Ok) (hdl:ds.length≤9223372036854775807) (hd:Sl w d (u32s ds)) (hx:∀x∈ds,x < 4294967296) (hT:Tab w) :
  Calls Tryz.prog 3 #[.slice a la.length cap, .slice b lb.length capb, .slice d ds.length capd] w fun e w'=>e= .returned (.bool true)∧Below w.heap.size w w':=by
 have cL:=hid (fun W (hB:Below w.heap.size w W)=>Lives21_any W (hT.later hB))
 by_cases h20:20 < la.length
 ·clear hs hok hno hsb hokb hnob hT
  go_enter Tryz.func3,Tryz.ntmps3
  have q:=hid (cL.out w (Below.refl _ _))
  go_wp2_with fail
  refine q.out.mono ?_
  rintro e w1 ⟨rfl,hB⟩
  have HB1:=hid (hB)
  clear hB q 
  go_wp2
  go_ret
  exact ⟨rfl,HB1.out⟩
 by_cases h21:20 < lb.length
 ·clear hs hok hno hsb hokb hnob hT
  go_enter Tryz.func3,Tryz.ntmps3
  have q:=hid (cL.out w (Below.refl _ _))
  go_wp2_with fail
  refine q.out.mono ?_
  rintro e w1 ⟨rfl,hB⟩
  have HB1:=hid (hB)
  clear hB q 
  go_wp2
  go_ret
  exact ⟨rfl,HB1.out⟩
 have cE:=hid (fun W (hB:Below w.heap.size w W)=>MtEqual_any a cap la b capb lb W (by omega) hlc (hs.below hB) hno hok (by omega) hlcb (hsb.below hB) hnob hokb (hT.later hB))
 have cE2:=hid (fun W (hB:Below w.heap.size w W)=>MtEqual_any b capb lb a cap la W (by omega) hlcb (hsb.below hB) hnob hokb (by omega) hlc (hs.below hB) hno hok (hT.later hB))
 have cF:=hid (fun W (hB:Below w.heap.size w W)=>Fault21_any a cap la b capb lb W (by omega) hlc (hs.below hB) hno hok (by omega) hlcb (hsb.below hB) hnob hokb)
 have cH:=hid (fun (y:Bool) (t:Int) (f:Bool) (hm:mayL la=true) (hV:VerP (fun p q=>p != q) la lb y t f) W (hB:Below w.heap.size w W)=>MHeld_any (g:=16) y t f a cap la b capb lb d capd ds W (by omega) (hs.below hB) hok (by omega) (hsb.below hB) hokb hm hdl (hd.below hB) hx (fun args w=>by simp [go_sem]) differW hV)
 clear hs hok hno hsb hokb hnob hT hd hx
 go_enter Tryz.func3,Tryz.ntmps3
 have q:=hid (cE.out w (Below.refl _ _))
 go_wp2_with fail
 refine q.out.mono ?_
 rintro e w1 ⟨⟨y1,t1,f1,er1,rfl,hV1⟩,hB⟩
 have HB1:=hid (hB)
 clear hB q 
 unfold verV
 go_upto_region 4 with fail
 obtain ⟨w2,hw⟩:∃W,w1.alloc (.cells #[.bool y1, .int .i64 t1, .bool f1] 26)=W:=⟨_,rfl⟩
 have hB:Below w1.heap.size w1 w2:=by rw [←hw]; exact below_new (Below.refl _ _) (zG _)
 have kb:=vrB_new w1 26 y1 t1 f1
 rw [hw] at kb
 rw [hw]
 obtain ⟨v,hb⟩:∃c,w1.heap.size=c:=⟨_,rfl⟩
 rw [hb] at kb
 rw [hb]
 have HB2:=hid (HB1.out.trans (hB.mono HB1.out.size))
 have Kv_2:=hid kb
 clear hB hw hb kb
 obtain ⟨X,hX⟩:∃X,fault2 la lb=X:=⟨_,rfl⟩
 have hVF:=hV1.1
 rw [hX] at cF hVF
 subst hVF
 have q:=hid (cF.out w2 HB2.out)
 go_wp2_with fail
 refine q.out.mono ?_
 rintro e w3 ⟨rfl,hB⟩
 have HB3:=hid (HB2.out.trans (hB.mono HB2.out.size))
 have Kv_3:=hid (Kv_2.out.below hB)
 clear hB q 
 by_cases hX0:er1=0
 rotate_left
 ·obtain ⟨rfl,rfl,rfl⟩:=hV1.2.1 hX0
  have hn:(er1 == 0)=false:=by simpa using hX0
  have hn2:(er1 != 0)=true:=by simpa using hX0
  clear hV1 hX hX0 cE cE2 cH
  obtain ⟨v0,v1,v2,-⟩:=Kv_3.out
  go_upto_region 6 with fail
  have q:=hid (cL.out w3 HB3.out)
  go_wp2_with fail
  refine q.out.mono ?_
  rintro e w4 ⟨rfl,hB⟩
  have HB4:=hid (HB3.out.trans (hB.mono HB3.out.size))
  have Kv_4:=hid (Kv_3.out.below hB)
  clear hB q v0 v1 v2
  go_wp2
  go_ret
  exact ⟨rfl,HB4.out⟩
 ·subst hX0
  have HV:=hid (hV1.2.2 rfl)
  have hf0:faultL la=0:=by rw [fault2] at hX; split at hX <;> simp_all
  have hfb:faultL lb=0:=by rw [fault2] at hX; split at hX <;> simp_all
  have HM:=hid (fault_may hf0)
  have e2:fault2 lb la=0:=by rw [fault2,if_neg (by simpa using hfb)]; exact hf0
  clear hV1 hX hf0 hfb
  have q:=hid (cE2.out w3 HB3.out)
  go_wp2_with fail
  refine q.out.mono ?_
  rintro e w4 ⟨⟨y2,t2,f2,er2,rfl,hV2⟩,hB⟩
  have HB4:=hid (HB3.out.trans (hB.mono HB3.out.size))
  have Kv_4:=hid (Kv_3.out.below hB)
  clear hB q 
  unfold verV
  go_upto_region 8 with fail
  obtain ⟨w5,hw⟩:∃W,w4.alloc (.cells #[.bool y2, .int .i64 t2, .bool f2] 26)=W:=⟨_,rfl⟩
  have hB:Below w4.heap.size w4 w5:=by rw [←hw]; exact below_new (Below.refl _ _) (zG _)
  have kb:=vrB_new w4 26 y2 t2 f2
  rw [hw] at kb
  rw [hw]
  obtain ⟨u,hb⟩:∃c,w4.heap.size=c:=⟨_,rfl⟩
  rw [hb] at kb
  rw [hb]
  have HB5:=hid (HB4.out.trans (hB.mono HB4.out.size))
  have Kv_5:=hid (Kv_4.out.below hB)
  have Ku_5:=hid kb
  clear hB hw hb kb
  have hz:=hV2.1
  rw [e2] at hz
  subst hz
  obtain ⟨rfl,rfl,hff⟩:=ver_swap HV.out (hV2.2.2 rfl)
  clear hV2 e2
  obtain ⟨v0,v1,v2,-⟩:=Kv_5.out
  obtain ⟨u0,u1,u2,-⟩:=Ku_5.out
  have hyy:(y2 != y2)=false:=by simp
  have htt:(t2 != t2)=false:=by simp
  cases y2
  all_goals skip
  ·have hf:=hff rfl
   subst hf
   have hq:(!f1 == f1)=false:=by cases f1 <;> rfl
   clear hff
   go_upto_region 10 with fail
   have q:=hid (cH.out _ _ _ HM.out HV.out w5 HB5.out)
   unfold verV at q
   go_wp2_with fail
   refine q.out.mono ?_
   rintro e w6 ⟨rfl,hB⟩
   have HB6:=hid (HB5.out.trans (hB.mono HB5.out.size))
   clear hB q v0 v1 v2 u0 u1 u2
   have q:=hid (cL.out w6 HB6.out)
   go_wp2_with fail
   refine q.out.mono ?_
   rintro e w7 ⟨rfl,hB⟩
   have HB7:=hid (HB6.out.trans (hB.mono HB6.out.size))
   clear hB q 
   go_wp2
   go_ret
   exact ⟨rfl,HB7.out⟩
  ·clear hff
   go_upto_region 10 with fail
   have q:=hid (cH.out _ _ _ HM.out HV.out w5 HB5.out)
   unfold verV at q
   go_wp2_with fail
   refine q.out.mono ?_
   rintro e w6 ⟨rfl,hB⟩
   have HB6:=hid (HB5.out.trans (hB.mono HB5.out.size))
   clear hB q v0 v1 v2 u0 u1 u2
   have q:=hid (cL.out w6 HB6.out)
   go_wp2_with fail
   refine q.out.mono ?_
   rintro e w7 ⟨rfl,hB⟩
   have HB7:=hid (HB6.out.trans (hB.mono HB6.out.size))
   clear hB q 
   go_wp2
   go_ret
   exact ⟨rfl,HB7.out⟩
end
section
open Go.ChangeShapes Go.WideShapes Go.ChangeAt Go.RowKit
theorem ownKnobNone:ownKnob Tryz.prog.godebug=none:=by kernel_rfl
theorem laidOut:laidOutB Tryz.prog=true:=by kernel_rfl
theorem gTab:Tryz.prog.globalNamed "math/bits.deBruijn64tab" =some 0:=by kernel_rfl
theorem gTabType:(Tryz.prog.globals[0]?).map (·.type)=some 279:=by kernel_rfl
theorem cellsTab:Tryz.prog.cellsOf 279=64:=by kernel_rfl
theorem cellsU8:Tryz.prog.cellsOf 5=1:=by kernel_rfl
def tabInts:List Int:=Lib.deBruijn64tab.map fun (n:Nat)=>(n:Int)
theorem tabInts_get:∀i,i < 64→tabInts.getD i 0= ((Lib.deBruijn64tab.getD i 0:Nat):Int):=by decide
theorem tab_of {W:World} (h:laidMetH Tryz.prog [("math/bits.deBruijn64tab",Rows.laid_math_bits_deBruijn64tab)] W):Tab W:=by
 have ht:Lib.TabIs Tryz.prog W "math/bits.deBruijn64tab" .u8 tabInts:=Lib.tabIs_of_head (rest:= []) gTab gTabType Tryz.underlying279 Tryz.underlying5 cellsU8 cellsTab h
 have hc:∀i,i < 64→W.cell? ⟨0,i,none⟩=some (.int .u8 (tabInts.getD i 0)):=fun i hi=>ht.cell gTab i hi
 exact ⟨Nat.lt_of_le_of_lt (Nat.zero_le _) (World.block_lt_of_cell? W _ (hc 0 (by omega))),fun i hi=>by rw [hc i hi,tabInts_get i hi]⟩
noncomputable def laidWorld (os:Os):World:=
 {World.holding Tryz.prog os ⟨#[],#[],[]⟩ with heap:=(World.holding Tryz.prog os ⟨#[],#[],[]⟩).heap.modify 0 fun
   | .cells _ t frozen=> .cells (tabInts.map (Value.int .u8)).toArray t frozen
   | o=>o}
end
section
open Go.ChangeShapes Go.WideShapes Go.ChangeAt Go.RowKit
theorem wf_u32 {n:Int} (h:(Lit.int .u32 n).wf=true):∃k:Nat,n=k∧k < 4294967296:=by
 have h1:IntKind.u32.min=0:=by decide
 have h3:IntKind.u32.max=4294967295:=by decide
 have h2:=h
 simp [Lit.wf,h1,h3] at h2
 exact ⟨n.toNat,by omega,by omega⟩
theorem leafU32:leaves Tryz.prog 4 49=some [.int .u32]:=by kernel_rfl
theorem cellsU32:Tryz.prog.cellsOf 49=1:=by kernel_rfl
theorem oks_u32l:∀{cells:List Value} {n:Nat},cells.length=n * 1→(∀i,i < n→oks [.int .u32] ((cells.drop (i * 1)).take 1))→∃l:List Nat,cells=l.map (fun k=>Value.int .u32 (k:Nat))∧l.length=n∧∀x∈l,x < 4294967296
 | [],n,h,_=>⟨[],rfl,by simp at h; simp [h],by simp⟩
 | v :: cells,0,h,_=>by simp at h
 | v :: cells,n+1,h,hk=>by
   obtain ⟨l,e,hl,hb⟩:=oks_u32l (cells:=cells) (n:=n) (by simp at h⊢; omega) (fun i hi=>by have:=hk (i+1) (by omega); simpa using this)
   have h0:=hk 0 (by omega)
   simp at h0
   obtain ⟨⟨y,rfl,hw⟩,_⟩:=h0
   obtain ⟨x,rfl,hx⟩:=wf_u32 hw
   exact ⟨x :: l,by rw [e]; rfl,by simp [hl],fun y hy=>by
    rcases List.mem_cons.1 hy with rfl | hy
    ·exact hx
    ·exact hb y hy⟩
theorem open_u32s' {H:Type} {enc:TypeId × Value→H} {W:World} {a:Option Addr} {len cap:Nat} {d:DataW H} {p:List MemPlace} (h:DataW.Trod enc Tryz.prog W 0 (fun _=>true) true 23 (.slice a len cap) d p) :
  ∃l:List Nat,len=l.length∧l.length≤cap∧cap≤maxLen∧Sl W a (l.map (fun k=>Value.int .u32 (k:Nat)))∧(a=none→cap=0)∧∀x∈l,x < 4294967296:=by
 obtain ⟨fuel,hf⟩:=h
 obtain ⟨a',n,cap',cells,e,h1,h2,h3,h4,h6,h5⟩:=open_flat Tryz.underlying23 leafU32 cellsU32.symm (by decide) (v:= .slice a len cap) (by simpa [Value.cells] using hf)
 cases e
 obtain ⟨l,rfl,hll,hw⟩:=oks_u32l h3 h5
 subst hll
 exact ⟨l,rfl,h1,h2,h4,h6,hw⟩
end
section
open Go.RowKit Go.Maps
attribute [local go_sem ↓] eql_verS
attribute [local go_sem] eqlVer0
set_option maxRecDepth 100000 in
set_option maxHeartbeats 12800000 in
theorem MeetWithin_walk (a:Option Addr) (cap:Nat) (la:List Cl) (b:Option Addr) (capb:Nat) (lb:List Cl) (d:Option Addr) (capd:Nat) (ds:List Nat) (w:World)
  (hl:la.length≤9223372036854775807) (hlc:la.length≤cap) (hs:Sl w a (cls la)) (hno:a=none→cap=0) (hok:∀c∈la,c.Ok)
  (hlb:lb.length≤9223372036854775807) (hlcb:lb.length≤capb) (hsb:Sl w b (cls lb)) (hnob:b=none→capb=0) (hokb:∀c∈lb,c.Ok) (hdl:ds.length≤9223372036854775807) (hd:Sl w d (u32s ds)) (hx:∀x∈ds,x < 4294967296) (hT:Tab w) :
  Calls Tryz.prog 6 #[.slice a la.length cap, .slice b lb.length capb, .slice d ds.length capd] w fun e w'=>e= .returned (.bool true)∧Below w.heap.size w w':=by
 have cL:=hid (fun W (hB:Below w.heap.size w W)=>Lives21_any W (hT.later hB))
 by_cases h20:20 < la.length
 ·clear hs hok hno hsb hokb hnob hT
  go_enter Tryz.func6,Tryz.ntmps6
  have q:=hid (cL.out w (Below.refl _ _))
  go_wp2_with fail
  refine q.out.mono ?_
  rintro e w1 ⟨rfl,hB⟩
  have HB1:=hid (hB)
  clear hB q 
  go_wp2
  go_ret
  exact ⟨rfl,HB1.out⟩
 by_cases h21:20 < lb.length
 ·clear hs hok hno hsb hokb hnob hT
  go_enter Tryz.func6,Tryz.ntmps6
  have q:=hid (cL.out w (Below.refl _ _))
  go_wp2_with fail
  refine q.out.mono ?_
  rintro e w1 ⟨rfl,hB⟩
  have HB1:=hid (hB)
  clear hB q 
  go_wp2
  go_ret
  exact ⟨rfl,HB1.out⟩
 have cE:=hid (fun W (hB:Below w.heap.size w W)=>MtWithin_any a cap la b capb lb W (by omega) hlc (hs.below hB) hno hok (by omega) hlcb (hsb.below hB) hnob hokb (hT.later hB))
 have cE2:=hid (fun W (hB:Below w.heap.size w W)=>MtApart_any a cap la b capb lb W (by omega) hlc (hs.below hB) hno hok (by omega) hlcb (hsb.below hB) hnob hokb (hT.later hB))
 have cE3:=hid (fun W (hB:Below w.heap.size w W)=>MtEmpty_any a cap la W (by omega) hlc (hs.below hB) hno hok (hT.later hB))
 have cF:=hid (fun W (hB:Below w.heap.size w W)=>Fault21_any a cap la b capb lb W (by omega) hlc (hs.below hB) hno hok (by omega) hlcb (hsb.below hB) hnob hokb)
 have cN:=hid (fun W (hB:Below w.heap.size w W)=>Fault21_any a cap la none 0 [] W (by omega) hlc (hs.below hB) hno hok (by simp) (by simp) (.inl rfl) (fun _=>rfl) (by simp))
 have cH:=hid (fun (g:Nat) (r:Bool→Bool→Bool) (hg:∀args w,(callFunc g args).run Tryz.prog w= .ok (.enter g args) w) (hW:WantC g r) (y:Bool) (t:Int) (f:Bool) (hm:mayL la=true) (hV:VerP r la lb y t f) W (hB:Below w.heap.size w W)=>MHeld_any (g:=g) y t f a cap la b capb lb d capd ds W (by omega) (hs.below hB) hok (by omega) (hsb.below hB) hokb hm hdl (hd.below hB) hx hg hW hV)
 have cH3:=hid (fun (y:Bool) (t:Int) (f:Bool) (hm:mayL la=true) (hV:VerP (fun p q=>p && !q) la [] y t f) W (hB:Below w.heap.size w W)=>MHeld_any (g:=24) y t f a cap la none 0 [] d capd ds W (by omega) (hs.below hB) hok (by simp) (.inl rfl) (by simp) hm hdl (hd.below hB) hx (fun args w=>by simp [go_sem]) lacksW hV)
 have f2n:=fault2_nil la
 clear hs hok hno hsb hokb hnob hT hd hx
 go_enter Tryz.func6,Tryz.ntmps6
 have q:=hid (cE.out w (Below.refl _ _))
 go_wp2_with fail
 refine q.out.mono ?_
 rintro e w1 ⟨⟨y1,t1,f1,er1,rfl,hV1⟩,hB⟩
 have HB1:=hid (hB)
 clear hB q 
 unfold verV
 go_upto_region 4 with fail
 obtain ⟨w2,hw⟩:∃W,w1.alloc (.cells #[.bool y1, .int .i64 t1, .bool f1] 26)=W:=⟨_,rfl⟩
 have hB:Below w1.heap.size w1 w2:=by rw [←hw]; exact below_new (Below.refl _ _) (zG _)
 have kb:=vrB_new w1 26 y1 t1 f1
 rw [hw] at kb
 rw [hw]
 obtain ⟨v,hb⟩:∃c,w1.heap.size=c:=⟨_,rfl⟩
 rw [hb] at kb
 rw [hb]
 have HB2:=hid (HB1.out.trans (hB.mono HB1.out.size))
 have Kv_2:=hid kb
 clear hB hw hb kb
 have q:=hid (cE2.out w2 HB2.out)
 go_wp2_with fail
 refine q.out.mono ?_
 rintro e w3 ⟨⟨y2,t2,f2,er2,rfl,hV2⟩,hB⟩
 have HB3:=hid (HB2.out.trans (hB.mono HB2.out.size))
 have Kv_3:=hid (Kv_2.out.below hB)
 clear hB q 
 unfold verV
 go_upto_region 5 with fail
 obtain ⟨w4,hw⟩:∃W,w3.alloc (.cells #[.bool y2, .int .i64 t2, .bool f2] 26)=W:=⟨_,rfl⟩
 have hB:Below w3.heap.size w3 w4:=by rw [←hw]; exact below_new (Below.refl _ _) (zG _)
 have kb:=vrB_new w3 26 y2 t2 f2
 rw [hw] at kb
 rw [hw]
 obtain ⟨u,hb⟩:∃c,w3.heap.size=c:=⟨_,rfl⟩
 rw [hb] at kb
 rw [hb]
 have HB4:=hid (HB3.out.trans (hB.mono HB3.out.size))
 have Kv_4:=hid (Kv_3.out.below hB)
 have Ku_4:=hid kb
 clear hB hw hb kb
 have q:=hid (cE3.out w4 HB4.out)
 go_wp2_with fail
 refine q.out.mono ?_
 rintro e w5 ⟨⟨y3,t3,f3,er3,rfl,hV3⟩,hB⟩
 have HB5:=hid (HB4.out.trans (hB.mono HB4.out.size))
 have Kv_5:=hid (Kv_4.out.below hB)
 have Ku_5:=hid (Ku_4.out.below hB)
 clear hB q 
 unfold verV
 go_upto_region 6 with fail
 obtain ⟨w6,hw⟩:∃W,w5.alloc (.cells #[.bool y3, .int .i64 t3, .bool f3] 26)=W:=⟨_,rfl⟩
 have hB:Below w5.heap.size w5 w6:=by rw [←hw]; exact below_new (Below.refl _ _) (zG _)
 have kb:=vrB_new w5 26 y3 t3 f3
 rw [hw] at kb
 rw [hw]
 obtain ⟨x,hb⟩:∃c,w5.heap.size=c:=⟨_,rfl⟩
 rw [hb] at kb
 rw [hb]
 have HB6:=hid (HB5.out.trans (hB.mono HB5.out.size))
 have Kv_6:=hid (Kv_5.out.below hB)
 have Ku_6:=hid (Ku_5.out.below hB)
 have Kx_6:=hid kb
 clear hB hw hb kb
 have hVF:=hV1.1
 have hVG:=hV2.1
 have hVH:=hV3.1
 obtain ⟨X,hX⟩:∃X,fault2 la lb=X:=⟨_,rfl⟩
 obtain ⟨Y,hY⟩:∃X,faultL la=X:=⟨_,rfl⟩
 rw [f2n,hY] at hVH cN
 rw [hX] at cF hVF hVG
 subst hVF
 subst hVG
 subst hVH
 have q:=hid (cF.out w6 HB6.out)
 go_wp2_with fail
 refine q.out.mono ?_
 rintro e w7 ⟨rfl,hB⟩
 have HB7:=hid (HB6.out.trans (hB.mono HB6.out.size))
 have Kv_7:=hid (Kv_6.out.below hB)
 have Ku_7:=hid (Ku_6.out.below hB)
 have Kx_7:=hid (Kx_6.out.below hB)
 clear hB q 
 by_cases hX0:er2=0
 rotate_left
 ·obtain ⟨rfl,rfl,rfl⟩:=hV1.2.1 hX0
  obtain ⟨rfl,rfl,rfl⟩:=hV2.2.1 hX0
  have hn:(er2 == 0)=false:=by simpa using hX0
  have hn2:(er2 != 0)=true:=by simpa using hX0
  clear hV1 hV2 hV3 hX hX0 hY f2n cE cE2 cE3 cH cH3
  obtain ⟨v0,v1,v2,-⟩:=Kv_7.out
  obtain ⟨u0,u1,u2,-⟩:=Ku_7.out
  have q:=hid (cN.out w7 HB7.out)
  go_wp2_with fail
  refine q.out.mono ?_
  rintro e w8 ⟨rfl,hB⟩
  have HB8:=hid (HB7.out.trans (hB.mono HB7.out.size))
  have Kv_8:=hid (Kv_7.out.below hB)
  have Ku_8:=hid (Ku_7.out.below hB)
  have Kx_8:=hid (Kx_7.out.below hB)
  clear hB q v0 v1 v2 u0 u1 u2
  have q:=hid (cL.out w8 HB8.out)
  go_wp2_with fail
  refine q.out.mono ?_
  rintro e w9 ⟨rfl,hB⟩
  have HB9:=hid (HB8.out.trans (hB.mono HB8.out.size))
  have Kv_9:=hid (Kv_8.out.below hB)
  have Ku_9:=hid (Ku_8.out.below hB)
  have Kx_9:=hid (Kx_8.out.below hB)
  clear hB q 
  go_wp2
  go_ret
  exact ⟨rfl,HB9.out⟩
 ·subst hX0
  have HV1:=hid (hV1.2.2 rfl)
  have HV2:=hid (hV2.2.2 rfl)
  have hf0:faultL la=0:=by rw [fault2] at hX; split at hX <;> simp_all
  rw [hf0] at hY
  subst hY
  have HV3:=hid (hV3.2.2 rfl)
  have HM:=hid (fault_may hf0)
  clear hV1 hV2 hV3 hX hf0 f2n cN cE cE2 cE3
  obtain ⟨v0,v1,v2,-⟩:=Kv_7.out
  go_upto_region 9 with fail
  have q:=hid (cH.out 24 (fun p q=>p && !q) (fun args w=>by simp [go_sem]) lacksW _ _ _ HM.out HV1.out w7 HB7.out)
  unfold verV at q
  go_wp2_with fail
  refine q.out.mono ?_
  rintro e w8 ⟨rfl,hB⟩
  have HB8:=hid (HB7.out.trans (hB.mono HB7.out.size))
  have Kv_8:=hid (Kv_7.out.below hB)
  have Ku_8:=hid (Ku_7.out.below hB)
  have Kx_8:=hid (Kx_7.out.below hB)
  clear hB q v0 v1 v2
  obtain ⟨u0,u1,u2,-⟩:=Ku_8.out
  have q:=hid (cH.out 25 (fun p q=>p && q) (fun args w=>by simp [go_sem]) commonW _ _ _ HM.out HV2.out w8 HB8.out)
  unfold verV at q
  go_wp2_with fail
  refine q.out.mono ?_
  rintro e w9 ⟨rfl,hB⟩
  have HB9:=hid (HB8.out.trans (hB.mono HB8.out.size))
  have Kv_9:=hid (Kv_8.out.below hB)
  have Ku_9:=hid (Ku_8.out.below hB)
  have Kx_9:=hid (Kx_8.out.below hB)
  clear hB q u0 u1 u2
  obtain ⟨x0,x1,x2,-⟩:=Kx_9.out
  have q:=hid (cH3.out _ _ _ HM.out HV3.out w9 HB9.out)
  unfold verV at q
  go_wp2_with fail
  refine q.out.mono ?_
  rintro e w10 ⟨rfl,hB⟩
  have HB10:=hid (HB9.out.trans (hB.mono HB9.out.size))
  have Kv_10:=hid (Kv_9.out.below hB)
  have Ku_10:=hid (Ku_9.out.below hB)
  have Kx_10:=hid (Kx_9.out.below hB)
  clear hB q x0 x1 x2
  have q:=hid (cL.out w10 HB10.out)
  go_wp2_with fail
  refine q.out.mono ?_
  rintro e w11 ⟨rfl,hB⟩
  have HB11:=hid (HB10.out.trans (hB.mono HB10.out.size))
  have Kv_11:=hid (Kv_10.out.below hB)
  have Ku_11:=hid (Ku_10.out.below hB)
  have Kx_11:=hid (Kx_10.out.below hB)
  clear hB q 
  go_wp2
  go_ret
  exact ⟨rfl,HB11.out⟩
end
section
open Go.RowKit Go.Maps
def WorkR (IA IB:Nat→Nat→(Nat→Bool)→Nat→Prop) (la lb:List Cl) (e:Ending):Prop:=
 (faultL la≠0∧e= .returned (.tuple #[.int .i64 0, .int .i64 0, .int .i64 (faultL la)]))∨
 (faultL la=0∧faultL lb≠0∧e= .returned (.tuple #[.int .i64 0, .int .i64 0, .int .i64 (faultL lb)]))∨
 (faultL la=0∧faultL lb=0∧∃(t:Int) (ok:Bool) (wa wb:Nat→Bool) (ma mb j k:Nat),e= .returned (.tuple #[.int .i64 (j:Nat), .int .i64 ((ma:Int)+mb), .int .i64 0])∧
   FirstD (fun p q=>p != q) la lb (hF la) (hU la) (hF lb) (hU lb) (dM (hF la) (hU la) (hF lb) (hU lb)) t ok j∧IA k j wa ma∧IB k j wb mb∧k≤(dM (hF la) (hU la) (hF lb) (hU lb)).length)
theorem FirstD.j_le {pw:Bool→Bool→Bool} {la lb:List Cl} {f0 u0 f1 u1:Int} {D:List Int} {t:Int} {ok:Bool} {j:Nat} (h:FirstD pw la lb f0 u0 f1 u1 D t ok j):j≤D.length:=by
 rcases h with ⟨-,k,h1,h2,-⟩ | ⟨-,-,h1,-⟩ <;> omega
set_option maxRecDepth 100000 in
set_option maxHeartbeats 6400000 in
theorem MWork_any (a:Option Addr) (cap:Nat) (la:List Cl) (b:Option Addr) (capb:Nat) (lb:List Cl) (W:World) (IA IB:Nat→Nat→(Nat→Bool)→Nat→Prop)
  (sA:∀k j n ws m ws' m',(dM (hF la) (hU la) (hF lb) (hU lb))[k]? =some n→IA k j ws m→AtStep la n ws m ws' m'→IA (k+1) (j+1) ws' m') (sB:∀k j n ws m ws' m',(dM (hF la) (hU la) (hF lb) (hU lb))[k]? =some n→IB k j ws m→AtStep lb n ws m ws' m'→IB (k+1) (j+1) ws' m')
  (nA:∀k j ws m,IA k j ws m→IA (k+1) j ws m) (nB:∀k j ws m,IB k j ws m→IB (k+1) j ws m)
  (bA:∀k j ws m,IA k j ws m→j≤146097→m < 4611686018427387904) (bB:∀k j ws m,IB k j ws m→j≤146097→m < 4611686018427387904)
  (iA:faultL la=0→IA 0 0 (fun _=>false) 0) (iB:faultL lb=0→IB 0 0 (fun _=>false) 0)
  (hl:la.length≤1000) (hlc:la.length≤cap) (hs:Sl W a (cls la)) (hno:a=none→cap=0) (hok:∀c∈la,c.Ok)
  (hlb:lb.length≤1000) (hlcb:lb.length≤capb) (hsb:Sl W b (cls lb)) (hnob:b=none→capb=0) (hokb:∀c∈lb,c.Ok) (hT:Tab W) :
  Calls Tryz.prog 17 #[.slice a la.length cap, .slice b lb.length capb] W fun e W'=>WorkR IA IB la lb e∧Below W.heap.size W W':=by
 have cB:=hid (MBegin_any a cap la b capb lb 51 (fun p q=>p != q) W hl hlc hs hno hok hlb hlcb hsb hnob hokb hT)
 have HS:=hid (And.intro sA (And.intro sB (And.intro nA (And.intro nB (And.intro bA bB)))))
 have HI:=hid (And.intro iA iB)
 clear hl hlc hs hno hok hlb hlcb hsb hnob hokb hT sA sB nA nB bA bB iA iB
 go_enter Tryz.func17,Tryz.ntmps17
 go_wp2_with fail
 refine cB.out.mono ?_
 rintro e w2 ⟨hR,hB2⟩
 have HB2:=hid hB2
 clear hB2 cB
 rcases hR with ⟨hf,rfl⟩ | ⟨hf,hf2,rfl⟩ | ⟨hf,hf2,x,fm,ra,rb,Fa,Fb,rfl,hA,hx,hfm,hM⟩
 ·obtain ⟨X,hX⟩:∃X,faultL la=X:=⟨_,rfl⟩
  have HR:Hid (WorkR IA IB la lb (.returned (.tuple #[.int .i64 0, .int .i64 0, .int .i64 (faultL la)]))):= .inl ⟨hf,rfl⟩
  rw [hX] at hf HR⊢
  have hX0:(X == 0)=false:=by simpa using hf
  have hX1:(X != 0)=true:=by simpa using hf
  clear hX HS HI
  go_wp2
  refine bodyPost_ret (results_tmp3 rfl _ _ _) rfl ?_
  exact ⟨HR.out,HB2.out⟩
 ·obtain ⟨X,hX⟩:∃X,faultL lb=X:=⟨_,rfl⟩
  have HR:Hid (WorkR IA IB la lb (.returned (.tuple #[.int .i64 0, .int .i64 0, .int .i64 (faultL lb)]))):= .inr (.inl ⟨hf,hf2,rfl⟩)
  rw [hX] at hf2 HR⊢
  have hX0:(X == 0)=false:=by simpa using hf2
  have hX1:(X != 0)=true:=by simpa using hf2
  clear hX HS HI hf
  go_wp2
  refine bodyPost_ret (results_tmp3 rfl _ _ _) rfl ?_
  exact ⟨HR.out,HB2.out⟩
 ·have Hx:=hid (And.intro hx (And.intro hfm hM))
  have Hf:=hid (And.intro hf hf2)
  have cF:=hid (MFirstG_any (W:=w2) IA IB HS.out.1 HS.out.2.1 HS.out.2.2.1 HS.out.2.2.2.1 HS.out.2.2.2.2.1 HS.out.2.2.2.2.2 (fun args w=>by simp [go_sem]) differC hA (HI.out.1 hf) (HI.out.2 hf2))
  clear hA hx hfm hM hf hf2 HI
  go_wp2_with fail
  refine cF.out.mono ?_
  rintro e w3 ⟨t,ok,Fa',Fb',wa',wb',ma',mb',j,k,rfl,hD,hA3,hE3,-,-,iA,iB,hk⟩
  have hj:j≤146097:=zI hD.j_le (dM_len _ _ _ _)
  have ba:=HS.out.2.2.2.2.1 k j wa' ma' iA hj
  have bb:=HS.out.2.2.2.2.2 k j wb' mb' iB hj
  have hw:IntKind.i64.wrap ((ma':Int)+mb')= (ma':Int)+mb':=IntWalk.i64_in _ (by omega)
  have HR:Hid (WorkR IA IB la lb (.returned (.tuple #[.int .i64 (j:Nat), .int .i64 ((ma':Int)+mb'), .int .i64 0]))):= .inr (.inr ⟨Hf.out.1,Hf.out.2,t,ok,wa',wb',ma',mb',j,k,rfl,hD,iA,iB,hk⟩)
  have HB3:Hid (Below W.heap.size W w3):=HB2.out.trans (hE3.below (fun c hc=>by
   rcases hc with rfl | rfl | hc
   ·exact Hx.out.1
   ·exact Hx.out.2.1
   ·exact Hx.out.2.2 c hc) HB2.out.size)
  have x0:=hA3.c0
  have x1:=hA3.c1
  have x4:=hA3.c4
  have mA:=hid (fun n=>RMadeN_any (W:=w3.drewN n) (hA3.two.a.keep (zG _) (fun _ _=>rfl)))
  have mB:=hid (fun n=>RMadeN_any (W:=w3.drewN n) (hA3.two.b.keep (zG _) (fun _ _=>rfl)))
  clear hD hA3 hE3 iA iB cF HS Hx Hf hj ba bb hk
  go_wp2_with fail
  go_quiet (first
   | (go_at_call 54; with_reducible refine (mA.out _).mono ?_; exact fun _ _ h=>⟨h.1,_,h.2.symm⟩)
   | (go_at_call 54; with_reducible refine (mB.out _).mono ?_; exact fun _ _ h=>⟨h.1,_,h.2.symm⟩))
  clear x0 x1 x4 mA mB
  go_wp2
  refine bodyPost_ret (results_tmp3 rfl _ _ _) rfl ?_
  exact ⟨HR.out,below_drewN HB3.out _⟩
end
section
open Go.RowKit Go.Maps
attribute [local go_sem ↓] loadAt_cl storeAt_cl
attribute [local go_sem] run_storeClS
def stpB (c:Cl):Bool:=mayC c && (decide (c.unit < 3) && decide (1 < c.step))
theorem countP_snoc {p:Cl→Bool} {l:List Cl} {k:Nat} (hk:k < l.length):(l.take (k+1)).countP p= (l.take k).countP p+if p l[k] then 1 else 0:=by
 rw [take_snoc l k hk,List.countP_append]; cases h:p l[k] <;> simp [h]
theorem countP_bd (p:Cl→Bool) (l:List Cl) (k:Nat):(l.take k).countP p≤k:=zI List.countP_le_length (by rw [List.length_take]; omega)
set_option maxRecDepth 100000 in
set_option maxHeartbeats 3200000 in
theorem RSteps_any (a:Option Addr) (cap:Nat) (l:List Cl) (w:World) (hl:l.length≤1000) (hs:Sl w a (cls l)) (hok:∀c∈l,c.Ok) :
  Calls Tryz.prog 18 #[.slice a l.length cap] w fun e w'=>e= .returned (.int .i64 (l.countP stpB:Nat))∧Below w.heap.size w w':=by
 have cM:=hid (fun (c:Cl) (hc:c.Ok) W=>CMayCl_any c W hc)
 have Hs:=hid hs
 have Hok:=hid hok
 clear hs hok
 go_enter Tryz.func18,Tryz.ntmps18
 go_wp2_with fail
 go_loopw [3,5,8] (fun v _ i wr=>∃k q:Nat,i= .int .i64 k∧k≤l.length∧v= .int .i64 q∧q≤k∧Hid (q= (l.take k).countP stpB)∧Hid (Below w.heap.size w wr)) (fun _ _ i _=>l.length - (intOf i).toNat)
 case atStart=>exact ⟨0,0,rfl,by omega,rfl,by omega,(rfl:(0:Nat)=0),Below.refl _ _⟩
 case round=>
  obtain ⟨k,q,rfl,hk,rfl,hqk,Hq,HB⟩:=hrel
  by_cases hlt:k < l.length
  ·obtain ⟨b,off,rfl,hbk,hr⟩:=Hs.out.atCl hlt
   have hr':=range_below hr HB.out hbk
   have hcOk:=hid (Hok.out _ (List.getElem_mem hlt))
   have Hsn:=hid (countP_snoc (p:=stpB) hlt)
   obtain ⟨c,hc⟩:∃c,l[k]=c:=⟨_,rfl⟩
   rw [hc] at hr' hcOk Hsn
   have le:=ld_at hr'
   have hth2:(wr.alloc (.cells zL.toArray 43)).there wr.heap.size 0 30:=there_new wr _ _
   have hn2:=below_new (o:= .cells zL.toArray 43) (Below.refl wr.heap.size wr) (zG _)
   obtain ⟨W1,hW1⟩:∃W1,putCl (wr.alloc (.cells zL.toArray 43)) wr.heap.size (clList c)=W1:=⟨_,rfl⟩
   have hC1:ClB W1 wr.heap.size c:=by rw [←hW1]; exact putCl_range _ rfl hth2
   have hb1:Below wr.heap.size wr W1:=by rw [←hW1]; exact putCl_below hn2 (zG _) _
   have hs1:wr.heap.size < W1.heap.size:=by rw [←hW1,putCl_eq,size_setCells,World.size_alloc]; omega
   have HW1:=hid hW1
   have HC1:=hid hC1
   have HB1:=hid (HB.out.trans (hb1.mono HB.out.size))
   have Hs1:=hid hs1
   have cM1:=hid (cM.out c hcOk.out W1)
   have hsp:Hid (stpB c= (mayC c && (decide (c.unit < 3) && decide (1 < c.step)))):=rfl
   obtain ⟨mv,hmv⟩:∃m,mayC c=m:=⟨_,rfl⟩
   rw [hmv] at cM1 hsp
   clear hW1 hn2 hb1 hs1 hC1 hr hr' hc hmv
   go_upto_region 5 with fail
   rw [HW1.out]
   have l1:=HC1.out.ld
   clear le hth2
   go_wp2_with fail
   refine cM1.out.mono ?_
   rintro e w2 ⟨rfl,hB2⟩
   have HC2:=hid (HC1.out.below hB2 Hs1.out)
   have HB2:=hid (HB1.out.trans (hB2.mono HB1.out.size))
   obtain ⟨t0,t1,-,-,-⟩:=HC2.out.tail
   clear hB2 l1
   cases mv
   ·have hz:Hid (q= (l.take (k+1)).countP stpB):=by show _ = _; rw [Hsn.out,hsp.out,←Hq.out]; rfl
    go_wp2
    exact ⟨⟨k+1,q,by go_num,by omega,rfl,by omega,hz,HB2⟩,by simp [intOf]; omega⟩
   ·by_cases h3:c.unit < 3
    ·by_cases h1:1 < c.step
     ·have hz:Hid (q+1= (l.take (k+1)).countP stpB):=by show _ = _; rw [Hsn.out,hsp.out,decide_eq_true h3,decide_eq_true h1,←Hq.out]; rfl
      go_wp2
      exact ⟨⟨k+1,q+1,by go_num,by omega,by go_num,by omega,hz,HB2⟩,by simp [intOf]; omega⟩
     ·have hz:Hid (q= (l.take (k+1)).countP stpB):=by show _ = _; rw [Hsn.out,hsp.out,decide_eq_false h1,←Hq.out]; simp
      go_wp2
      exact ⟨⟨k+1,q,by go_num,by omega,rfl,by omega,hz,HB2⟩,by simp [intOf]; omega⟩
    ·have hz:Hid (q= (l.take (k+1)).countP stpB):=by show _ = _; rw [Hsn.out,hsp.out,decide_eq_false h3,←Hq.out]; simp
     go_wp2
     exact ⟨⟨k+1,q,by go_num,by omega,rfl,by omega,hz,HB2⟩,by simp [intOf]; omega⟩
  ·obtain rfl:k=l.length:=by omega
   rw [List.take_length] at Hq
   go_wp2
   go_ret
   exact ⟨congrArg (fun n:Nat=>Ending.returned (.int .i64 (n:Int))) Hq.out,HB.out⟩
end
section
open Go.RowKit Go.Maps
theorem size_lt {u:Int} (h:0 < sizeU u):u < 3:=by
 rcases unit_cases u with rfl | rfl | rfl | ⟨-,-,-,h4⟩
 ·decide
 ·decide
 ·decide
 ·omega
theorem may_steps {l:List Cl} (h:mayL l=true) {c:Cl} (hc:c∈l):stpB c= (decide (c.unit < 3) && decide (1 < c.step)):=by
 rw [mayL,Bool.and_eq_true,List.all_eq_true] at h
 rw [stpB,h.2 c hc,Bool.true_and]
/-! ### how many whole sets are made -/
theorem act_pow {cs:List Cl} {n:Int} (h8:cs.length≤8):actM cs n < 2 ^ cs.length:=by
 refine Nat.lt_pow_two_of_testBit _ fun i hi=>?_
 rw [actM,mk_test,decide_eq_false (show¬i < cs.length by omega),Bool.false_and,Bool.and_false]
theorem cntW_add {ws:Nat→Bool} {a:Nat} (ha:a < 256):cntW (fun i=>ws i || decide (i=a))=if ws a then cntW ws else cntW ws+1:=by
 have key:∀(l:List Nat),l.Nodup→a∈l→l.countP (fun i=>ws i || decide (i=a))=if ws a then l.countP ws else l.countP ws+1:=by
  intro l
  induction l with
  | nil=>intro _ h; cases h
  | cons x l ih=>
    intro hn hm
    obtain ⟨hx,hn⟩:=List.nodup_cons.1 hn
    rw [List.countP_cons,List.countP_cons]
    by_cases e:x=a
    ·subst e
     have hno:l.countP (fun i=>ws i || decide (i=x))=l.countP ws:=List.countP_congr fun i hi=>by
      have:i≠x:=fun e=>hx (e ▸ hi)
      simp [this]
     rw [hno]
     cases ws x <;> simp
    ·have hm2:a∈l:=by
      rcases List.mem_cons.1 hm with h | h
      ·exact absurd h.symm e
      ·exact h
     rw [ih hn hm2]
     have e1:decide (x=a)=false:=by simp [e]
     cases ws a <;> cases ws x <;> simp [e1] <;> omega
 exact key _ List.nodup_range (List.mem_range.2 ha)
theorem count_below (M N:Nat):(List.range M).countP (fun j=>decide (j < N))≤N:=by
 induction M with
 | zero=>simp
 | succ M ih=>
   by_cases h:M < N
   ·have h1:(List.range (M+1)).countP (fun j=>decide (j < N))≤M+1:=zI List.countP_le_length (by rw [List.length_range]; exact zG _)
    omega
   ·rw [List.range_succ,List.countP_append,List.countP_cons,List.countP_nil,decide_eq_false h]
    simpa using ih
theorem cntW_le {ws:Nat→Bool} {N:Nat} (h:∀j,ws j=true→j < N):cntW ws≤N:=
 zI (List.countP_mono_left fun j _ hj=>by simpa using h j hj) (count_below 256 N)
structure KnI (cs:List Cl) (n0:Int) (k:Nat) (ws:Nat→Bool) (m:Nat):Prop where
 cnt:m=cntW ws
 low:∀j,ws j=true→j < 2 ^ cs.length
 day:0 < k→actM cs n0=0∨ws (actM cs n0)=true
theorem KnI.step {cs:List Cl} {n0 n:Int} {k:Nat} {ws ws':Nat→Bool} {m m':Nat} (h:KnI cs n0 k ws m) (h8:cs.length≤8) (hw:wholeB cs n=true) (hs:AtStep cs n ws m ws' m') (hk:k=0→n=n0):KnI cs n0 (k+1) ws' m':=by
 have ha:actM cs n < 2 ^ cs.length:=act_pow h8
 have ha2:actM cs n < 256:=actM_lt8 h8
 rcases hs with ⟨a,rfl,rfl⟩ | ⟨a,-,rfl,rfl⟩ | ⟨-,v,-⟩
 ·refine ⟨h.cnt,h.low,fun _=>?_⟩
  by_cases hk0:k=0
  ·rw [←hk hk0]; exact .inl a
  ·exact h.day (by omega)
 ·refine ⟨?_,fun j hj=>?_,fun _=>?_⟩
  ·rw [cntW_add ha2,h.cnt]
  ·rw [Bool.or_eq_true,decide_eq_true_eq] at hj
   rcases hj with hj | hj
   ·exact h.low j hj
   ·rw [hj]; exact ha
  ·by_cases hk0:k=0
   ·rw [←hk hk0]; exact .inr (by simp)
   ·exact (h.day (by omega)).imp id (fun h=>by rw [h]; rfl)
 ·rw [hw] at v; cases v
end
section
open Go.RowKit Go.Maps
def noStep (cs:List Cl):Prop:=∀c∈cs,0 < sizeU c.unit→c.step≤1
theorem noStep_of {cs:List Cl} (hm:mayL cs=true) (h:cs.countP stpB=0):noStep cs:=fun c hc hz=>by
 have h1:=List.countP_eq_zero.1 h c hc
 rw [may_steps hm hc] at h1
 have h2:=size_lt hz
 rw [decide_eq_true h2,Bool.true_and,decide_eq_true_eq] at h1
 omega
theorem whole_all {cs:List Cl} {n:Int} (hs:noStep cs) (hw:∀c∈cs,c.fr≤0∧12622780799≤c.un) (h0:0≤n) (h1:n < 146097):wholeB cs n=true:=by
 rw [wholeB,List.all_eq_true]
 intro i hi
 rw [List.mem_range] at hi
 rw [atC_get hi]
 have hc:=List.getElem_mem hi
 obtain ⟨c,he⟩:∃c,cs[i]=c:=⟨_,rfl⟩
 rw [he] at hc⊢
 obtain ⟨g1,g2⟩:=hw c hc
 rw [Bool.or_eq_true,decide_eq_true_eq]
 cases hl:liveD c n
 ·exact .inl rfl
 ·refine .inr ⟨?_,?_,?_⟩
  ·rw [sF,hl,if_pos rfl,stF]; omega
  ·rw [sU,hl,if_pos rfl,stU]; omega
  ·rw [sP,hl,if_pos rfl,phaseC,if_neg (fun h=>by have:=hs c hc h.2; omega)]
structure WkI (cs:List Cl) (D:List Int) (wh:Prop) (k j:Nat) (ws:Nat→Bool) (m:Nat):Prop where
 mj:m≤j
 cnt:wh→m≤cntW ws+(D.take k).countP (fun n=>!wholeB cs n)
 low:wh→∀i,ws i=true→i < 2 ^ cs.length
theorem WkI.start (cs:List Cl) (D:List Int) (wh:Prop):WkI cs D wh 0 0 (fun _=>false) 0:=⟨zG 0,fun _=>Nat.zero_le _,fun _ i h=>by cases h⟩
theorem take_countP_le (p:Int→Bool) (D:List Int) (k:Nat):(D.take k).countP p≤(D.take (k+1)).countP p:=by
 rcases Nat.lt_or_ge k D.length with h | h
 ·rw [take_snoc D k h,List.countP_append]; omega
 ·rw [List.take_of_length_le h,List.take_of_length_le (by omega)]; exact zG _
theorem WkI.skip {cs:List Cl} {D:List Int} {wh:Prop} {k j:Nat} {ws:Nat→Bool} {m:Nat} (h:WkI cs D wh k j ws m):WkI cs D wh (k+1) j ws m:=
 ⟨h.mj,fun hw=>by have:=h.cnt hw; have:=take_countP_le (fun n=>!wholeB cs n) D k; omega,h.low⟩
theorem WkI.step {cs:List Cl} {D:List Int} {wh:Prop} {k j:Nat} {n:Int} {ws ws':Nat→Bool} {m m':Nat} (h8:wh→cs.length≤8) (hn:D[k]? =some n) (h:WkI cs D wh k j ws m) (hs:AtStep cs n ws m ws' m'):WkI cs D wh (k+1) (j+1) ws' m':=by
 have hle:=take_countP_le (fun n=>!wholeB cs n) D k
 have hj:=h.mj
 rcases hs with ⟨_,rfl,rfl⟩ | ⟨_,hw,rfl,rfl⟩ | ⟨_,hw,rfl,hm⟩
 ·exact ⟨by omega,fun hh=>by have:=h.cnt hh; omega,h.low⟩
 ·refine ⟨by split <;> omega,fun hh=>?_,fun hh i hi=>?_⟩
  ·rw [cntW_add (actM_lt8 (h8 hh))]
   have:=h.cnt hh
   split <;> omega
  ·rw [Bool.or_eq_true,decide_eq_true_eq] at hi
   rcases hi with hi | hi
   ·exact h.low hh i hi
   ·rw [hi]; exact act_pow (h8 hh)
 ·refine ⟨by omega,fun hh=>?_,h.low⟩
  obtain ⟨hk,he⟩:=List.getElem?_eq_some_iff.1 hn
  have h1:=h.cnt hh
  rw [take_snoc D k hk,List.countP_append,List.countP_cons,List.countP_nil,he,hw]
  simp
  omega
theorem WkI.whole {cs:List Cl} {D:List Int} {wh:Prop} {k j:Nat} {ws:Nat→Bool} {m:Nat} (h:WkI cs D wh k j ws m) (hw:wh) (hs:noStep cs) (hu:∀c∈cs,c.fr≤0∧12622780799≤c.un) (hr:∀n∈D,0≤n∧n < 146097):m≤2 ^ cs.length:=by
 have h1:=h.cnt hw
 have h2:=cntW_le (h.low hw)
 have h3:(D.take k).countP (fun n=>!wholeB cs n)=0:=by
  rw [List.countP_eq_zero]
  intro n hn
  have:=hr n (List.mem_of_mem_take hn)
  rw [whole_all hs hu this.1 this.2]; simp
 omega
end
end Go.Proofs.YtmjljpdeohbfbaaGreatDoor
