/-
  ferialaw22.CastBits answers true for every clauses, field and number.
  The table of math/bits that this seat's rows list: what a row's premise gives of it, and a world that holds it.
-/
import Derived.Test.YtkpgfmonhfnhdaaGreatDoorQ5eff0f
import Derived.Test.YtkpgfmonhfnhdaaGreatDoorQ261174
import Derived.Test.YtkpgfmonhfnhdaaGreatDoorQbf9d08
import Derived.Deep.CutRange
import Derived.Test.YtkpgfmonhfnhdaaGreatDoorCards
import Derived.Test.YtkpgfmonhfnhdaaGreatDoorTie
import Derived.Test.YtkpgfmonhfnhdaaGreatDoorQ15e503
import Derived.Test.YtkpgfmonhfnhdaaGreatDoorQd6e098
import Derived.Deep.DeepHandedRow
import Derived.Lib.LaidTab
set_option maxRecDepth 100000
set_option maxHeartbeats 25600000
namespace Go.Proofs.YtkpgfmonhfnhdaaGreatDoor
set_option linter.unusedVariables false
section
open Go.RowKit Go.Maps
attribute [local irreducible] secL
def hOf (K:Nat) (Y:Int):Int:=if K=0 then Y % 24 else if K=1 then 1+Y % 12 else if K=2 then Y % 60 else Y % 400
theorem hOf_r {K:Nat} (hK:K < 4) (Y:Int):fldR K (hOf K Y):=by
 unfold fldR
 rcases four hK with rfl | rfl | rfl | rfl
 ·show 0≤Y % 24∧(_→Y % 24 < 400)∧(_→Y % 24 < 64)∧_; omega
 ·show 0≤1+Y % 12∧(_→1+Y % 12 < 400)∧(_→1+Y % 12 < 64)∧_; omega
 ·show 0≤Y % 60∧(_→Y % 60 < 400)∧(_→Y % 60 < 64)∧_; omega
 ·show 0≤Y % 400∧(_→Y % 400 < 400)∧(_→Y % 400 < 64)∧_; omega
theorem yfx {l:List Cl} (h:mayL l=true):yah l=0:=by rw [ycC,zzY] at h; exact h
theorem fault2_0 {l:List Cl} (h:mayL l=true):yfy l []=0:=by
 rw [yfy,if_neg (by rw [yfx h]; decide)]; kernel_rfl
theorem LsB.ld7 {b:Nat} {c:Cl} {W:World} (h:LsB b (yad c) W):(ydp (.pointer (some ⟨b,18,none⟩))).run Tryz.prog W= .ok (wv c.ys) W:=by
 have hr:W.rangeAt b 18 (l7w c.ys):=fun j v hv=>by
  obtain ⟨hj,e⟩:=zzq.1 hv
  have hj7:j < 7:=hj
  refine h.at (k:=18+j) ?_
  rw [←e]
  rcases ye9 hj7 with rfl | rfl | rfl | rfl | rfl | rfl | rfl <;> rfl
 unfold ydp
 simp only [Instr.loadAt,Instr.sureAddr,Sem.run_bind,Sem.run_pure,Result.andThen_ok,run_loadVar_mid W b 18 25 (l7w c.ys) _ hr Tryz.underlying25 rfl infoB7]
 rfl
theorem eqlFct (W:World):(yg9 (fcv (fun _=>0) 0 0 0 true true) (.agg #[.int .u64 0, .int .u64 0, .int .u64 0, .int .u64 0, .int .u64 0, .int .u64 0, .int .u64 0, .int .u64 0, .int .u64 0, .int .u64 0, .int .u64 0, .int .u64 0, .int .u64 0, .int .u64 0, .int .u64 0, .int .u64 0, .int .u64 0, .int .u64 0, .int .u64 0, .int .u64 0, .int .u64 0, .int .u64 0, .int .u64 0, .int .u64 0, .int .u64 0, .int .u64 0, .int .u64 0, .int .u64 0, .int .u64 0, .int .u64 0, .int .u64 0, .int .u64 0, .int .u64 0, .int .u64 0, .int .u64 0, .int .u64 0, .int .u64 0, .int .u64 0, .int .u64 0, .int .u64 0, .int .u64 0, .int .u64 0, .int .u64 0, .int .u64 0, .int .u64 0, .int .u64 0, .int .i64 0, .int .i64 0, .int .i64 0, .bool true, .bool true])).run Tryz.prog W= .ok (.bool true) W:=by kernel_rfl
theorem yd2 (x:Int) (W:World):Calls Tryz.prog 15 #[.slice (some ⟨W.heap.size,0,none⟩) 1 1] (W.alloc (.cells #[.int .i64 x] 3)) fun e w'=>e= .returned (.int .u64 (ofM [x]))∧Below W.heap.size W w':=by
 have hb:Below W.heap.size W (W.alloc (.cells #[.int .i64 x] 3)):=yaa (Below.refl _ _) (zG _)
 exact (yia (some ⟨W.heap.size,0,none⟩) 1 [x] _ (by simp) (ydj (yaG W [.int .i64 x] 3) (by simp))).mono fun e w' ⟨he,h⟩=>⟨he,hb.trans (h.mono hb.size)⟩
theorem ver_cellB (W:World) (T:TypeId) (y:Bool) (t:Int) (f:Bool):(W.alloc (.cells #[.bool y, .int .i64 t, .bool f] T)).cell? ⟨W.heap.size,0,none⟩=some (.bool y):=by simp [go_sem]
attribute [local go_sem ↓] yaq ya8 yeM ydH eql_fcS yjH yjy
attribute [local go_sem] yaJ eqgFc eqgFc2 eqlFct
theorem ygC (a:Option Addr) (cap:Nat) (l:List Cl) (x y:Nat) (w:World) (hl:l.length≤9223372036854775807) (hlc:l.length≤cap) (hs:Sl w a (cls l)) (hno:a=none→cap=0) (hok:∀c∈l,c.Ok) (hx:x < 256) (hy:y < 65536) (hT:Tab w) :
  Calls Tryz.prog 5 #[.slice a l.length cap, .int .u8 (x:Nat), .int .u16 (y:Nat)] w fun e w'=>e= .returned (.bool true)∧Below w.heap.size w w':=by
 have cL:=hid (fun W (hB:Below w.heap.size w W)=>yif W (hT.later hB))
 by_cases h8:8 < l.length
 ·clear hs hok hno hT
  go_enter Tryz.func5,Tryz.ntmps5
  go_wp2_with fail
  refine (cL.out w (Below.refl _ _)).mono ?_
  rintro e w1 ⟨rfl,hB⟩
  have HB1:=hid hB
  clear hB
  go_wp2
  go_ret
  exact ⟨rfl,HB1.out⟩
 have cM:=hid (ykg a cap l w (by omega) hs hok)
 have cO:=hid (fun W (hB:Below w.heap.size w W)=>COf_any a cap l W hl hlc (hs.below hB) hno hok (hT.later hB))
 have cE:Hid (∀(ao:Option Addr) co (ks:List Cl) W,Below w.heap.size w W→ks.length≤1000→ks.length≤co→Sl W ao (cls ks)→(ao=none→co=0)→(∀c∈ks,c.Ok)→Calls Tryz.prog 19 #[.slice ao ks.length co] W fun e W'=>MeetR (fun p q=>p && !q) ks [] e∧Below W.heap.size W W'):=
  fun ao co ks W hB h1 h2 h3 h4 h5=>yib ao co ks W h1 h2 h3 h4 h5 (hT.later hB)
 have cF:=hid (fun W (hB:Below w.heap.size w W)=>yh7 a cap l W hl hlc (hs.below hB) hno hok (hT.later hB))
 have cG:=hid (fun W (hB:Below w.heap.size w W)=>yj8 a cap l W hl hlc (hs.below hB) hno hok (hT.later hB))
 have Hs:=hid hs
 have Hok:=hid hok
 have hxi:0≤(x:Int)∧(x:Int) < 256:=by omega
 have hyi:0≤(y:Int)∧(y:Int) < 65536:=by omega
 obtain ⟨X,hX⟩:∃X:Int,(x:Int)=X:=⟨_,rfl⟩
 obtain ⟨Y,hY⟩:∃Y:Int,(y:Int)=Y:=⟨_,rfl⟩
 rw [hX] at hxi⊢
 rw [hY] at hyi⊢
 obtain ⟨K,hK⟩:∃K:Nat,X % 4= (K:Int):=⟨(X % 4).toNat,by omega⟩
 have hK4:K < 4:=by omega
 have hx0:X.tmod 4= (K:Int):=by rw [Int.tmod_eq_emod_of_nonneg (by omega)]; exact hK
 have HX0:=hid hx0
 have hR:=hOf_r hK4 Y
 obtain ⟨h,hh⟩:∃h,hOf K Y=h:=⟨_,rfl⟩
 rw [hh] at hR
 have Hh:=hid hh
 have HR:=hid hR
 have HY:=hid hyi
 clear hX hY hx hy hs hok hno hT hK hx0 hR hh hxi hyi
 go_enter Tryz.func5,Tryz.ntmps5
 go_wp2_with fail
 refine cM.out.mono ?_
 rintro e w1 ⟨rfl,hB⟩
 have HB1:=hid hB
 clear hB cM
 cases hm:mayL l
 ·clear hm
  go_wp2_with fail
  refine (cL.out w1 HB1.out).mono ?_
  rintro e w2 ⟨rfl,hB⟩
  have HB2:=hid (HB1.out.trans (hB.mono HB1.out.size))
  clear hB
  go_wp2
  go_ret
  exact ⟨rfl,HB2.out⟩
 have hf:=yfx hm
 have Hf:=hid hf
 have Hm:=hid hm
 clear hm hf
 go_wp2_with fail
 refine (cO.out w1 HB1.out).mono ?_
 rintro e w2 ⟨hR,hB⟩
 rcases hR with ⟨hf0,-⟩ | ⟨-,u,fi,la,n,ev,sq,rfl,hFP⟩
 ·exact absurd Hf.out hf0
 obtain ⟨w3,hst8,A8,HB8⟩:=fc_box w2 u fi la n ev sq
 have HB3:=hid (HB1.out.trans ((hB.trans (HB8.out.mono hB.size)).mono HB1.out.size))
 obtain ⟨bF,ebF⟩:∃b,w2.heap.size=b:=⟨_,rfl⟩
 rw [ebF] at A8 hst8
 have EF:=hid ebF
 have HFP:=hid hFP
 have hu:=hid hFP.lt
 obtain ⟨ks,hks⟩:∃ks,l.map (rstC K h)=ks:=⟨_,rfl⟩
 have Hks:=hid hks
 have Hkl:Hid (ks.length=l.length):=by show _ = _; rw [←hks,List.length_map]
 clear hB HB8 hFP ebF cO hks
 go_upto_region 6 with (rw [EF.out])
 clear hst8
 go_upto_region 7 with fail
 have HK3:Hid (∀W,Below w3.heap.size w3 W→FcB bF u fi la n ev sq W):=fun W hB=>A8.out.block hB.size (hB.block _ A8.out.lt)
 go_loopw [9,10,11] (fun v9 v10 v11 wr=>∃(i co:Nat) (ao:Option Addr),v11= .int .i64 i∧i≤l.length∧v9= .slice ao i co∧v10= .bool (decide (0 < i) && inF K h u)∧Hid (wr.ownsRow w3.heap.size 36 30 (.slice ao i co) i (cls (ks.take i)))∧Hid (Below w3.heap.size w3 wr)) (fun _ _ v11 _=>l.length - (intOf v11).toNat)
 case atStart=>exact ⟨0,0,none,rfl,by omega,rfl,rfl,World.ownsRow_nil _ _ _ _,Below.refl _ _⟩
 case round=>
  obtain ⟨i,co,ao,rfl,hi,rfl,rfl,HO,HB⟩:=hrel
  by_cases hlt:i < l.length
  ·obtain ⟨b,off,rfl,hbk,hr⟩:=Hs.out.atCl hlt
   have HBw:=hid (HB3.out.trans (HB.out.mono HB3.out.size))
   have hr':=yaM hr HBw.out hbk
   have hcs:cls (ks.take (i+1))=cls (ks.take i) ++ yad (rstC K h l[i]):=by
    rw [←Hks.out,←List.map_take,yap l i hlt,List.map_append,List.map_cons,List.map_nil,cls_snoc,←List.map_take]
   have Hcs:=hid hcs
   have hcOk:=Hok.out l[i] (zzr hlt)
   obtain ⟨c,hc⟩:∃c,l[i]=c:=⟨_,rfl⟩
   rw [hc] at hr' Hcs hcOk
   have HcOk:=hid hcOk
   have le:=ygY hr'
   have hth2:(wr.alloc (.cells zL.toArray 36)).there wr.heap.size 0 30:=yb4 wr _ _
   have hn2:=yaa (o:= .cells zL.toArray 36) (Below.refl wr.heap.size wr) (zG _)
   obtain ⟨W1,hW1⟩:∃W1,yb1 (wr.alloc (.cells zL.toArray 36)) wr.heap.size (yad c)=W1:=⟨_,rfl⟩
   have hL1:LsB wr.heap.size (yad c) W1:=by
    rw [←hW1]
    exact ⟨ybp _ rfl hth2,fun i=>by rw [yiG,World.frozen?_setCells]; exact yaE wr _ _ i,by rw [yiG,ybH,zzN]; omega⟩
   have hb1:Below wr.heap.size wr W1:=by rw [←hW1]; exact ybq hn2 (zG _) _
   have HW1:=hid hW1
   have Hb1:=hid hb1
   obtain ⟨bc,ebc⟩:∃b,wr.heap.size=b:=⟨_,rfl⟩
   rw [ebc] at hL1
   have Ec:=hid ebc
   have HL1:=hid hL1
   have hwx:IntKind.u8.wrap (X.tmod 4)= (K:Int):=by rw [HX0.out]; exact IntWalk.u8_in _ (by omega)
   have hwy:IntKind.i64.wrap Y=Y:=by have:=HY.out; exact IntWalk.i64_in _ (by omega)
   have hin:(decide (0 < i+1) && inF K h u)=inF K h u:=by rw [zzZ (show 0 < i+1 by omega),zzo]
   have Hin:=hid hin
   clear hW1 hn2 hb1 hL1 ebc hr hr' hc hcs hin hcOk
   go_upto_region 10 with fail
   rw [HW1.out,Ec.out]
   clear le hth2
   rcases four hK4 with rfl | rfl | rfl | rfl
   ·have hx1:X.tmod 4=0:=HX0.out
    have hh:Y % 24=h:=Hh.out
    have hyb:=HY.out
    have m0:Y.tmod 24=Y % 24:=Int.tmod_eq_emod_of_nonneg (by omega)
    have m1:IntKind.i64.wrap (Y.tmod 24)=Y % 24:=by rw [m0]; exact IntWalk.i64_in _ (by omega)
    have m2:IntKind.i64.wrap (Y % 24)=Y % 24:=IntWalk.i64_in _ (by omega)
    have cH:=hid (fun W=>yc0 (u 2) h W (hu.out 2 (by omega)))
    have cB:=hid (yd2 h W1.drew)
    have cc:=(HL1.out.block (W':=W1.drew) (zG _) rfl).at (k:=2) (v:= .int .u64 (c.m 2:Nat)) rfl
    have hand:bits .and .u64 (c.m 2:Int) ((ofM [h]:Nat):Int)= ((c.m 2 &&& ofM [h]:Nat):Int):=yar (HcOk.out.m 2 (by omega)) (yao _)
    have HHin:Hid (inF 0 h u=hasB (u 2) h):=rfl
    obtain ⟨v0,hv0⟩:∃v,ofM [h]=v:=⟨_,rfl⟩
    obtain ⟨mi,hmi⟩:∃v,c.m 2=v:=⟨_,rfl⟩
    rw [hv0] at cB hand
    rw [hmi] at cc hand
    have HAND:=hid hand
    have Hv0:=hid hv0
    have Hmi:=hid hmi
    have hC:Hid (∀W2,Below W1.drew.heap.size W1.drew W2→Hid (W2.cell? ⟨bc,2,none⟩=some (.int .u64 (mi:Nat)))):=fun W2 hB=>(hB.cell (p:=⟨bc,2,none⟩) HL1.out.lt).trans cc
    have hz:Hid (∀W2,Below W1.drew.heap.size W1.drew W2→W2.frozen? ⟨bc,2,none⟩=false):=fun W2 hB=>(hB.frozen (p:=⟨bc,2,none⟩) HL1.out.lt).trans (HL1.out.z 2)
    have hbn:Hid (Below W1.drew.heap.size W1.drew (W1.drew.alloc (.cells #[.int .i64 h] 3))):=yaa (Below.refl _ _) (zG _)
    clear hv0 hmi cc hand hyb
    go_upto_region 18 with fail
    refine regF [9] (S:=fun W=>Hid (W.cell? ⟨bc,2,none⟩=some (.int .u64 (mi:Nat)))) (by kernel_rfl) (hC.out _ (Below.refl _ _)) (fun hHeld=>?_)
    refine zfA 0 ?_
    refine zfA 1 ?_
    refine zfA 2 ?_
    refine zfA 3 ?_
    refine zfA 4 ?_
    refine zzO 5 (fun K hK=>?_)
    go_simp
    refine hK.out _ _ (fun _=>hC.out _ hbn.out) ?_
    clear hK
    try simp only [rgPut]
    refine zzO 6 (fun K hK=>?_)
    go_simp
    refine cB.out.mono ?_
    rintro e w7 ⟨rfl,hB7⟩
    refine hK.out _ _ (fun _=>hC.out _ hB7) ?_
    clear hK
    have HB7:=hid hB7
    clear hB7 cB hbn
    try simp only [rgPut]
    have hS7:=hid (hC.out _ HB7.out)
    refine rgT 7 (v:=?_) ?_ ?_
    rotate_left
    ·intro w hSw; have hand:=HAND.out; clear hSw; go_simp; (try with_reducible rfl)
    try simp only [rgPut]
    refine zzO 8 (fun K hK=>?_)
    go_simp
    refine hK.out _ _ (fun _=>hS7.out) ?_
    clear hK
    try simp only [rgPut]
    have c7:=hS7.out.out
    have z7:=hz.out _ HB7.out
    have HP:Hid (LsB bc (yad (mset 2 (c.m 2 &&& ofM [h]) c)) (w7.setCell ⟨bc,2,none⟩ (.int .u64 ((mi &&& v0:Nat):Int)))∧Below wr.heap.size wr (w7.setCell ⟨bc,2,none⟩ (.int .u64 ((mi &&& v0:Nat):Int)))):=by
     have hd:=(Below.refl W1.heap.size W1).drew
     have h7:=hd.trans (HB7.out.mono hd.size)
     have h1:=(HL1.out.block h7.size (h7.block _ HL1.out.lt)).set (k:=2) (by simp) (.int .u64 ((mi &&& v0:Nat):Int))
     refine ⟨?_,yab (Hb1.out.trans (h7.mono Hb1.out.size)) (by rw [Ec.out]; exact zG _)⟩
     rw [←Hv0.out,←Hmi.out] at h1⊢
     exact h1
    refine zzO 9 (fun K hK=>?_)
    go_simp
    refine hK.out _ _ (fun h=>absurd h (by decide)) ?_
    clear hK c7 z7
    try simp only [rgPut]
    refine OrdF.done (by kernel_rfl) ?_ _
    obtain ⟨w8,hw8⟩:∃W,w7.setCell ⟨bc,2,none⟩ (.int .u64 ((mi &&& v0:Nat):Int))=W:=⟨_,rfl⟩
    rw [hw8] at HP⊢
    clear hw8 hHeld HB7 HAND
    have k0:=(HK3.out w8 (HB.out.trans (HP.out.2.mono HB.out.size))).c 2 (by omega)
    obtain ⟨ui,hui⟩:∃v,u 2=v:=⟨_,rfl⟩
    rw [hui] at k0 cH HHin
    have Hui:=hid hui
    clear hui
    go_wp2_with fail
    refine (cH.out w8).mono ?_
    rintro e w9 ⟨rfl,rfl⟩
    rw [←HHin.out]
    clear k0 cH m0 m1 m2 hh hwx hwy hx1
    go_upto_region 26 with fail
    have hld:=(show ClB w8 bc (mset 2 (c.m 2 &&& ofM [h]) c) from HP.out.1.r).ld
    have HO2:=hid (ybr HO.out HP.out.2 (zG _))
    have HBx:=hid (HB.out.trans (HP.out.2.mono HB.out.size))
    have hG1:=ydX ((mset 2 (c.m 2 &&& ofM [h]) c))
    have hGc:=Hcs.out
    obtain ⟨g,hg⟩:∃g,(mset 2 (c.m 2 &&& ofM [h]) c)=g:=⟨_,rfl⟩
    rw [show rstC 0 h c= (mset 2 (c.m 2 &&& ofM [h]) c) from rfl,hg] at hGc
    rw [hg] at hld hG1
    have HGc:=hid hGc
    clear hGc hg
    go_wp2_with (at_builtin; refine yhf eClz (.tmp 118) (.tmp 120) rfl rfl rfl rfl rfl HO2.out rfl hG1 (by omega) (by omega) HBx.out.size ?_)
    intro a' cap' w7 g1 g2 g3 g4
    have hO3:Hid (w7.ownsRow w3.heap.size 36 30 (.slice a' (i+1) cap') (i+1) (cls (ks.take (i+1)))):=by
     show World.ownsRow _ _ _ _ _ _ _
     rw [HGc.out]; exact g1
    have HB4:=hid (HBx.out.trans g3)
    clear g1 g2 g3 g4 hld hG1
    go_wp2
    exact ⟨⟨i+1,cap',a',by go_num,by omega,rfl,by rw [Hin.out],hO3,HB4⟩,by simp [intOf]; omega⟩
   ·have hx1:X.tmod 4=1:=HX0.out
    have hh:1+Y % 12=h:=Hh.out
    have hyb:=HY.out
    have m0:Y.tmod 12=Y % 12:=Int.tmod_eq_emod_of_nonneg (by omega)
    have m1:IntKind.i64.wrap (Y.tmod 12)=Y % 12:=by rw [m0]; exact IntWalk.i64_in _ (by omega)
    have m2:IntKind.i64.wrap (Y % 12)=Y % 12:=IntWalk.i64_in _ (by omega)
    have m3:IntKind.i64.wrap h=h:=by rw [←hh]; exact IntWalk.i64_in _ (by omega)
    have cH:=hid (fun W=>yc0 (u 3) h W (hu.out 3 (by omega)))
    have cB:=hid (yd2 h W1.drew)
    have cc:=(HL1.out.block (W':=W1.drew) (zG _) rfl).at (k:=3) (v:= .int .u64 (c.m 3:Nat)) rfl
    have hand:bits .and .u64 (c.m 3:Int) ((ofM [h]:Nat):Int)= ((c.m 3 &&& ofM [h]:Nat):Int):=yar (HcOk.out.m 3 (by omega)) (yao _)
    have HHin:Hid (inF 1 h u=hasB (u 3) h):=rfl
    obtain ⟨v0,hv0⟩:∃v,ofM [h]=v:=⟨_,rfl⟩
    obtain ⟨mi,hmi⟩:∃v,c.m 3=v:=⟨_,rfl⟩
    rw [hv0] at cB hand
    rw [hmi] at cc hand
    have HAND:=hid hand
    have Hv0:=hid hv0
    have Hmi:=hid hmi
    have hC:Hid (∀W2,Below W1.drew.heap.size W1.drew W2→Hid (W2.cell? ⟨bc,3,none⟩=some (.int .u64 (mi:Nat)))):=fun W2 hB=>(hB.cell (p:=⟨bc,3,none⟩) HL1.out.lt).trans cc
    have hz:Hid (∀W2,Below W1.drew.heap.size W1.drew W2→W2.frozen? ⟨bc,3,none⟩=false):=fun W2 hB=>(hB.frozen (p:=⟨bc,3,none⟩) HL1.out.lt).trans (HL1.out.z 3)
    have hbn:Hid (Below W1.drew.heap.size W1.drew (W1.drew.alloc (.cells #[.int .i64 h] 3))):=yaa (Below.refl _ _) (zG _)
    clear hv0 hmi cc hand hyb
    go_upto_region 21 with fail
    refine regF [10] (S:=fun W=>Hid (W.cell? ⟨bc,3,none⟩=some (.int .u64 (mi:Nat)))) (by kernel_rfl) (hC.out _ (Below.refl _ _)) (fun hHeld=>?_)
    refine zfA 0 ?_
    refine zfA 1 ?_
    refine zfA 2 ?_
    refine zfA 3 ?_
    refine zfA 4 ?_
    refine zfA 5 ?_
    refine zzO 6 (fun K hK=>?_)
    go_simp
    refine hK.out _ _ (fun _=>hC.out _ hbn.out) ?_
    clear hK
    try simp only [rgPut]
    refine zzO 7 (fun K hK=>?_)
    go_simp
    refine cB.out.mono ?_
    rintro e w7 ⟨rfl,hB7⟩
    refine hK.out _ _ (fun _=>hC.out _ hB7) ?_
    clear hK
    have HB7:=hid hB7
    clear hB7 cB hbn
    try simp only [rgPut]
    have hS7:=hid (hC.out _ HB7.out)
    refine rgT 8 (v:=?_) ?_ ?_
    rotate_left
    ·intro w hSw; have hand:=HAND.out; clear hSw; go_simp; (try with_reducible rfl)
    try simp only [rgPut]
    refine zzO 9 (fun K hK=>?_)
    go_simp
    refine hK.out _ _ (fun _=>hS7.out) ?_
    clear hK
    try simp only [rgPut]
    have c7:=hS7.out.out
    have z7:=hz.out _ HB7.out
    have HP:Hid (LsB bc (yad (mset 3 (c.m 3 &&& ofM [h]) c)) (w7.setCell ⟨bc,3,none⟩ (.int .u64 ((mi &&& v0:Nat):Int)))∧Below wr.heap.size wr (w7.setCell ⟨bc,3,none⟩ (.int .u64 ((mi &&& v0:Nat):Int)))):=by
     have hd:=(Below.refl W1.heap.size W1).drew
     have h7:=hd.trans (HB7.out.mono hd.size)
     have h1:=(HL1.out.block h7.size (h7.block _ HL1.out.lt)).set (k:=3) (by simp) (.int .u64 ((mi &&& v0:Nat):Int))
     refine ⟨?_,yab (Hb1.out.trans (h7.mono Hb1.out.size)) (by rw [Ec.out]; exact zG _)⟩
     rw [←Hv0.out,←Hmi.out] at h1⊢
     exact h1
    refine zzO 10 (fun K hK=>?_)
    go_simp
    refine hK.out _ _ (fun h=>absurd h (by decide)) ?_
    clear hK c7 z7
    try simp only [rgPut]
    refine OrdF.done (by kernel_rfl) ?_ _
    obtain ⟨w8,hw8⟩:∃W,w7.setCell ⟨bc,3,none⟩ (.int .u64 ((mi &&& v0:Nat):Int))=W:=⟨_,rfl⟩
    rw [hw8] at HP⊢
    clear hw8 hHeld HB7 HAND
    have k0:=(HK3.out w8 (HB.out.trans (HP.out.2.mono HB.out.size))).c 3 (by omega)
    obtain ⟨ui,hui⟩:∃v,u 3=v:=⟨_,rfl⟩
    rw [hui] at k0 cH HHin
    have Hui:=hid hui
    clear hui
    go_wp2_with fail
    refine (cH.out w8).mono ?_
    rintro e w9 ⟨rfl,rfl⟩
    rw [←HHin.out]
    clear k0 cH m0 m1 m2 hh hwx hwy hx1 m3
    go_upto_region 26 with fail
    have hld:=(show ClB w8 bc (mset 3 (c.m 3 &&& ofM [h]) c) from HP.out.1.r).ld
    have HO2:=hid (ybr HO.out HP.out.2 (zG _))
    have HBx:=hid (HB.out.trans (HP.out.2.mono HB.out.size))
    have hG1:=ydX ((mset 3 (c.m 3 &&& ofM [h]) c))
    have hGc:=Hcs.out
    obtain ⟨g,hg⟩:∃g,(mset 3 (c.m 3 &&& ofM [h]) c)=g:=⟨_,rfl⟩
    rw [show rstC 1 h c= (mset 3 (c.m 3 &&& ofM [h]) c) from rfl,hg] at hGc
    rw [hg] at hld hG1
    have HGc:=hid hGc
    clear hGc hg
    go_wp2_with (at_builtin; refine yhf eClz (.tmp 118) (.tmp 120) rfl rfl rfl rfl rfl HO2.out rfl hG1 (by omega) (by omega) HBx.out.size ?_)
    intro a' cap' w7 g1 g2 g3 g4
    have hO3:Hid (w7.ownsRow w3.heap.size 36 30 (.slice a' (i+1) cap') (i+1) (cls (ks.take (i+1)))):=by
     show World.ownsRow _ _ _ _ _ _ _
     rw [HGc.out]; exact g1
    have HB4:=hid (HBx.out.trans g3)
    clear g1 g2 g3 g4 hld hG1
    go_wp2
    exact ⟨⟨i+1,cap',a',by go_num,by omega,rfl,by rw [Hin.out],hO3,HB4⟩,by simp [intOf]; omega⟩
   ·have hx1:X.tmod 4=2:=HX0.out
    have hh:Y % 60=h:=Hh.out
    have hyb:=HY.out
    have m0:Y.tmod 60=Y % 60:=Int.tmod_eq_emod_of_nonneg (by omega)
    have m1:IntKind.i64.wrap (Y.tmod 60)=Y % 60:=by rw [m0]; exact IntWalk.i64_in _ (by omega)
    have m2:IntKind.i64.wrap (Y % 60)=Y % 60:=IntWalk.i64_in _ (by omega)
    have cH:=hid (fun W=>yc0 (u 0) h W (hu.out 0 (by omega)))
    have cB:=hid (yd2 h W1.drew)
    have cc:=(HL1.out.block (W':=W1.drew) (zG _) rfl).at (k:=0) (v:= .int .u64 (c.m 0:Nat)) rfl
    have hand:bits .and .u64 (c.m 0:Int) ((ofM [h]:Nat):Int)= ((c.m 0 &&& ofM [h]:Nat):Int):=yar (HcOk.out.m 0 (by omega)) (yao _)
    have HHin:Hid (inF 2 h u=hasB (u 0) h):=rfl
    obtain ⟨v0,hv0⟩:∃v,ofM [h]=v:=⟨_,rfl⟩
    obtain ⟨mi,hmi⟩:∃v,c.m 0=v:=⟨_,rfl⟩
    rw [hv0] at cB hand
    rw [hmi] at cc hand
    have HAND:=hid hand
    have Hv0:=hid hv0
    have Hmi:=hid hmi
    have hC:Hid (∀W2,Below W1.drew.heap.size W1.drew W2→Hid (W2.cell? ⟨bc,0,none⟩=some (.int .u64 (mi:Nat)))):=fun W2 hB=>(hB.cell (p:=⟨bc,0,none⟩) HL1.out.lt).trans cc
    have hz:Hid (∀W2,Below W1.drew.heap.size W1.drew W2→W2.frozen? ⟨bc,0,none⟩=false):=fun W2 hB=>(hB.frozen (p:=⟨bc,0,none⟩) HL1.out.lt).trans (HL1.out.z 0)
    have hbn:Hid (Below W1.drew.heap.size W1.drew (W1.drew.alloc (.cells #[.int .i64 h] 3))):=yaa (Below.refl _ _) (zG _)
    clear hv0 hmi cc hand hyb
    go_upto_region 24 with fail
    refine regF [9] (S:=fun W=>Hid (W.cell? ⟨bc,0,none⟩=some (.int .u64 (mi:Nat)))) (by kernel_rfl) (hC.out _ (Below.refl _ _)) (fun hHeld=>?_)
    refine zfA 0 ?_
    refine zfA 1 ?_
    refine zfA 2 ?_
    refine zfA 3 ?_
    refine zfA 4 ?_
    refine zzO 5 (fun K hK=>?_)
    go_simp
    refine hK.out _ _ (fun _=>hC.out _ hbn.out) ?_
    clear hK
    try simp only [rgPut]
    refine zzO 6 (fun K hK=>?_)
    go_simp
    refine cB.out.mono ?_
    rintro e w7 ⟨rfl,hB7⟩
    refine hK.out _ _ (fun _=>hC.out _ hB7) ?_
    clear hK
    have HB7:=hid hB7
    clear hB7 cB hbn
    try simp only [rgPut]
    have hS7:=hid (hC.out _ HB7.out)
    refine rgT 7 (v:=?_) ?_ ?_
    rotate_left
    ·intro w hSw; have hand:=HAND.out; clear hSw; go_simp; (try with_reducible rfl)
    try simp only [rgPut]
    refine zzO 8 (fun K hK=>?_)
    go_simp
    refine hK.out _ _ (fun _=>hS7.out) ?_
    clear hK
    try simp only [rgPut]
    have c7:=hS7.out.out
    have z7:=hz.out _ HB7.out
    have HP:Hid (LsB bc (yad (mset 0 (c.m 0 &&& ofM [h]) c)) (w7.setCell ⟨bc,0,none⟩ (.int .u64 ((mi &&& v0:Nat):Int)))∧Below wr.heap.size wr (w7.setCell ⟨bc,0,none⟩ (.int .u64 ((mi &&& v0:Nat):Int)))):=by
     have hd:=(Below.refl W1.heap.size W1).drew
     have h7:=hd.trans (HB7.out.mono hd.size)
     have h1:=(HL1.out.block h7.size (h7.block _ HL1.out.lt)).set (k:=0) (by simp) (.int .u64 ((mi &&& v0:Nat):Int))
     refine ⟨?_,yab (Hb1.out.trans (h7.mono Hb1.out.size)) (by rw [Ec.out]; exact zG _)⟩
     rw [←Hv0.out,←Hmi.out] at h1⊢
     exact h1
    refine zzO 9 (fun K hK=>?_)
    go_simp
    refine hK.out _ _ (fun h=>absurd h (by decide)) ?_
    clear hK c7 z7
    try simp only [rgPut]
    refine OrdF.done (by kernel_rfl) ?_ _
    obtain ⟨w8,hw8⟩:∃W,w7.setCell ⟨bc,0,none⟩ (.int .u64 ((mi &&& v0:Nat):Int))=W:=⟨_,rfl⟩
    rw [hw8] at HP⊢
    clear hw8 hHeld HB7 HAND
    have k0:=(HK3.out w8 (HB.out.trans (HP.out.2.mono HB.out.size))).c 0 (by omega)
    obtain ⟨ui,hui⟩:∃v,u 0=v:=⟨_,rfl⟩
    rw [hui] at k0 cH HHin
    have Hui:=hid hui
    clear hui
    go_wp2_with fail
    refine (cH.out w8).mono ?_
    rintro e w9 ⟨rfl,rfl⟩
    rw [←HHin.out]
    clear k0 cH m0 m1 m2 hh hwx hwy hx1
    go_upto_region 26 with fail
    have hld:=(show ClB w8 bc (mset 0 (c.m 0 &&& ofM [h]) c) from HP.out.1.r).ld
    have HO2:=hid (ybr HO.out HP.out.2 (zG _))
    have HBx:=hid (HB.out.trans (HP.out.2.mono HB.out.size))
    have hG1:=ydX ((mset 0 (c.m 0 &&& ofM [h]) c))
    have hGc:=Hcs.out
    obtain ⟨g,hg⟩:∃g,(mset 0 (c.m 0 &&& ofM [h]) c)=g:=⟨_,rfl⟩
    rw [show rstC 2 h c= (mset 0 (c.m 0 &&& ofM [h]) c) from rfl,hg] at hGc
    rw [hg] at hld hG1
    have HGc:=hid hGc
    clear hGc hg
    go_wp2_with (at_builtin; refine yhf eClz (.tmp 118) (.tmp 120) rfl rfl rfl rfl rfl HO2.out rfl hG1 (by omega) (by omega) HBx.out.size ?_)
    intro a' cap' w7 g1 g2 g3 g4
    have hO3:Hid (w7.ownsRow w3.heap.size 36 30 (.slice a' (i+1) cap') (i+1) (cls (ks.take (i+1)))):=by
     show World.ownsRow _ _ _ _ _ _ _
     rw [HGc.out]; exact g1
    have HB4:=hid (HBx.out.trans g3)
    clear g1 g2 g3 g4 hld hG1
    go_wp2
    exact ⟨⟨i+1,cap',a',by go_num,by omega,rfl,by rw [Hin.out],hO3,HB4⟩,by simp [intOf]; omega⟩
   ·have hx1:X.tmod 4=3:=HX0.out
    have hh:Y % 400=h:=Hh.out
    have hyb:=HY.out
    have m0:Y.tmod 400=Y % 400:=Int.tmod_eq_emod_of_nonneg (by omega)
    have m1:IntKind.i64.wrap (Y.tmod 400)=h:=by rw [m0,hh]; exact IntWalk.i64_in _ (by have:=HR.out.1; have:=HR.out.2.1 rfl; omega)
    have m2:IntKind.i64.wrap (Y % 400)=h:=by rw [hh]; exact IntWalk.i64_in _ (by have:=HR.out.1; have:=HR.out.2.1 rfl; omega)
    have hld7:=HL1.out.ld7
    have cH:=hid (ye1 c.ys h W1 HcOk.out.ys)
    have cU:=hid (fun W=>ye1 (fun i=>u (7+i)) h W (fun i hi=>hu.out (7+i) (by omega)))
    have HHin:Hid (inF 3 h u=hasW (fun i=>u (7+i)) h):=rfl
    obtain ⟨q,hq⟩:∃q,hasW c.ys h=q:=⟨_,rfl⟩
    rw [hq] at cH
    have Hq:=hid hq
    clear hq hyb
    go_wp2_with fail
    refine cH.out.mono ?_
    rintro e w4 ⟨rfl,hB⟩
    have HP4:Hid (LsB bc (yad c) w4∧Below wr.heap.size wr w4):=⟨HL1.out.block hB.size (hB.block _ HL1.out.lt),Hb1.out.trans (hB.mono Hb1.out.size)⟩
    clear hB cH hld7
    cases q
    ·have HP5:=HP4
     obtain ⟨w5,hw5⟩:∃W,w4=W:=⟨_,rfl⟩
     rw [hw5] at HP5⊢
     have cY:=hid (ygt none 0 [] w5 (by simp) (.inl rfl))
     have hys:rstC 3 h c= {c with ys:=wof ([]:List Int)}:=by show ({c with ys:=wof (if hasW c.ys h then [h] else [])}:Cl)= _; rw [Hq.out]; rfl
     obtain ⟨f7,hf7⟩:∃f,wof ([]:List Int)=f:=⟨_,rfl⟩
     rw [hf7] at cY hys
     have Hys:=hid hys
     clear hys hf7
     go_wp2_with fail
     refine cY.out.mono ?_
     rintro e w6 ⟨rfl,hB⟩
     have HP6:Hid (LsB bc (yad c) w6∧Below wr.heap.size wr w6):=⟨HP5.out.1.block hB.size (hB.block _ HP5.out.1.lt),HP5.out.2.trans (hB.mono HP5.out.2.size)⟩
     have cst:=HP6.out.1.st7 rfl f7
     have HP:Hid (LsB bc (yad {c with ys:=f7}) (w6.setCells bc 18 (l7w f7))∧Below wr.heap.size wr (w6.setCells bc 18 (l7w f7))):=⟨HP6.out.1.put7 rfl f7,yax (by rw [Ec.out]; exact zG _) _ _ _ HP6.out.2⟩
     obtain ⟨w8,hw8⟩:∃W,w6.setCells bc 18 (l7w f7)=W:=⟨_,rfl⟩
     rw [hw8] at HP cst
     clear hB hw8 cY
     go_upto_region 16 with fail
     clear cst
     have k0:=(HK3.out w8 (HB.out.trans (HP.out.2.mono HB.out.size))).ld7
     obtain ⟨fu,hfu⟩:∃f:Nat→Nat,(fun i=>u (7+i))=f:=⟨_,rfl⟩
     have cU8:=hid (cU.out w8)
     rw [hfu] at k0 cU8 HHin
     clear hfu
     go_wp2_with fail
     refine cU8.out.mono ?_
     rintro e w9 ⟨rfl,hB⟩
     rw [←HHin.out]
     have HP9:Hid (LsB bc (yad {c with ys:=f7}) w9∧Below wr.heap.size wr w9):=⟨HP.out.1.block hB.size (hB.block _ HP.out.1.lt),HP.out.2.trans (hB.mono HP.out.2.size)⟩
     clear hB k0 cU8 m0 m1 m2 hh hwx hwy hx1
     go_upto_region 26 with fail
     have hld:=(show ClB w9 bc ({c with ys:=f7}:Cl) from HP9.out.1.r).ld
     have HO2:=hid (ybr HO.out HP9.out.2 (zG _))
     have HBx:=hid (HB.out.trans (HP9.out.2.mono HB.out.size))
     have hG1:=ydX (({c with ys:=f7}:Cl))
     have hGc:=Hcs.out
     obtain ⟨g,hg⟩:∃g,({c with ys:=f7}:Cl)=g:=⟨_,rfl⟩
     rw [Hys.out,hg] at hGc
     rw [hg] at hld hG1
     have HGc:=hid hGc
     clear hGc hg
     go_wp2_with (at_builtin; refine yhf eClz (.tmp 118) (.tmp 120) rfl rfl rfl rfl rfl HO2.out rfl hG1 (by omega) (by omega) HBx.out.size ?_)
     intro a' cap' w7 g1 g2 g3 g4
     have hO3:Hid (w7.ownsRow w3.heap.size 36 30 (.slice a' (i+1) cap') (i+1) (cls (ks.take (i+1)))):=by
      show World.ownsRow _ _ _ _ _ _ _
      rw [HGc.out]; exact g1
     have HB4:=hid (HBx.out.trans g3)
     clear g1 g2 g3 g4 hld hG1
     go_wp2
     exact ⟨⟨i+1,cap',a',by go_num,by omega,rfl,by rw [Hin.out],hO3,HB4⟩,by simp [intOf]; omega⟩
    ·go_wp2_with (at_builtin; refine app1 eInt (.tmp 54) (.tmp 56) rfl rfl rfl rfl rfl (World.ownsRow_nil w4 w4.heap.size _ _) rfl (by omega) (by omega) (zG _) ?_)
     intro ap cp w5 g1 g2 g3 g4
     have hs5:=yf0 g1
     have HP5:Hid (LsB bc (yad c) w5∧Below wr.heap.size wr w5):=⟨HP4.out.1.block g3.size (g3.block _ HP4.out.1.lt),HP4.out.2.trans (g3.mono HP4.out.2.size)⟩
     have cY:=hid (ygt ap cp [h] w5 (by simp) hs5)
     clear g1 g2 g3 g4 hs5
     have hys:rstC 3 h c= {c with ys:=wof [h]}:=by show ({c with ys:=wof (if hasW c.ys h then [h] else [])}:Cl)= _; rw [Hq.out]; rfl
     obtain ⟨f7,hf7⟩:∃f,wof [h]=f:=⟨_,rfl⟩
     rw [hf7] at cY hys
     have Hys:=hid hys
     clear hys hf7
     go_wp2_with fail
     refine cY.out.mono ?_
     rintro e w6 ⟨rfl,hB⟩
     have HP6:Hid (LsB bc (yad c) w6∧Below wr.heap.size wr w6):=⟨HP5.out.1.block hB.size (hB.block _ HP5.out.1.lt),HP5.out.2.trans (hB.mono HP5.out.2.size)⟩
     have cst:=HP6.out.1.st7 rfl f7
     have HP:Hid (LsB bc (yad {c with ys:=f7}) (w6.setCells bc 18 (l7w f7))∧Below wr.heap.size wr (w6.setCells bc 18 (l7w f7))):=⟨HP6.out.1.put7 rfl f7,yax (by rw [Ec.out]; exact zG _) _ _ _ HP6.out.2⟩
     obtain ⟨w8,hw8⟩:∃W,w6.setCells bc 18 (l7w f7)=W:=⟨_,rfl⟩
     rw [hw8] at HP cst
     clear hB hw8 cY
     go_upto_region 16 with fail
     clear cst
     have k0:=(HK3.out w8 (HB.out.trans (HP.out.2.mono HB.out.size))).ld7
     obtain ⟨fu,hfu⟩:∃f:Nat→Nat,(fun i=>u (7+i))=f:=⟨_,rfl⟩
     have cU8:=hid (cU.out w8)
     rw [hfu] at k0 cU8 HHin
     clear hfu
     go_wp2_with fail
     refine cU8.out.mono ?_
     rintro e w9 ⟨rfl,hB⟩
     rw [←HHin.out]
     have HP9:Hid (LsB bc (yad {c with ys:=f7}) w9∧Below wr.heap.size wr w9):=⟨HP.out.1.block hB.size (hB.block _ HP.out.1.lt),HP.out.2.trans (hB.mono HP.out.2.size)⟩
     clear hB k0 cU8 m0 m1 m2 hh hwx hwy hx1
     go_upto_region 26 with fail
     have hld:=(show ClB w9 bc ({c with ys:=f7}:Cl) from HP9.out.1.r).ld
     have HO2:=hid (ybr HO.out HP9.out.2 (zG _))
     have HBx:=hid (HB.out.trans (HP9.out.2.mono HB.out.size))
     have hG1:=ydX (({c with ys:=f7}:Cl))
     have hGc:=Hcs.out
     obtain ⟨g,hg⟩:∃g,({c with ys:=f7}:Cl)=g:=⟨_,rfl⟩
     rw [Hys.out,hg] at hGc
     rw [hg] at hld hG1
     have HGc:=hid hGc
     clear hGc hg
     go_wp2_with (at_builtin; refine yhf eClz (.tmp 118) (.tmp 120) rfl rfl rfl rfl rfl HO2.out rfl hG1 (by omega) (by omega) HBx.out.size ?_)
     intro a' cap' w7 g1 g2 g3 g4
     have hO3:Hid (w7.ownsRow w3.heap.size 36 30 (.slice a' (i+1) cap') (i+1) (cls (ks.take (i+1)))):=by
      show World.ownsRow _ _ _ _ _ _ _
      rw [HGc.out]; exact g1
     have HB4:=hid (HBx.out.trans g3)
     clear g1 g2 g3 g4 hld hG1
     go_wp2
     exact ⟨⟨i+1,cap',a',by go_num,by omega,rfl,by rw [Hin.out],hO3,HB4⟩,by simp [intOf]; omega⟩
  ·obtain rfl:i=l.length:=by omega
   rw [List.take_of_length_le (by rw [Hkl.out]; exact zG _)] at HO
   have hoks:∀c∈ks,c.Ok:=fun c hc=>by
    rw [←Hks.out] at hc
    obtain ⟨d,hd,rfl⟩:=List.mem_map.1 hc
    exact rst_ok hK4 (Hok.out d hd)
   have hmk:mayL ks=true:=by rw [←Hks.out]; exact rst_mayL h hK4 Hm.out
   have hall:∀c∈l,mayC c=true:=by have:=Hm.out; rw [mayL,zzX,List.all_eq_true] at this; exact this.2
   have HBw:=hid (HB3.out.trans (HB.out.mono HB3.out.size))
   have ho':=HO.out
   rw [←Hkl.out] at ho'
   have cE4:=hid (cE.out ao co ks wr HBw.out (by rw [Hkl.out]; omega) (yiH ho') (yf0 ho') (ygT ho') hoks)
   rw [Hkl.out] at cE4
   have hv:=hid (fun (y:Bool) (t:Int) (f:Bool) (hV:VerP (fun p q=>p && !q) ks [] y t f)=>by
    rw [←Hks.out] at hV
    exact rst_none HFP.out HR.out hall hV)
   have HFc:=hid (HK3.out wr HB.out)
   have Hmk:=hid hmk
   have hin:(decide (0 < l.length) && inF K h u)=false∨(decide (0 < l.length) && inF K h u)=inF K h u:=by cases decide (0 < l.length) <;> simp
   obtain ⟨g,hg⟩:∃g,(decide (0 < l.length) && inF K h u)=g:=⟨_,rfl⟩
   rw [hg]
   have Hends:=hid (ends_are HFP.out Hf.out)
   have hgl:Hid (l= []→g=false):=fun e=>by rw [←hg,e]; rfl
   have hgn:Hid (l≠ []→g=inF K h u):=fun e=>by rw [←hg,zzZ (List.length_pos_iff.2 e),zzo]
   clear hoks hmk hall ho' hi hlt hin hg
   go_wp2_with fail
   refine cE4.out.mono ?_
   rintro e w4 ⟨⟨y1,t1,f1,er1,rfl,hV⟩,hB⟩
   have her:er1=0:=by rw [hV.1,fault2_0 Hmk.out]
   subst her
   have hy1:Hid ((y1 == g)=false∨l= []):=by
    show _∨_
    have e:=hv.out _ _ _ (hV.2.2 rfl)
    by_cases hnl:l= []
    ·exact .inr hnl
    ·rw [e,hgn.out hnl]
     generalize inF K h u=z
     cases z
     ·exact .inl rfl
     ·exact .inl rfl
   have hy2:Hid (l= []→y1=true):=fun h=>(by
    have hV2:=hV.2.2 rfl
    rcases hV2 with ⟨-,e,-⟩ | ⟨hL,-⟩
    ·exact e
    ·have:=hL.2.2.1
     rw [←Hks.out,h] at this; cases this)
   have hyg:Hid ((y1 == g)=false):=by
    show _ = _
    rcases hy1.out with e | e
    ·exact e
    ·rw [hy2.out e,hgl.out e]; rfl
   have HB4:=hid (HBw.out.trans (hB.mono HBw.out.size))
   have HF4:=hid (HFc.out.block hB.size (hB.block _ HFc.out.lt))
   clear hB hV cE4
   unfold verV
   go_upto_region 28 with fail
   obtain ⟨w5,hw⟩:∃W,w4.alloc (.cells #[.bool y1, .int .i64 t1, .bool f1] 46)=W:=⟨_,rfl⟩
   have hv5:=ver_cellB w4 46 y1 t1 f1
   have hbn:=yaa (o:= .cells #[.bool y1, .int .i64 t1, .bool f1] 46) (Below.refl w4.heap.size w4) (zG _)
   have hlv:w4.heap.size < (w4.alloc (.cells #[.bool y1, .int .i64 t1, .bool f1] 46)).heap.size:=by simp
   rw [hw] at hv5 hbn hlv⊢
   have HB5:=hid (HB4.out.trans (hbn.mono HB4.out.size))
   have HF5:=hid (HF4.out.block hbn.size (hbn.block _ HF4.out.lt))
   obtain ⟨b5,hb⟩:∃b,w4.heap.size=b:=⟨_,rfl⟩
   rw [hb] at hv5 hlv⊢
   have V5:=hid hv5
   have L5:=hid hlv
   clear hw hb hbn hlv hv5
   go_wp2_with fail
   refine (cF.out w5 HB5.out).mono ?_
   rintro e w6 ⟨rfl,hB⟩
   have HB6:=hid (HB5.out.trans (hB.mono HB5.out.size))
   have HF6:=hid (HF5.out.block hB.size (hB.block _ HF5.out.lt))
   have V6:Hid (w6.cell? ⟨b5,0,none⟩=some (.bool y1)):=(hB.cell (p:=⟨b5,0,none⟩) L5.out).trans V5.out
   have L6:Hid (b5 < w6.heap.size):=zH L5.out hB.size
   clear hB
   go_wp2_with fail
   refine (cG.out w6 HB6.out).mono ?_
   rintro e w7 ⟨rfl,hB⟩
   have HB7:=hid (HB6.out.trans (hB.mono HB6.out.size))
   have HF7:=hid (HF6.out.block hB.size (hB.block _ HF6.out.lt))
   have v7:w7.cell? ⟨b5,0,none⟩=some (.bool y1):=(hB.cell (p:=⟨b5,0,none⟩) L6.out).trans V6.out
   have c46:=HF7.out.c46
   have c47:=HF7.out.c47
   have c48:=HF7.out.c48
   have hld:=HF7.out.ld
   have hq:=hyg.out
   have cL7:=hid (cL.out w7 HB7.out)
   clear hB
   rcases Hends.out with ⟨hn,e1,e2⟩ | ⟨e1,e2,e3⟩
   ·have hn2:decide (0 < n)=true:=zzZ hn
    rw [e1,e2]
    clear e1 e2
    go_wp2_with fail
    refine cL7.out.mono ?_
    rintro e w8 ⟨rfl,hB⟩
    have HB8:=hid (HB7.out.trans (hB.mono HB7.out.size))
    clear hB
    go_wp2
    go_ret
    exact ⟨rfl,HB8.out⟩
   ·rw [e3] at hld
    rw [e1,e2]
    clear e1 e2 e3
    go_wp2_with fail
    refine cL7.out.mono ?_
    rintro e w8 ⟨rfl,hB⟩
    have HB8:=hid (HB7.out.trans (hB.mono HB7.out.size))
    clear hB
    go_wp2
    go_ret
    exact ⟨rfl,HB8.out⟩
end
section
open Go.ChangeShapes Go.WideShapes Go.ChangeAt Go.RowKit
theorem yhI:ownKnob Tryz.prog.godebug=none:=by kernel_rfl
theorem yhP:laidOutB Tryz.prog=true:=by kernel_rfl
theorem gTab:Tryz.prog.globalNamed "math/bits.deBruijn64tab" =some 0:=by kernel_rfl
theorem gTabType:(Tryz.prog.globals[0]?).map (·.type)=some 228:=by kernel_rfl
theorem cellsTab:Tryz.prog.cellsOf 228=64:=by kernel_rfl
theorem cellsU8:Tryz.prog.cellsOf 5=1:=by kernel_rfl
def tabInts:List Int:=Lib.deBruijn64tab.map fun (n:Nat)=>(n:Int)
theorem yhC:∀i,i < 64→tabInts.getD i 0= ((Lib.deBruijn64tab.getD i 0:Nat):Int):=by decide
theorem tab_of {W:World} (h:laidMetH Tryz.prog [("math/bits.deBruijn64tab",Rows.laid_math_bits_deBruijn64tab)] W):Tab W:=by
 have ht:Lib.TabIs Tryz.prog W "math/bits.deBruijn64tab" .u8 tabInts:=Lib.tabIs_of_head (rest:= []) gTab gTabType Tryz.underlying228 Tryz.underlying5 cellsU8 cellsTab h
 have hc:∀i,i < 64→W.cell? ⟨0,i,none⟩=some (.int .u8 (tabInts.getD i 0)):=fun i hi=>ht.cell gTab i hi
 exact ⟨Nat.lt_of_le_of_lt (Nat.zero_le _) (World.block_lt_of_cell? W _ (hc 0 (by omega))),fun i hi=>by rw [hc i hi,yhC i hi]⟩
noncomputable def yeR (os:Os):World:=
 {World.holding Tryz.prog os ⟨#[],#[],[]⟩ with heap:=(World.holding Tryz.prog os ⟨#[],#[],[]⟩).heap.modify 0 fun
   | .cells _ t frozen=> .cells (tabInts.map (Value.int .u8)).toArray t frozen
   | o=>o}
end
end Go.Proofs.YtkpgfmonhfnhdaaGreatDoor
