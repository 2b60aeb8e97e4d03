/-
  ferialaw35.RulelowMeans: the walk.
  The table of math/bits that this seat's rows list: what a row's premise gives of it, and a world that holds it.
  A rule that is handed in: its numbers, its lists.
-/
import Derived.Test.YtjahgimnfliooaaGreatDoorQ1c091c
import Derived.Test.YtjahgimnfliooaaGreatDoorQ45d46e
import Derived.Test.YtjahgimnfliooaaGreatDoorCards
import Derived.Test.YtjahgimnfliooaaGreatDoorTie
import Derived.Test.YtjahgimnfliooaaGreatDoorQe6aba9
import Derived.Test.YtjahgimnfliooaaGreatDoorQ155bda
import Derived.Deep.DeepHandedRow
import Derived.Lib.LaidTab
import Derived.Test.YtjahgimnfliooaaGreatDoorQ383ebe
import Derived.Test.YtjahgimnfliooaaGreatDoorQ7eaca1
import Derived.Deep.Fields
import Derived.ChangeSame
import Derived.SizedLaws
set_option maxRecDepth 100000
set_option maxHeartbeats 25600000
namespace Go.Proofs.YtjahgimnfliooaaGreatDoor
set_option linter.unusedVariables false
section
open Go.RowKit Go.Maps
attribute [local irreducible] secL
def ye1 (a b:Value):Sem Value:=binOp .neq 34 a b
theorem neq_cl35 (a b:Value):binOp .neq 34 a b=ye1 a b:=rfl
theorem yjS (c:Cl) (w:World) (h:c.Ok):(ye1 (clv c) (clv c)).run Tryz.prog w= .ok (.bool false) w:=by
 rw [ye1,clv,run_neq_struct]
 have:=eqIn_cl c c w h h
 rw [clv,yds] at this
 rw [this]; rfl
attribute [local go_sem ↓] ycK yaC yaK eql_clS neq_cl35
attribute [local go_sem] yaA
def zcl35:Cl:={m:=fun _=>0,or:=false,oin:=0,oback:=false,od:=fun _=>0,ys:=fun _=>0,unit:=0,step:=0,anchor:=0,fr:=0,un:=0}
theorem yiC:zcl35.Ok:=⟨fun _ _=>by show 0 < _; omega,fun _ _=>by show 0 < _; omega,fun _ _=>by show 0 < _; omega,by show i64B 0; unfold i64B; omega,by show i64B 0; unfold i64B; omega,by show i64B 0; unfold i64B; omega,by show i64B 0; unfold i64B; omega,by show i64B 0; unfold i64B; omega,by show i64B 0; unfold i64B; omega⟩
theorem zcl35_eq (W:World):(yhi (clv zcl35) (.agg zL.toArray)).run Tryz.prog W= .ok (.bool true) W:=by
 have h:=yjf zcl35 zcl35 W yiC yiC
 rw [yds] at h
 exact h
theorem sl_one35 {W:World} {g:Nat} {c:Cl} (h:Sl W (some ⟨g,0,none⟩) (cls [c])):ClB W g c∧g < W.heap.size:=by
 rw [yg3] at h
 rcases h with h | ⟨b,off,e,hb,hc⟩
 ·cases h
 ·cases e
  refine ⟨fun j v hv=>?_,hb⟩
  obtain ⟨hj,rfl⟩:=zzq.1 hv
  exact hc j hj
theorem yef (r:Ru) (t:Int) (w:World) (hr:RuS w r) (hm:r.Sm 281474976710656) (hn:r.Num) (ht:i64B t) (hT:Tab w):Calls Tryz.prog 3 #[ruv r, .int .i64 t] w fun e w'=>e= .returned (.bool true)∧Below w.heap.size w w':=by
 have hB0:Below w.heap.size w (w.alloc (.cells (yai r).toArray 25)):=yaa (Below.refl _ _) (zG _)
 have hR0:=yaJ w r 25
 have s0:w.heap.size < (w.alloc (.cells (yai r).toArray 25)).heap.size:=by simp
 obtain ⟨W0,hW0⟩:∃W,w.alloc (.cells (yai r).toArray 25)=W:=⟨_,rfl⟩
 rw [hW0] at hB0 hR0 s0
 obtain ⟨b1,eb1⟩:∃b,w.heap.size=b:=⟨_,rfl⟩
 rw [eb1] at hR0 s0
 have HC:Hid (∀W,Below W0.heap.size W0 W→Hid (RuB W b1 r)):=fun W hB=>hR0.below hB s0
 have HB:Hid (∀W,Below W0.heap.size W0 W→Below w.heap.size w W):=fun W hB=>hB0.trans (hB.mono hB0.size)
 have S0:=hid s0
 have E1:=hid eb1
 have HW0:=hid hW0
 have cG:=hid (fun W=>yio r W hm)
 have cL:=hid (fun W (hB:Below w.heap.size w W)=>yip W (hT.later hB))
 clear hB0 hR0 s0 hW0 eb1
 by_cases hg:yfi r=true
 ·rw [hg] at cG
  clear hg hr hm hn hT ht
  go_enter Tryz.func3,Tryz.ntmps3
  go_upto_region 1 with fail
  rw [HW0.out,E1.out]
  have ld:=(HC.out _ (Below.refl _ _)).out.ldw
  go_wp2_with fail
  refine (cG.out _).mono ?_
  rintro e w1 ⟨rfl,hB⟩
  have HU1:=hid hB
  clear hB ld
  go_wp2_with fail
  refine (cL.out _ (HB.out _ HU1.out)).mono ?_
  rintro e w2 ⟨rfl,hB⟩
  have HF:=hid (HB.out _ (HU1.out.trans (hB.mono HU1.out.size)))
  clear hB
  go_wp2
  go_ret
  exact ⟨rfl,HF.out⟩
 have hg0:yfi r=false:=by simpa using hg
 rw [hg0] at cG
 have m0:=great_sm hg0
 have sm:r.Sm 1000000:=⟨by have:=m0.n5; omega,by have:=m0.n6; omega,by have:=m0.n7; omega,by have:=m0.n8; omega,by have:=m0.n9; omega,by have:=m0.nx; omega⟩
 have cF:=hid (fun W (hB:Below w.heap.size w W)=>yhC r W (hr.below hB) sm)
 have cC:=hid (fun W (hB:Below w.heap.size w W)=>yeu r W (hr.below hB) sm)
 have cW:=hid (fun W (hB:Below w.heap.size w W)=>yfq r W (hr.below hB) sm hn (hT.later hB))
 clear hg hg0 m0
 by_cases hE:lowE r=0
 rotate_left
 ·rw [if_neg hE] at cC
  have cW':Hid (∀W,Below w.heap.size w W→Calls Tryz.prog 10 #[ruv r] W fun e w'=>e= .returned (.tuple #[.slice none 0 0, .int .i64 (lowE r)])∧Below W.heap.size W w'):=fun W hB=>(cW.out W hB).mono fun e w' h=>⟨by
   rcases h.1 with ⟨-,h1⟩ | ⟨h1,-⟩
   ·exact h1
   ·exact absurd h1 hE,h.2⟩
  obtain ⟨c,hc⟩:∃c,lowE r=c:=⟨_,rfl⟩
  rw [hc] at hE cF cC cW'
  have q1:(c == 0)=false:=by simpa using hE
  have q2:(c != 0)=true:=by simpa using hE
  clear hE hc hr hm hn hT sm ht cW
  go_enter Tryz.func3,Tryz.ntmps3
  go_upto_region 1 with fail
  rw [HW0.out,E1.out]
  have ld:=(HC.out _ (Below.refl _ _)).out.ldw
  go_wp2_with fail
  refine (cG.out _).mono ?_
  rintro e w1 ⟨rfl,hB⟩
  have HU1:=hid hB
  clear hB ld
  have ld:=(HC.out _ HU1.out).out.ldw
  go_wp2_with fail
  refine (cC.out _ (HB.out _ HU1.out)).mono ?_
  rintro e w2 ⟨rfl,hB⟩
  have HU2:=hid (HU1.out.trans (hB.mono HU1.out.size))
  clear hB ld
  have hth:(w2.alloc (.cells zL.toArray 34)).there w2.heap.size 0 30:=yat w2 _ _
  have hn3:=yaa (o:= .cells zL.toArray 34) (Below.refl w2.heap.size w2) (zG _)
  obtain ⟨w3,hw3⟩:∃W,yas (w2.alloc (.cells zL.toArray 34)) w2.heap.size zL=W:=⟨_,rfl⟩
  have hL3:LsB w2.heap.size zL w3:=by
   rw [←hw3]
   exact ⟨yak _ rfl hth,fun i=>by rw [yby,World.frozen?_setCells]; exact yaB w2 _ _ i,by rw [yby,yaN,zzN]; omega⟩
  have hb3:Below w2.heap.size w2 w3:=by rw [←hw3]; exact yaj hn3 (zG _) _
  obtain ⟨b5,eb5⟩:∃b,w2.heap.size=b:=⟨_,rfl⟩
  rw [eb5] at hL3
  have HU3:=hid (HU2.out.trans (hb3.mono HU2.out.size))
  have HK:Hid (∀W,Below w3.heap.size w3 W→Hid (LsB b5 zL W)):=fun W hB=>hL3.block hB.size (hB.block _ hL3.lt)
  have HW3:=hid hw3
  have E5:=hid eb5
  clear hn3 hL3 hb3 hw3 eb5
  go_upto_region 4 with fail
  rw [HW3.out,E5.out]
  clear hth
  have ld:=(HC.out _ HU3.out).out.ldw
  go_wp2_with fail
  refine (cF.out _ (HB.out _ HU3.out)).mono ?_
  rintro e w4 ⟨rfl,hB⟩
  have HU4:=hid (HU3.out.trans (hB.mono HU3.out.size))
  have HV4:=hid hB
  clear hB ld
  have ld:=(HC.out _ HU4.out).out.ldw
  go_wp2_with fail
  refine (cW'.out _ (HB.out _ HU4.out)).mono ?_
  rintro e w5 ⟨rfl,hB⟩
  have HU5:=hid (HU4.out.trans (hB.mono HU4.out.size))
  have HV5:=hid (HV4.out.trans (hB.mono HV4.out.size))
  clear hB ld
  have ld:=(show ClB w5 b5 zcl35 from (HK.out _ HV5.out).out.r).ld
  have hz:=zcl35_eq w5
  go_wp2_with fail
  refine (cL.out _ (HB.out _ HU5.out)).mono ?_
  rintro e w6 ⟨rfl,hB⟩
  have HF:=hid (HB.out _ (HU5.out.trans (hB.mono HU5.out.size)))
  clear hB
  go_wp2
  go_ret
  exact ⟨rfl,HF.out⟩
 have hck:=low_check hE
 have hst:=(ybo (yaw hck).h).1
 have hcok:=low_ok hn
 rw [if_pos hE,hE] at cC
 rw [hE] at cF
 have cR:=hid (fun W (hB:Below w.heap.size w W)=>yhG r W (hr.below hB) sm hn hck)
 have cY:=hid (fun W=>ycm (lowC r) W hcok)
 rw [ye7 hck] at cY
 have cH:=hid (fun W=>yjw (lowC r) t W hcok)
 rw [low_has hck] at cH
 have cM:=hid (fun W (hB:Below w.heap.size w W)=>yiw r t W (hr.below hB) sm hst hn)
 have cW0:Hid (r.co=0→∀W,Below w.heap.size w W→Calls Tryz.prog 10 #[ruv r] W fun e w'=>(∃g,e= .returned (.tuple #[.slice (some ⟨g,0,none⟩) 1 1, .int .i64 0])∧Sl w' (some ⟨g,0,none⟩) (cls [lowC r]))∧Below W.heap.size W w'):=fun h0 W hB=>(cW.out W hB).mono fun e w' h=>⟨by
  rcases h.1 with ⟨h1,-⟩ | ⟨-,g,h1,-,h2⟩
  ·exact absurd hE h1
  ·rw [show lowF r=lowC r by rw [lowF,if_neg (fun e=>by have:=e.1; omega)]] at h2
   exact ⟨g,h1,h2⟩,h.2⟩
 have hco:=(ydJ (yaw hck).h).2.1
 obtain ⟨x,hx⟩:∃x,ye6 r t=x:=⟨_,rfl⟩
 obtain ⟨c,hc⟩:∃c,lowC r=c:=⟨_,rfl⟩
 rw [hx] at cH cM
 rw [hc] at cC cR cY cH cW0 hcok
 have Hok:=hid hcok
 clear hE hr hm hn hT sm ht cW hck hst hx hc hcok
 go_enter Tryz.func3,Tryz.ntmps3
 go_upto_region 1 with fail
 rw [HW0.out,E1.out]
 have ld:=(HC.out _ (Below.refl _ _)).out.ldw
 go_wp2_with fail
 refine (cG.out _).mono ?_
 rintro e w1 ⟨rfl,hB⟩
 have HU1:=hid hB
 clear hB ld
 have ld:=(HC.out _ HU1.out).out.ldw
 go_wp2_with fail
 refine (cC.out _ (HB.out _ HU1.out)).mono ?_
 rintro e w2 ⟨rfl,hB⟩
 have HU2:=hid (HU1.out.trans (hB.mono HU1.out.size))
 clear hB ld
 have hth:(w2.alloc (.cells zL.toArray 34)).there w2.heap.size 0 30:=yat w2 _ _
 have hn3:=yaa (o:= .cells zL.toArray 34) (Below.refl w2.heap.size w2) (zG _)
 obtain ⟨w3,hw3⟩:∃W,yas (w2.alloc (.cells zL.toArray 34)) w2.heap.size (yac c)=W:=⟨_,rfl⟩
 have hL3:LsB w2.heap.size (yac c) w3:=by
  rw [←hw3]
  exact ⟨yak _ rfl hth,fun i=>by rw [yby,World.frozen?_setCells]; exact yaB w2 _ _ i,by rw [yby,yaN,zzN]; omega⟩
 have hb3:Below w2.heap.size w2 w3:=by rw [←hw3]; exact yaj hn3 (zG _) _
 obtain ⟨b5,eb5⟩:∃b,w2.heap.size=b:=⟨_,rfl⟩
 rw [eb5] at hL3
 have HU3:=hid (HU2.out.trans (hb3.mono HU2.out.size))
 have HK:Hid (∀W,Below w3.heap.size w3 W→Hid (LsB b5 (yac c) W)):=fun W hB=>hL3.block hB.size (hB.block _ hL3.lt)
 have HW3:=hid hw3
 have E5:=hid eb5
 clear hn3 hL3 hb3 hw3 eb5
 go_upto_region 4 with fail
 rw [HW3.out,E5.out]
 clear hth
 have ld:=(HC.out _ HU3.out).out.ldw
 go_wp2_with fail
 refine (cF.out _ (HB.out _ HU3.out)).mono ?_
 rintro e w4 ⟨rfl,hB⟩
 have HU4:=hid (HU3.out.trans (hB.mono HU3.out.size))
 have HV4:=hid hB
 clear hB ld
 have hC:Hid (∀W,Below w4.heap.size w4 W→Hid ((ybi (.pointer (some ⟨b5,0,none⟩))).run Tryz.prog W= .ok (clv c) W∧(ycJ (.pointer (some ⟨b1,0,none⟩))).run Tryz.prog W= .ok (ruv r) W∧(ye1 (clv c) (clv c)).run Tryz.prog W= .ok (.bool false) W)):=fun W hB=>⟨(show ClB W b5 c from (HK.out _ (HV4.out.trans (hB.mono HV4.out.size))).out.r).ld,(HC.out _ (HU4.out.trans (hB.mono HU4.out.size))).out.ldw,yjS c W Hok.out⟩
 have HXd:Hid (Below w4.heap.size w4 w4.drew):=(Below.refl _ _).drew
 go_upto_region 8 with fail
 refine regF [] (S:=(fun W=>Hid ((ybi (.pointer (some ⟨b5,0,none⟩))).run Tryz.prog W= .ok (clv c) W∧(ycJ (.pointer (some ⟨b1,0,none⟩))).run Tryz.prog W= .ok (ruv r) W∧(ye1 (clv c) (clv c)).run Tryz.prog W= .ok (.bool false) W))) (by kernel_rfl) (hC.out _ HXd.out) (fun hHeld=>?_)
 refine zfA 0 ?_
 refine zfA 1 ?_
 refine zfA 2 ?_
 refine zfA 3 ?_
 refine zfA 4 ?_
 refine zzO 5 (fun K hK=>?_)
 go_simp
 refine (cR.out _ (HB.out _ (HU4.out.trans (HXd.out.mono HU4.out.size)))).mono ?_
 rintro e wa ⟨rfl,hB⟩
 have HXwa:Hid (Below w4.heap.size w4 wa):=HXd.out.trans (hB.mono HXd.out.size)
 refine hK.out _ _ (fun _=>hC.out _ HXwa.out) ?_
 clear hK hB
 try simp only [rgPut]
 have hSwa:=hid (hC.out _ HXwa.out)
 refine zfA 6 ?_
 refine zfA 7 ?_
 refine zfA 8 ?_
 refine zfA 9 ?_
 refine zzO 10 (fun K hK=>?_)
 go_simp
 refine (cY.out _).mono ?_
 rintro e wb ⟨rfl,hB⟩
 have HXwb:Hid (Below w4.heap.size w4 wb):=HXwa.out.trans (hB.mono HXwa.out.size)
 refine hK.out _ _ (fun _=>hC.out _ HXwb.out) ?_
 clear hK hB
 try simp only [rgPut]
 have hSwb:=hid (hC.out _ HXwb.out)
 refine zfA 11 ?_
 refine zfA 12 ?_
 refine zfA 13 ?_
 refine zfA 14 ?_
 refine zfA 15 ?_
 refine zfA 17 ?_
 refine zfA 18 ?_
 refine zzO 16 (fun K hK=>?_)
 go_simp
 refine (cH.out _).mono ?_
 rintro e wc ⟨rfl,hB⟩
 have HXwc:Hid (Below w4.heap.size w4 wc):=HXwb.out.trans (hB.mono HXwb.out.size)
 refine hK.out _ _ (fun _=>hC.out _ HXwc.out) ?_
 clear hK hB
 try simp only [rgPut]
 have hSwc:=hid (hC.out _ HXwc.out)
 refine zzO 19 (fun K hK=>?_)
 go_simp
 refine (cM.out _ (HB.out _ (HU4.out.trans (HXwc.out.mono HU4.out.size)))).mono ?_
 rintro e wd ⟨rfl,hB⟩
 have HXwd:Hid (Below w4.heap.size w4 wd):=HXwc.out.trans (hB.mono HXwc.out.size)
 refine hK.out _ _ (fun _=>hC.out _ HXwd.out) ?_
 clear hK hB
 try simp only [rgPut]
 have hSwd:=hid (hC.out _ HXwd.out)
 refine zfA 20 ?_
 refine zfA 21 ?_
 refine OrdF.done (by kernel_rfl) ?_ _
 have HU5:=hid (HU4.out.trans (HXwd.out.mono HU4.out.size))
 clear hHeld
 have k3:=(HC.out _ HU5.out).out.at 3 (v:= .int .i64 r.co) rfl
 by_cases h0:0 < r.co
 ·go_wp2_with fail
  refine (cL.out _ (HB.out _ HU5.out)).mono ?_
  rintro e w6 ⟨rfl,hB⟩
  have HF:=hid (HB.out _ (HU5.out.trans (hB.mono HU5.out.size)))
  clear hB
  go_wp2
  go_ret
  exact ⟨rfl,HF.out⟩
 have cW1:=hid (cW0.out (by omega))
 have ld:=(HC.out _ HU5.out).out.ldw
 go_wp2_with fail
 refine (cW1.out _ (HB.out _ HU5.out)).mono ?_
 rintro e w6 ⟨⟨g,rfl,hs⟩,hB⟩
 have HU6:=hid (HU5.out.trans (hB.mono HU5.out.size))
 have HV6:=hid (HV4.out.trans ((HXwd.out.trans (hB.mono HXwd.out.size)).mono HV4.out.size))
 obtain ⟨hg1,hg2⟩:=sl_one35 hs
 clear hB ld k3 hs
 have hC2:Hid (∀W,Below w6.heap.size w6 W→Hid ((ybi (.pointer (some ⟨b5,0,none⟩))).run Tryz.prog W= .ok (clv c) W∧(ybi (.pointer (some ⟨g,0,none⟩))).run Tryz.prog W= .ok (clv c) W∧(yhi (clv c) (clv c)).run Tryz.prog W= .ok (.bool true) W)):=fun W hB=>⟨(show ClB W b5 c from (HK.out _ (HV6.out.trans (hB.mono HV6.out.size))).out.r).ld,(ClB.below hg1 hB hg2).ld,by have h:=yjf c c W Hok.out Hok.out; rw [yds] at h; exact h⟩
 have HXe:Hid (Below w6.heap.size w6 w6.drew):=(Below.refl _ _).drew
 clear hg1 hg2
 go_upto_region 13 with fail
 refine regF [] (S:=fun W=>Hid ((ybi (.pointer (some ⟨b5,0,none⟩))).run Tryz.prog W= .ok (clv c) W∧(ybi (.pointer (some ⟨g,0,none⟩))).run Tryz.prog W= .ok (clv c) W∧(yhi (clv c) (clv c)).run Tryz.prog W= .ok (.bool true) W)) (by kernel_rfl) (hC2.out _ HXe.out) (fun hHeld=>?_)
 refine zfA 0 ?_
 refine zfA 1 ?_
 refine zfA 2 ?_
 refine zfA 3 ?_
 refine zfA 4 ?_
 refine zfA 5 ?_
 refine zfA 6 ?_
 refine zfA 7 ?_
 refine zfA 8 ?_
 refine zfA 9 ?_
 refine zfA 10 ?_
 refine zfA 11 ?_
 refine zfA 12 ?_
 refine zfA 13 ?_
 refine zfA 14 ?_
 refine zzO 15 (fun K hK=>?_)
 go_simp
 refine (cL.out _ (HB.out _ (HU6.out.trans (HXe.out.mono HU6.out.size)))).mono ?_
 rintro e we ⟨rfl,hB⟩
 have HXf:Hid (Below w6.heap.size w6 we):=HXe.out.trans (hB.mono HXe.out.size)
 refine hK.out _ _ (fun _=>hC2.out _ HXf.out) ?_
 clear hK hB
 try simp only [rgPut]
 have hSe:=hid (hC2.out _ HXf.out)
 refine zfA 16 ?_
 refine zfA 17 ?_
 refine OrdF.done (by kernel_rfl) ?_ _
 have HF:=hid (HB.out _ (HU6.out.trans (HXf.out.mono HU6.out.size)))
 clear hHeld
 go_wp2
 go_ret
 exact ⟨rfl,HF.out⟩
end
section
open Go.ChangeShapes Go.WideShapes Go.ChangeAt Go.RowKit
theorem yhY:ownKnob Tryz.prog.godebug=none:=by kernel_rfl
theorem laidOut:laidOutB Tryz.prog=true:=by kernel_rfl
theorem gTab:Tryz.prog.globalNamed "math/bits.deBruijn64tab" =some 0:=by kernel_rfl
theorem gTabType:(Tryz.prog.globals[0]?).map (·.type)=some 234:=by kernel_rfl
theorem cellsTab:Tryz.prog.cellsOf 234=64:=by kernel_rfl
theorem cellsU8:Tryz.prog.cellsOf 5=1:=by kernel_rfl
def tabInts:List Int:=Lib.deBruijn64tab.map fun (n:Nat)=>(n:Int)
theorem yhP:∀i,i < 64→tabInts.getD i 0= ((Lib.deBruijn64tab.getD i 0:Nat):Int):=by decide
theorem tab_of {W:World} (h:laidMetH Tryz.prog [("math/bits.deBruijn64tab",Rows.laid_math_bits_deBruijn64tab)] W):Tab W:=by
 have ht:Lib.TabIs Tryz.prog W "math/bits.deBruijn64tab" .u8 tabInts:=Lib.tabIs_of_head (rest:= []) gTab gTabType Tryz.underlying234 Tryz.underlying5 cellsU8 cellsTab h
 have hc:∀i,i < 64→W.cell? ⟨0,i,none⟩=some (.int .u8 (tabInts.getD i 0)):=fun i hi=>ht.cell gTab i hi
 exact ⟨Nat.lt_of_le_of_lt (Nat.zero_le _) (World.block_lt_of_cell? W _ (hc 0 (by omega))),fun i hi=>by rw [hc i hi,yhP i hi]⟩
noncomputable def yfa (os:Os):World:=
 {World.holding Tryz.prog os ⟨#[],#[],[]⟩ with heap:=(World.holding Tryz.prog os ⟨#[],#[],[]⟩).heap.modify 0 fun
   | .cells _ t frozen=> .cells (tabInts.map (Value.int .u8)).toArray t frozen
   | o=>o}
end
section
open Go.ChangeShapes Go.WideShapes Go.ChangeAt Go.RowKit Go.Deep
theorem yiV:∀{cells:List Value} {n:Nat},cells.length=n * 2→(∀i,i < n→oks [.int .i64, .int .i64] ((cells.drop (i * 2)).take 2))→∃l:List (Int × Int),cells=nths l∧l.length=n
 | cells,0,h,_=>⟨[],by cases cells; rfl; simp at h,rfl⟩
 | cells,n+1,h,hk=>by
   obtain ⟨l,e,hl⟩:=yiV (cells:=cells.drop 2) (n:=n) (by simp; omega) (fun i hi=>by
    have:=hk (i+1) (by omega)
    rw [List.drop_drop]
    rwa [show 2+i * 2= (i+1) * 2 by omega])
   have h0:=hk 0 (by omega)
   rw [Nat.zero_mul,List.drop_zero] at h0
   obtain ⟨x,y,ec,-,-⟩:=oks_two h0
   refine ⟨(x,y) :: l,?_,by simp [hl]⟩
   rw [show nths ((x,y) :: l)= [.int .i64 x, .int .i64 y] ++ nths l by simp [nths,nth2],←e,←ec,List.take_append_drop]
theorem yce {H:Type} {enc:TypeId × Value→H} {W:World} {fuel:Nat} {v:Value} {y:DataW H × List MemPlace} (h:DataW.trod enc Tryz.prog W 0 (fun _=>true) true fuel 22 [v]=some y) :
  ∃(a:Option Addr) (cap:Nat) (l:List Int),v= .slice a l.length cap∧(l.length=0∨∃elems spare,y.1= .slice elems spare∧elems.length=l.length)∧Sl W a (ints l):=by
 obtain ⟨a,n,cap,cells,rfl,h1,h2,h3,h4,h6,h5⟩:=yg2 (m:=1) (ks:= [.int .i64]) Tryz.underlying22 (by kernel_rfl) (by kernel_rfl) (by decide) h
 obtain ⟨l,rfl,rfl,-⟩:=yiW h3 h5
 refine ⟨a,cap,l,rfl,?_,h4⟩
 rcases Go.Deep.open_slice Tryz.underlying22 h with ⟨e,-⟩ | ⟨a',len,cap',m,nn,D,Pl,e,-,-,-,-,rfl,-⟩
 ·left
  simp only [List.cons.injEq,Value.slice.injEq] at e
  exact e.1.2.1
 ·right
  simp only [List.cons.injEq,Value.slice.injEq] at e
  exact ⟨_,_,rfl,by rw [List.length_map,List.length_range]; exact e.1.2.1.symm⟩
theorem yjP {H:Type} {enc:TypeId × Value→H} {W:World} {fuel:Nat} {v:Value} {y:DataW H × List MemPlace} (h:DataW.trod enc Tryz.prog W 0 (fun _=>true) true fuel 23 [v]=some y) :
  ∃(a:Option Addr) (cap:Nat) (l:List (Int × Int)),v= .slice a l.length cap∧(l.length=0∨∃elems spare,y.1= .slice elems spare∧elems.length=l.length)∧Sl W a (nths l):=by
 obtain ⟨a,n,cap,cells,rfl,h1,h2,h3,h4,h6,h5⟩:=yg2 (m:=3) (ks:= [.int .i64, .int .i64]) Tryz.underlying23 (by kernel_rfl) (by kernel_rfl) (by decide) h
 obtain ⟨l,rfl,rfl⟩:=yiV h3 h5
 refine ⟨a,cap,l,rfl,?_,h4⟩
 rcases Go.Deep.open_slice Tryz.underlying23 h with ⟨e,-⟩ | ⟨a',len,cap',m,nn,D,Pl,e,-,-,-,-,rfl,-⟩
 ·left
  simp only [List.cons.injEq,Value.slice.injEq] at e
  exact e.1.2.1
 ·right
  simp only [List.cons.injEq,Value.slice.injEq] at e
  exact ⟨_,_,rfl,by rw [List.length_map,List.length_range]; exact e.1.2.1.symm⟩
theorem ydF {H:Type} {enc:TypeId × Value→H} {W:World} {fuel:Nat} {v:Value} {y:DataW H × List MemPlace} (h:DataW.trod enc Tryz.prog W 0 (fun _=>true) true fuel 2 [v]=some y):∃n,v= .int .i64 n∧i64B n:=by
 obtain ⟨k,-⟩:=ycL 1 (show yes Tryz.prog 1 2=some [.int .i64] by kernel_rfl) h
 exact ok_i k
theorem open_rint {H:Type} {enc:TypeId × Value→H} {W:World} {fuel:Nat} {v:Value} {y:DataW H × List MemPlace} (h:DataW.trod enc Tryz.prog W 0 (fun _=>true) true fuel 3 [v]=some y):∃n,v= .int .i64 n∧i64B n:=by
 obtain ⟨k,-⟩:=ycL 1 (show yes Tryz.prog 1 3=some [.int .i64] by kernel_rfl) h
 exact ok_i k
theorem oneRule:∃fs,Tryz.prog.underlying 25=some (.struct fs)∧oneCellFields Tryz.prog fs=true∧(fs.map (·.type)).toList= [2,3,2,2,2,22,22,23,22,22,22]:=⟨_,Tryz.underlying25,by kernel_rfl,by kernel_rfl⟩
theorem cellsRule:Tryz.prog.cellsOf 25=11:=by kernel_rfl
theorem open_rule {H:Type} {enc:TypeId × Value→H} {W:World} {rc:Reach} {b0:Nat} {v:Value} {d:DataW H} {p:List MemPlace} (hv:Value.okWide Tryz.prog W rc b0 25 v) (h:DataW.Trod enc Tryz.prog W 0 (fun _=>true) true 25 v d p)
  (hz:(DataW.weights Tryz.prog 25 d).all (·≤reachBytes)=true) :
  ∃r:Ru,v=ruv r∧RuS W r∧r.Num∧r.Sm 281474976710656:=by
 obtain ⟨fs,hs,hone,hty⟩:=oneRule
 obtain ⟨cs,rfl,hsz⟩:=okWide_struct hs hv
 obtain ⟨l⟩:=cs
 match l,hsz.trans cellsRule with
 | [c0,c1,c2,c3,c4,c5,c6,c7,c8,c9,c10],_=>
   obtain ⟨fuel,hf⟩:=h
   obtain ⟨xs,n,_,hx,_,hlen,hg⟩:=DataW.trod_struct hs hf
   obtain rfl:d= .agg (xs.map (·.1)):=by injection hx
   have hw:(DataW.weightsEach Tryz.prog [2,3,2,2,2,22,22,23,22,22,22] (xs.map (·.1))).all (·≤reachBytes)=true:=by
    have e:fs.toList.map (·.type)= [2,3,2,2,2,22,22,23,22,22,22]:=by rw [←hty,Array.toList_map]
    rw [←e]
    simpa only [DataW.weights,hs] using hz
   have key:∀(i:Nat) (t:TypeId) (c:Value),[2,3,2,2,2,22,22,23,22,22,22][i]? =some t→ [c0,c1,c2,c3,c4,c5,c6,c7,c8,c9,c10][i]? =some c→∃y,DataW.trod enc Tryz.prog W 0 (fun _=>true) true n t [c]=some y∧(xs.map (·.1))[i]? =some y.1:=by
    intro i t c ht hc
    rw [←hty] at ht
    have hfi:∃f,fs[i]? =some f∧f.type=t:=by
     simp only [Array.toList_map,List.getElem?_map,Option.map_eq_some_iff] at ht
     obtain ⟨f,hf1,hf2⟩:=ht
     exact ⟨f,by simpa using hf1,hf2⟩
    obtain ⟨f,hf1,rfl⟩:=hfi
    obtain ⟨o,k⟩:=hone_of hone i f hf1
    have g:=hg i f hf1
    rw [o,k] at g
    have hil:i < fs.size:=(Array.getElem?_eq_some_iff.1 hf1).1
    have hxs:i < xs.length:=by omega
    refine ⟨xs[i],?_,by rw [List.getElem?_map,zzp hxs]; rfl⟩
    rw [zzp hxs] at g
    have e:(((Value.agg [c0,c1,c2,c3,c4,c5,c6,c7,c8,c9,c10].toArray).cells.toList.drop i).take 1)= [c]:=by
     show ([c0,c1,c2,c3,c4,c5,c6,c7,c8,c9,c10].drop i).take 1= [c]
     obtain ⟨hi',hce⟩:=zzq.1 hc
     rw [List.drop_eq_getElem_cons hi',hce]; rfl
    rw [e] at g
    exact g
   obtain ⟨z0,t0,u0⟩:=key 0 _ _ rfl rfl
   obtain ⟨z1,t1,u1⟩:=key 1 _ _ rfl rfl
   obtain ⟨z2,t2,u2⟩:=key 2 _ _ rfl rfl
   obtain ⟨z3,t3,u3⟩:=key 3 _ _ rfl rfl
   obtain ⟨z4,t4,u4⟩:=key 4 _ _ rfl rfl
   obtain ⟨z5,t5,u5⟩:=key 5 _ _ rfl rfl
   obtain ⟨z6,t6,u6⟩:=key 6 _ _ rfl rfl
   obtain ⟨z7,t7,u7⟩:=key 7 _ _ rfl rfl
   obtain ⟨z8,t8,u8⟩:=key 8 _ _ rfl rfl
   obtain ⟨z9,t9,u9⟩:=key 9 _ _ rfl rfl
   obtain ⟨z10,t10,u10⟩:=key 10 _ _ rfl rfl
   obtain ⟨n0,rfl,g0⟩:=ydF t0
   obtain ⟨n1,rfl,g1⟩:=open_rint t1
   obtain ⟨n2,rfl,g2⟩:=ydF t2
   obtain ⟨n3,rfl,g3⟩:=ydF t3
   obtain ⟨n4,rfl,g4⟩:=ydF t4
   obtain ⟨a5,k5,l5,rfl,q5,s5⟩:=yce t5
   have g5:l5.length≤281474976710656:=by
    rcases q5 with q | ⟨elems,spare,q,qe⟩
    ·omega
    ·rw [q] at u5
     have:=sized_slice hw (j:=5) rfl u5 Tryz.underlying22
     rw [show Tryz.prog.bytesOf 3=8 by kernel_rfl] at this
     simp only [reachBytes] at this
     omega
   obtain ⟨a6,k6,l6,rfl,q6,s6⟩:=yce t6
   have g6:l6.length≤281474976710656:=by
    rcases q6 with q | ⟨elems,spare,q,qe⟩
    ·omega
    ·rw [q] at u6
     have:=sized_slice hw (j:=6) rfl u6 Tryz.underlying22
     rw [show Tryz.prog.bytesOf 3=8 by kernel_rfl] at this
     simp only [reachBytes] at this
     omega
   obtain ⟨a7,k7,l7,rfl,q7,s7⟩:=yjP t7
   have g7:l7.length≤281474976710656:=by
    rcases q7 with q | ⟨elems,spare,q,qe⟩
    ·omega
    ·rw [q] at u7
     have:=sized_slice hw (j:=7) rfl u7 Tryz.underlying23
     rw [show Tryz.prog.bytesOf 72=16 by kernel_rfl] at this
     simp only [reachBytes] at this
     omega
   obtain ⟨a8,k8,l8,rfl,q8,s8⟩:=yce t8
   have g8:l8.length≤281474976710656:=by
    rcases q8 with q | ⟨elems,spare,q,qe⟩
    ·omega
    ·rw [q] at u8
     have:=sized_slice hw (j:=8) rfl u8 Tryz.underlying22
     rw [show Tryz.prog.bytesOf 3=8 by kernel_rfl] at this
     simp only [reachBytes] at this
     omega
   obtain ⟨a9,k9,l9,rfl,q9,s9⟩:=yce t9
   have g9:l9.length≤281474976710656:=by
    rcases q9 with q | ⟨elems,spare,q,qe⟩
    ·omega
    ·rw [q] at u9
     have:=sized_slice hw (j:=9) rfl u9 Tryz.underlying22
     rw [show Tryz.prog.bytesOf 3=8 by kernel_rfl] at this
     simp only [reachBytes] at this
     omega
   obtain ⟨a10,k10,l10,rfl,q10,s10⟩:=yce t10
   have g10:l10.length≤281474976710656:=by
    rcases q10 with q | ⟨elems,spare,q,qe⟩
    ·omega
    ·rw [q] at u10
     have:=sized_slice hw (j:=10) rfl u10 Tryz.underlying22
     rw [show Tryz.prog.bytesOf 3=8 by kernel_rfl] at this
     simp only [reachBytes] at this
     omega
   exact ⟨{st:=n0,fq:=n1,iv:=n2,co:=n3,un:=n4,l5:=l5,a5:=a5,c5:=k5,l6:=l6,a6:=a6,c6:=k6,l7:=l7,a7:=a7,c7:=k7,l8:=l8,a8:=a8,c8:=k8,l9:=l9,a9:=a9,c9:=k9,lx:=l10,ax:=a10,cx:=k10},rfl,⟨s5,s6,s7,s8,s9,s10⟩,⟨g0,g1,g2,g3,g4⟩,⟨g5,g6,g7,g8,g9,g10⟩⟩
end
end Go.Proofs.YtjahgimnfliooaaGreatDoor
