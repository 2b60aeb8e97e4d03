/-
  rulelow.Clause: the clause of a rule, without its count.
  tally.counter (and its function) and tally.part.
-/
import Derived.Test.YtjahgimnfliooaaGreatDoorQdc96ce
import Derived.Test.YtjahgimnfliooaaGreatDoorQ957032
import Derived.Test.YtjahgimnfliooaaGreatDoorQe55767
import Derived.Test.YtjahgimnfliooaaGreatDoorQ4a6ba8
import Derived.Test.YtjahgimnfliooaaGreatDoorQ76a5b0
import Derived.LaidEql
import Derived.Laws.EntriesVeiled
set_option maxRecDepth 100000
set_option maxHeartbeats 25600000
namespace Go.Proofs.YtjahgimnfliooaaGreatDoor
set_option linter.unusedVariables false
section
open Go.RowKit Go.Maps
attribute [local irreducible] secL
theorem rl_cells (r:Ru):(((((((yge (((((yac fullCl).set 3 (.int .u64 (ya7 r:Nat))).set 4 (.int .u64 (domV r:Nat))).set 5 (.int .u64 (endV r:Nat))).set 6 (.int .u64 (ybE r:Nat))) 8 (ybT (woI r) (woB r) (woD r))).set 2 (.int .u64 (tmH r:Nat))).set 1 (.int .u64 (tmM r:Nat))).set 0 (.int .u64 (tmS r:Nat))).set 25 (.int .i64 r.fq)).set 26 (.int .i64 r.iv)).set 27 (.int .i64 r.st)).set 28 (.int .i64 r.st)=yac (lowU r 12622780799):=by kernel_rfl
theorem rl_cells2 (r:Ru):((((((((yge (((((yac fullCl).set 3 (.int .u64 (ya7 r:Nat))).set 4 (.int .u64 (domV r:Nat))).set 5 (.int .u64 (endV r:Nat))).set 6 (.int .u64 (ybE r:Nat))) 8 (ybT (woI r) (woB r) (woD r))).set 2 (.int .u64 (tmH r:Nat))).set 1 (.int .u64 (tmM r:Nat))).set 0 (.int .u64 (tmS r:Nat))).set 25 (.int .i64 r.fq)).set 26 (.int .i64 r.iv)).set 27 (.int .i64 r.st)).set 28 (.int .i64 r.st)).set 29 (.int .i64 r.un)=yac (lowU r r.un):=by kernel_rfl
attribute [local go_sem ↓] yaC yaK ycK yjG
attribute [local go_sem] yaA
theorem yeu (r:Ru) (w:World) (hr:RuS w r) (hm:r.Sm 1000000):Calls Tryz.prog 8 #[ruv r] w fun e w'=>e= .returned (.tuple #[if lowE r=0 then clv (lowC r) else .agg zL.toArray, .int .i64 (lowE r)])∧Below w.heap.size w w':=by
 have hB0:Below w.heap.size w (w.alloc (.cells (yai r).toArray 25)):=yaa (Below.refl _ _) (zG _)
 have hR0:=yaJ w r 25
 have s0:(w.alloc (.cells (yai r).toArray 25)).heap.size=w.heap.size+1:=by simp
 obtain ⟨W0,hW0⟩:∃W,w.alloc (.cells (yai r).toArray 25)=W:=⟨_,rfl⟩
 rw [hW0] at hB0 hR0 s0
 have ht1:(W0.alloc (.cells zL.toArray 34)).there W0.heap.size 0 30:=yat W0 _ _
 have hb1:Below W0.heap.size W0 (W0.alloc (.cells zL.toArray 34)):=yaa (Below.refl _ _) (zG _)
 have s1:(W0.alloc (.cells zL.toArray 34)).heap.size=W0.heap.size+1:=by simp
 obtain ⟨W1,hW1⟩:∃W,W0.alloc (.cells zL.toArray 34)=W:=⟨_,rfl⟩
 rw [hW1] at ht1 hb1 s1
 have hR1:=hR0.below hb1 (by omega)
 have hB1:=hB0.trans (hb1.mono hB0.size)
 have cF:=hid (yiq r W1 (hr.below hB1) hm)
 have ld1:=hR1.ldw
 obtain ⟨b1,eb1⟩:∃b,w.heap.size=b:=⟨_,rfl⟩
 obtain ⟨b2,eb2⟩:∃b,W0.heap.size=b:=⟨_,rfl⟩
 have h21:b1+1=b2:=by omega
 rw [eb1] at hR1 ld1
 rw [eb2] at ht1
 have HR1:=hid hR1
 have HT1:=hid ht1
 have HB1:=hid hB1
 have HW0:=hid hW0
 have HW1:=hid hW1
 have E1:=hid eb1
 have H21:=hid h21
 have S1:Hid (b2 < W1.heap.size):=by show _ < _; omega
 have Hr:=hid hr
 clear hB0 hR0 s0 hW0 hb1 s1 hW1 hR1 hB1 ht1 eb1 eb2 h21 hr
 obtain ⟨Q,hQ⟩:∃Q,(if lowE r=0 then clv (lowC r) else .agg zL.toArray)=Q:=⟨_,rfl⟩
 obtain ⟨c,hc⟩:∃c,lowE r=c:=⟨_,rfl⟩
 rw [hQ,hc]
 rw [hc] at cF
 have HQ:=hid hQ
 have Hc:=hid hc
 clear hQ hc
 go_enter Tryz.func8,Tryz.ntmps8
 go_upto_region 1 with fail
 rw [HW0.out,HW1.out,E1.out,H21.out]
 go_wp2_with fail
 refine cF.out.mono ?_
 rintro e w2 ⟨rfl,hB⟩
 have hlo:b1 < b2:=by have:=H21.out; omega
 have HR2:=hid (HR1.out.below hB (Nat.lt_trans hlo S1.out))
 have HT2:Hid (w2.there b2 0 30):=fun j hj=>⟨by rw [hB.cell (p:=⟨b2,0+j,none⟩) S1.out]; exact (HT1.out j hj).1,by rw [hB.frozen (p:=⟨b2,0+j,none⟩) S1.out]; exact (HT1.out j hj).2⟩
 have HB2:=hid (HB1.out.trans (hB.mono HB1.out.size))
 have S2:Hid (b2 < w2.heap.size):=zH S1.out hB.size
 clear hB ld1 cF HR1 HT1
 by_cases hE:lowE r=0
 rotate_left
 ·have HQ1:Hid (Q= .agg zL.toArray):=by show _ = _; rw [←HQ.out,if_neg hE]
  rw [Hc.out] at hE
  have q2:(c != 0)=true:=by simpa using hE
  have q1:(c == 0)=false:=by simpa using hE
  have ht:=HT2.out
  have hPr:(yas w2 b2 zL).rangeAt b2 0 zL:=yak _ rfl ht
  have HPr:=hid hPr
  have HBf:Hid (Below w.heap.size w (yas w2 b2 zL)):=yaj HB2.out (by have:=E1.out; omega) _
  obtain ⟨W9,hW9⟩:∃W,yas w2 b2 zL=W:=⟨_,rfl⟩
  rw [hW9] at HPr HBf
  have HW9:=hid hW9
  clear hE hPr hW9
  go_wp2
  (try rw [HW9.out])
  exact bodyPost_ret (yaD (p:=2) (t:=3) rfl _ _ b2 0 _ _ rfl HPr.out Tryz.underlying34 rfl ydh) rfl ⟨by rw [HQ1.out] <;> rfl,HBf.out⟩
 have HQ1:Hid (Q=clv (lowC r)):=by show _ = _; rw [←HQ.out,if_pos hE]
 obtain rfl:c=0:=by rw [←Hc.out]; exact hE
 have hck:yaf r=0:=by
  by_cases h:yaf r=0
  ·exact h
  ·rw [lowE,if_neg h] at hE; exact hE
 have cFu:=hid (ybr w2)
 go_wp2_with fail
 refine cFu.out.mono ?_
 rintro e w3 ⟨rfl,hB⟩
 have hth3:(w3.alloc (.cells zL.toArray 34)).there w3.heap.size 0 30:=yat w3 _ _
 have hn3:=yaa (o:= .cells zL.toArray 34) (Below.refl w3.heap.size w3) (zG _)
 obtain ⟨FC,hFC⟩:∃F,fullCl=F:=⟨_,rfl⟩
 rw [hFC]
 obtain ⟨W4,hW4⟩:∃W,yas (w3.alloc (.cells zL.toArray 34)) w3.heap.size (yac FC)=W:=⟨_,rfl⟩
 have hL4:LsB w3.heap.size (yac fullCl) W4:=by
  rw [←hW4,hFC]
  exact ⟨yak _ rfl hth3,fun i=>by rw [yby,World.frozen?_setCells]; exact yaB w3 _ _ i,by rw [yby,yaN,zzN]; omega⟩
 have hB4:Below w3.heap.size w3 W4:=by rw [←hW4]; exact yaj hn3 (zG _) _
 have hb34:=hB.trans (hB4.mono hB.size)
 obtain ⟨b5,eb5⟩:∃b,w3.heap.size=b:=⟨_,rfl⟩
 rw [eb5] at hL4
 have HS:Hid (RwC w r b1 b2 b5 (yac fullCl) W4):=⟨HR2.out.below hb34 (Nat.lt_trans hlo S2.out),hL4,fun j hj=>⟨by rw [hb34.cell (p:=⟨b2,0+j,none⟩) S2.out]; exact (HT2.out j hj).1,by rw [hb34.frozen (p:=⟨b2,0+j,none⟩) S2.out]; exact (HT2.out j hj).2⟩,HB2.out.trans (hb34.mono HB2.out.size),Nat.le_of_eq E1.out,hlo,by have:=S2.out; have:=hB.size; omega⟩
 obtain ⟨L0,el⟩:∃Z,yac fullCl=Z:=⟨_,rfl⟩
 rw [el] at HS hL4
 have HL:Hid (L0.length=30):=by show _ = _; rw [←el]; rfl
 have EL0:=hid el
 have HW4:=hid hW4
 have E5:=hid eb5
 have Hck:=hid hck
 clear el
 clear hB hL4 hB4 hb34 hn3 hW4 eb5 hFC cFu HR2 HT2 S2 hE hck HB2
 go_upto_region 5 with fail
 rw [HW4.out,E5.out]
 clear hth3
 have ld:=HS.out.ru.ldw
 have cK:=hid (ykv r W4 (Hr.out.below HS.out.be) hm)
 go_wp2_with fail
 refine cK.out.mono ?_
 rintro e w5 ⟨rfl,hB⟩
 have HS:=hid (HS.out.call hB)
 clear hB ld cK
 have cz1:=HS.out.l.z 3
 obtain ⟨L1,u1,el,hl,cc1,hS⟩:=HS.out.nxt HL.out (k:=3) (by decide) (.int .u64 (ya7 r:Nat))
 have EL1:=hid el
 clear HL HS
 have HL:=hid hl
 have HS:=hid hS
 clear el hl hS
 obtain ⟨t1,ht1⟩:∃W,w5.setCell ⟨b5,3,none⟩ (.int .u64 (ya7 r:Nat))=W:=⟨_,rfl⟩
 rw [ht1] at HS
 go_upto_region 6 with fail
 clear cc1 cz1 ht1
 have ld:=HS.out.ru.ldw
 have cK:=hid (Days_any r t1 (Hr.out.below HS.out.be) hm)
 go_wp2_with fail
 refine cK.out.mono ?_
 rintro e w6 ⟨rfl,hB⟩
 have HS:=hid (HS.out.call hB)
 clear hB ld cK
 have cz2:=HS.out.l.z 4
 obtain ⟨L2,u2,el,hl,cc2,hS⟩:=HS.out.nxt HL.out (k:=4) (by decide) (.int .u64 (domV r:Nat))
 have EL2:=hid el
 clear HL HS
 have HL:=hid hl
 have HS:=hid hS
 clear el hl hS
 obtain ⟨t2,ht2⟩:∃W,w6.setCell ⟨b5,4,none⟩ (.int .u64 (domV r:Nat))=W:=⟨_,rfl⟩
 rw [ht2] at HS
 have cz3:=HS.out.l.z 5
 obtain ⟨L3,u3,el,hl,cc3,hS⟩:=HS.out.nxt HL.out (k:=5) (by decide) (.int .u64 (endV r:Nat))
 have EL3:=hid el
 clear HL HS
 have HL:=hid hl
 have HS:=hid hS
 clear el hl hS
 obtain ⟨t3,ht3⟩:∃W,t2.setCell ⟨b5,5,none⟩ (.int .u64 (endV r:Nat))=W:=⟨_,rfl⟩
 rw [ht3] at HS
 go_upto_region 7 with fail
 clear cc2 cz2 ht2 cc3 cz3 ht3
 have ld:=HS.out.ru.ldw
 have cK:=hid (Week_any r t3 (Hr.out.below HS.out.be) hm)
 rw [weekO_ord] at cK
 go_wp2_with fail
 refine cK.out.mono ?_
 rintro e w7 ⟨rfl,hB⟩
 have HS:=hid (HS.out.call hB)
 clear hB ld cK
 have cz4:=HS.out.l.z 6
 obtain ⟨L4,u4,el,hl,cc4,hS⟩:=HS.out.nxt HL.out (k:=6) (by decide) (.int .u64 (ybE r:Nat))
 have EL4:=hid el
 clear HL HS
 have HL:=hid hl
 have HS:=hid hS
 clear el hl hS
 obtain ⟨t4,ht4⟩:∃W,w7.setCell ⟨b5,6,none⟩ (.int .u64 (ybE r:Nat))=W:=⟨_,rfl⟩
 rw [ht4] at HS
 have st5:=HS.out.l.stO HL.out (woI r) (woB r) (woD r)
 obtain ⟨L5,el,hl,hS⟩:=HS.out.nxtO HL.out (woI r) (woB r) (woD r)
 have EL5:=hid el
 clear HL HS
 have HL:=hid hl
 have HS:=hid hS
 clear el hl hS
 obtain ⟨t5,ht5⟩:∃W,t4.setCells b5 8 (ybT (woI r) (woB r) (woD r))=W:=⟨_,rfl⟩
 rw [ht5] at HS st5
 clear ht5
 go_upto_region 8 with fail
 clear cc4 cz4 ht4 st5
 have ld:=HS.out.ru.ldw
 have cK:=hid (yin r t5 (Hr.out.below HS.out.be) hm)
 go_wp2_with fail
 refine cK.out.mono ?_
 rintro e w8 ⟨rfl,hB⟩
 have HS:=hid (HS.out.call hB)
 clear hB ld cK
 have cz6:=HS.out.l.z 2
 obtain ⟨L6,u6,el,hl,cc6,hS⟩:=HS.out.nxt HL.out (k:=2) (by decide) (.int .u64 (tmH r:Nat))
 have EL6:=hid el
 clear HL HS
 have HL:=hid hl
 have HS:=hid hS
 clear el hl hS
 obtain ⟨t6,ht6⟩:∃W,w8.setCell ⟨b5,2,none⟩ (.int .u64 (tmH r:Nat))=W:=⟨_,rfl⟩
 rw [ht6] at HS
 have cz7:=HS.out.l.z 1
 obtain ⟨L7,u7,el,hl,cc7,hS⟩:=HS.out.nxt HL.out (k:=1) (by decide) (.int .u64 (tmM r:Nat))
 have EL7:=hid el
 clear HL HS
 have HL:=hid hl
 have HS:=hid hS
 clear el hl hS
 obtain ⟨t7,ht7⟩:∃W,t6.setCell ⟨b5,1,none⟩ (.int .u64 (tmM r:Nat))=W:=⟨_,rfl⟩
 rw [ht7] at HS
 have cz8:=HS.out.l.z 0
 obtain ⟨L8,u8,el,hl,cc8,hS⟩:=HS.out.nxt HL.out (k:=0) (by decide) (.int .u64 (tmS r:Nat))
 have EL8:=hid el
 clear HL HS
 have HL:=hid hl
 have HS:=hid hS
 clear el hl hS
 obtain ⟨t8,ht8⟩:∃W,t7.setCell ⟨b5,0,none⟩ (.int .u64 (tmS r:Nat))=W:=⟨_,rfl⟩
 rw [ht8] at HS
 go_upto_region 9 with fail
 clear cc6 cz6 ht6 cc7 cz7 ht7 cc8 cz8 ht8
 have HC:Hid (∀W,Eff (fun b=>b=b5) t8 W→Hid (W.cell? ⟨b1,0,none⟩=some (.int .i64 r.st)∧W.cell? ⟨b1,1,none⟩=some (.int .i64 r.fq)∧W.cell? ⟨b1,2,none⟩=some (.int .i64 r.iv))):=fun W hE=>
  have e1:=hE.block b1 (by have:=HS.out.o; have:=HS.out.l.lt; omega) (by have:=HS.out.o; omega)
  have k:=HS.out.ru.all.1
  ⟨(zzJ (w:=t8) (a:=⟨b1,0,none⟩) e1).trans k.1,(zzJ (w:=t8) (a:=⟨b1,1,none⟩) e1).trans k.2.1,(zzJ (w:=t8) (a:=⟨b1,2,none⟩) e1).trans k.2.2.1⟩
 have HE:Hid (Eff (fun b=>b=b5) t8 t8.drew):=Eff.of_below (Below.refl t8.heap.size t8).drew
 have HS:=hid (HS.out.call (Below.refl t8.heap.size t8).drew)
 refine regF [] (S:=fun W=>Hid (W.cell? ⟨b1,0,none⟩=some (.int .i64 r.st)∧W.cell? ⟨b1,1,none⟩=some (.int .i64 r.fq)∧W.cell? ⟨b1,2,none⟩=some (.int .i64 r.iv))) (by kernel_rfl) (HC.out _ HE.out) (fun hHeld=>?_)
 obtain ⟨D9,eD⟩:∃Z,t8.drew=Z:=⟨_,rfl⟩
 rw [eD] at HS HE hHeld⊢
 clear eD
 refine zfA 0 ?_
 refine zfA 1 ?_
 refine zfA 2 ?_
 refine zfA 3 ?_
 refine zfA 4 ?_
 refine zfA 5 ?_
 refine zfA 6 ?_
 refine zfA 7 ?_
 have hQ:=hid (HC.out _ HE.out)
 refine zzO 8 (fun K hK=>?_)
 go_simp
 refine hK.out _ _ (fun _=>hQ.out) ?_
 clear hK
 try simp only [rgPut]
 have cz:=HS.out.l.z 25
 obtain ⟨L9,u9,el,hl,cc,hS⟩:=HS.out.nxt HL.out (k:=25) (by decide) (.int .i64 r.fq)
 have EL9:=hid el
 clear HL HS
 have HL:=hid hl
 have HS:=hid hS
 clear el hl hS
 have HE:Hid (Eff (fun b=>b=b5) _ (D9.setCell ⟨b5,25,none⟩ (.int .i64 r.fq))):=HE.out.set rfl _ _
 have hQ:=hid (HC.out _ HE.out)
 refine zzO 9 (fun K hK=>?_)
 go_simp
 refine hK.out _ _ (fun _=>hQ.out) ?_
 clear hK cc cz hQ
 try simp only [rgPut]
 obtain ⟨t9,ht⟩:∃Z,D9.setCell ⟨b5,25,none⟩ (.int .i64 r.fq)=Z:=⟨_,rfl⟩
 rw [ht] at HS HE⊢
 clear ht
 have hQ:=hid (HC.out _ HE.out)
 refine zzO 10 (fun K hK=>?_)
 go_simp
 refine hK.out _ _ (fun _=>hQ.out) ?_
 clear hK
 try simp only [rgPut]
 have cz:=HS.out.l.z 26
 obtain ⟨L10,u10,el,hl,cc,hS⟩:=HS.out.nxt HL.out (k:=26) (by decide) (.int .i64 r.iv)
 have EL10:=hid el
 clear HL HS
 have HL:=hid hl
 have HS:=hid hS
 clear el hl hS
 have HE:Hid (Eff (fun b=>b=b5) _ (t9.setCell ⟨b5,26,none⟩ (.int .i64 r.iv))):=HE.out.set rfl _ _
 have hQ:=hid (HC.out _ HE.out)
 refine zzO 11 (fun K hK=>?_)
 go_simp
 refine hK.out _ _ (fun _=>hQ.out) ?_
 clear hK cc cz hQ
 try simp only [rgPut]
 obtain ⟨t10,ht⟩:∃Z,t9.setCell ⟨b5,26,none⟩ (.int .i64 r.iv)=Z:=⟨_,rfl⟩
 rw [ht] at HS HE⊢
 clear ht
 have hQ:=hid (HC.out _ HE.out)
 refine zzO 12 (fun K hK=>?_)
 go_simp
 refine hK.out _ _ (fun _=>hQ.out) ?_
 clear hK
 try simp only [rgPut]
 have cz:=HS.out.l.z 27
 obtain ⟨L11,u11,el,hl,cc,hS⟩:=HS.out.nxt HL.out (k:=27) (by decide) (.int .i64 r.st)
 have EL11:=hid el
 clear HL HS
 have HL:=hid hl
 have HS:=hid hS
 clear el hl hS
 have HE:Hid (Eff (fun b=>b=b5) _ (t10.setCell ⟨b5,27,none⟩ (.int .i64 r.st))):=HE.out.set rfl _ _
 have hQ:=hid (HC.out _ HE.out)
 refine zzO 13 (fun K hK=>?_)
 go_simp
 refine hK.out _ _ (fun _=>hQ.out) ?_
 clear hK cc cz hQ
 try simp only [rgPut]
 obtain ⟨t11,ht⟩:∃Z,t10.setCell ⟨b5,27,none⟩ (.int .i64 r.st)=Z:=⟨_,rfl⟩
 rw [ht] at HS HE⊢
 clear ht
 have hQ:=hid (HC.out _ HE.out)
 refine zzO 14 (fun K hK=>?_)
 go_simp
 refine hK.out _ _ (fun _=>hQ.out) ?_
 clear hK
 try simp only [rgPut]
 have cz:=HS.out.l.z 28
 obtain ⟨L12,u12,el,hl,cc,hS⟩:=HS.out.nxt HL.out (k:=28) (by decide) (.int .i64 r.st)
 have EL12:=hid el
 clear HL HS
 have HL:=hid hl
 have HS:=hid hS
 clear el hl hS
 have HE:Hid (Eff (fun b=>b=b5) _ (t11.setCell ⟨b5,28,none⟩ (.int .i64 r.st))):=HE.out.set rfl _ _
 have hQ:=hid (HC.out _ HE.out)
 refine zzO 15 (fun K hK=>?_)
 go_simp
 refine hK.out _ _ (fun _=>hQ.out) ?_
 clear hK cc cz hQ
 try simp only [rgPut]
 obtain ⟨t12,ht⟩:∃Z,t11.setCell ⟨b5,28,none⟩ (.int .i64 r.st)=Z:=⟨_,rfl⟩
 rw [ht] at HS HE⊢
 clear ht
 refine OrdF.done (by kernel_rfl) ?_ _
 clear hHeld HC HE
 have k4:=HS.out.ru.at 4 (v:= .int .i64 r.un) rfl
 by_cases hun:r.un= -1
 ·rw [hun] at k4
  have Hun:=hid hun
  clear hun
  have hEnd:L12=yac (lowU r 12622780799):=by rw [←EL12.out,←EL11.out,←EL10.out,←EL9.out,←EL8.out,←EL7.out,←EL6.out,←EL5.out,←EL4.out,←EL3.out,←EL2.out,←EL1.out,←EL0.out]; exact rl_cells r
  have ld:=(show ClB t12 b5 (lowU r 12622780799) from by have h:=HS.out.l.r; rw [hEnd] at h; exact h).ld
  have ht9:=HS.out.t
  have Hl:Hid (lowC r=lowU r 12622780799):=by show _ = _; rw [lowC_U,if_pos Hun.out]
  obtain ⟨c,hc⟩:∃c,lowU r 12622780799=c:=⟨_,rfl⟩
  rw [hc] at ld
  have HC:=hid hc
  have hPr:(yas t12 b2 (yac c)).rangeAt b2 0 (yac c):=yak _ rfl ht9
  have HPr:=hid hPr
  have HBf:Hid (Below w.heap.size w (yas t12 b2 (yac c))):=yaj HS.out.be (by have:=HS.out.o; omega) _
  obtain ⟨W9,hW9⟩:∃W,yas t12 b2 (yac c)=W:=⟨_,rfl⟩
  rw [hW9] at HPr HBf
  have HW9:=hid hW9
  clear hPr hc hW9
  go_wp2
  (try rw [HW9.out])
  exact bodyPost_ret (yaD (p:=2) (t:=3) rfl _ _ b2 0 _ _ rfl HPr.out Tryz.underlying34 rfl ydh) rfl ⟨by rw [HQ1.out,Hl.out,HC.out] <;> rfl,HBf.out⟩
 ·have q1:(r.un == -1)=false:=by simpa using hun
  have Hun:=hid hun
  have cz:=HS.out.l.z 29
  obtain ⟨L13,u13,el,hl,cc,hS⟩:=HS.out.nxt HL.out (k:=29) (by decide) (.int .i64 r.un)
  have EL13:=hid el
  clear HL HS
  have HL:=hid hl
  have HS:=hid hS
  clear el hl hS
  obtain ⟨t13,ht⟩:∃W,t12.setCell ⟨b5,29,none⟩ (.int .i64 r.un)=W:=⟨_,rfl⟩
  rw [ht] at HS
  clear hun
  go_upto_region 12 with fail
  clear ht cc cz q1 k4
  have hEnd:L13=yac (lowU r r.un):=by rw [←EL13.out,←EL12.out,←EL11.out,←EL10.out,←EL9.out,←EL8.out,←EL7.out,←EL6.out,←EL5.out,←EL4.out,←EL3.out,←EL2.out,←EL1.out,←EL0.out]; exact rl_cells2 r
  have ld:=(show ClB t13 b5 (lowU r r.un) from by have h:=HS.out.l.r; rw [hEnd] at h; exact h).ld
  have ht9:=HS.out.t
  have Hl:Hid (lowC r=lowU r r.un):=by show _ = _; rw [lowC_U,if_neg Hun.out]
  obtain ⟨c,hc⟩:∃c,lowU r r.un=c:=⟨_,rfl⟩
  rw [hc] at ld
  have HC:=hid hc
  have hPr:(yas t13 b2 (yac c)).rangeAt b2 0 (yac c):=yak _ rfl ht9
  have HPr:=hid hPr
  have HBf:Hid (Below w.heap.size w (yas t13 b2 (yac c))):=yaj HS.out.be (by have:=HS.out.o; omega) _
  obtain ⟨W9,hW9⟩:∃W,yas t13 b2 (yac c)=W:=⟨_,rfl⟩
  rw [hW9] at HPr HBf
  have HW9:=hid hW9
  clear hPr hc hW9
  go_wp2
  (try rw [HW9.out])
  exact bodyPost_ret (yaD (p:=2) (t:=3) rfl _ _ b2 0 _ _ rfl HPr.out Tryz.underlying34 rfl ydh) rfl ⟨by rw [HQ1.out,Hl.out,HC.out] <;> rfl,HBf.out⟩
end
section
open Go.RowKit Go.Maps
theorem yga {P:Program} {w:World} {d x:Nat} (cd:(w.cell? ⟨d,0,none⟩).isSome=true) (cx:(w.cell? ⟨x,0,none⟩).isSome=true) (hd:∀i,w.frozen? ⟨d,i,none⟩=false) (hx:∀i,w.frozen? ⟨x,i,none⟩=false) (hne:d≠x) :
  (sameAddr ⟨d,0,none⟩ ⟨x,0,none⟩).run P w= .ok false w:=by
 have key:∀b,(w.cell? ⟨b,0,none⟩).isSome=true→∃c t s,w.heap[b]? =some (.cells c t s):=fun b h=>by
  unfold World.cell? at h
  split at h
  ·exact ⟨_,_,_,by assumption⟩
  ·cases h
 obtain ⟨c1,t1,s1,e1⟩:=key d cd
 obtain ⟨c2,t2,s2,e2⟩:=key x cx
 have sd:w.shape? d=some (t1,c1.size):=by unfold World.shape?; rw [e1]
 have sx:w.shape? x=some (t2,c2.size):=by unfold World.shape?; rw [e2]
 simp [sameAddr,hne,noView,viewAt,mayBeOne,stringish,hd,hx,sd,sx]
theorem pNeq_run {P:Program} {w:World} {tp te:TypeId} {j:TypeInfo} (hp:P.underlying tp=some (.pointer te)) (hte:P.info? te=some j) (hsz:j.size≠0) {d x:Nat} (cd:(w.cell? ⟨d,0,none⟩).isSome=true) (cx:(w.cell? ⟨x,0,none⟩).isSome=true) (hd:∀i,w.frozen? ⟨d,i,none⟩=false) (hx:∀i,w.frozen? ⟨x,i,none⟩=false) :
  (binOp .neq tp (.pointer (some ⟨d,0,none⟩)) (.pointer (some ⟨x,0,none⟩))).run P w= .ok (.bool (decide (d≠x))) w:=by
 have hs:(sameAddr ⟨d,0,none⟩ ⟨x,0,none⟩).run P w= .ok (decide (d=x)) w:=by
  by_cases hne:d=x
  ·subst hne; rw [run_sameAddr_same]; simp
  ·rw [yga cd cx hd hx hne]; simp [hne]
 have h:∀n:Nat,(Op.equalIn (n+1) tp (.pointer (some ⟨d,0,none⟩)) (.pointer (some ⟨x,0,none⟩))).run P w= .ok (decide (d=x)) w:=fun n=>by
  simp [Op.equalIn,run_underlying hp,sizeOf,typeInfo,hte,hsz,hs]
 simp only [binOp]
 simp [Op.equal,Op.maxDepth,h 9999]
theorem yjk {w:World} {d x:Nat} {q q':Nat→Bool} (hd:DiscAt w d q) (hx:DiscAt w x q'):(binOp .neq 105 (.pointer (some ⟨d,0,none⟩)) (.pointer (some ⟨x,0,none⟩))).run Tryz.prog w= .ok (.bool (decide (d≠x))) w:=by
 have hi:((Tryz.prog.info? 189).map fun i=>decide (i.size≠0))=some true:=by kernel_rfl
 obtain ⟨f,h1,h2,-⟩:=hd
 obtain ⟨g,g1,g2,-⟩:=hx
 cases hj:Tryz.prog.info? 189 with
 | none=>rw [hj] at hi; cases hi
 | some j=>
   rw [hj] at hi
   exact pNeq_run Tryz.underlying105 hj (by simpa using hi) (by rw [h1 0 (by omega)]; rfl) (by rw [g1 0 (by omega)]; rfl) h2 g2
structure CntC (bl:Nat) (c:Option Nat) (m:Int) (W:World):Prop where
 cl:W.cell? ⟨bl,0,none⟩=some (dptr c)
 cm:W.cell? ⟨bl+1,0,none⟩=some (.int .i64 m)
 fl:W.frozen? ⟨bl,0,none⟩=false
 fm:W.frozen? ⟨bl+1,0,none⟩=false
 lt:bl+1 < W.heap.size
theorem CntC.block {bl:Nat} {c:Option Nat} {m:Int} {W W':World} (h:CntC bl c m W) (hs:W.heap.size≤W'.heap.size) (h0:W'.heap[bl]? =W.heap[bl]?) (h1:W'.heap[bl+1]? =W.heap[bl+1]?):CntC bl c m W':=
 ⟨(zzJ (w:=W) (a:=⟨bl,0,none⟩) h0).trans h.cl,(zzJ (w:=W) (a:=⟨bl+1,0,none⟩) h1).trans h.cm,
  (zzM (w:=W) (a:=⟨bl,0,none⟩) h0).trans h.fl,(zzM (w:=W) (a:=⟨bl+1,0,none⟩) h1).trans h.fm,zH h.lt hs⟩
theorem CntC.set {bl:Nat} {c c':Option Nat} {m m':Int} {W:World} (h:CntC bl c m W):CntC bl c' m' ((W.setCell ⟨bl,0,none⟩ (dptr c')).setCell ⟨bl+1,0,none⟩ (.int .i64 m')):=by
 obtain ⟨h1,h2,h3,h4,h5⟩:=h
 refine ⟨?_,?_,?_,?_,by simpa using h5⟩ <;> simp [go_sem,h1,h2,h3,h4]
def Knows (c:Option Nat) (m:Int) (M F:Blk) (W:World):Prop:=∀x,c=some x→F x∧¬M x∧∃q,DiscAt W x q∧m= ((secL q).length:Nat)
theorem Knows.none {m:Int} {M F:Blk} {W:World}:Knows none m M F W:=fun x h=>by cases h
theorem Knows.keep {c:Option Nat} {m:Int} {M F F':Blk} {W W':World} (h:Knows c m M F W) (hs:W.heap.size≤W'.heap.size) (hF:∀b,F b→F' b) (hb:∀b,F b∧¬M b→W'.heap[b]? =W.heap[b]?):Knows c m M F' W':=fun x hx=>by
 obtain ⟨h1,h2,q,h3,h4⟩:=h x hx
 exact ⟨hF x h1,h2,q,h3.block hs (hb x ⟨h1,h2⟩),h4⟩
abbrev cntV (bl:Nat):Value:= .func (.func 101) #[] #[.pointer (some ⟨bl,0,none⟩), .pointer (some ⟨bl+1,0,none⟩)]
theorem yiy (w:World):Calls Tryz.prog 55 #[] w fun e w'=>e= .returned (.func (.func 101) #[] #[.pointer (some ⟨w.heap.size,0,none⟩), .pointer (some ⟨w.heap.size+1,0,none⟩)])∧w' = (w.alloc (.cells #[.pointer none] 105)).alloc (.cells #[.int .i64 0] 2):=by
 go_enter Tryz.func55,Tryz.ntmps55
 go_wp2
 go_ret
 exact ⟨rfl,rfl⟩
theorem Cnt_any (bl d:Nat) (q:Nat→Bool) (c:Option Nat) (m:Int) (W:World) (h:CntC bl c m W) (hk:∀x,c=some x→∃q,DiscAt W x q∧m= ((secL q).length:Nat)) (hd:DiscAt W d q) :
  Calls Tryz.prog 101 #[.pointer (some ⟨d,0,none⟩), .pointer (some ⟨bl,0,none⟩), .pointer (some ⟨bl+1,0,none⟩)] W fun e W'=>e= .returned (.int .i64 ((secL q).length:Nat))∧Eff (fun b=>b=bl∨b=bl+1) W W'∧CntC bl (some d) ((secL q).length:Nat) W':=by
 have cL:=hid (DLenO_any (some d) q W hd)
 have hl:=yiR q
 have hu:∀q',DiscAt W d q'→(secL q').length= (secL q).length:=fun q' h'=>by
  have e:(List.range 86400).filter q' = (List.range 86400).filter q:=List.filter_congr fun k hk=>DiscAt.unique h' hd k (List.mem_range.1 hk)
  rw [secL,secL,sel,sel,e]
 by_cases hc:c=some d
 ·subst hc
  obtain ⟨q',h1,rfl⟩:=hk d rfl
  have e:=hu q' h1
  have hb:=yjk hd h1
  rw [show decide (d≠d)=false by simp] at hb
  have H:=hid h
  rw [e] at H
  obtain ⟨c1,c2,f1,f2,-⟩:=h
  rw [e] at c2
  replace c1:W.cell? ⟨bl,0,none⟩=some (.pointer (some ⟨d,0,none⟩)):=c1
  generalize (secL q).length=L at *
  clear hd hu cL h1 e hk
  go_enter Tryz.func101,Tryz.ntmps101
  go_wp2
  go_ret
  exact ⟨rfl,Eff.refl _ _,H.out⟩
 ·have hX:=hid (h.set (c':=some d) (m':=((secL q).length:Nat)))
  have hE:Hid (Eff (fun b=>b=bl∨b=bl+1) W ((W.setCell ⟨bl,0,none⟩ (dptr (some d))).setCell ⟨bl+1,0,none⟩ (.int .i64 ((secL q).length:Nat)))):=((Eff.refl _ W).set (.inl rfl) _ _).set (.inr rfl) _ _
  obtain ⟨c1,c2,f1,f2,-⟩:=h
  generalize (secL q).length=L at *
  have hLi:IntKind.i64.wrap (L:Int)=L:=IntWalk.i64_in (L:Int) (by omega)
  clear hu
  cases c with
  | none=>
    clear hd hk
    replace c1:W.cell? ⟨bl,0,none⟩=some (.pointer none):=c1
    go_enter Tryz.func101,Tryz.ntmps101
    go_wp2_with fail
    refine cL.out.mono ?_
    rintro e w1 ⟨rfl,rfl⟩
    go_wp2
    go_ret
    exact ⟨rfl,hE.out,hX.out⟩
  | some x=>
    have hx:x≠d:=fun e=>hc (by rw [e])
    have hx2:d≠x:=fun e=>hx e.symm
    obtain ⟨q',h1,-⟩:=hk x rfl
    have hb:=yjk hd h1
    rw [zzZ hx2] at hb
    clear h1 hd hk
    replace c1:W.cell? ⟨bl,0,none⟩=some (.pointer (some ⟨x,0,none⟩)):=c1
    go_enter Tryz.func101,Tryz.ntmps101
    go_wp2_with fail
    refine cL.out.mono ?_
    rintro e w1 ⟨rfl,rfl⟩
    go_wp2
    go_ret
    exact ⟨rfl,hE.out,hX.out⟩
end
end Go.Proofs.YtjahgimnfliooaaGreatDoor
