/-
  feriaref35.Clause: the document's clause of a rule.
-/
import Derived.Test.YtjahgimnfliooaaGreatDoorQfa99b0
import Derived.Deep.Cut
import Derived.Deep.CutRange
set_option maxRecDepth 100000
set_option maxHeartbeats 25600000
namespace Go.Proofs.YtjahgimnfliooaaGreatDoor
open Go.RowKit Go.Maps
set_option linter.unusedVariables false
attribute [local irreducible] secL refS
attribute [local go_sem ↓] yaC yaK ycK
attribute [local go_sem] yaA
theorem yhG (r:Ru) (w:World) (hr:RuS w r) (hm:r.Sm 1000000) (hn:r.Num) (hc:yaf r=0):Calls Tryz.prog 11 #[ruv r] w fun e w'=>e= .returned (clv (lowC r))∧Below w.heap.size w w':=by
 have hB0:Below w.heap.size w (w.alloc (.cells (yai r).toArray 25)):=yaa (Below.refl _ _) (zG _)
 have hR0:=yaJ w r 25
 have s0:(w.alloc (.cells (yai r).toArray 25)).heap.size=w.heap.size+1:=by simp
 obtain ⟨W0,hW0⟩:∃W,w.alloc (.cells (yai r).toArray 25)=W:=⟨_,rfl⟩
 rw [hW0] at hB0 hR0 s0
 have ht1:(W0.alloc (.cells zL.toArray 34)).there W0.heap.size 0 30:=yat W0 _ _
 have hb1:Below W0.heap.size W0 (W0.alloc (.cells zL.toArray 34)):=yaa (Below.refl _ _) (zG _)
 have s1:(W0.alloc (.cells zL.toArray 34)).heap.size=W0.heap.size+1:=by simp
 obtain ⟨W1,hW1⟩:∃W,W0.alloc (.cells zL.toArray 34)=W:=⟨_,rfl⟩
 rw [hW1] at ht1 hb1 s1
 have hR1:=hR0.below hb1 (by omega)
 have hB1:=hB0.trans (hb1.mono hB0.size)
 obtain ⟨b1,eb1⟩:∃b,w.heap.size=b:=⟨_,rfl⟩
 obtain ⟨b2,eb2⟩:∃b,W0.heap.size=b:=⟨_,rfl⟩
 have h21:b1+1=b2:=by omega
 rw [eb1] at hR1
 rw [eb2] at ht1
 have HR1:=hid hR1
 have HT1:=hid ht1
 have HB1:=hid hB1
 have HW0:=hid hW0
 have HW1:=hid hW1
 have E1:=hid eb1
 have H21:=hid h21
 have S1:Hid (b2 < W1.heap.size):=by show _ < _; omega
 have Hr:=hid hr
 have hst:=(ybo (yaw hc).h).1
 have cS:=hid (fun W=>yeg r.st W hst)
 rw [ya1 hst] at cS
 have HD:Hid (clv (refC r)=clv (lowC r)):=refC_clv hc
 obtain ⟨Q,hQ⟩:∃Q,clv (lowC r)=Q:=⟨_,rfl⟩
 rw [hQ] at HD⊢
 have cFu:=hid (RFull_any W1)
 clear hB0 hR0 s0 hW0 hb1 s1 hW1 hR1 hB1 ht1 eb1 eb2 h21 hr hQ
 go_enter Tryz.func11,Tryz.ntmps11
 go_upto_region 1 with fail
 rw [HW0.out,HW1.out,E1.out,H21.out]
 go_wp2_with fail
 refine cFu.out.mono ?_
 rintro e w3 ⟨rfl,hB⟩
 have hlo:b1 < b2:=by have:=H21.out; omega
 have hth3:(w3.alloc (.cells zL.toArray 34)).there w3.heap.size 0 30:=yat w3 _ _
 have hn3:=yaa (o:= .cells zL.toArray 34) (Below.refl w3.heap.size w3) (zG _)
 obtain ⟨FC,hFC⟩:∃F,fullCl=F:=⟨_,rfl⟩
 rw [hFC]
 obtain ⟨W4,hW4⟩:∃W,yas (w3.alloc (.cells zL.toArray 34)) w3.heap.size (yac FC)=W:=⟨_,rfl⟩
 have hL4:LsB w3.heap.size (yac fullCl) W4:=by
  rw [←hW4,hFC]
  exact ⟨yak _ rfl hth3,fun i=>by rw [yby,World.frozen?_setCells]; exact yaB w3 _ _ i,by rw [yby,yaN,zzN]; omega⟩
 have hB4:Below w3.heap.size w3 W4:=by rw [←hW4]; exact yaj hn3 (zG _) _
 have hb34:=hB.trans (hB4.mono hB.size)
 obtain ⟨b5,eb5⟩:∃b,w3.heap.size=b:=⟨_,rfl⟩
 rw [eb5] at hL4
 have HS:Hid (RwC w r b1 b2 b5 (yac fullCl) W4):=⟨HR1.out.below hb34 (Nat.lt_trans hlo S1.out),hL4,fun j hj=>⟨by rw [hb34.cell (p:=⟨b2,0+j,none⟩) S1.out]; exact (HT1.out j hj).1,by rw [hb34.frozen (p:=⟨b2,0+j,none⟩) S1.out]; exact (HT1.out j hj).2⟩,HB1.out.trans (hb34.mono HB1.out.size),Nat.le_of_eq E1.out,hlo,by have:=S1.out; have:=hB.size; omega⟩
 obtain ⟨m0,em0⟩:∃m,fullCl.m=m:=⟨_,rfl⟩
 obtain ⟨d0,ed0⟩:∃d:Nat→Nat,(fun _=>0)=d:=⟨_,rfl⟩
 have HS:Hid (RwC w r b1 b2 b5 (refS m0 0 false d0) W4):=by
  have h:=HS.out
  rw [refS_full,em0,ed0] at h
  exact h
 have HM0:Hid (Stg r [] m0):=fun i hi=>by rw [←em0,if_neg (by simp)]
 have HD0:Hid (∀j,d0 j=0):=fun j=>by rw [←ed0]
 have HW4:=hid hW4
 have E5:=hid eb5
 clear hB hL4 hB4 hb34 hn3 hW4 eb5 hFC cFu HR1 HT1 S1 HB1 em0 ed0
 go_upto_region 2 with fail
 rw [HW4.out,E5.out]
 clear hth3
 have k0:=HS.out.ru.at 0 (v:= .int .i64 r.st) rfl
 go_wp2_with fail
 refine (cS.out _).mono ?_
 rintro e w5 ⟨rfl,hB⟩
 have HS:=hid (HS.out.call hB)
 clear hB k0
 have hn6:=yaa (o:= .cells #[.int .i64 (fY (r.st / 86400)), .int .i64 (fMo (r.st / 86400)), .int .i64 (fD (r.st / 86400)), .int .i64 (r.st % 86400 / 3600), .int .i64 (r.st % 86400 / 60 % 60), .int .i64 (r.st % 60)] 66) (Below.refl w5.heap.size w5) (zG _)
 have hr6:=yau w5 [.int .i64 (fY (r.st / 86400)), .int .i64 (fMo (r.st / 86400)), .int .i64 (fD (r.st / 86400)), .int .i64 (r.st % 86400 / 3600), .int .i64 (r.st % 86400 / 60 % 60), .int .i64 (r.st % 60)] 66
 have hs6:w5.heap.size < (w5.alloc (.cells #[.int .i64 (fY (r.st / 86400)), .int .i64 (fMo (r.st / 86400)), .int .i64 (fD (r.st / 86400)), .int .i64 (r.st % 86400 / 3600), .int .i64 (r.st % 86400 / 60 % 60), .int .i64 (r.st % 60)] 66)).heap.size:=by simp
 obtain ⟨w6,hw6⟩:∃W,w5.alloc (.cells #[.int .i64 (fY (r.st / 86400)), .int .i64 (fMo (r.st / 86400)), .int .i64 (fD (r.st / 86400)), .int .i64 (r.st % 86400 / 3600), .int .i64 (r.st % 86400 / 60 % 60), .int .i64 (r.st % 60)] 66)=W:=⟨_,rfl⟩
 replace hr6:w6.rangeAt w5.heap.size 0 [.int .i64 (fY (r.st / 86400)), .int .i64 (fMo (r.st / 86400)), .int .i64 (fD (r.st / 86400)), .int .i64 (r.st % 86400 / 3600), .int .i64 (r.st % 86400 / 60 % 60), .int .i64 (r.st % 60)]:=by rw [←hw6]; exact hr6
 rw [hw6] at hn6 hs6
 have HF:Hid (RfM w r b1 b2 b5 w5.heap.size m0 0 false d0 w6):=⟨⟨HS.out.call hn6,hr6,HS.out.l.lt,hs6⟩⟩
 obtain ⟨b4,eb4⟩:∃b,w5.heap.size=b:=⟨_,rfl⟩
 rw [eb4] at HF
 have HW6:=hid hw6
 have E4:=hid eb4
 clear hn6 hr6 hs6 hw6 eb4 HS
 go_upto_region 3 with fail
 rw [HW6.out,E4.out]
 have HM:=HM0
 obtain ⟨⟨k0,k1,k2,k3,k4⟩,k5,k6,k7,k8,k9,kx⟩:=HF.out.k.c.ru.all
 go_cut [5] from 16 to 25 (fun n5 wx=>n5= .bool (yb8 r)∧wx=w6)
 case first=>
  by_cases h6:r.l6.length=0
  ·have q6:((r.l6.length:Int) == 0)=true:=by rw [h6]; rfl
   by_cases h7:r.l7.length=0
   ·have q7:((r.l7.length:Int) == 0)=true:=by rw [h7]; rfl
    have qb:yb8 r=true:=by rw [yb8,h6,h7]; rfl
    go_wp2_with fail
    go_meet
    exact ⟨by rw [qb] <;> rfl,rfl⟩
   ·have q7:((r.l7.length:Int) == 0)=false:=by rw [beq_eq_false_iff_ne]; omega
    have qb:yb8 r=false:=by rw [yb8,zzd h7,Bool.and_false]
    go_wp2_with fail
    go_meet
    exact ⟨by rw [qb] <;> rfl,rfl⟩
  ·have q6:((r.l6.length:Int) == 0)=false:=by rw [beq_eq_false_iff_ne]; omega
   have qb:yb8 r=false:=by rw [yb8,zzd h6,Bool.false_and]
   go_wp2_with fail
   go_meet
   exact ⟨by rw [qb] <;> rfl,rfl⟩
 case rest=>
  obtain ⟨rfl,rfl⟩:=hcut
  clear k0 k1 k2 k3 k4 k5 k6 k7 k8 k9 kx
  obtain ⟨bb,hbb⟩:∃b,yb8 r=b:=⟨_,rfl⟩
  rw [hbb]
  have HBB:=hid hbb
  clear hbb
  go_upto_region 4 with fail
  go_cut [] from 26 to 39 (fun wx=>Hid (∃m',Stg r [3] m'∧RfM w r b1 b2 b5 b4 m' 0 false d0 wx))
  case first=>
   obtain ⟨⟨k0,k1,k2,k3,k4⟩,k5,k6,k7,k8,k9,kx⟩:=HF.out.k.c.ru.all
   have mi:=HF.out.at (i:=3) (by decide)
   have hs1:=HF.out.k.st 1 _ rfl
   have hsl:=Hr.out.below HF.out.k.c.be
   have cO:=hid (fun bb=>yck r.a5 r.c5 r.l5 bb (fMo (r.st / 86400)) (m0 3) _ (by have:=hm.n5; omega) hsl.s5)
   have HX:Hid (orM r.l5 (decide (r.fq=6) && bb) (fMo (r.st / 86400)) (m0 3)=refM r 3):=by
    show _ = _
    rw [HM.out.read (i:=3) (by decide) (by decide),←HBB.out]; rfl
   clear k0 k2 k3 k4 k6 k7 k8 k9 kx hsl
   by_cases h6:r.fq=6
   ·have q6:(r.fq == 6)=true:=by rw [h6]; rfl
    rw [zzZ h6,zzo] at HX
    have hO:=hid (cO.out bb)
    obtain ⟨R,hR⟩:∃R,orM r.l5 bb (fMo (r.st / 86400)) (m0 3)=R:=⟨_,rfl⟩
    rw [hR] at HX hO
    clear h6 cO hR
    go_wp2_with fail
    refine hO.out.mono ?_
    rintro e w7 ⟨rfl,hB⟩
    have HG:=HF.out.call hB
    have cz:=HG.z 3
    obtain ⟨m',u1,em,cc,hS⟩:=HG.setM (i:=3) (by decide) R
    have HM:=hid (HM.out.up em (by exact HX.out))
    have HF:=hid hS
    clear HG hS em
    clear hB mi hs1 k1 k5 q6
    go_wp2_with fail
    go_meet
    exact hid ⟨_,HM.out,HF.out⟩
   ·have q6:(r.fq == 6)=false:=by simpa using h6
    rw [zzd h6,Bool.false_and] at HX
    have hO:=hid (cO.out false)
    obtain ⟨R,hR⟩:∃R,orM r.l5 false (fMo (r.st / 86400)) (m0 3)=R:=⟨_,rfl⟩
    rw [hR] at HX hO
    clear h6 cO hR
    go_wp2_with fail
    refine hO.out.mono ?_
    rintro e w7 ⟨rfl,hB⟩
    have HG:=HF.out.call hB
    have cz:=HG.z 3
    obtain ⟨m',u1,em,cc,hS⟩:=HG.setM (i:=3) (by decide) R
    have HM:=hid (HM.out.up em (by exact HX.out))
    have HF:=hid hS
    clear HG hS em
    clear hB mi hs1 k1 k5 q6
    go_wp2_with fail
    go_meet
    exact hid ⟨_,HM.out,HF.out⟩
  case rest=>
   obtain ⟨m1,HM1,HF1⟩:=hcut.out
   have HM:=hid HM1
   have HF:=hid HF1
   clear HM1 HF1 hcut HM0
   go_upto_region 5 with fail
   obtain ⟨ng,hng⟩:∃b,decide (r.l6.headD 0 < 0)=b:=⟨_,rfl⟩
   have HNG:=hid hng
   clear hng
   go_cut [50] from 40 to 50 (fun n50 wx=>n50= .bool ng∧wx=wc)
   case first=>
    obtain ⟨⟨k0,k1,k2,k3,k4⟩,k5,k6,k7,k8,k9,kx⟩:=HF.out.k.c.ru.all
    clear k0 k1 k2 k3 k4 k5 k7 k8 k9 kx
    have hsl:=(Hr.out.below HF.out.k.c.be).s6
    cases hl6:r.l6 with
    | nil=>
      have qn:ng=false:=by rw [←HNG.out,hl6]; rfl
      rw [hl6] at k6
      clear hsl hl6
      go_wp2_with fail
      go_meet
      exact ⟨by rw [qn] <;> rfl,rfl⟩
    | cons x xs=>
      have qn:ng=decide (x < 0):=by rw [←HNG.out,hl6]; rfl
      obtain ⟨b,off,ea,hb,hc⟩:=hsl.atInt (k:=0) (by rw [hl6]; simp)
      have c0:=hc 0 (by rw [hl6]; simp)
      rw [hl6,ea] at k6
      simp only [hl6,zC,Nat.add_zero] at c0
      have q0:((0:Int) < ((x :: xs).length:Int)):=by rw [List.length_cons]; omega
      have q1:decide ((0:Int) < ((x :: xs).length:Int))=true:=zzZ q0
      obtain ⟨n6,hn6⟩:∃n:Nat,(x :: xs).length=n:=⟨_,rfl⟩
      rw [hn6] at k6 q0 q1
      clear hsl hc hl6 ea hn6
      go_wp2_with fail
      go_meet
      exact ⟨by rw [qn] <;> rfl,rfl⟩
   case rest=>
    obtain ⟨rfl,hwc⟩:=hcut
    subst hwc
    go_upto_if 50 with fail
    go_cut [6,7] from 51 to 83 (fun n6 n7 wx=>Hid (∃m',Stg r [5,4,3] m'∧RfM w r b1 b2 b5 b4 m' 0 false d0 wx))
    case first=>
     cases ng with
     | true=>
       have hneg:r.l6.headD 0 < 0:=of_decide_eq_true HNG.out
       have H4:Hid (refM r 4=fullCl.m 4):=by show (if r.l6.headD 0 < 0 then _ else _)= _; rw [if_pos hneg]
       have H5:Hid (ofM (r.l6.map fun x=>-x)=refM r 5):=by show _ = (if r.l6.headD 0 < 0 then _ else _); rw [if_pos hneg]
       obtain ⟨Ng,hNg⟩:∃l,(r.l6.map fun x=>-x)=l:=⟨_,rfl⟩
       have HSn:Hid (∀k (h:k < r.l6.length),Ng.take k ++ [-(r.l6[k])]=Ng.take (k+1)):=fun k h=>by
        rw [←hNg,←List.map_take,←List.map_take,List.take_add_one,List.map_append,zzp h]; rfl
       have HLn:Hid (Ng.length=r.l6.length):=by show _ = _; rw [←hNg,List.length_map]
       rw [hNg] at H5
       have HDy:Hid (r.l6.length≤64∧∀x∈r.l6,-31≤x∧x≤31):=by
        obtain ⟨⟨h1,h2⟩,-,-⟩:=yea (yaw hc).e6
        exact ⟨h1,fun x hx=>(h2 x hx).1⟩
       have hl64:(r.l6.length:Int)≤64:=by have:=HDy.out.1; omega
       clear hneg hNg
       go_wp2_with fail
       go_loopw [6,7] (fun v6 v7 wr=>∃(k cp:Nat) (ad:Option Addr),v7= .int .i64 k∧k≤r.l6.length∧v6= .slice ad k cp∧Hid (wr.ownsRow wc.heap.size 3 1 (.slice ad k cp) k (ints (Ng.take k)))∧Hid (Below wc.heap.size wc wr)) (fun _ v7 _=>r.l6.length - (intOf v7).toNat)
       case atStart=>exact ⟨0,0,none,rfl,by omega,rfl,World.ownsRow_nil _ _ _ _,Below.refl _ _⟩
       case round=>
        obtain ⟨k,cp,ad,rfl,hk,rfl,hown,hB⟩:=hrel
        have k6:=((HF.out.call hB.out).k.c.ru.all).2.2.1
        by_cases hlt:k < r.l6.length
        ·obtain ⟨b,off,ea,hb,hc6⟩:=(Hr.out.below HF.out.k.c.be).s6.atInt hlt
         have e1:=(hB.out.cell (p:=⟨b,off+k,none⟩) hb).trans (hc6 k hlt)
         have ht:=hid (HSn.out k hlt)
         have hx:=HDy.out.2 r.l6[k] (zzr hlt)
         obtain ⟨y,hy⟩:∃y,r.l6[k]=y:=⟨_,rfl⟩
         rw [hy] at e1 ht hx
         rw [ea] at k6
         have hwy:IntKind.i64.wrap (-y)= -y:=IntWalk.i64_in _ (by omega)
         have hsz:=hB.out.size
         have hown':=hid hown.out
         clear hc6 hy ea hb hx hown
         go_wp2_with (at_builtin; refine app1 eInt (.tmp 58) (.tmp 65) rfl rfl rfl rfl rfl hown'.out rfl (by omega) (by omega) hsz ?_)
         intro a' cap' w' hown2 hg2 hb2 hf2
         have hB2:=hid (hB.out.trans hb2)
         rw [show ints (Ng.take k) ++ [Value.int .i64 (-y)]=ints (Ng.take (k+1)) by rw [←ht.out,ydq]; rfl] at hown2
         have HO2:=hid hown2
         clear hown2 hg2 hb2 hf2 e1 ht hwy hsz hown' hB k6
         go_wp2
         exact ⟨⟨k+1,cap',a',by go_num,by omega,rfl,HO2,hB2⟩,by simp [intOf]; omega⟩
        ·obtain rfl:k=Ng.length:=by have:=HLn.out; omega
         have hsl:=yhX hown.out
         rw [List.take_length] at hsl
         have HG:=HF.out.call hB.out
         have cR:=hid (ygC ad cp Ng wr (by have:=HLn.out; omega) hsl)
         have HNl:Hid (Ng.length≤64):=by show _≤_; have:=HLn.out; omega
         have qlt:¬((Ng.length:Int) < (r.l6.length:Int)):=by omega
         have HF:=hid HG
         clear hown hB hsl HG hk hlt hl64
         go_wp2_with fail
         refine cR.out.mono ?_
         rintro e w7 ⟨rfl,hB⟩
         have HG:=HF.out.call hB
         obtain ⟨R,hR⟩:∃R,ofM Ng=R:=⟨_,rfl⟩
         rw [hR] at H5
         rw [hR]
         have cz:=HG.z 5
         obtain ⟨m',u1,em,cc,hS⟩:=HG.setM (i:=5) (by decide) R
         have HM:=hid (HM.out.up em (by exact H5.out))
         have HF:=hid hS
         clear HG hS em
         have HM2:Hid (Stg r [5,4,3] m'):=((HM.out.keep (i:=4) H4.out).as fun i hi=>by simp; omega)
         clear hB k6 cR hR qlt
         go_wp2_with fail
         go_meet
         exact hid ⟨_,HM2.out,HF.out⟩
     | false=>
       have hneg:¬r.l6.headD 0 < 0:=of_decide_eq_false HNG.out
       have H5:Hid (refM r 5=fullCl.m 5):=by show (if r.l6.headD 0 < 0 then _ else _)= _; rw [if_neg hneg]
       have HX:Hid (orM r.l6 (decide (5≤r.fq) && bb) (fD (r.st / 86400)) (m1 4)=refM r 4):=by
        show _ = (if r.l6.headD 0 < 0 then _ else _)
        rw [if_neg hneg,HM.out.read (i:=4) (by decide) (by decide),←HBB.out]
       clear hneg HNG
       obtain ⟨⟨k0,k1,k2,k3,k4⟩,k5,k6,k7,k8,k9,kx⟩:=HF.out.k.c.ru.all
       have mi:=HF.out.at (i:=4) (by decide)
       have hs1:=HF.out.k.st 2 _ rfl
       have hsl:=Hr.out.below HF.out.k.c.be
       have cO:=hid (fun bb=>yck r.a6 r.c6 r.l6 bb (fD (r.st / 86400)) (m1 4) _ (by have:=hm.n6; omega) hsl.s6)
       clear k0 k2 k3 k4 k5 k7 k8 k9 kx hsl
       by_cases h5:5≤r.fq
       ·have q5:decide (5≤r.fq)=true:=zzZ h5
        rw [q5,zzo] at HX
        have hO:=hid (cO.out bb)
        obtain ⟨R,hR⟩:∃R,orM r.l6 bb (fD (r.st / 86400)) (m1 4)=R:=⟨_,rfl⟩
        rw [hR] at HX hO
        clear cO hR
        go_wp2_with fail
        refine hO.out.mono ?_
        rintro e w7 ⟨rfl,hB⟩
        have HG:=HF.out.call hB
        have cz:=HG.z 4
        obtain ⟨m',u1,em,cc,hS⟩:=HG.setM (i:=4) (by decide) R
        have HM:=hid (HM.out.up em (by exact HX.out))
        have HF:=hid hS
        clear HG hS em
        have HM2:Hid (Stg r [5,4,3] m'):=HM.out.keep (i:=5) H5.out
        clear hB mi hs1 k1 k6 q5 h5
        go_wp2_with fail
        go_meet
        exact hid ⟨_,HM2.out,HF.out⟩
       ·have q5:decide (5≤r.fq)=false:=zzd h5
        rw [q5,Bool.false_and] at HX
        have hO:=hid (cO.out false)
        obtain ⟨R,hR⟩:∃R,orM r.l6 false (fD (r.st / 86400)) (m1 4)=R:=⟨_,rfl⟩
        rw [hR] at HX hO
        clear cO hR
        go_wp2_with fail
        refine hO.out.mono ?_
        rintro e w7 ⟨rfl,hB⟩
        have HG:=HF.out.call hB
        have cz:=HG.z 4
        obtain ⟨m',u1,em,cc,hS⟩:=HG.setM (i:=4) (by decide) R
        have HM:=hid (HM.out.up em (by exact HX.out))
        have HF:=hid hS
        clear HG hS em
        have HM2:Hid (Stg r [5,4,3] m'):=HM.out.keep (i:=5) H5.out
        clear hB mi hs1 k1 k6 q5 h5
        go_wp2_with fail
        go_meet
        exact hid ⟨_,HM2.out,HF.out⟩
    case rest=>
     obtain ⟨m2,HM1,HF1⟩:=hcut.out
     have HM:=hid HM1
     have HF:=hid HF1
     clear HM1 HF1 hcut
     go_upto_region 13 with fail
     obtain ⟨⟨k0,k1,k2,k3,k4⟩,k5,k6,k7,k8,k9,kx⟩:=HF.out.k.c.ru.all
     have mi:=HF.out.at (i:=2) (by decide)
     have hs1:=HF.out.k.st 3 _ rfl
     have hsl:=Hr.out.below HF.out.k.c.be
     have cO:=hid (fun bb=>yck r.a8 r.c8 r.l8 bb (r.st % 86400 / 3600) (m2 2) _ (by have:=hm.n8; omega) hsl.s8)
     have HX:Hid (orM r.l8 (decide (3≤r.fq)) (r.st % 86400 / 3600) (m2 2)=refM r 2):=by
      show _ = _
      rw [HM.out.read (i:=2) (by decide) (by decide)]; rfl
     obtain ⟨R2,hR⟩:∃R,orM r.l8 (decide (3≤r.fq)) (r.st % 86400 / 3600) (m2 2)=R:=⟨_,rfl⟩
     have hO:=hid (cO.out (decide (3≤r.fq)))
     rw [hR] at HX hO
     clear hR cO hsl
     clear k0 k2 k3 k4 k5 k6 k7 k9 kx
     go_wp2_with fail
     refine hO.out.mono ?_
     rintro e w13 ⟨rfl,hB⟩
     have HG:=HF.out.call hB
     have cz:=HG.z 2
     obtain ⟨m',u1,em,cc,hS⟩:=HG.setM (i:=2) (by decide) R2
     have HM:=hid (HM.out.up em (by exact HX.out))
     have HF:=hid hS
     clear HG hS em
     obtain ⟨m22,em⟩:∃m,m' =m:=⟨_,rfl⟩
     rw [em] at HM HF
     clear em
     obtain ⟨t13,ht⟩:∃W,w13.setCell ⟨b5,2,none⟩ (.int .u64 (R2:Nat))=W:=⟨_,rfl⟩
     rw [ht] at HF
     go_upto_region 14 with fail
     clear ht hB mi hs1 k1 k8 cc cz hO HX
     obtain ⟨⟨k0,k1,k2,k3,k4⟩,k5,k6,k7,k8,k9,kx⟩:=HF.out.k.c.ru.all
     have mi:=HF.out.at (i:=1) (by decide)
     have hs1:=HF.out.k.st 4 _ rfl
     have hsl:=Hr.out.below HF.out.k.c.be
     have cO:=hid (fun bb=>yck r.a9 r.c9 r.l9 bb (r.st % 86400 / 60 % 60) (m22 1) _ (by have:=hm.n9; omega) hsl.s9)
     have HX:Hid (orM r.l9 (decide (2≤r.fq)) (r.st % 86400 / 60 % 60) (m22 1)=refM r 1):=by
      show _ = _
      rw [HM.out.read (i:=1) (by decide) (by decide)]; rfl
     obtain ⟨R1,hR⟩:∃R,orM r.l9 (decide (2≤r.fq)) (r.st % 86400 / 60 % 60) (m22 1)=R:=⟨_,rfl⟩
     have hO:=hid (cO.out (decide (2≤r.fq)))
     rw [hR] at HX hO
     clear hR cO hsl
     clear k0 k2 k3 k4 k5 k6 k7 k8 kx
     go_wp2_with fail
     refine hO.out.mono ?_
     rintro e w14 ⟨rfl,hB⟩
     have HG:=HF.out.call hB
     have cz:=HG.z 1
     obtain ⟨m',u1,em,cc,hS⟩:=HG.setM (i:=1) (by decide) R1
     have HM:=hid (HM.out.up em (by exact HX.out))
     have HF:=hid hS
     clear HG hS em
     obtain ⟨m21,em⟩:∃m,m' =m:=⟨_,rfl⟩
     rw [em] at HM HF
     clear em
     obtain ⟨t14,ht⟩:∃W,w14.setCell ⟨b5,1,none⟩ (.int .u64 (R1:Nat))=W:=⟨_,rfl⟩
     rw [ht] at HF
     go_upto_region 15 with fail
     clear ht hB mi hs1 k1 k9 cc cz hO HX
     obtain ⟨⟨k0,k1,k2,k3,k4⟩,k5,k6,k7,k8,k9,kx⟩:=HF.out.k.c.ru.all
     have mi:=HF.out.at (i:=0) (by decide)
     have hs1:=HF.out.k.st 5 _ rfl
     have hsl:=Hr.out.below HF.out.k.c.be
     have cO:=hid (fun bb=>yck r.ax r.cx r.lx bb (r.st % 60) (m21 0) _ (by have:=hm.nx; omega) hsl.sx)
     have HX:Hid (orM r.lx (decide (1≤r.fq)) (r.st % 60) (m21 0)=refM r 0):=by
      show _ = _
      rw [HM.out.read (i:=0) (by decide) (by decide),show r.st % 60=r.st % 86400 % 60 by omega]; rfl
     obtain ⟨R0,hR⟩:∃R,orM r.lx (decide (1≤r.fq)) (r.st % 60) (m21 0)=R:=⟨_,rfl⟩
     have hO:=hid (cO.out (decide (1≤r.fq)))
     rw [hR] at HX hO
     clear hR cO hsl
     clear k0 k2 k3 k4 k5 k6 k7 k8 k9
     go_wp2_with fail
     refine hO.out.mono ?_
     rintro e w15 ⟨rfl,hB⟩
     have HG:=HF.out.call hB
     have cz:=HG.z 0
     obtain ⟨m',u1,em,cc,hS⟩:=HG.setM (i:=0) (by decide) R0
     have HM:=hid (HM.out.up em (by exact HX.out))
     have HF:=hid hS
     clear HG hS em
     obtain ⟨m20,em⟩:∃m,m' =m:=⟨_,rfl⟩
     rw [em] at HM HF
     clear em
     obtain ⟨t15,ht⟩:∃W,w15.setCell ⟨b5,0,none⟩ (.int .u64 (R0:Nat))=W:=⟨_,rfl⟩
     rw [ht] at HF
     go_upto_region 17 with fail
     clear ht hB mi hs1 k1 kx cc cz hO HX
     have A9:=rlN_new t15 70
     obtain ⟨w9,hw9⟩:∃W,t15.alloc (.cells #[.slice none 0 0, .slice none 0 0, .slice none 0 0, .slice none 0 0, .slice none 0 0, .slice none 0 0, .slice none 0 0, .slice none 0 0] 70)=W:=⟨_,rfl⟩
     rw [hw9] at A9
     obtain ⟨b9,eb9⟩:∃b,t15.heap.size=b:=⟨_,rfl⟩
     obtain ⟨B,eB⟩:∃b,w9.heap.size=b:=⟨_,rfl⟩
     rw [eb9,eB] at A9
     have HA:=hid A9
     have HW9:=hid hw9
     have E9:=hid eb9
     have HWk:Hid (r.l7.length≤64∧∀x∈r.l7,(-53≤x.1∧x.1≤53)∧1≤x.2∧x.2≤7):=by
      obtain ⟨h1,h2,-⟩:=ycn (yaw hc).e7
      exact ⟨h1,h2⟩
     clear A9 hw9 eb9 eB
     go_upto_region 18 with fail
     rw [HW9.out,E9.out]
     go_wp2_with fail
     go_loopw [8,10] (fun v8 v10 wr=>∃(k:Nat) (V:Nat→Value),v10= .int .i64 k∧k≤r.l7.length∧v8=V 0∧Hid (RlN t15 b9 B V (ybX (r.l7.take k)) wr)) (fun _ v10 _=>r.l7.length - (intOf v10).toNat)
     case atStart=>exact ⟨0,fun _=> .slice none 0 0,rfl,by omega,rfl,HA⟩
     case round=>
      obtain ⟨k,V,rfl,hk,rfl,HN⟩:=hrel
      have HF15:=HF
      have HF:=hid (HF15.out.call HN.out.e)
      obtain ⟨⟨k0,k1,k2,k3,k4⟩,k5,k6,k7,k8,k9,kx⟩:=HF.out.k.c.ru.all
      clear k0 k1 k2 k3 k4 k5 k6 k8 k9 kx
      have hl64:(r.l7.length:Int)≤64:=by have:=HWk.out.1; omega
      by_cases hlt:k < r.l7.length
      ·skip
       obtain ⟨b,off,ea,hb,hc7⟩:=(Hr.out.below HF15.out.k.c.be).s7.atNth hlt
       have e1:=(HN.out.e.cell (p:=⟨b,off+k * 2,none⟩) hb).trans (hc7 k hlt).1
       have e2:=(HN.out.e.cell (p:=⟨b,off+k * 2+1,none⟩) hb).trans (hc7 k hlt).2
       have HTk:Hid (r.l7.take k ++ [r.l7[k]]=r.l7.take (k+1)):=by
        show _ = _
        rw [List.take_add_one,zzp hlt]; rfl
       have hx:=HWk.out.2 r.l7[k] (zzr hlt)
       obtain ⟨⟨N,D⟩,hy⟩:∃y,r.l7[k]=y:=⟨_,rfl⟩
       rw [hy] at e1 e2 HTk hx
       dsimp only at e1 e2 hx
       obtain ⟨j,rfl⟩:∃j:Nat,D= (j:Int):=⟨D.toNat,by omega⟩
       have hj:j < 8:=by omega
       have hjI:(j:Int) < 8:=by omega
       have hN:=hx.1
       rw [ea] at k7
       have HLr:Hid (∀i,(ybX (r.l7.take k) i).length≤64):=fun i=>zI (ygX _ i) (by rw [List.length_take]; omega)
       have HLh:Hid (∀i,(yfA (r.l7.take k) (N,(j:Int)) i).length≤65):=fun i=>zI (rowsH_len _ _ i) (by rw [List.length_take]; omega)
       have HbB:Hid (b < B∧b1 < B∧b9 < B):=⟨by have:=HN.out.lt; omega,by have:=HN.out.lt; have:=HF15.out.k.c.l.lt; have:=HF15.out.k.c.o; omega,HN.out.lt.2⟩
       have hown:=hid (HN.out.r.own 0 (by omega))
       have hln:=HLr.out 0
       have hbs:=HN.out.r.b
       clear hc7 hy ea hb hx
       go_wp2_with (at_builtin; refine app1 eInt (.tmp 124) (.tmp 131) rfl rfl rfl rfl rfl hown.out rfl (by omega) (by omega) hbs ?_)
       intro a' cap' w' hown2 hg2 hb2 hf2
       have HN1:=hid ((HN.out.app (news:= [(j:Int)]) rfl hown2 hg2 hb2 hf2).as (rowsH_is (r.l7.take k) (N,(j:Int))))
       obtain ⟨q',hq'⟩:∃n,(ybX (r.l7.take k) 0).length+1=n:=⟨_,rfl⟩
       rw [hq'] at HN1⊢
       obtain ⟨V1,hV1⟩:∃V1,updV V 0 (.slice a' q' cap')=V1:=⟨_,rfl⟩
       rw [hV1] at HN1
       have HV1:Hid (Value.slice a' q' cap' =V1 0):=by show _ = _; rw [←hV1,ya5]
       have HBw:=hid hb2
       have f7:=(hb2.cell (p:=⟨b1,7,none⟩) HbB.out.2.1).trans k7
       have f1:=(hb2.cell (p:=⟨b,off+k * 2,none⟩) HbB.out.1).trans e1
       have f2:=(hb2.cell (p:=⟨b,off+k * 2+1,none⟩) HbB.out.1).trans e2
       clear hown2 hg2 hb2 hf2 hown hln hbs hV1 hq' k7 e1 e2 HN HLr
       have hBd:Below w'.heap.size w' w'.drew:=(Below.refl _ _).drew
       have HJ:=hid (HN1.out.call hBd)
       have hrb:=HN1.out.r.b
       have hBd2:Below B w' w'.drew:=hBd.mono hrb
       have g7:=(hBd2.cell (p:=⟨b1,7,none⟩) HbB.out.2.1).trans f7
       have g1:=(hBd2.cell (p:=⟨b,off+k * 2,none⟩) HbB.out.1).trans f1
       have g2:=(hBd2.cell (p:=⟨b,off+k * 2+1,none⟩) HbB.out.1).trans f2
       have mq:=HJ.out.m j hj
       obtain ⟨u,hu⟩:∃u,V1 (8+j)=u:=⟨_,rfl⟩
       have Hu:=hid hu
       rw [hu] at mq
       have hlt9:=HJ.out.lt
       have hC:Hid (∀W2:World,Below B w'.drew W2→Hid (W2.cell? ⟨b1,7,none⟩=some (.slice (some ⟨b,off,none⟩) r.l7.length r.c7)∧W2.cell? ⟨b,off+k * 2,none⟩=some (.int .i64 N)∧W2.cell? ⟨b,off+k * 2+1,none⟩=some (.int .i64 (j:Int))∧W2.cell? ⟨b9,j,none⟩=some u)):=fun W2 hE=>
        ⟨(hE.cell (p:=⟨b1,7,none⟩) HbB.out.2.1).trans g7,(hE.cell (p:=⟨b,off+k * 2,none⟩) HbB.out.1).trans g1,(hE.cell (p:=⟨b,off+k * 2+1,none⟩) HbB.out.1).trans g2,(hE.cell (p:=⟨b9,j,none⟩) HbB.out.2.2).trans mq.1⟩
       have hZ:Hid (∀W2:World,Below B w'.drew W2→W2.frozen? ⟨b9,j,none⟩=false):=fun W2 hE=>(hE.frozen (p:=⟨b9,j,none⟩) HbB.out.2.2).trans mq.2
       have hwN:IntKind.i64.wrap (-N)= -N:=IntWalk.i64_in _ (by omega)
       clear hBd g7 g1 g2 f7 f1 f2 mq hu hrb hlt9
       go_upto_region 22 with fail
       refine regF [31] (S:=fun W=>Hid (W.cell? ⟨b1,7,none⟩=some (.slice (some ⟨b,off,none⟩) r.l7.length r.c7)∧W.cell? ⟨b,off+k * 2,none⟩=some (.int .i64 N)∧W.cell? ⟨b,off+k * 2+1,none⟩=some (.int .i64 (j:Int))∧W.cell? ⟨b9,j,none⟩=some u)) (by kernel_rfl) (hC.out _ (Below.refl _ _)) (fun hHeld=>?_)
       refine zfA 0 ?_
       refine zfA 1 ?_
       refine zfA 2 ?_
       refine zfA 3 ?_
       refine zfA 4 ?_
       refine zfA 5 ?_
       refine zfA 6 ?_
       refine zfA 7 ?_
       refine zfA 8 ?_
       refine zfA 9 ?_
       refine zfA 10 ?_
       refine zfA 11 ?_
       refine zfA 12 ?_
       refine zfA 13 ?_
       refine zfA 14 ?_
       refine zfA 15 ?_
       refine zfA 16 ?_
       refine zfA 17 ?_
       refine zfA 18 ?_
       refine zfA 19 ?_
       refine zfA 20 ?_
       refine zfA 21 ?_
       refine zfA 22 ?_
       refine zfA 23 ?_
       refine zfA 24 ?_
       refine zfA 25 ?_
       refine zfA 26 ?_
       refine zfA 27 ?_
       have hE1:Below B w'.drew (w'.drew.alloc (.cells #[.int .i64 (max N (-N))] 3)):=(Below.refl B w'.drew).alloc HJ.out.r.b _
       refine zzO 28 (fun K hK=>?_)
       go_simp
       refine hK.out _ _ (fun _=>hC.out _ hE1) ?_
       clear hK
       try simp only [rgPut]
       refine zzO 29 (fun K hK=>?_)
       refine RlN.app_op (.tmp 146) (.tmp 161) j HJ hj rfl (by exact Hu.out.symm) rfl (by have:=HLh.out (8+j); omega) ?_
       intro ap mp cp vp HK HE
       refine hK.out _ _ (fun _=>hC.out _ HE.out) ?_
       clear hK
       try simp only [rgPut]
       have hSp:=hC.out _ HE.out
       refine zzO 30 (fun K hK=>?_)
       go_simp
       refine hK.out _ _ (fun _=>hSp) ?_
       clear hK
       try simp only [rgPut]
       have c9:=hSp.out.2.2.2
       have z9:=hZ.out _ HE.out
       refine zzO 31 (fun K hK=>?_)
       go_simp
       refine hK.out _ _ (fun h=>absurd h (by decide)) ?_
       clear hK
       try simp only [rgPut]
       refine OrdF.done (by kernel_rfl) ?_ _
       have HI:Hid (RlN t15 b9 B (updV V1 (8+j) (.slice ap mp cp)) (ybX (r.l7.take (k+1))) (vp.setCell ⟨b9,j,none⟩ (.slice ap mp cp))):=by
        rw [←HTk.out]
        exact HK.out.as (yjK (r.l7.take k) (N,(j:Int)) hj rfl)
       obtain ⟨V2,hV2⟩:∃Z,updV V1 (8+j) (.slice ap mp cp)=Z:=⟨_,rfl⟩
       have HV2:Hid (Value.slice a' q' cap' =V2 0):=by show _ = _; rw [←hV2,ybu _ _ (by omega)]; exact HV1.out
       rw [hV2] at HI
       obtain ⟨v9,hv9⟩:∃Z,vp.setCell ⟨b9,j,none⟩ (.slice ap mp cp)=Z:=⟨_,rfl⟩
       rw [hv9] at HI⊢
       clear HK HE hSp c9 z9 hC hZ hE1 hHeld HJ Hu hV2 hv9 HV1 HBw HN1
       go_wp2
       exact ⟨⟨k+1,V2,by go_num,by omega,HV2.out,HI⟩,by simp [intOf]; omega⟩
      ·skip
       obtain rfl:k=r.l7.length:=by omega
       rw [List.take_length] at HN
       have HV:=hid HN.out.v
       have Hb59:Hid (b5 < b9):=by have:=HF15.out.k.c.l.lt; have:=E9.out; show _ < _; omega
       have hq:¬((r.l7.length:Int) < (r.l7.length:Int)):=by omega
       clear HN hk hlt HF15 hl64
       go_upto_region 23 with fail
       clear k7
       obtain ⟨n7,hn7⟩:∃n,r.l7.length=n:=⟨_,rfl⟩
       rw [hn7]
       have HN7:=hid hn7
       clear hn7 hq
       obtain ⟨zb,hzb⟩:∃b,decide ((nsL r).headD 0=0)=b:=⟨_,rfl⟩
       have HZB:=hid hzb
       clear hzb
       go_cut [175] from 164 to 175 (fun n175 wx=>n175= .bool zb∧wx=wr)
       case first=>
        obtain ⟨⟨k0,k1,k2,k3,k4⟩,k5,k6,k7,k8,k9,kx⟩:=HF.out.k.c.ru.all
        clear k0 k1 k2 k3 k4 k5 k6 k8 k9 kx
        have hsl:=(Hr.out.below HF.out.k.c.be).s7
        rw [HN7.out] at k7
        cases hl7:r.l7 with
        | nil=>
          have qn:zb=true:=by rw [←HZB.out,nsL,hl7]; rfl
          have q0:((n7:Int) == 0)=true:=by rw [←HN7.out,hl7]; rfl
          clear hsl hl7
          go_wp2_with fail
          go_meet
          exact ⟨by rw [qn] <;> rfl,rfl⟩
        | cons x xs=>
          have qn:zb=decide (x.1=0):=by rw [←HZB.out,nsL,hl7]; rfl
          obtain ⟨b,off,ea,hb,hc⟩:=hsl.atNth (k:=0) (by rw [hl7]; simp)
          have c0:=(hc 0 (by rw [hl7]; simp)).1
          rw [ea] at k7
          simp only [hl7,zC,Nat.zero_mul,Nat.add_zero] at c0
          obtain ⟨y,hy⟩:∃y,x.1=y:=⟨_,rfl⟩
          rw [hy] at c0 qn
          have hp:0 < n7:=by rw [←HN7.out,hl7,List.length_cons]; omega
          have q0:((n7:Int) == 0)=false:=by rw [beq_eq_false_iff_ne]; omega
          have q2:(0:Int) < (n7:Int):=by omega
          clear hsl hc hl7 ea hy hp
          go_wp2_with fail
          go_meet
          exact ⟨by rw [qn] <;> rfl,rfl⟩
       case rest=>
        obtain ⟨rfl,hwc⟩:=hcut
        subst hwc
        go_upto_if 175 with fail
        go_cut [11] from 176 to 220 (fun n11 wx=>Hid (∃m' a' b' d',Stg r [6,0,1,2,5,4,3] m'∧a' = (refC r).oin∧b' = (refC r).oback∧(∀j,j < 8→d' j= (refC r).od j)∧RfM w r b1 b2 b5 b4 m' a' b' d' wx))
        case first=>
         cases zb with
         | true=>
           have hz:=of_decide_eq_true HZB.out
           have HO:Hid (0= (refC r).oin∧false= (refC r).oback∧∀j,j < 8→d0 j= (refC r).od j):=by
            refine ⟨?_,?_,fun j _=>?_⟩
            ·show _ = (if (nsL r).headD 0=0 then _ else _); rw [if_pos hz]
            ·show _ = (if (nsL r).headD 0=0 then _ else _); rw [if_pos hz]
            ·show _ = (if (nsL r).headD 0=0 then _ else _); rw [if_pos hz]; exact HD0.out j
           obtain ⟨pa,pc,ep,hsp⟩:=HV.out.row (i:=0) (by omega)
           have hw0:=ydx hst
           have cD:=hid (fun W=>ygD (r.st / 86400) W (by omega) (by omega))
           rw [show (r.st / 86400 % 7+3) % 7+1=wdI (r.st / 86400) from rfl] at cD
           have HR6:Hid (orM (r.l7.map fun x=>x.2) (decide (r.fq=4)) (wdI (r.st / 86400)) (m20 6)=refM r 6):=by
            show _ = (if (nsL r).headD 0=0 then _ else _)
            rw [if_pos hz,HM.out.read (i:=6) (by decide) (by decide)]
           obtain ⟨pl,hpl⟩:∃l,(r.l7.map fun x=>x.2)=l:=⟨_,rfl⟩
           have HPl:Hid (pl.length≤64):=by show _≤_; rw [←hpl,List.length_map]; exact HWk.out.1
           rw [show ybX r.l7 0=pl from hpl] at ep hsp
           rw [hpl] at HR6
           have HSp:=hid hsp
           obtain ⟨dw,hdw⟩:∃n,wdI (r.st / 86400)=n:=⟨_,rfl⟩
           rw [hdw] at cD HR6
           have qd:Int.tdiv r.st 86400=r.st / 86400:=Int.tdiv_eq_ediv_of_nonneg (by omega)
           have hwq:IntKind.i64.wrap (r.st / 86400)=r.st / 86400:=IntWalk.i64_in _ (by omega)
           have Hdd:Hid (m20 6=m20 6):=rfl
           obtain ⟨m6,hm6⟩:∃n,m20 6=n:=⟨_,rfl⟩
           have HM6:=hid hm6
           rw [hm6] at HR6
           have cO:=hid (fun W hs=>yck pa pc pl (decide (r.fq=4)) dw m6 W (by have:=HPl.out; omega) hs)
           obtain ⟨R6,hR6⟩:∃R,orM pl (decide (r.fq=4)) dw m6=R:=⟨_,rfl⟩
           rw [hR6] at cO HR6
           rw [←ep] at cO
           have hBd:Below wc.heap.size wc wc.drew:=(Below.refl _ _).drew
           have HF:=hid (HF.out.call hBd)
           have HSp:=hid (HSp.out.below hBd)
           have hC:Hid (∀W2:World,Below wc.drew.heap.size wc.drew W2→Hid (W2.cell? ⟨b1,0,none⟩=some (.int .i64 r.st)∧W2.cell? ⟨b1,1,none⟩=some (.int .i64 r.fq)∧W2.cell? ⟨b5,6,none⟩=some (.int .u64 (m6:Nat)))):=fun W2 hE=>
            have h:=HF.out.call hE
            ⟨h.k.c.ru.all.1.1,h.k.c.ru.all.1.2.1,by rw [←HM6.out]; exact h.at (i:=6) (by decide)⟩
           clear hz hpl hdw hm6 hR6 ep hsp hBd HV
           go_upto_region 24 with fail
           refine regF [12] (S:=fun W=>Hid (W.cell? ⟨b1,0,none⟩=some (.int .i64 r.st)∧W.cell? ⟨b1,1,none⟩=some (.int .i64 r.fq)∧W.cell? ⟨b5,6,none⟩=some (.int .u64 (m6:Nat)))) (by kernel_rfl) (hC.out _ (Below.refl _ _)) (fun hHeld=>?_)
           obtain ⟨wd,hwd⟩:∃W,wc.drew=W:=⟨_,rfl⟩
           rw [hwd] at HF HSp hC hHeld⊢
           clear hwd
           refine zfA 0 ?_
           refine zfA 1 ?_
           refine zfA 2 ?_
           refine zfA 3 ?_
           refine zfA 4 ?_
           refine zfA 5 ?_
           refine zfA 6 ?_
           refine zfA 8 ?_
           refine zfA 9 ?_
           refine zzO 7 (fun K hK=>?_)
           go_simp
           refine (cD.out _).mono ?_
           rintro e w' ⟨rfl,rfl⟩
           refine hK.out _ _ (fun _=>hHeld) ?_
           clear hK
           try simp only [rgPut]
           refine zzO 10 (fun K hK=>?_)
           go_simp
           refine (cO.out _ HSp.out).mono ?_
           rintro e w24 ⟨rfl,hB⟩
           have hS1:=hC.out _ hB
           refine hK.out _ _ (fun _=>hS1) ?_
           clear hK
           try simp only [rgPut]
           have HG:=HF.out.call hB
           clear hC cO cD
           refine zzO 11 (fun K hK=>?_)
           go_simp
           refine hK.out _ _ (fun _=>hS1) ?_
           clear hK
           try simp only [rgPut]
           have cz:=HG.z 6
           obtain ⟨m',u1,em,cc,hS⟩:=HG.setM (i:=6) (by decide) R6
           have HM:=hid (HM.out.up em (by exact HR6.out))
           have HF:=hid hS
           clear HG hS em
           refine zzO 12 (fun K hK=>?_)
           go_simp
           refine hK.out _ _ (fun h=>absurd h (by decide)) ?_
           clear hK
           try simp only [rgPut]
           refine OrdF.done (by kernel_rfl) ?_ _
           clear hB hS1 cz cc hHeld
           go_wp2_with fail
           go_meet
           exact hid ⟨_,_,_,_,HM.out,HO.out.1,HO.out.2.1,HO.out.2.2,HF.out⟩
         | false=>
           have hz:=of_decide_eq_false HZB.out
           have HOi:Hid (yal r= (refC r).oin∧ybs r= (refC r).oback∧∀j,(refC r).od j=if j=0 then 0 else ofM (nthL r.l7 j)):=by
            refine ⟨?_,?_,fun j=>?_⟩
            ·show _ = (if (nsL r).headD 0=0 then _ else _); rw [if_neg hz]
            ·show _ = (if (nsL r).headD 0=0 then _ else _); rw [if_neg hz]
            ·show (if (nsL r).headD 0=0 then _ else _)= _; rw [if_neg hz]
           have HM6:Hid (Stg r [6,0,1,2,5,4,3] m20):=HM.out.keep (by show (if (nsL r).headD 0=0 then _ else _)= _; rw [if_neg hz])
           have H7:Hid (r.l7≠ []):=fun e=>hz (by rw [nsL,e]; rfl)
           clear hz HM
           obtain ⟨u8,c8,hS8⟩:=HF.out.set8 1
           have z8:=HF.out.z 8
           have HF:=hid hS8
           have HV:=hid (HV.out.set Hb59.out (k:=8) (.int .i64 1))
           obtain ⟨t25,ht⟩:∃W,wc.setCell ⟨b5,8,none⟩ (.int .i64 1)=W:=⟨_,rfl⟩
           rw [ht] at HF HV
           go_upto_region 26 with (rw [ht])
           try rw [ht]
           clear ht c8 z8 hS8
           obtain ⟨qy,hqy⟩:∃b,(decide (r.fq=6) && decide (r.l5.length=0))=b:=⟨_,rfl⟩
           have HQY:=hid hqy
           clear hqy
           go_cut [198] from 190 to 198 (fun n198 wx=>n198= .bool qy∧wx=t25)
           case first=>
            obtain ⟨⟨k0,k1,k2,k3,k4⟩,k5,k6,k7,k8,k9,kx⟩:=HF.out.k.c.ru.all
            clear k0 k2 k3 k4 k6 k7 k8 k9 kx
            by_cases h6:r.fq=6
            ·have q6:(r.fq == 6)=true:=by rw [h6]; rfl
             have qn:qy=decide (r.l5.length=0):=by rw [←HQY.out,zzZ h6,zzo]
             by_cases h5:r.l5.length=0
             ·have q5:((r.l5.length:Int) == 0)=true:=by rw [h5]; rfl
              rw [zzZ h5] at qn
              clear h6 h5
              go_wp2_with fail
              go_meet
              exact ⟨by rw [qn] <;> rfl,rfl⟩
             ·have q5:((r.l5.length:Int) == 0)=false:=by rw [beq_eq_false_iff_ne]; omega
              rw [zzd h5] at qn
              clear h6 h5
              go_wp2_with fail
              go_meet
              exact ⟨by rw [qn] <;> rfl,rfl⟩
            ·have q6:(r.fq == 6)=false:=by simpa using h6
             have qn:qy=false:=by rw [←HQY.out,zzd h6,Bool.false_and]
             clear h6
             go_wp2_with fail
             go_meet
             exact ⟨by rw [qn] <;> rfl,rfl⟩
           case rest=>
            obtain ⟨rfl,hwc⟩:=hcut
            subst hwc
            go_upto_if 198 with fail
            go_cut [] from 199 to 200 (fun wx=>Hid (RfM w r b1 b2 b5 b4 m20 (yal r) false d0 wx∧RlV b9 B V (ybX r.l7) wx))
            case first=>
             cases qy with
             | true=>
               have HW:Hid (2=yal r):=by
                have h:=HQY.out
                rw [zzX,zzY,zzY] at h
                show _ = _; rw [yal,if_pos h]
               obtain ⟨u8,c8,hS8⟩:=HF.out.set8 2
               have z8:=HF.out.z 8
               have HV:=hid (HV.out.set Hb59.out (k:=8) (.int .i64 2))
               have HF:=hid hS8
               clear hS8
               go_wp2_with fail
               go_meet
               exact hid ⟨by rw [←HW.out]; exact HF.out,HV.out⟩
             | false=>
               have HW:Hid (yal r=1):=by
                have h:=HQY.out
                show _ = _
                rw [yal,if_neg]
                rintro ⟨h6,h5⟩
                rw [zzZ h6,zzZ h5] at h
                cases h
               go_wp2_with fail
               go_meet
               exact hid ⟨by rw [HW.out]; exact HF.out,HV.out⟩
            case rest=>
             have hcut:=hcut.out
             have HF:=hid hcut.1
             have HV:=hid hcut.2
             clear hcut
             obtain ⟨wi,hwi⟩:∃n,yal r=n:=⟨_,rfl⟩
             rw [hwi] at HF HOi
             clear hwi
             go_upto_region 28 with fail
             obtain ⟨⟨k0,k1,k2,k3,k4⟩,k5,k6,k7,k8,k9,kx⟩:=HF.out.k.c.ru.all
             clear k0 k1 k2 k3 k4 k5 k6 k8 k9 kx
             obtain ⟨y,b,off,ea,hp7,hb,cy,hyb⟩:∃y b off,r.a7=some ⟨b,off,none⟩∧(0:Int) < (n7:Int)∧b < wc.heap.size∧wc.cell? ⟨b,off,none⟩=some (.int .i64 y)∧decide (y < 0)=ybs r:=by
              cases hl7:r.l7 with
              | nil=>exact absurd hl7 H7.out
              | cons x xs=>
                obtain ⟨b,off,ea,hb,hc⟩:=(Hr.out.below HF.out.k.c.be).s7.atNth (k:=0) (by rw [hl7]; simp)
                have c0:=(hc 0 (by rw [hl7]; simp)).1
                simp only [hl7,zC,Nat.zero_mul,Nat.add_zero] at c0
                exact ⟨x.1,b,off,ea,by rw [←HN7.out,hl7,List.length_cons]; omega,hb,c0,by rw [ybs,nsL,hl7]; rfl⟩
             rw [ea,HN7.out] at k7
             obtain ⟨u9,c9,hS9⟩:=HF.out.set9 (ybs r)
             have z9:=HF.out.z 9
             have HF:=hid hS9
             have HV:=hid (HV.out.set Hb59.out (k:=9) (.bool (ybs r)))
             rw [←hyb] at HF HV HOi
             obtain ⟨wb,hwb⟩:∃b,decide (y < 0)=b:=⟨_,rfl⟩
             have Hwb:=hid hwb
             obtain ⟨t28,ht⟩:∃W,wc.setCell ⟨b5,9,none⟩ (.bool (decide (y < 0)))=W:=⟨_,rfl⟩
             rw [ht] at HF HV
             rw [hwb] at HF HOi
             clear hS9 ea hb hyb hwb
             go_upto_region 29 with (rw [ht])
             try rw [ht]
             clear ht c9 z9 cy k7 hp7 Hwb
             go_wp2_with fail
             go_loopw [11] (fun v11 wx=>∃(k:Nat) (d:Nat→Nat),v11= .int .i64 k∧1≤k∧k≤8∧Hid (∀j,j < 8→d j=if 1≤j∧j < k then ofM (nthL r.l7 j) else 0)∧Hid (RfM w r b1 b2 b5 b4 m20 wi wb d wx)∧Hid (RlV b9 B V (ybX r.l7) wx)) (fun v11 _=>8 - (intOf v11).toNat)
             case atStart=>exact ⟨1,d0,rfl,by omega,by omega,fun j _=>by rw [if_neg (by omega)]; exact HD0.out j,HF,HV⟩
             case round=>
              obtain ⟨k,d,rfl,hk1,hk8,HD1,HF,HV⟩:=hrel
              rename World=>wq
              by_cases hlt:k < 8
              ·have hlti:(k:Int) < 8:=by omega
               obtain ⟨ar,cr,er,hsr⟩:=HV.out.row (i:=8+k) (by omega)
               have mk:=HV.out.m k hlt
               rw [er] at mk
               rw [rowsL_lo r.l7 hlt] at mk hsr
               have cR:=hid (ygC ar cr (nthL r.l7 k) wq (by have:=yiY r.l7 k; have:=HWk.out.1; omega) hsr)
               obtain ⟨mr,hmr⟩:∃n,(nthL r.l7 k).length=n:=⟨_,rfl⟩
               obtain ⟨Rk,hRk⟩:∃n,ofM (nthL r.l7 k)=n:=⟨_,rfl⟩
               rw [hmr,hRk] at cR
               rw [hmr] at mk
               have HRk:=hid hRk
               clear er hsr hmr hRk
               go_wp2_with fail
               refine cR.out.mono ?_
               rintro e w32 ⟨rfl,hB⟩
               have HG:=HF.out.call hB
               have HV:=hid ((HV.out.call hB).set Hb59.out (k:=10+k) (.int .u64 (Rk:Nat)))
               have cz:=HG.z (10+k)
               obtain ⟨d',u1,ed,cc,hS⟩:=HG.setD hlt Rk
               have HF:=hid hS
               have HD2:Hid (∀j,j < 8→d' j=if 1≤j∧j < k+1 then ofM (nthL r.l7 j) else 0):=fun j hj=>by
                rw [←ed]
                by_cases e:j=k
                ·subst e; rw [ya5,if_pos (by omega),HRk.out]
                ·rw [ybu _ _ e,HD1.out j hj]
                 by_cases c:1≤j∧j < k
                 ·rw [if_pos c,if_pos (by omega)]
                 ·rw [if_neg c,if_neg (by omega)]
               clear HG hS ed hB mk cR
               go_wp2
               exact ⟨⟨k+1,d',by go_num,by omega,by omega,HD2,HF,HV⟩,by simp [intOf]; omega⟩
              ·obtain rfl:k=8:=by omega
               have HD3:Hid (∀j,j < 8→d j= (refC r).od j):=fun j hj=>by
                rw [HD1.out j hj,HOi.out.2.2 j]
                by_cases c:j=0
                ·subst c; rw [if_neg (by omega),if_pos rfl]
                ·rw [if_pos (by omega),if_neg c]
               clear hk1 hk8 hlt
               go_wp2_with fail
               go_meet
               exact hid ⟨_,_,_,_,HM6.out,HOi.out.1,HOi.out.2.1,HD3.out,HF.out⟩
        case rest=>
         obtain ⟨m7,oi,ob,od,HM1,ha,hb,hd,HF1⟩:=hcut.out
         have HF:=hid HF1.k
         have HO:Hid (∀x,x= (if r.un= -1 then 12622780799 else r.un)→clv (refU m7 oi ob od r x)=clv (refC r)):=fun x hx=>refU_clv (fun i hi=>by rw [HM1 i hi,if_pos (by rcases yfy hi with rfl | rfl | rfl | rfl | rfl | rfl | rfl <;> decide)]) ha hb hd hx
         obtain ⟨L0,el⟩:∃L,refS m7 oi ob od=L:=⟨_,rfl⟩
         rw [el] at HF
         have EL0:=hid el
         have HL:Hid (L0.length=30):=by show _ = _; rw [←el]; exact ydE
         clear HM1 ha hb hd HF1 hcut el HV HM
         go_upto_region 33 with fail
         obtain ⟨⟨k0,k1,k2,k3,k4⟩,k5,k6,k7,k8,k9,kx⟩:=HF.out.c.ru.all
         clear k0 k2 k3 k4 k5 k6 k7 k8 k9 kx
         have cz:=HF.out.c.l.z 25
         obtain ⟨L1,u1,el,hl,cc,hS⟩:=HF.out.nxt HL.out (i:=25) (by decide) (.int .i64 r.fq)
         have EL1:=hid el
         have HL:=hid hl
         have HF:=hid hS
         obtain ⟨t1,ht⟩:∃W,wc.setCell ⟨b5,25,none⟩ (.int .i64 r.fq)=W:=⟨_,rfl⟩
         rw [ht] at HF
         clear el hl hS
         go_upto_region 34 with fail
         (try rw [ht])
         clear ht cc cz k1
         obtain ⟨⟨k0,k1,k2,k3,k4⟩,k5,k6,k7,k8,k9,kx⟩:=HF.out.c.ru.all
         clear k0 k1 k3 k4 k5 k6 k7 k8 k9 kx
         have cz:=HF.out.c.l.z 26
         obtain ⟨L2,u2,el,hl,cc,hS⟩:=HF.out.nxt HL.out (i:=26) (by decide) (.int .i64 r.iv)
         have EL2:=hid el
         have HL:=hid hl
         have HF:=hid hS
         obtain ⟨t2,ht⟩:∃W,t1.setCell ⟨b5,26,none⟩ (.int .i64 r.iv)=W:=⟨_,rfl⟩
         rw [ht] at HF
         clear el hl hS
         go_upto_region 35 with fail
         (try rw [ht])
         clear ht cc cz k2
         obtain ⟨⟨k0,k1,k2,k3,k4⟩,k5,k6,k7,k8,k9,kx⟩:=HF.out.c.ru.all
         clear k1 k2 k3 k4 k5 k6 k7 k8 k9 kx
         have cz:=HF.out.c.l.z 27
         obtain ⟨L3,u3,el,hl,cc,hS⟩:=HF.out.nxt HL.out (i:=27) (by decide) (.int .i64 r.st)
         have EL3:=hid el
         have HL:=hid hl
         have HF:=hid hS
         obtain ⟨t3,ht⟩:∃W,t2.setCell ⟨b5,27,none⟩ (.int .i64 r.st)=W:=⟨_,rfl⟩
         rw [ht] at HF
         clear el hl hS
         go_upto_region 36 with fail
         (try rw [ht])
         clear ht cc cz k0
         obtain ⟨⟨k0,k1,k2,k3,k4⟩,k5,k6,k7,k8,k9,kx⟩:=HF.out.c.ru.all
         clear k1 k2 k3 k4 k5 k6 k7 k8 k9 kx
         have cz:=HF.out.c.l.z 28
         obtain ⟨L4,u4,el,hl,cc,hS⟩:=HF.out.nxt HL.out (i:=28) (by decide) (.int .i64 r.st)
         have EL4:=hid el
         have HL:=hid hl
         have HF:=hid hS
         obtain ⟨t4,ht⟩:∃W,t3.setCell ⟨b5,28,none⟩ (.int .i64 r.st)=W:=⟨_,rfl⟩
         rw [ht] at HF
         clear el hl hS
         go_upto_region 37 with fail
         (try rw [ht])
         clear ht cc cz k0
         have k4:=HF.out.c.ru.all.1.2.2.2.2
         by_cases hun:r.un= -1
         ·rw [hun] at k4
          have Hun:=hid hun
          clear hun
          have hEnd:L4=yac (refU m7 oi ob od r 12622780799):=by rw [←EL4.out,←EL3.out,←EL2.out,←EL1.out,←EL0.out]; exact yjL m7 oi ob od r
          have ld:=(show ClB t4 b5 (refU m7 oi ob od r 12622780799) from by have h:=HF.out.c.l.r; rw [hEnd] at h; exact h).ld
          have ht9:=HF.out.c.t
          have Hl:Hid (clv (refU m7 oi ob od r 12622780799)=Q):=(HO.out _ (by rw [if_pos Hun.out])).trans HD.out
          obtain ⟨c,hcc⟩:∃c,refU m7 oi ob od r 12622780799=c:=⟨_,rfl⟩
          rw [hcc] at ld Hl
          have hPr:(yas t4 b2 (yac c)).rangeAt b2 0 (yac c):=yak _ rfl ht9
          have HPr:=hid hPr
          have HBf:Hid (Below w.heap.size w (yas t4 b2 (yac c))):=yaj HF.out.c.be (by have:=HF.out.c.o; omega) _
          obtain ⟨W9,hW9⟩:∃W,yas t4 b2 (yac c)=W:=⟨_,rfl⟩
          rw [hW9] at HPr HBf
          have HW9:=hid hW9
          clear hPr hcc hW9
          go_wp2
          (try rw [HW9.out])
          exact bodyPost_ret (yad (p:=2) rfl _ _ b2 0 _ _ rfl HPr.out Tryz.underlying34 rfl ydh) rfl ⟨by rw [←Hl.out] <;> rfl,HBf.out⟩
         ·have q1:(r.un == -1)=false:=by simpa using hun
          have q2:(r.un != -1)=true:=by simpa using hun
          have Hun:=hid hun
          have cz:=HF.out.c.l.z 29
          obtain ⟨L5,u5,el,hl,cc,hS⟩:=HF.out.nxt HL.out (i:=29) (by decide) (.int .i64 r.un)
          have EL5:=hid el
          have HF:=hid hS
          obtain ⟨t5,ht⟩:∃W,t4.setCell ⟨b5,29,none⟩ (.int .i64 r.un)=W:=⟨_,rfl⟩
          rw [ht] at HF
          clear hun el hl hS
          go_upto_region 39 with fail
          (try rw [ht])
          clear ht cc cz q1 q2 k4
          have hEnd:L5=yac (refU m7 oi ob od r r.un):=by rw [←EL5.out,←EL4.out,←EL3.out,←EL2.out,←EL1.out,←EL0.out]; exact yhV m7 oi ob od r
          have ld:=(show ClB t5 b5 (refU m7 oi ob od r r.un) from by have h:=HF.out.c.l.r; rw [hEnd] at h; exact h).ld
          have ht9:=HF.out.c.t
          have Hl:Hid (clv (refU m7 oi ob od r r.un)=Q):=(HO.out _ (by rw [if_neg Hun.out])).trans HD.out
          obtain ⟨c,hcc⟩:∃c,refU m7 oi ob od r r.un=c:=⟨_,rfl⟩
          rw [hcc] at ld Hl
          have hPr:(yas t5 b2 (yac c)).rangeAt b2 0 (yac c):=yak _ rfl ht9
          have HPr:=hid hPr
          have HBf:Hid (Below w.heap.size w (yas t5 b2 (yac c))):=yaj HF.out.c.be (by have:=HF.out.c.o; omega) _
          obtain ⟨W9,hW9⟩:∃W,yas t5 b2 (yac c)=W:=⟨_,rfl⟩
          rw [hW9] at HPr HBf
          have HW9:=hid hW9
          clear hPr hcc hW9
          go_wp2
          (try rw [HW9.out])
          exact bodyPost_ret (yad (p:=2) rfl _ _ b2 0 _ _ rfl HPr.out Tryz.underlying34 rfl ydh) rfl ⟨by rw [←Hl.out] <;> rfl,HBf.out⟩
end Go.Proofs.YtjahgimnfliooaaGreatDoor
