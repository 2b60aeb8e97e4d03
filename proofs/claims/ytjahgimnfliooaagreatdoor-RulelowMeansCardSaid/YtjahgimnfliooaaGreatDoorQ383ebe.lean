/-
  feriaref32.Check.
  rule.Same.
  moment.Stamp.
-/
import Derived.Test.YtjahgimnfliooaaGreatDoorQdbe38d
import Derived.Deep.RegionHeld3
import Derived.Test.YtjahgimnfliooaaGreatDoorQc1e868
import Derived.Test.YtjahgimnfliooaaGreatDoorQe977ed
import Derived.Test.YtjahgimnfliooaaGreatDoorQ2687fa
import Derived.Test.YtjahgimnfliooaaGreatDoorQe6aba9
set_option maxRecDepth 100000
set_option maxHeartbeats 25600000
namespace Go.Proofs.YtjahgimnfliooaaGreatDoor
set_option linter.unusedVariables false
section
open Go.RowKit
abbrev RcS (w:World) (r:Ru) (W:World):Prop:=
 ((W.cell? ⟨w.heap.size,0,none⟩=some (.int .i64 r.st)∧W.cell? ⟨w.heap.size,1,none⟩=some (.int .i64 r.fq)∧W.cell? ⟨w.heap.size,2,none⟩=some (.int .i64 r.iv)∧W.cell? ⟨w.heap.size,3,none⟩=some (.int .i64 r.co)∧W.cell? ⟨w.heap.size,4,none⟩=some (.int .i64 r.un))∧
   W.cell? ⟨w.heap.size,5,none⟩=some (.slice r.a5 r.l5.length r.c5)∧W.cell? ⟨w.heap.size,6,none⟩=some (.slice r.a6 r.l6.length r.c6)∧W.cell? ⟨w.heap.size,7,none⟩=some (.slice r.a7 r.l7.length r.c7)∧
   W.cell? ⟨w.heap.size,8,none⟩=some (.slice r.a8 r.l8.length r.c8)∧W.cell? ⟨w.heap.size,9,none⟩=some (.slice r.a9 r.l9.length r.c9)∧W.cell? ⟨w.heap.size,10,none⟩=some (.slice r.ax r.lx.length r.cx))∧
 RuB W w.heap.size r∧RuS W r∧Below w.heap.size w W∧w.heap.size < W.heap.size
theorem RcS.of {w W:World} {r:Ru} (h:RuB W w.heap.size r) (hs:RuS W r) (hb:Below w.heap.size w W) (hl:w.heap.size < W.heap.size):RcS w r W:=⟨h.all,h,hs,hb,hl⟩
theorem RcS.keep {w W W':World} {r:Ru} (h:RcS w r W) (hb:Below W.heap.size W W'):RcS w r W':=by
 obtain ⟨-,h1,h2,h3,h4⟩:=h
 exact RcS.of (h1.below hb h4) (h2.below hb) (h3.trans (hb.mono (Nat.le_of_lt h4))) (zH h4 hb.size)
theorem rcS_new (w:World) (r:Ru) (t:TypeId) (hr:RuS w r):RcS w r (w.alloc (.cells (yai r).toArray t)):=
 RcS.of (yaJ w r t) (hr.below (yaa (Below.refl _ _) (zG _))) (yaa (Below.refl _ _) (zG _)) (by simp)
theorem yet {L:List Int} {k:Nat} (h:k < L.length):yah (L.drop k)=if L[k]=0 then yah (L.drop (k+1)) else L[k]:=by
 rw [List.drop_eq_getElem_cons h,yah]
theorem yku (r:Ru) (w:World) (hr:RuS w r) (hm:r.Sm 1000000):Calls Tryz.prog 27 #[ruv r] w fun e w'=>e= .returned (.int .i64 (yaf r))∧Below w.heap.size w w':=by
 have HS0:=hid ((rcS_new w r 25 hr).keep (Below.refl _ _).drew)
 have HB0:Hid (Below w.heap.size w (w.alloc (.cells (yai r).toArray 25))):=yaa (Below.refl _ _) (zG _)
 have cI:=hid (fun W=>ydS r.st W)
 have cU:=hid (fun W=>ydS r.un W)
 have k5:=hid (fun W (h:RcS w r W)=>ydT r.a5 r.c5 r.l5 1 12 W (by have:=hm.n5; omega) h.2.2.1.s5)
 have kD:=hid (fun W (h:RcS w r W)=>yax (yir r W h.2.2.1 hm) (fun _=>h.keep))
 have kW:Hid (unB r.fq=true→∀W,RcS w r W→Calls Tryz.prog 74 #[ruv r] W fun e w'=>e= .returned (.int .i64 (ybJ r))∧RcS w r w'):=fun hu W h=>yax (yhz r W h.2.2.1 hm (by simpa only [unB,zzY] using hu)) (fun _=>h.keep)
 have k8:=hid (fun W (h:RcS w r W)=>ydT r.a8 r.c8 r.l8 0 23 W (by have:=hm.n8; omega) h.2.2.1.s8)
 have k9:=hid (fun W (h:RcS w r W)=>ydT r.a9 r.c9 r.l9 0 59 W (by have:=hm.n9; omega) h.2.2.1.s9)
 have kx:=hid (fun W (h:RcS w r W)=>ydT r.ax r.cx r.lx 0 59 W (by have:=hm.nx; omega) h.2.2.1.sx)
 have hq:yaf r=yah (yde r :: [yaS 1 12 r.l5,yeb r,ybJ r,yaS 0 23 r.l8,yaS 0 59 r.l9,yaS 0 59 r.lx]):=rfl
 rw [hq]
 have hh:=hid (rfl:yde r=yde r)
 obtain ⟨E0,h0⟩:∃q,yde r=q:=⟨_,rfl⟩
 have HE:=hid h0
 rw [yde] at HE
 obtain ⟨E1,h1⟩:∃q,yaS 1 12 r.l5=q:=⟨_,rfl⟩
 obtain ⟨E2,h2⟩:∃q,yeb r=q:=⟨_,rfl⟩
 obtain ⟨E3,h3⟩:∃q,ybJ r=q:=⟨_,rfl⟩
 obtain ⟨E4,h4⟩:∃q,yaS 0 23 r.l8=q:=⟨_,rfl⟩
 obtain ⟨E5,h5⟩:∃q,yaS 0 59 r.l9=q:=⟨_,rfl⟩
 obtain ⟨E6,h6⟩:∃q,yaS 0 59 r.lx=q:=⟨_,rfl⟩
 rw [h1,h2,h3,h4,h5,h6]
 rw [h1] at k5
 rw [h2] at kD
 rw [h3] at kW
 rw [h4] at k8
 rw [h5] at k9
 rw [h6] at kx
 clear h1 h2 h3 h4 h5 h6
 rw [h0]
 clear h0 hr hm hq hh
 obtain ⟨V,hV⟩:∃V,yah (E0 :: [E1,E2,E3,E4,E5,E6])=V:=⟨_,rfl⟩
 have HV:=hid hV
 rw [yah] at HV
 rw [hV]
 clear hV
 obtain ⟨i,hi⟩:∃q,winB r.st=q:=⟨_,rfl⟩
 obtain ⟨u,hu⟩:∃q,unB r.fq=q:=⟨_,rfl⟩
 obtain ⟨j,hj⟩:∃q,winB r.un=q:=⟨_,rfl⟩
 rw [hi] at cI HE
 have Hu:=hid hu
 rw [hu] at kW HE
 rw [hj] at cU HE
 have huE:u=decide (0≤r.fq∧r.fq≤6):=by rw [←hu,unB]
 clear hi hu hj
 cases i
 ·rw [if_pos rfl] at HE
  have hf:Hid (V=4):=by show _ = _; rw [←HV.out,←HE.out]; rfl
  go_enter Tryz.func27,Tryz.ntmps27
  go_wp2_with fail
  refine (cI.out _).mono ?_
  rintro e w1 ⟨rfl,rfl⟩
  go_wp2
  go_ret
  exact ⟨by rw [hf.out]; rfl,HB0.out⟩
 rw [if_neg (by simp)] at HE
 by_cases g0:r.fq < 0
 ·rw [if_pos (by rw [huE,zzd (by omega)])] at HE
  have hf:Hid (V=4):=by show _ = _; rw [←HV.out,←HE.out]; rfl
  go_enter Tryz.func27,Tryz.ntmps27
  go_wp2_with fail
  refine (cI.out _).mono ?_
  rintro e w1 ⟨rfl,rfl⟩
  go_wp2
  go_ret
  exact ⟨by rw [hf.out]; rfl,HB0.out⟩
 by_cases g1:6 < r.fq
 ·rw [if_pos (by rw [huE,zzd (by omega)])] at HE
  have hf:Hid (V=4):=by show _ = _; rw [←HV.out,←HE.out]; rfl
  go_enter Tryz.func27,Tryz.ntmps27
  go_wp2_with fail
  refine (cI.out _).mono ?_
  rintro e w1 ⟨rfl,rfl⟩
  go_wp2
  go_ret
  exact ⟨by rw [hf.out]; rfl,HB0.out⟩
 obtain rfl:u=true:=by rw [huE,zzZ ⟨by omega,by omega⟩]
 clear huE
 rw [if_neg (by simp)] at HE
 by_cases h0:r.iv < 1
 ·rw [if_pos h0] at HE
  have hf:Hid (V=4):=by show _ = _; rw [←HV.out,←HE.out]; rfl
  go_enter Tryz.func27,Tryz.ntmps27
  go_wp2_with fail
  refine (cI.out _).mono ?_
  rintro e w1 ⟨rfl,rfl⟩
  go_wp2
  go_ret
  exact ⟨by rw [hf.out]; rfl,HB0.out⟩
 rw [if_neg h0] at HE
 by_cases h1:1000000000000000 < r.iv
 ·rw [if_pos h1] at HE
  have hf:Hid (V=4):=by show _ = _; rw [←HV.out,←HE.out]; rfl
  go_enter Tryz.func27,Tryz.ntmps27
  go_wp2_with fail
  refine (cI.out _).mono ?_
  rintro e w1 ⟨rfl,rfl⟩
  go_wp2
  go_ret
  exact ⟨by rw [hf.out]; rfl,HB0.out⟩
 rw [if_neg h1] at HE
 by_cases h2:r.co < 0
 ·rw [if_pos h2] at HE
  have hf:Hid (V=4):=by show _ = _; rw [←HV.out,←HE.out]; rfl
  go_enter Tryz.func27,Tryz.ntmps27
  go_wp2_with fail
  refine (cI.out _).mono ?_
  rintro e w1 ⟨rfl,rfl⟩
  go_wp2
  go_ret
  exact ⟨by rw [hf.out]; rfl,HB0.out⟩
 rw [if_neg h2] at HE
 by_cases h3:1000000000000000 < r.co
 ·rw [if_pos h3] at HE
  have hf:Hid (V=4):=by show _ = _; rw [←HV.out,←HE.out]; rfl
  go_enter Tryz.func27,Tryz.ntmps27
  go_wp2_with fail
  refine (cI.out _).mono ?_
  rintro e w1 ⟨rfl,rfl⟩
  go_wp2
  go_ret
  exact ⟨by rw [hf.out]; rfl,HB0.out⟩
 rw [if_neg h3] at HE
 replace kW:=hid (kW.out rfl)
 by_cases h4:r.un= -1
 ·rw [if_pos h4] at HE
  have hb:(r.un != -1)=false:=by simp [h4]
  clear h4
  go_enter Tryz.func27,Tryz.ntmps27
  go_wp2_with fail
  refine (cI.out _).mono ?_
  rintro e w1 ⟨rfl,rfl⟩
  go_wp2_with fail
  refine wp_region_held_drew (S:=fun w'=>RcS w r w') (by kernel_rfl) ?_ (fun hHeld=>?_)
  ·exact HS0.out
  refine zhB 0 ?_
  refine zhB 1 ?_
  refine zhB 3 ?_
  refine zhB 5 ?_
  refine zhB 7 ?_
  refine zhB 8 ?_
  refine zhB 10 ?_
  refine zhB 11 ?_
  refine zhB 13 ?_
  refine zhB 14 ?_
  refine zzK 2 (fun K hK=>?_)
  go_simp
  refine (k5.out _ (by assumption)).mono ?_; rintro e wr ⟨rfl,rfl⟩
  (try go_wp2_with fail)
  refine hK.out _ _ (by assumption) (fun hHeld=>?_)
  clear hK K
  try simp only [zP]
  refine zzK 4 (fun K hK=>?_)
  go_simp
  refine (kD.out _ (by assumption)).mono ?_; rintro e wr ⟨rfl,hS⟩
  (try go_wp2_with fail)
  refine hK.out _ _ (by assumption) (fun hHeld=>?_)
  clear hK K
  try simp only [zP]
  refine zzK 6 (fun K hK=>?_)
  go_simp
  refine (kW.out _ (by assumption)).mono ?_; rintro e wr ⟨rfl,hS⟩
  (try go_wp2_with fail)
  refine hK.out _ _ (by assumption) (fun hHeld=>?_)
  clear hK K
  try simp only [zP]
  refine zzK 9 (fun K hK=>?_)
  go_simp
  refine (k8.out _ (by assumption)).mono ?_; rintro e wr ⟨rfl,rfl⟩
  (try go_wp2_with fail)
  refine hK.out _ _ (by assumption) (fun hHeld=>?_)
  clear hK K
  try simp only [zP]
  refine zzK 12 (fun K hK=>?_)
  go_simp
  refine (k9.out _ (by assumption)).mono ?_; rintro e wr ⟨rfl,rfl⟩
  (try go_wp2_with fail)
  refine hK.out _ _ (by assumption) (fun hHeld=>?_)
  clear hK K
  try simp only [zP]
  refine zzK 15 (fun K hK=>?_)
  go_simp
  refine (kx.out _ (by assumption)).mono ?_; rintro e wr ⟨rfl,rfl⟩
  (try go_wp2_with fail)
  refine hK.out _ _ (by assumption) (fun hHeld=>?_)
  clear hK K
  try simp only [zP]
  refine zzK 16 (fun K hK=>?_)
  go_simp
  refine hK.out _ _ (RcS.keep (by assumption) (yaa (o:= .cells #[.int .i64 E1, .int .i64 E2, .int .i64 E3, .int .i64 E4, .int .i64 E5, .int .i64 E6] 3) (Below.refl wr.heap.size wr) (zG _))) (fun hHeld=>?_)
  clear hK K
  try simp only [zP]
  refine zhB 17 ?_
  refine wpAnyH_done (by kernel_rfl) ?_ _
  have hsl:=hid (ybZ (yau wr (ints [E1,E2,E3,E4,E5,E6]) 3) (by simp))
  have HC:Hid (RcS w r (wr.alloc (.cells (ints [E1,E2,E3,E4,E5,E6]).toArray 3))):=by show RcS w r _; assumption
  have hfz:Hid (V=yah [E1,E2,E3,E4,E5,E6]):=by show _ = _; rw [←HV.out,←HE.out]; rfl
  obtain ⟨L,hL⟩:∃L,[E1,E2,E3,E4,E5,E6]=L:=⟨_,rfl⟩
  have hL6:L.length=6:=by rw [←hL]; rfl
  have HLc:Hid ((Obj.cells #[.int .i64 E1, .int .i64 E2, .int .i64 E3, .int .i64 E4, .int .i64 E5, .int .i64 E6] 3)= .cells (ints L).toArray 3):=by rw [←hL]; rfl
  rw [hL] at hsl HC hfz
  rw [HLc.out]
  obtain ⟨b,hb⟩:∃b,wr.heap.size=b:=⟨_,rfl⟩
  obtain ⟨W1,hW1⟩:∃W1,wr.alloc (.cells (ints L).toArray 3)=W1:=⟨_,rfl⟩
  rw [hb] at hsl⊢
  rw [hW1] at hsl HC⊢
  clear hb hW1 hL HLc HV HE
  go_wp2_with fail
  go_loopw [4] (fun i wr=>∃k:Nat,i= .int .i64 k∧k≤6∧Hid (V=yah (L.drop k))∧wr=W1) (fun i _=>6 - (intOf i).toNat)
  case atStart=>exact ⟨0,rfl,by omega,hfz,by trivial⟩
  case round=>
   obtain ⟨k,rfl,hk,hI,rfl⟩:=hrel
   by_cases hlt:k < 6
   ·have hltL:k < L.length:=by omega
    obtain ⟨b',off',hbb,hb',hc⟩:=hsl.out.atInt hltL
    cases hbb
    have e1:=hc k hltL
    have hdr:=hid (yet hltL)
    obtain ⟨y,hy⟩:∃y,L[k]=y:=⟨_,rfl⟩
    rw [hy] at e1 hdr
    rw [zzn] at e1
    have hlt6:(k:Int) < 6:=by omega
    clear hc hy
    by_cases hz:y=0
    ·have hb2:(y != 0)=false:=by simp [hz]
     have hf:Hid (V=yah (L.drop (k+1))):=by show _ = _; rw [hI.out,hdr.out,if_pos hz]
     clear hz hL6 hltL
     go_wp2
     exact ⟨⟨k+1,by go_num,by omega,hf,by trivial⟩,by simp [intOf]; omega⟩
    ·have hb2:(y != 0)=true:=by simp [hz]
     have hf:Hid (V=y):=by show _ = _; rw [hI.out,hdr.out,if_neg hz]
     clear hz hL6 hltL
     go_wp2
     go_ret
     exact ⟨by rw [hf.out]; rfl,HC.out.2.2.2.1⟩
   ·obtain rfl:k=6:=by omega
    have hf:Hid (V=0):=by show _ = _; rw [hI.out,List.drop_of_length_le (by omega)]; rfl
    clear hL6
    go_wp2
    go_ret
    exact ⟨by rw [hf.out]; rfl,HC.out.2.2.2.1⟩
 rw [if_neg h4] at HE
 have hb:(r.un != -1)=true:=by simp [h4]
 clear h4
 cases j
 ·rw [if_pos rfl] at HE
  have hf:Hid (V=4):=by show _ = _; rw [←HV.out,←HE.out]; rfl
  go_enter Tryz.func27,Tryz.ntmps27
  go_wp2_with fail
  refine (cI.out _).mono ?_
  rintro e w1 ⟨rfl,rfl⟩
  go_wp2_with fail
  refine (cU.out _).mono ?_
  rintro e w2 ⟨rfl,rfl⟩
  go_wp2
  go_ret
  exact ⟨by rw [hf.out]; rfl,HB0.out⟩
 rw [if_neg (by simp)] at HE
 by_cases h5:0 < r.co
 ·rw [if_pos h5] at HE
  have hf:Hid (V=12):=by show _ = _; rw [←HV.out,←HE.out]; rfl
  go_enter Tryz.func27,Tryz.ntmps27
  go_wp2_with fail
  refine (cI.out _).mono ?_
  rintro e w1 ⟨rfl,rfl⟩
  go_wp2_with fail
  refine (cU.out _).mono ?_
  rintro e w2 ⟨rfl,rfl⟩
  go_wp2
  go_ret
  exact ⟨by rw [hf.out]; rfl,HB0.out⟩
 rw [if_neg h5] at HE
 go_enter Tryz.func27,Tryz.ntmps27
 go_wp2_with fail
 refine (cI.out _).mono ?_
 rintro e w1 ⟨rfl,rfl⟩
 go_wp2_with fail
 refine (cU.out _).mono ?_
 rintro e w2 ⟨rfl,rfl⟩
 go_wp2_with fail
 refine wp_region_held_drew (S:=fun w'=>RcS w r w') (by kernel_rfl) ?_ (fun hHeld=>?_)
 ·exact HS0.out
 refine zhB 0 ?_
 refine zhB 1 ?_
 refine zhB 3 ?_
 refine zhB 5 ?_
 refine zhB 7 ?_
 refine zhB 8 ?_
 refine zhB 10 ?_
 refine zhB 11 ?_
 refine zhB 13 ?_
 refine zhB 14 ?_
 refine zzK 2 (fun K hK=>?_)
 go_simp
 refine (k5.out _ (by assumption)).mono ?_; rintro e wr ⟨rfl,rfl⟩
 (try go_wp2_with fail)
 refine hK.out _ _ (by assumption) (fun hHeld=>?_)
 clear hK K
 try simp only [zP]
 refine zzK 4 (fun K hK=>?_)
 go_simp
 refine (kD.out _ (by assumption)).mono ?_; rintro e wr ⟨rfl,hS⟩
 (try go_wp2_with fail)
 refine hK.out _ _ (by assumption) (fun hHeld=>?_)
 clear hK K
 try simp only [zP]
 refine zzK 6 (fun K hK=>?_)
 go_simp
 refine (kW.out _ (by assumption)).mono ?_; rintro e wr ⟨rfl,hS⟩
 (try go_wp2_with fail)
 refine hK.out _ _ (by assumption) (fun hHeld=>?_)
 clear hK K
 try simp only [zP]
 refine zzK 9 (fun K hK=>?_)
 go_simp
 refine (k8.out _ (by assumption)).mono ?_; rintro e wr ⟨rfl,rfl⟩
 (try go_wp2_with fail)
 refine hK.out _ _ (by assumption) (fun hHeld=>?_)
 clear hK K
 try simp only [zP]
 refine zzK 12 (fun K hK=>?_)
 go_simp
 refine (k9.out _ (by assumption)).mono ?_; rintro e wr ⟨rfl,rfl⟩
 (try go_wp2_with fail)
 refine hK.out _ _ (by assumption) (fun hHeld=>?_)
 clear hK K
 try simp only [zP]
 refine zzK 15 (fun K hK=>?_)
 go_simp
 refine (kx.out _ (by assumption)).mono ?_; rintro e wr ⟨rfl,rfl⟩
 (try go_wp2_with fail)
 refine hK.out _ _ (by assumption) (fun hHeld=>?_)
 clear hK K
 try simp only [zP]
 refine zzK 16 (fun K hK=>?_)
 go_simp
 refine hK.out _ _ (RcS.keep (by assumption) (yaa (o:= .cells #[.int .i64 E1, .int .i64 E2, .int .i64 E3, .int .i64 E4, .int .i64 E5, .int .i64 E6] 3) (Below.refl wr.heap.size wr) (zG _))) (fun hHeld=>?_)
 clear hK K
 try simp only [zP]
 refine zhB 17 ?_
 refine wpAnyH_done (by kernel_rfl) ?_ _
 have hsl:=hid (ybZ (yau wr (ints [E1,E2,E3,E4,E5,E6]) 3) (by simp))
 have HC:Hid (RcS w r (wr.alloc (.cells (ints [E1,E2,E3,E4,E5,E6]).toArray 3))):=by show RcS w r _; assumption
 have hfz:Hid (V=yah [E1,E2,E3,E4,E5,E6]):=by show _ = _; rw [←HV.out,←HE.out]; rfl
 obtain ⟨L,hL⟩:∃L,[E1,E2,E3,E4,E5,E6]=L:=⟨_,rfl⟩
 have hL6:L.length=6:=by rw [←hL]; rfl
 have HLc:Hid ((Obj.cells #[.int .i64 E1, .int .i64 E2, .int .i64 E3, .int .i64 E4, .int .i64 E5, .int .i64 E6] 3)= .cells (ints L).toArray 3):=by rw [←hL]; rfl
 rw [hL] at hsl HC hfz
 rw [HLc.out]
 obtain ⟨b,hb⟩:∃b,wr.heap.size=b:=⟨_,rfl⟩
 obtain ⟨W1,hW1⟩:∃W1,wr.alloc (.cells (ints L).toArray 3)=W1:=⟨_,rfl⟩
 rw [hb] at hsl⊢
 rw [hW1] at hsl HC⊢
 clear hb hW1 hL HLc HV HE
 go_wp2_with fail
 go_loopw [4] (fun i wr=>∃k:Nat,i= .int .i64 k∧k≤6∧Hid (V=yah (L.drop k))∧wr=W1) (fun i _=>6 - (intOf i).toNat)
 case atStart=>exact ⟨0,rfl,by omega,hfz,by trivial⟩
 case round=>
  obtain ⟨k,rfl,hk,hI,rfl⟩:=hrel
  by_cases hlt:k < 6
  ·have hltL:k < L.length:=by omega
   obtain ⟨b',off',hbb,hb',hc⟩:=hsl.out.atInt hltL
   cases hbb
   have e1:=hc k hltL
   have hdr:=hid (yet hltL)
   obtain ⟨y,hy⟩:∃y,L[k]=y:=⟨_,rfl⟩
   rw [hy] at e1 hdr
   rw [zzn] at e1
   have hlt6:(k:Int) < 6:=by omega
   clear hc hy
   by_cases hz:y=0
   ·have hb2:(y != 0)=false:=by simp [hz]
    have hf:Hid (V=yah (L.drop (k+1))):=by show _ = _; rw [hI.out,hdr.out,if_pos hz]
    clear hz hL6 hltL
    go_wp2
    exact ⟨⟨k+1,by go_num,by omega,hf,by trivial⟩,by simp [intOf]; omega⟩
   ·have hb2:(y != 0)=true:=by simp [hz]
    have hf:Hid (V=y):=by show _ = _; rw [hI.out,hdr.out,if_neg hz]
    clear hz hL6 hltL
    go_wp2
    go_ret
    exact ⟨by rw [hf.out]; rfl,HC.out.2.2.2.1⟩
  ·obtain rfl:k=6:=by omega
   have hf:Hid (V=0):=by show _ = _; rw [hI.out,List.drop_of_length_le (by omega)]; rfl
   clear hL6
   go_wp2
   go_ret
   exact ⟨by rw [hf.out]; rfl,HC.out.2.2.2.1⟩
end
section
open Go.RowKit
structure Ru.Num (r:Ru):Prop where
 st:i64B r.st
 fq:i64B r.fq
 iv:i64B r.iv
 co:i64B r.co
 un:i64B r.un
abbrev RuC (W:World) (b:Nat) (r:Ru):Prop:=
 (W.cell? ⟨b,0,none⟩=some (.int .i64 r.st)∧W.cell? ⟨b,1,none⟩=some (.int .i64 r.fq)∧W.cell? ⟨b,2,none⟩=some (.int .i64 r.iv)∧W.cell? ⟨b,3,none⟩=some (.int .i64 r.co)∧W.cell? ⟨b,4,none⟩=some (.int .i64 r.un))∧
   W.cell? ⟨b,5,none⟩=some (.slice r.a5 r.l5.length r.c5)∧W.cell? ⟨b,6,none⟩=some (.slice r.a6 r.l6.length r.c6)∧W.cell? ⟨b,7,none⟩=some (.slice r.a7 r.l7.length r.c7)∧
   W.cell? ⟨b,8,none⟩=some (.slice r.a8 r.l8.length r.c8)∧W.cell? ⟨b,9,none⟩=some (.slice r.a9 r.l9.length r.c9)∧W.cell? ⟨b,10,none⟩=some (.slice r.ax r.lx.length r.cx)
structure SaF (w:World) (r s:Ru) (W:World):Prop where
 r1:RuB W w.heap.size r
 r2:RuB W (w.heap.size+1) s
 s1:RuS W r
 s2:RuS W s
 be:Below w.heap.size w W
 l:w.heap.size+1 < W.heap.size
abbrev SaS (w:World) (r s:Ru) (W:World):Prop:=(RuC W w.heap.size r∧RuC W (w.heap.size+1) s)∧SaF w r s W
theorem SaF.sas {w W:World} {r s:Ru} (h:SaF w r s W):SaS w r s W:=⟨⟨h.r1.all,h.r2.all⟩,h⟩
theorem SaF.keep {w W W':World} {r s:Ru} (h:SaF w r s W) (hb:Below W.heap.size W W'):SaF w r s W':=
 ⟨h.r1.below hb (by have:=h.l; omega),h.r2.below hb h.l,h.s1.below hb,h.s2.below hb,h.be.trans (hb.mono (by have:=h.l; omega)),zH h.l hb.size⟩
theorem SaS.keep {w W W':World} {r s:Ru} (h:SaS w r s W) (hb:Below W.heap.size W W'):SaS w r s W':=(h.2.keep hb).sas
end
section
open Go.RowKit
abbrev stpL (y mo d h m s:Int):List Value:= [.int .i64 y, .int .i64 mo, .int .i64 d, .int .i64 h, .int .i64 m, .int .i64 s]
abbrev stpv (y mo d h m s:Int):Value:= .agg (stpL y mo d h m s).toArray
theorem ygo:(Tryz.prog.info? 66).map (·.size)=some 6:=by kernel_rfl
theorem six_put {W:World} {b:Nat} (h:W.there b 0 6) (v0 v1 v2 v3 v4 v5:Value) :
  ((((((W.setCell ⟨b,0,none⟩ v0).setCell ⟨b,1,none⟩ v1).setCell ⟨b,2,none⟩ v2).setCell ⟨b,3,none⟩ v3).setCell ⟨b,4,none⟩ v4).setCell ⟨b,5,none⟩ v5).rangeAt b 0 [v0,v1,v2,v3,v4,v5]:=
 World.rangeAt_setCells_same W b 0 [v0,v1,v2,v3,v4,v5] h
abbrev Six (W:World) (b:Nat) (v0 v1 v2 v3 v4 v5:Value):Prop:=
 (W.cell? ⟨b,0,none⟩=some v0∧W.cell? ⟨b,1,none⟩=some v1∧W.cell? ⟨b,2,none⟩=some v2∧W.cell? ⟨b,3,none⟩=some v3∧W.cell? ⟨b,4,none⟩=some v4∧W.cell? ⟨b,5,none⟩=some v5)∧
 (W.frozen? ⟨b,0,none⟩=false∧W.frozen? ⟨b,1,none⟩=false∧W.frozen? ⟨b,2,none⟩=false∧W.frozen? ⟨b,3,none⟩=false∧W.frozen? ⟨b,4,none⟩=false∧W.frozen? ⟨b,5,none⟩=false)
theorem Six.below {W W':World} {b B:Nat} {v0 v1 v2 v3 v4 v5:Value} (h:Six W b v0 v1 v2 v3 v4 v5) (hb:Below B W W') (hB:b < B):Six W' b v0 v1 v2 v3 v4 v5:=by
 obtain ⟨⟨a0,a1,a2,a3,a4,a5⟩,f0,f1,f2,f3,f4,f5⟩:=h
 exact ⟨⟨(hb.cell (p:=⟨b,0,none⟩) hB).trans a0,(hb.cell (p:=⟨b,1,none⟩) hB).trans a1,(hb.cell (p:=⟨b,2,none⟩) hB).trans a2,(hb.cell (p:=⟨b,3,none⟩) hB).trans a3,(hb.cell (p:=⟨b,4,none⟩) hB).trans a4,(hb.cell (p:=⟨b,5,none⟩) hB).trans a5⟩,
  (hb.frozen (p:=⟨b,0,none⟩) hB).trans f0,(hb.frozen (p:=⟨b,1,none⟩) hB).trans f1,(hb.frozen (p:=⟨b,2,none⟩) hB).trans f2,(hb.frozen (p:=⟨b,3,none⟩) hB).trans f3,(hb.frozen (p:=⟨b,4,none⟩) hB).trans f4,(hb.frozen (p:=⟨b,5,none⟩) hB).trans f5⟩
theorem ya3 (w:World) (v0 v1 v2 v3 v4 v5:Value) (t:TypeId):Six (w.alloc (.cells #[v0,v1,v2,v3,v4,v5] t)) w.heap.size v0 v1 v2 v3 v4 v5:=by
 refine ⟨⟨?_,?_,?_,?_,?_,?_⟩,?_,?_,?_,?_,?_,?_⟩ <;> simp [go_sem]
theorem Six.there {W:World} {b:Nat} {v0 v1 v2 v3 v4 v5:Value} (h:Six W b v0 v1 v2 v3 v4 v5):W.there b 0 6:=fun j hj=>by
 obtain ⟨⟨a0,a1,a2,a3,a4,a5⟩,f0,f1,f2,f3,f4,f5⟩:=h
 have hj6:j=0∨j=1∨j=2∨j=3∨j=4∨j=5:=by omega
 rw [zzn]
 rcases hj6 with rfl | rfl | rfl | rfl | rfl | rfl
 ·exact ⟨by rw [a0]; rfl,f0⟩
 ·exact ⟨by rw [a1]; rfl,f1⟩
 ·exact ⟨by rw [a2]; rfl,f2⟩
 ·exact ⟨by rw [a3]; rfl,f3⟩
 ·exact ⟨by rw [a4]; rfl,f4⟩
 ·exact ⟨by rw [a5]; rfl,f5⟩
def ydC (t:Int):Value:=if winB t=true then stpv (fY (t / 86400)) (fMo (t / 86400)) (fD (t / 86400)) (t % 86400 / 3600) (t % 86400 / 60 % 60) (t % 86400 % 60) else stpv 0 0 0 0 0 0
theorem Stamp_any (t:Int) (w:World):Calls Tryz.prog 117 #[.int .i64 t] w fun e w'=>e= .returned (.tuple #[ydC t, .bool (winB t)])∧Below w.heap.size w w':=by
 have HX:=hid (ya3 w (.int .i64 0) (.int .i64 0) (.int .i64 0) (.int .i64 0) (.int .i64 0) (.int .i64 0) 66)
 have HB0:Hid (Below w.heap.size w (w.alloc (.cells #[.int .i64 0, .int .i64 0, .int .i64 0, .int .i64 0, .int .i64 0, .int .i64 0] 66))):=yaa (Below.refl _ _) (zG _)
 have Hs0:Hid (w.heap.size < (w.alloc (.cells #[.int .i64 0, .int .i64 0, .int .i64 0, .int .i64 0, .int .i64 0, .int .i64 0] 66)).heap.size):=by show _ < _; simp
 rw [ydC]
 rcases ya4 t with ⟨hw,h0,h1⟩ | ⟨hw,h⟩
 ·rw [hw,if_pos rfl]
  have cS:=hid (fun W=>ybq t W h0 h1)
  have cD:=hid (fun W=>yfw (t / 86400) W (by omega) (by omega))
  have cP:=hid (fun W=>ycS (t % 86400) W (by omega) (by omega))
  obtain ⟨n,hn⟩:∃n,t / 86400=n:=⟨_,rfl⟩
  obtain ⟨k,hk⟩:∃k,t % 86400=k:=⟨_,rfl⟩
  rw [hn] at cS cD⊢
  rw [hk] at cS cP⊢
  obtain ⟨y,hy⟩:∃y,fY n=y:=⟨_,rfl⟩
  obtain ⟨m,hm⟩:∃y,fMo n=y:=⟨_,rfl⟩
  obtain ⟨d,hd⟩:∃y,fD n=y:=⟨_,rfl⟩
  rw [hy,hm,hd] at cD⊢
  obtain ⟨p1,h1'⟩:∃p,k / 3600=p:=⟨_,rfl⟩
  obtain ⟨p2,h2'⟩:∃p,k / 60 % 60=p:=⟨_,rfl⟩
  obtain ⟨p3,h3'⟩:∃p,k % 60=p:=⟨_,rfl⟩
  rw [h1',h2',h3'] at cP⊢
  clear hw h0 h1 hn hk hy hm hd h1' h2' h3'
  go_enter Tryz.func117,Tryz.ntmps117
  go_wp2_with fail
  refine (cS.out _).mono ?_
  rintro e w1 ⟨rfl,rfl⟩
  go_wp2_with fail
  refine (cD.out _).mono ?_
  rintro e w1 ⟨rfl,hB1⟩
  have HX1:=hid (HX.out.below hB1 Hs0.out)
  have HB1:=hid (HB0.out.trans (hB1.mono (Nat.le_of_lt Hs0.out)))
  obtain ⟨⟨a0,a1,a2,a3,a4,a5⟩,f0,f1,f2,f3,f4,f5⟩:=HX1.out
  clear hB1
  go_wp2_with fail
  refine (cP.out _).mono ?_
  rintro e w2 ⟨rfl,rfl⟩
  go_wp2
  exact bodyPost_ret (yaD rfl _ _ w.heap.size 0 _ _ rfl (six_put HX1.out.there _ _ _ _ _ _) Tryz.underlying66 rfl ygo) rfl ⟨rfl,yab (yab (yab (yab (yab (yab HB1.out (zG _)) (zG _)) (zG _)) (zG _)) (zG _)) (zG _)⟩
 ·rw [hw,if_neg (by simp)]
  have cS:=hid (fun W=>yeH t W hw)
  clear hw h
  go_enter Tryz.func117,Tryz.ntmps117
  go_wp2_with fail
  refine (cS.out _).mono ?_
  rintro e w1 ⟨rfl,rfl⟩
  go_wp2
  exact bodyPost_ret (yaD rfl _ _ w.heap.size 0 _ _ rfl (yau w _ _) Tryz.underlying66 rfl ygo) rfl ⟨rfl,HB0.out⟩
end
end Go.Proofs.YtjahgimnfliooaaGreatDoor
