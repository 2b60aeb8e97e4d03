/-
  rule.Days, of a rule that may be.
-/
import Derived.Test.YtjahgimnfliooaaGreatDoorQ0deb77
import Derived.Test.YtjahgimnfliooaaGreatDoorQ4a6ba8
import Derived.Test.YtjahgimnfliooaaGreatDoorQaeb5bd
set_option maxRecDepth 100000
set_option maxHeartbeats 25600000
namespace Go.Proofs.YtjahgimnfliooaaGreatDoor
open Go.RowKit
set_option linter.unusedVariables false
attribute [local go_sem ↓] yaK
attribute [local go_sem] yaA
theorem negM_snoc (l:List Int) (x:Int):negM (l ++ [x])=negM l ||| ofM [-x]:=by rw [negM,List.foldl_append]; rfl
theorem yh5 (l:List Int):negM l < 18446744073709551616:=ygv _ (fun m x h=>Nat.or_lt_two_pow (n:=64) h (yaP _)) l 0 (by omega)
theorem yjg {r:Ru} (hc:yaf r=0) (h:r.l6.headD 0 < 0):domV r=fullCl.m 4∧endV r=negM r.l6:=by rw [domV,endV,if_pos hc,if_pos hc,if_pos h,if_pos h]; exact ⟨rfl,rfl⟩
theorem yhn {r:Ru} (hc:yaf r=0) (h:¬r.l6.headD 0 < 0) (h2:0 < r.l6.length):domV r=ofM r.l6∧endV r=fullCl.m 5:=by rw [domV,endV,if_pos hc,if_pos hc,if_neg h,if_neg h,if_pos h2]; exact ⟨rfl,rfl⟩
theorem yjh {r:Ru} (hc:yaf r=0) (h:r.l6= []) (h2:r.l7.length=0∧(r.fq=5∨r.fq=6)):domV r=ofM [fD (r.st / 86400)]∧endV r=fullCl.m 5:=by rw [domV,endV,if_pos hc,if_pos hc,h,if_neg (by decide:¬([]:List Int).headD 0 < 0),if_neg (by decide:¬([]:List Int).headD 0 < 0),if_neg (by decide:¬0 < ([]:List Int).length),if_pos h2]; exact ⟨rfl,rfl⟩
theorem yhm {r:Ru} (hc:yaf r=0) (h:r.l6= []) (h2:¬(r.l7.length=0∧(r.fq=5∨r.fq=6))):domV r=fullCl.m 4∧endV r=fullCl.m 5:=by rw [domV,endV,if_pos hc,if_pos hc,h,if_neg (by decide:¬([]:List Int).headD 0 < 0),if_neg (by decide:¬([]:List Int).headD 0 < 0),if_neg (by decide:¬0 < ([]:List Int).length),if_neg h2]; exact ⟨rfl,rfl⟩
theorem DaysV_neg (r:Ru) (w:World) (hr:RuS w r) (hm:r.Sm 1000000) (hc:yaf r=0) (hn:r.l6.headD 0 < 0):Calls Tryz.prog 24 #[ruv r] w fun e w'=>e= .returned (.tuple #[.int .u64 (domV r:Nat), .int .u64 (endV r:Nat)])∧Below w.heap.size w w':=by
 rw [(yjg hc hn).1,(yjg hc hn).2]
 have hlen:0 < r.l6.length:=by
  cases hl:r.l6 with
  | nil=>rw [hl] at hn; exact absurd hn (by decide)
  | cons a l=>simp
 have hlI0:(0:Int) < r.l6.length:=by omega
 have HD:=hid (yea (yaw hc).e6).1.2
 have hlI:(r.l6.length:Int)≤64:=by have:=(yea (yaw hc).e6).1.1; omega
 have Hs:=hid hr.s6
 have hB0:Below w.heap.size w (w.alloc (.cells (yai r).toArray 25)):=yaa (Below.refl _ _) (zG _)
 have cB:=hid (ybe r _ (hr.below hB0) hm)
 have HB0:=hid hB0
 have HRB:=hid (yaJ w r 25)
 have HR:=hid hr
 have hb:(yaf r == 0)=true:=by simpa using hc
 rw [hb,ya1 (ybo (yaw hc).h).1] at cB
 obtain ⟨y,hy⟩:∃y,fY (r.st / 86400)=y:=⟨_,rfl⟩
 obtain ⟨mo,hmo⟩:∃y,fMo (r.st / 86400)=y:=⟨_,rfl⟩
 obtain ⟨d,hd⟩:∃y,fD (r.st / 86400)=y:=⟨_,rfl⟩
 obtain ⟨h,hh⟩:∃y,r.st % 86400 / 3600=y:=⟨_,rfl⟩
 obtain ⟨m,hmm⟩:∃y,r.st % 86400 / 60 % 60=y:=⟨_,rfl⟩
 obtain ⟨s,hss⟩:∃y,r.st % 86400 % 60=y:=⟨_,rfl⟩
 rw [hy,hmo,hd,hh,hmm,hss] at cB
 have cF:=hid (fun W=>ybr W)
 obtain ⟨F,hF⟩:∃F,fullCl=F:=⟨_,rfl⟩
 rw [hF] at cF⊢
 obtain ⟨b,off,ha6,hb6,hc6⟩:=hr.s6.atInt hlen
 have hx0:=hc6 0 hlen
 rw [Nat.add_zero] at hx0
 have hxe:r.l6[0]=r.l6.headD 0:=by
  obtain ⟨l,hl0⟩:∃l,r.l6=l:=⟨_,rfl⟩
  simp only [hl0]
  cases l with
  | nil=>rw [hl0] at hlen; cases hlen
  | cons a l=>rfl
 rw [hxe] at hx0
 obtain ⟨x0,hx⟩:∃x0,r.l6.headD 0=x0:=⟨_,rfl⟩
 rw [hx] at hx0 hn
 have Hx0:=hid hx0
 have Ha6:=hid ha6
 have Hb6:=hid hb6
 clear hx hxe ha6 hx0 hc6 hb6
 clear hc hb hr hm hB0 hy hmo hd hh hmm hss hF
 go_enter Tryz.func24,Tryz.ntmps24
 go_wp2_with fail
 refine cB.out.mono ?_
 rintro e w1 ⟨rfl,hB1⟩
 have hz1:=hB1.size
 rw [zzN] at hz1
 have hn:=yaa (o:= .cells #[.int .i64 y, .int .i64 mo, .int .i64 d, .int .i64 h, .int .i64 m, .int .i64 s] 66) (Below.refl w1.heap.size w1) (zG _)
 have HB1:=hid ((HB0.out.trans (hB1.mono (by rw [zzN]; omega))).trans (hn.mono (by omega)))
 have HR1:=hid ((HRB.out.below hB1 (by rw [zzN]; omega)).below hn (by omega))
 have HX1:=hid (ya3 w1 (.int .i64 y) (.int .i64 mo) (.int .i64 d) (.int .i64 h) (.int .i64 m) (.int .i64 s) 66)
 have Hz1:Hid (w.heap.size < w1.heap.size):=by show _ < _; omega
 clear hB1 hn hz1 HRB HB0
 go_wp2_with fail
 refine (cF.out _).mono ?_
 rintro e w2 ⟨rfl,hB2⟩
 have hz2:=hB2.size
 rw [zzN] at hz2
 have hth:(w2.alloc (.cells zL.toArray 34)).there w2.heap.size 0 30:=yat w2 zL.toArray 34
 have hB3:Below w2.heap.size w2 (yas (w2.alloc (.cells zL.toArray 34)) w2.heap.size (yac F)):=yaj (yaa (Below.refl _ _) (zG _)) (zG _) _
 have hsz:(yas (w2.alloc (.cells zL.toArray 34)) w2.heap.size (yac F)).heap.size=w2.heap.size+1:=by rw [ycs,zzN]
 have HF0:Hid (TmF w r w1.heap.size w2.heap.size y mo d h m s F (yas (w2.alloc (.cells zL.toArray 34)) w2.heap.size (yac F))):=by
  have h1:=Hz1.out
  exact ⟨(HR1.out.below hB2 (by rw [zzN]; omega)).below hB3 (by omega),(HX1.out.below hB2 (by rw [zzN]; omega)).below hB3 (by omega),yak _ rfl hth,(HB1.out.trans (hB2.mono (by rw [zzN]; omega))).trans (hB3.mono (by omega)),by rw [hsz]; omega,by rw [hsz]; omega,by rw [hsz]; omega⟩
 have HV0:=hid HF0.out.dvs
 clear hB2 hB3 hsz hz2
 obtain ⟨⟨⟨k0,k1,k2,k3,k4⟩,k5,k6,k7,k8,k9,kx⟩,⟨⟨s0,s1,s2,s3,s4,s5⟩,-⟩,⟨f4,f5⟩,-⟩:=HV0.out
 rw [Ha6.out] at k6
 have hx0:=(HF0.out.be.cell (p:=⟨b,off,none⟩) Hb6.out).trans Hx0.out
 go_upto_region 6 with fail
 go_wp2_with fail
 go_loopw [3,32] (fun v i wr=>∃k:Nat,i= .int .i64 k∧k≤r.l6.length∧v= .int .u64 (negM (r.l6.take k):Nat)∧Hid (DvS w r w1.heap.size w2.heap.size y mo d h m s F wr)) (fun _ i _=>r.l6.length - (intOf i).toNat)
 case atStart=>exact ⟨0,rfl,by omega,rfl,HV0⟩
 case round=>
  obtain ⟨k,rfl,hk,rfl,HL⟩:=hrel
  clear k0 k1 k2 k3 k4 k5 k6 k7 k8 k9 kx s0 s1 s2 s3 s4 s5 f4 f5 hx0
  by_cases hlt:k < r.l6.length
  ·obtain ⟨b',o6,ha,hb,hc⟩:=Hs.out.atInt hlt
   have e1:=(HL.out.2.2.2.be.cell (p:=⟨b',o6+k,none⟩) hb).trans (hc k hlt)
   have he:=Ha6.out.symm.trans ha
   simp only [Option.some.injEq,Addr.mk.injEq,and_true] at he
   obtain ⟨rfl,rfl⟩:=he
   have ht:=hid (yam r.l6 k hlt)
   have hday:=HD.out _ (zzr hlt)
   obtain ⟨x,hx⟩:∃q,r.l6[k]=q:=⟨_,rfl⟩
   rw [hx] at e1 ht hday
   obtain ⟨⟨d0,d1⟩,-⟩:=hday
   have hM:=ybI (yh5 (r.l6.take k)) (yaP (inB [-x]))
   rw [show mk (inB [-x])=ofM [-x] from rfl,←show negM (r.l6.take (k+1))=negM (r.l6.take k) ||| ofM [-x] by rw [ht.out,negM_snoc]] at hM
   have cO:=hid (ycw (-x) wr 3)
   clear hc hx ha hb
   go_wp2_with fail
   refine cO.out.mono ?_
   rintro e w4 ⟨rfl,hB4⟩
   have HL4:=hid (HL.out.keep hB4)
   clear hB4 e1
   go_wp2
   exact ⟨⟨k+1,by go_num,by omega,rfl,HL4⟩,by simp [intOf]; omega⟩
  ·have hke:r.l6.take k=r.l6:=List.take_of_length_le (by omega)
   rw [hke]
   clear hke
   obtain ⟨f4,f5⟩:=HL.out.2.2.1
   go_wp2
   go_ret2
   exact ⟨rfl,HL.out.2.2.2.be⟩
theorem ykH (r:Ru) (w:World) (hr:RuS w r) (hm:r.Sm 1000000) (hc:yaf r=0) (hn:¬r.l6.headD 0 < 0) (hl:0 < r.l6.length):Calls Tryz.prog 24 #[ruv r] w fun e w'=>e= .returned (.tuple #[.int .u64 (domV r:Nat), .int .u64 (endV r:Nat)])∧Below w.heap.size w w':=by
 rw [(yhn hc hn hl).1,(yhn hc hn hl).2]
 have hlI0:(0:Int) < r.l6.length:=by omega
 have hB0:Below w.heap.size w (w.alloc (.cells (yai r).toArray 25)):=yaa (Below.refl _ _) (zG _)
 have cB:=hid (ybe r _ (hr.below hB0) hm)
 have HB0:=hid hB0
 have HRB:=hid (yaJ w r 25)
 have HR:=hid hr
 have hb:(yaf r == 0)=true:=by simpa using hc
 rw [hb,ya1 (ybo (yaw hc).h).1] at cB
 obtain ⟨y,hy⟩:∃y,fY (r.st / 86400)=y:=⟨_,rfl⟩
 obtain ⟨mo,hmo⟩:∃y,fMo (r.st / 86400)=y:=⟨_,rfl⟩
 obtain ⟨d,hd⟩:∃y,fD (r.st / 86400)=y:=⟨_,rfl⟩
 obtain ⟨h,hh⟩:∃y,r.st % 86400 / 3600=y:=⟨_,rfl⟩
 obtain ⟨m,hmm⟩:∃y,r.st % 86400 / 60 % 60=y:=⟨_,rfl⟩
 obtain ⟨s,hss⟩:∃y,r.st % 86400 % 60=y:=⟨_,rfl⟩
 rw [hy,hmo,hd,hh,hmm,hss] at cB
 have cF:=hid (fun W=>ybr W)
 obtain ⟨F,hF⟩:∃F,fullCl=F:=⟨_,rfl⟩
 rw [hF] at cF⊢
 obtain ⟨b,off,ha6,hb6,hc6⟩:=hr.s6.atInt hl
 have hx0:=hc6 0 hl
 rw [Nat.add_zero] at hx0
 have hxe:r.l6[0]=r.l6.headD 0:=by
  obtain ⟨l,hl0⟩:∃l,r.l6=l:=⟨_,rfl⟩
  simp only [hl0]
  cases l with
  | nil=>rw [hl0] at hl; cases hl
  | cons a l=>rfl
 rw [hxe] at hx0
 obtain ⟨x0,hx⟩:∃x0,r.l6.headD 0=x0:=⟨_,rfl⟩
 rw [hx] at hx0 hn
 have cM:=hid (fun b5 b8 W (k:DvS w r b5 b8 y mo d h m s F W)=>yax (yei r.a6 r.c6 r.l6 W (by have:=hm.n6; omega) (hr.below k.2.2.2.be).s6) (fun _=>k.keep))
 obtain ⟨M,hM⟩:∃M,ofM r.l6=M:=⟨_,rfl⟩
 rw [hM] at cM⊢
 rw [ha6] at cM
 have Hx0:=hid hx0
 have Ha6:=hid ha6
 have Hb6:=hid hb6
 have hnd:decide (x0 < 0)=false:=zzd hn
 clear hx hxe ha6 hx0 hc6 hb6 hM hn
 clear hc hb hr hm hB0 hy hmo hd hh hmm hss hF
 go_enter Tryz.func24,Tryz.ntmps24
 go_wp2_with fail
 refine cB.out.mono ?_
 rintro e w1 ⟨rfl,hB1⟩
 have hz1:=hB1.size
 rw [zzN] at hz1
 have hn:=yaa (o:= .cells #[.int .i64 y, .int .i64 mo, .int .i64 d, .int .i64 h, .int .i64 m, .int .i64 s] 66) (Below.refl w1.heap.size w1) (zG _)
 have HB1:=hid ((HB0.out.trans (hB1.mono (by rw [zzN]; omega))).trans (hn.mono (by omega)))
 have HR1:=hid ((HRB.out.below hB1 (by rw [zzN]; omega)).below hn (by omega))
 have HX1:=hid (ya3 w1 (.int .i64 y) (.int .i64 mo) (.int .i64 d) (.int .i64 h) (.int .i64 m) (.int .i64 s) 66)
 have Hz1:Hid (w.heap.size < w1.heap.size):=by show _ < _; omega
 clear hB1 hn hz1 HRB HB0
 go_wp2_with fail
 refine (cF.out _).mono ?_
 rintro e w2 ⟨rfl,hB2⟩
 have hz2:=hB2.size
 rw [zzN] at hz2
 have hth:(w2.alloc (.cells zL.toArray 34)).there w2.heap.size 0 30:=yat w2 zL.toArray 34
 have hB3:Below w2.heap.size w2 (yas (w2.alloc (.cells zL.toArray 34)) w2.heap.size (yac F)):=yaj (yaa (Below.refl _ _) (zG _)) (zG _) _
 have hsz:(yas (w2.alloc (.cells zL.toArray 34)) w2.heap.size (yac F)).heap.size=w2.heap.size+1:=by rw [ycs,zzN]
 have HF0:Hid (TmF w r w1.heap.size w2.heap.size y mo d h m s F (yas (w2.alloc (.cells zL.toArray 34)) w2.heap.size (yac F))):=by
  have h1:=Hz1.out
  exact ⟨(HR1.out.below hB2 (by rw [zzN]; omega)).below hB3 (by omega),(HX1.out.below hB2 (by rw [zzN]; omega)).below hB3 (by omega),yak _ rfl hth,(HB1.out.trans (hB2.mono (by rw [zzN]; omega))).trans (hB3.mono (by omega)),by rw [hsz]; omega,by rw [hsz]; omega,by rw [hsz]; omega⟩
 have HV0:=hid HF0.out.dvs
 clear hB2 hB3 hsz hz2
 obtain ⟨⟨⟨k0,k1,k2,k3,k4⟩,k5,k6,k7,k8,k9,kx⟩,⟨⟨s0,s1,s2,s3,s4,s5⟩,-⟩,⟨f4,f5⟩,-⟩:=HV0.out
 rw [Ha6.out] at k6
 have hx0:=(HF0.out.be.cell (p:=⟨b,off,none⟩) Hb6.out).trans Hx0.out
 have HS0:Hid (DvS w r w1.heap.size w2.heap.size y mo d h m s F (yas (w2.alloc (.cells zL.toArray 34)) w2.heap.size (yac F)).drew):=HV0.out.keep (Below.refl _ _).drew
 go_upto_region 13 with fail
 refine wp_region_held_drew (S:=fun w'=>DvS w r w1.heap.size w2.heap.size y mo d h m s F w') (by kernel_rfl) HS0.out (fun hHeld=>?_)
 have hA:=Ha6.out
 refine zhB 0 ?_
 refine zT 1 (v:=?_) ?_ ?_
 rotate_left
 ·intro w hSw; (try dsimp only [RMS] at hSw); go_simp; (try rw [hA]); (try with_reducible rfl)
 try simp only [zP]
 refine zhB 3 ?_
 refine zhB 4 ?_
 refine zzK 2 (fun K hK=>?_)
 go_simp
 refine (cM.out _ _ _ (by assumption)).mono ?_; rintro e wr ⟨rfl,hS⟩
 (try go_wp2_with fail)
 refine hK.out _ _ (by assumption) (fun hHeld=>?_)
 clear hK K
 try simp only [zP]
 refine zhB 5 ?_
 refine zhB 6 ?_
 refine wpAnyH_done (by kernel_rfl) ?_ _
 have HV:=hid ‹DvS w r w1.heap.size w2.heap.size y mo d h m s F _›
 go_wp2
 go_ret2
 exact ⟨rfl,HV.out.2.2.2.be⟩
theorem DaysV_one (r:Ru) (w:World) (hr:RuS w r) (hm:r.Sm 1000000) (hc:yaf r=0) (hl:r.l6= []) (h7:r.l7.length=0) (hf:r.fq=5∨r.fq=6):Calls Tryz.prog 24 #[ruv r] w fun e w'=>e= .returned (.tuple #[.int .u64 (domV r:Nat), .int .u64 (endV r:Nat)])∧Below w.heap.size w w':=by
 rw [(yjh hc hl ⟨h7,hf⟩).1,(yjh hc hl ⟨h7,hf⟩).2]
 have hB0:Below w.heap.size w (w.alloc (.cells (yai r).toArray 25)):=yaa (Below.refl _ _) (zG _)
 have cB:=hid (ybe r _ (hr.below hB0) hm)
 have HB0:=hid hB0
 have HRB:=hid (yaJ w r 25)
 have HR:=hid hr
 have hb:(yaf r == 0)=true:=by simpa using hc
 rw [hb,ya1 (ybo (yaw hc).h).1] at cB
 obtain ⟨y,hy⟩:∃y,fY (r.st / 86400)=y:=⟨_,rfl⟩
 obtain ⟨mo,hmo⟩:∃y,fMo (r.st / 86400)=y:=⟨_,rfl⟩
 obtain ⟨d,hd⟩:∃y,fD (r.st / 86400)=y:=⟨_,rfl⟩
 obtain ⟨h,hh⟩:∃y,r.st % 86400 / 3600=y:=⟨_,rfl⟩
 obtain ⟨m,hmm⟩:∃y,r.st % 86400 / 60 % 60=y:=⟨_,rfl⟩
 obtain ⟨s,hss⟩:∃y,r.st % 86400 % 60=y:=⟨_,rfl⟩
 rw [hy,hmo,hd,hh,hmm,hss] at cB
 have cF:=hid (fun W=>ybr W)
 obtain ⟨F,hF⟩:∃F,fullCl=F:=⟨_,rfl⟩
 rw [hF] at cF⊢
 rw [hd]
 have cO:=hid (fun W=>ydU d W 3)
 obtain ⟨M,hM⟩:∃M,ofM [d]=M:=⟨_,rfl⟩
 rw [hM] at cO⊢
 have Hl6:Hid (r.l6.length=0):=by show _ = _; rw [hl]; rfl
 have hb7:((r.l7.length:Int) == 0)=true:=by simpa using h7
 clear hl h7 hM
 clear hc hb hr hm hB0 hy hmo hd hh hmm hss hF
 rcases hf with hf | hf
 ·have hb5:(r.fq == 5)=true:=by simpa using hf
  clear hf
  go_enter Tryz.func24,Tryz.ntmps24
  go_wp2_with fail
  refine cB.out.mono ?_
  rintro e w1 ⟨rfl,hB1⟩
  have hz1:=hB1.size
  rw [zzN] at hz1
  have hn:=yaa (o:= .cells #[.int .i64 y, .int .i64 mo, .int .i64 d, .int .i64 h, .int .i64 m, .int .i64 s] 66) (Below.refl w1.heap.size w1) (zG _)
  have HB1:=hid ((HB0.out.trans (hB1.mono (by rw [zzN]; omega))).trans (hn.mono (by omega)))
  have HR1:=hid ((HRB.out.below hB1 (by rw [zzN]; omega)).below hn (by omega))
  have HX1:=hid (ya3 w1 (.int .i64 y) (.int .i64 mo) (.int .i64 d) (.int .i64 h) (.int .i64 m) (.int .i64 s) 66)
  have Hz1:Hid (w.heap.size < w1.heap.size):=by show _ < _; omega
  clear hB1 hn hz1 HRB HB0
  go_wp2_with fail
  refine (cF.out _).mono ?_
  rintro e w2 ⟨rfl,hB2⟩
  have hz2:=hB2.size
  rw [zzN] at hz2
  have hth:(w2.alloc (.cells zL.toArray 34)).there w2.heap.size 0 30:=yat w2 zL.toArray 34
  have hB3:Below w2.heap.size w2 (yas (w2.alloc (.cells zL.toArray 34)) w2.heap.size (yac F)):=yaj (yaa (Below.refl _ _) (zG _)) (zG _) _
  have hsz:(yas (w2.alloc (.cells zL.toArray 34)) w2.heap.size (yac F)).heap.size=w2.heap.size+1:=by rw [ycs,zzN]
  have HF0:Hid (TmF w r w1.heap.size w2.heap.size y mo d h m s F (yas (w2.alloc (.cells zL.toArray 34)) w2.heap.size (yac F))):=by
   have h1:=Hz1.out
   exact ⟨(HR1.out.below hB2 (by rw [zzN]; omega)).below hB3 (by omega),(HX1.out.below hB2 (by rw [zzN]; omega)).below hB3 (by omega),yak _ rfl hth,(HB1.out.trans (hB2.mono (by rw [zzN]; omega))).trans (hB3.mono (by omega)),by rw [hsz]; omega,by rw [hsz]; omega,by rw [hsz]; omega⟩
  have HV0:=hid HF0.out.dvs
  clear hB2 hB3 hsz hz2
  obtain ⟨⟨⟨k0,k1,k2,k3,k4⟩,k5,k6,k7,k8,k9,kx⟩,⟨⟨s0,s1,s2,s3,s4,s5⟩,-⟩,⟨f4,f5⟩,-⟩:=HV0.out
  rw [Hl6.out] at k6
  have HS0:Hid (DvS w r w1.heap.size w2.heap.size y mo d h m s F (yas (w2.alloc (.cells zL.toArray 34)) w2.heap.size (yac F)).drew):=HV0.out.keep (Below.refl _ _).drew
  go_upto_region 15 with fail
  refine wp_region_held_drew (S:=fun w'=>DvS w r w1.heap.size w2.heap.size y mo d h m s F w') (by kernel_rfl) HS0.out (fun hHeld=>?_)
  refine zhB 0 ?_
  refine zhB 1 ?_
  refine zhB 4 ?_
  refine zhB 5 ?_
  have HN0:Hid (DvS w r w1.heap.size w2.heap.size y mo d h m s F ((yas (w2.alloc (.cells zL.toArray 34)) w2.heap.size (yac F)).alloc (.cells #[.int .i64 d] 3)).drew):=(HV0.out.keep (yaa (Below.refl _ _) (zG _))).keep (Below.refl _ _).drew
  refine zzK 2 (fun K hK=>?_)
  go_simp
  refine hK.out _ _ HN0.out (fun hHeld=>?_)
  clear hK K
  try simp only [zP]
  refine zzK 3 (fun K hK=>?_)
  go_simp
  refine (cO.out _).mono ?_; rintro e wr ⟨rfl,hB4⟩
  have HN4:=hid (HV0.out.keep hB4)
  clear hB4
  (try go_wp2_with fail)
  refine hK.out _ _ HN4.out (fun hHeld=>?_)
  clear hK K
  try simp only [zP]
  refine zhB 6 ?_
  refine zhB 7 ?_
  refine wpAnyH_done (by kernel_rfl) ?_ _
  have HV:=hid ‹DvS w r w1.heap.size w2.heap.size y mo d h m s F _›
  go_wp2
  go_ret2
  exact ⟨rfl,HV.out.2.2.2.be⟩
 ·have hb5:(r.fq == 5)=false:=by rw [hf]; rfl
  have hb6:(r.fq == 6)=true:=by simpa using hf
  clear hf
  go_enter Tryz.func24,Tryz.ntmps24
  go_wp2_with fail
  refine cB.out.mono ?_
  rintro e w1 ⟨rfl,hB1⟩
  have hz1:=hB1.size
  rw [zzN] at hz1
  have hn:=yaa (o:= .cells #[.int .i64 y, .int .i64 mo, .int .i64 d, .int .i64 h, .int .i64 m, .int .i64 s] 66) (Below.refl w1.heap.size w1) (zG _)
  have HB1:=hid ((HB0.out.trans (hB1.mono (by rw [zzN]; omega))).trans (hn.mono (by omega)))
  have HR1:=hid ((HRB.out.below hB1 (by rw [zzN]; omega)).below hn (by omega))
  have HX1:=hid (ya3 w1 (.int .i64 y) (.int .i64 mo) (.int .i64 d) (.int .i64 h) (.int .i64 m) (.int .i64 s) 66)
  have Hz1:Hid (w.heap.size < w1.heap.size):=by show _ < _; omega
  clear hB1 hn hz1 HRB HB0
  go_wp2_with fail
  refine (cF.out _).mono ?_
  rintro e w2 ⟨rfl,hB2⟩
  have hz2:=hB2.size
  rw [zzN] at hz2
  have hth:(w2.alloc (.cells zL.toArray 34)).there w2.heap.size 0 30:=yat w2 zL.toArray 34
  have hB3:Below w2.heap.size w2 (yas (w2.alloc (.cells zL.toArray 34)) w2.heap.size (yac F)):=yaj (yaa (Below.refl _ _) (zG _)) (zG _) _
  have hsz:(yas (w2.alloc (.cells zL.toArray 34)) w2.heap.size (yac F)).heap.size=w2.heap.size+1:=by rw [ycs,zzN]
  have HF0:Hid (TmF w r w1.heap.size w2.heap.size y mo d h m s F (yas (w2.alloc (.cells zL.toArray 34)) w2.heap.size (yac F))):=by
   have h1:=Hz1.out
   exact ⟨(HR1.out.below hB2 (by rw [zzN]; omega)).below hB3 (by omega),(HX1.out.below hB2 (by rw [zzN]; omega)).below hB3 (by omega),yak _ rfl hth,(HB1.out.trans (hB2.mono (by rw [zzN]; omega))).trans (hB3.mono (by omega)),by rw [hsz]; omega,by rw [hsz]; omega,by rw [hsz]; omega⟩
  have HV0:=hid HF0.out.dvs
  clear hB2 hB3 hsz hz2
  obtain ⟨⟨⟨k0,k1,k2,k3,k4⟩,k5,k6,k7,k8,k9,kx⟩,⟨⟨s0,s1,s2,s3,s4,s5⟩,-⟩,⟨f4,f5⟩,-⟩:=HV0.out
  rw [Hl6.out] at k6
  have HS0:Hid (DvS w r w1.heap.size w2.heap.size y mo d h m s F (yas (w2.alloc (.cells zL.toArray 34)) w2.heap.size (yac F)).drew):=HV0.out.keep (Below.refl _ _).drew
  go_upto_region 15 with fail
  refine wp_region_held_drew (S:=fun w'=>DvS w r w1.heap.size w2.heap.size y mo d h m s F w') (by kernel_rfl) HS0.out (fun hHeld=>?_)
  refine zhB 0 ?_
  refine zhB 1 ?_
  refine zhB 4 ?_
  refine zhB 5 ?_
  have HN0:Hid (DvS w r w1.heap.size w2.heap.size y mo d h m s F ((yas (w2.alloc (.cells zL.toArray 34)) w2.heap.size (yac F)).alloc (.cells #[.int .i64 d] 3)).drew):=(HV0.out.keep (yaa (Below.refl _ _) (zG _))).keep (Below.refl _ _).drew
  refine zzK 2 (fun K hK=>?_)
  go_simp
  refine hK.out _ _ HN0.out (fun hHeld=>?_)
  clear hK K
  try simp only [zP]
  refine zzK 3 (fun K hK=>?_)
  go_simp
  refine (cO.out _).mono ?_; rintro e wr ⟨rfl,hB4⟩
  have HN4:=hid (HV0.out.keep hB4)
  clear hB4
  (try go_wp2_with fail)
  refine hK.out _ _ HN4.out (fun hHeld=>?_)
  clear hK K
  try simp only [zP]
  refine zhB 6 ?_
  refine zhB 7 ?_
  refine wpAnyH_done (by kernel_rfl) ?_ _
  have HV:=hid ‹DvS w r w1.heap.size w2.heap.size y mo d h m s F _›
  go_wp2
  go_ret2
  exact ⟨rfl,HV.out.2.2.2.be⟩
theorem ykG (r:Ru) (w:World) (hr:RuS w r) (hm:r.Sm 1000000) (hc:yaf r=0) (hl:r.l6= []) (hf:¬(r.l7.length=0∧(r.fq=5∨r.fq=6))):Calls Tryz.prog 24 #[ruv r] w fun e w'=>e= .returned (.tuple #[.int .u64 (domV r:Nat), .int .u64 (endV r:Nat)])∧Below w.heap.size w w':=by
 rw [(yhm hc hl hf).1,(yhm hc hl hf).2]
 have hB0:Below w.heap.size w (w.alloc (.cells (yai r).toArray 25)):=yaa (Below.refl _ _) (zG _)
 have cB:=hid (ybe r _ (hr.below hB0) hm)
 have HB0:=hid hB0
 have HRB:=hid (yaJ w r 25)
 have HR:=hid hr
 have hb:(yaf r == 0)=true:=by simpa using hc
 rw [hb,ya1 (ybo (yaw hc).h).1] at cB
 obtain ⟨y,hy⟩:∃y,fY (r.st / 86400)=y:=⟨_,rfl⟩
 obtain ⟨mo,hmo⟩:∃y,fMo (r.st / 86400)=y:=⟨_,rfl⟩
 obtain ⟨d,hd⟩:∃y,fD (r.st / 86400)=y:=⟨_,rfl⟩
 obtain ⟨h,hh⟩:∃y,r.st % 86400 / 3600=y:=⟨_,rfl⟩
 obtain ⟨m,hmm⟩:∃y,r.st % 86400 / 60 % 60=y:=⟨_,rfl⟩
 obtain ⟨s,hss⟩:∃y,r.st % 86400 % 60=y:=⟨_,rfl⟩
 rw [hy,hmo,hd,hh,hmm,hss] at cB
 have cF:=hid (fun W=>ybr W)
 obtain ⟨F,hF⟩:∃F,fullCl=F:=⟨_,rfl⟩
 rw [hF] at cF⊢
 have Hl6:Hid (r.l6.length=0):=by show _ = _; rw [hl]; rfl
 clear hl
 clear hc hb hr hm hB0 hy hmo hd hh hmm hss hF
 by_cases h7:r.l7.length=0
 ·have hb7:((r.l7.length:Int) == 0)=true:=by simpa using h7
  have hb5:(r.fq == 5)=false:=by have:¬r.fq=5:=fun e=>hf ⟨h7, .inl e⟩; simpa using this
  have hb6:(r.fq == 6)=false:=by have:¬r.fq=6:=fun e=>hf ⟨h7, .inr e⟩; simpa using this
  clear hf h7
  go_enter Tryz.func24,Tryz.ntmps24
  go_wp2_with fail
  refine cB.out.mono ?_
  rintro e w1 ⟨rfl,hB1⟩
  have hz1:=hB1.size
  rw [zzN] at hz1
  have hn:=yaa (o:= .cells #[.int .i64 y, .int .i64 mo, .int .i64 d, .int .i64 h, .int .i64 m, .int .i64 s] 66) (Below.refl w1.heap.size w1) (zG _)
  have HB1:=hid ((HB0.out.trans (hB1.mono (by rw [zzN]; omega))).trans (hn.mono (by omega)))
  have HR1:=hid ((HRB.out.below hB1 (by rw [zzN]; omega)).below hn (by omega))
  have HX1:=hid (ya3 w1 (.int .i64 y) (.int .i64 mo) (.int .i64 d) (.int .i64 h) (.int .i64 m) (.int .i64 s) 66)
  have Hz1:Hid (w.heap.size < w1.heap.size):=by show _ < _; omega
  clear hB1 hn hz1 HRB HB0
  go_wp2_with fail
  refine (cF.out _).mono ?_
  rintro e w2 ⟨rfl,hB2⟩
  have hz2:=hB2.size
  rw [zzN] at hz2
  have hth:(w2.alloc (.cells zL.toArray 34)).there w2.heap.size 0 30:=yat w2 zL.toArray 34
  have hB3:Below w2.heap.size w2 (yas (w2.alloc (.cells zL.toArray 34)) w2.heap.size (yac F)):=yaj (yaa (Below.refl _ _) (zG _)) (zG _) _
  have hsz:(yas (w2.alloc (.cells zL.toArray 34)) w2.heap.size (yac F)).heap.size=w2.heap.size+1:=by rw [ycs,zzN]
  have HF0:Hid (TmF w r w1.heap.size w2.heap.size y mo d h m s F (yas (w2.alloc (.cells zL.toArray 34)) w2.heap.size (yac F))):=by
   have h1:=Hz1.out
   exact ⟨(HR1.out.below hB2 (by rw [zzN]; omega)).below hB3 (by omega),(HX1.out.below hB2 (by rw [zzN]; omega)).below hB3 (by omega),yak _ rfl hth,(HB1.out.trans (hB2.mono (by rw [zzN]; omega))).trans (hB3.mono (by omega)),by rw [hsz]; omega,by rw [hsz]; omega,by rw [hsz]; omega⟩
  have HV0:=hid HF0.out.dvs
  clear hB2 hB3 hsz hz2
  obtain ⟨⟨⟨k0,k1,k2,k3,k4⟩,k5,k6,k7,k8,k9,kx⟩,⟨⟨s0,s1,s2,s3,s4,s5⟩,-⟩,⟨f4,f5⟩,-⟩:=HV0.out
  rw [Hl6.out] at k6
  have HS0:Hid (DvS w r w1.heap.size w2.heap.size y mo d h m s F (yas (w2.alloc (.cells zL.toArray 34)) w2.heap.size (yac F)).drew):=HV0.out.keep (Below.refl _ _).drew
  go_upto_region 16 with fail
  refine wp_region_held_drew (S:=fun w'=>DvS w r w1.heap.size w2.heap.size y mo d h m s F w') (by kernel_rfl) HS0.out (fun hHeld=>?_)
  refine zhB 0 ?_
  refine zhB 1 ?_
  refine zhB 2 ?_
  refine zhB 3 ?_
  refine zhB 4 ?_
  refine zhB 5 ?_
  refine wpAnyH_done (by kernel_rfl) ?_ _
  have HV:=hid ‹DvS w r w1.heap.size w2.heap.size y mo d h m s F _›
  go_wp2
  go_ret2
  exact ⟨rfl,HV.out.2.2.2.be⟩
 ·have hb7:((r.l7.length:Int) == 0)=false:=by simpa using h7
  clear hf h7
  go_enter Tryz.func24,Tryz.ntmps24
  go_wp2_with fail
  refine cB.out.mono ?_
  rintro e w1 ⟨rfl,hB1⟩
  have hz1:=hB1.size
  rw [zzN] at hz1
  have hn:=yaa (o:= .cells #[.int .i64 y, .int .i64 mo, .int .i64 d, .int .i64 h, .int .i64 m, .int .i64 s] 66) (Below.refl w1.heap.size w1) (zG _)
  have HB1:=hid ((HB0.out.trans (hB1.mono (by rw [zzN]; omega))).trans (hn.mono (by omega)))
  have HR1:=hid ((HRB.out.below hB1 (by rw [zzN]; omega)).below hn (by omega))
  have HX1:=hid (ya3 w1 (.int .i64 y) (.int .i64 mo) (.int .i64 d) (.int .i64 h) (.int .i64 m) (.int .i64 s) 66)
  have Hz1:Hid (w.heap.size < w1.heap.size):=by show _ < _; omega
  clear hB1 hn hz1 HRB HB0
  go_wp2_with fail
  refine (cF.out _).mono ?_
  rintro e w2 ⟨rfl,hB2⟩
  have hz2:=hB2.size
  rw [zzN] at hz2
  have hth:(w2.alloc (.cells zL.toArray 34)).there w2.heap.size 0 30:=yat w2 zL.toArray 34
  have hB3:Below w2.heap.size w2 (yas (w2.alloc (.cells zL.toArray 34)) w2.heap.size (yac F)):=yaj (yaa (Below.refl _ _) (zG _)) (zG _) _
  have hsz:(yas (w2.alloc (.cells zL.toArray 34)) w2.heap.size (yac F)).heap.size=w2.heap.size+1:=by rw [ycs,zzN]
  have HF0:Hid (TmF w r w1.heap.size w2.heap.size y mo d h m s F (yas (w2.alloc (.cells zL.toArray 34)) w2.heap.size (yac F))):=by
   have h1:=Hz1.out
   exact ⟨(HR1.out.below hB2 (by rw [zzN]; omega)).below hB3 (by omega),(HX1.out.below hB2 (by rw [zzN]; omega)).below hB3 (by omega),yak _ rfl hth,(HB1.out.trans (hB2.mono (by rw [zzN]; omega))).trans (hB3.mono (by omega)),by rw [hsz]; omega,by rw [hsz]; omega,by rw [hsz]; omega⟩
  have HV0:=hid HF0.out.dvs
  clear hB2 hB3 hsz hz2
  obtain ⟨⟨⟨k0,k1,k2,k3,k4⟩,k5,k6,k7,k8,k9,kx⟩,⟨⟨s0,s1,s2,s3,s4,s5⟩,-⟩,⟨f4,f5⟩,-⟩:=HV0.out
  rw [Hl6.out] at k6
  have HS0:Hid (DvS w r w1.heap.size w2.heap.size y mo d h m s F (yas (w2.alloc (.cells zL.toArray 34)) w2.heap.size (yac F)).drew):=HV0.out.keep (Below.refl _ _).drew
  go_upto_region 16 with fail
  refine wp_region_held_drew (S:=fun w'=>DvS w r w1.heap.size w2.heap.size y mo d h m s F w') (by kernel_rfl) HS0.out (fun hHeld=>?_)
  refine zhB 0 ?_
  refine zhB 1 ?_
  refine zhB 2 ?_
  refine zhB 3 ?_
  refine zhB 4 ?_
  refine zhB 5 ?_
  refine wpAnyH_done (by kernel_rfl) ?_ _
  have HV:=hid ‹DvS w r w1.heap.size w2.heap.size y mo d h m s F _›
  go_wp2
  go_ret2
  exact ⟨rfl,HV.out.2.2.2.be⟩
theorem Days_any (r:Ru) (w:World) (hr:RuS w r) (hm:r.Sm 1000000):Calls Tryz.prog 24 #[ruv r] w fun e w'=>e= .returned (.tuple #[.int .u64 (domV r:Nat), .int .u64 (endV r:Nat)])∧Below w.heap.size w w':=by
 by_cases hc:yaf r=0
 ·by_cases hn:r.l6.headD 0 < 0
  ·exact DaysV_neg r w hr hm hc hn
  ·by_cases hl:0 < r.l6.length
   ·exact ykH r w hr hm hc hn hl
   ·have he:r.l6= []:=List.eq_nil_of_length_eq_zero (by omega)
    by_cases hf:r.l7.length=0∧(r.fq=5∨r.fq=6)
    ·exact DaysV_one r w hr hm hc he hf.1 hf.2
    ·exact ykG r w hr hm hc he hf
 ·exact DaysV_no r w hr hm hc
end Go.Proofs.YtjahgimnfliooaaGreatDoor
