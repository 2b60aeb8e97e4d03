/-
  rule.Times; feriaref32.has, feriaref08.Stamp.
  rule.Months.
  feriaref32.Time, and what it has to do with rule.Times' masks.
  The months and the days of a rule: the masks, and the document's.
  A day's shape, number by number; what an Ord says of it.
-/
import Derived.Test.YtjahgimnfliooaaGreatDoorQ93f5c4
import Derived.Test.YtjahgimnfliooaaGreatDoorQ2b0ff1
import Derived.Deep.CutRange
import Derived.Test.YtjahgimnfliooaaGreatDoorQdaebea
import Derived.Test.YtjahgimnfliooaaGreatDoorQ117f73
set_option maxRecDepth 100000
set_option maxHeartbeats 25600000
namespace Go.Proofs.YtjahgimnfliooaaGreatDoor
set_option linter.unusedVariables false
section
open Go.RowKit
attribute [local go_sem ↓] ya2
attribute [local go_sem] yaI
theorem ycx (W:World) (b:Nat) (cs:List Value):(yaw W b cs).heap.size=W.heap.size:=by
 have h:∀(vs:List Value) (o:Nat) (W:World),(W.setCells b o vs).heap.size=W.heap.size:=by
  intro vs
  induction vs with
  | nil=>intro o W; rfl
  | cons v vs ih=>intro o W; rw [World.setCells,ih,World.size_setCell]
 exact h cs 0 W
theorem ybV {t:Int} (h:winB t=true):yeo t=stpv (fY (t / 86400)) (fMo (t / 86400)) (fD (t / 86400)) (t % 86400 / 3600) (t % 86400 / 60 % 60) (t % 86400 % 60):=by rw [yeo,if_pos h]
def oneE (l:List Int) (at' freq:Int) (full:Nat) (fq:Int):Nat:=if 0 < l.length then ofM l else if freq≤fq then ofM [at'] else full
theorem yeh (a:Option Addr) (cap:Nat) (l:List Int) (at' freq:Int) (full:Nat) (fq:Int) (b1:Nat) (w:World) (hl:l.length≤9223372036854775807) (hs:Sl w a (ints l)) (h1:w.cell? ⟨b1,1,none⟩=some (.int .i64 fq)) :
  Calls Tryz.prog 71 #[.slice a l.length cap, .int .i64 at', .int .i64 freq, .int .u64 (full:Nat), .pointer (some ⟨b1,0,none⟩)] w fun e w'=>e= .returned (.int .u64 (oneE l at' freq full fq:Nat))∧Below w.heap.size w w':=by
 have c1:=hid (yej a cap l w hl hs)
 have c2:=hid (ycD at' w 3)
 rw [oneE]
 obtain ⟨M,hM⟩:∃M,ofM l=M:=⟨_,rfl⟩
 obtain ⟨N,hN⟩:∃M,ofM [at']=M:=⟨_,rfl⟩
 rw [hM] at c1⊢
 rw [hN] at c2⊢
 clear hM hN hs hl
 by_cases h:0 < l.length
 ·rw [if_pos h]
  have hI:(0:Int) < l.length:=by omega
  go_enter Tryz.func71,Tryz.ntmps71
  go_wp2_with fail
  refine c1.out.mono ?_
  rintro e w1 ⟨rfl,hB⟩
  have HB:=hid hB
  clear hB
  go_wp2
  go_ret
  exact ⟨rfl,HB.out⟩
 ·rw [if_neg h]
  have hI:¬(0:Int) < l.length:=by omega
  clear h
  by_cases h2:freq≤fq
  ·rw [if_pos h2]
   go_enter Tryz.func71,Tryz.ntmps71
   go_wp2_with fail
   refine c2.out.mono ?_
   rintro e w1 ⟨rfl,hB⟩
   have HB:=hid hB
   clear hB
   go_wp2
   go_ret
   exact ⟨rfl,HB.out⟩
  ·rw [if_neg h2]
   go_enter Tryz.func71,Tryz.ntmps71
   go_wp2
   go_ret
   exact ⟨rfl,Below.refl _ _⟩
structure TmF (w:World) (r:Ru) (b5 b8:Nat) (y mo d h m s:Int) (F:Cl) (W:World):Prop where
 rb:RuB W w.heap.size r
 six:Six W b5 (.int .i64 y) (.int .i64 mo) (.int .i64 d) (.int .i64 h) (.int .i64 m) (.int .i64 s)
 cl:ClB W b8 F
 be:Below w.heap.size w W
 l:w.heap.size < W.heap.size∧b5 < W.heap.size∧b8 < W.heap.size
abbrev TmS (w:World) (r:Ru) (b5 b8:Nat) (y mo d h m s:Int) (F:Cl) (W:World):Prop:=
 RuC W w.heap.size r∧Six W b5 (.int .i64 y) (.int .i64 mo) (.int .i64 d) (.int .i64 h) (.int .i64 m) (.int .i64 s)∧(W.cell? ⟨b8,0,none⟩=some (.int .u64 (F.m 0:Nat))∧W.cell? ⟨b8,1,none⟩=some (.int .u64 (F.m 1:Nat))∧W.cell? ⟨b8,2,none⟩=some (.int .u64 (F.m 2:Nat)))∧TmF w r b5 b8 y mo d h m s F W
theorem TmF.sas {w W:World} {r:Ru} {b5 b8:Nat} {y mo d h m s:Int} {F:Cl} (k:TmF w r b5 b8 y mo d h m s F W):TmS w r b5 b8 y mo d h m s F W:=⟨k.rb.all,k.six,⟨k.cl.at 0 rfl,k.cl.at 1 rfl,k.cl.at 2 rfl⟩,k⟩
theorem TmF.keep {w W W':World} {r:Ru} {b5 b8:Nat} {y mo d h m s:Int} {F:Cl} (k:TmF w r b5 b8 y mo d h m s F W) (hb:Below W.heap.size W W'):TmF w r b5 b8 y mo d h m s F W':=by
 have hs:=hb.size
 obtain ⟨l1,l2,l3⟩:=k.l
 exact ⟨k.rb.below hb l1,k.six.below hb l2,k.cl.below hb l3,k.be.trans (hb.mono (by omega)),by omega,by omega,by omega⟩
theorem TmS.keep {w W W':World} {r:Ru} {b5 b8:Nat} {y mo d h m s:Int} {F:Cl} (k:TmS w r b5 b8 y mo d h m s F W) (hb:Below W.heap.size W W'):TmS w r b5 b8 y mo d h m s F W':=(k.2.2.2.keep hb).sas
def tmH (r:Ru):Nat:=if yae r=0 then oneE r.l8 (r.st % 86400 / 3600) 3 (fullCl.m 2) r.fq else 0
def tmM (r:Ru):Nat:=if yae r=0 then oneE r.l9 (r.st % 86400 / 60 % 60) 2 (fullCl.m 1) r.fq else 0
def tmS (r:Ru):Nat:=if yae r=0 then oneE r.lx (r.st % 86400 % 60) 1 (fullCl.m 0) r.fq else 0
theorem yiC (r:Ru) (w:World) (hr:RuS w r) (hm:r.Sm 1000000):Calls Tryz.prog 26 #[ruv r] w fun e w'=>e= .returned (.tuple #[.int .u64 (tmH r:Nat), .int .u64 (tmM r:Nat), .int .u64 (tmS r:Nat)])∧Below w.heap.size w w':=by
 have hB0:Below w.heap.size w (w.alloc (.cells (yak r).toArray 25)):=yaa (Below.refl _ _) (zG _)
 have cB:=hid (ybm r _ (hr.below hB0) hm)
 have HB0:=hid hB0
 have HRB:=hid (yaX w r 25)
 rw [tmH,tmM,tmS]
 by_cases hc:yae r=0
 rotate_left
 ·rw [if_neg hc,if_neg hc,if_neg hc]
  have hb:(yae r == 0)=false:=by simpa using hc
  rw [hb] at cB
  obtain ⟨y,mo,d,h,m,s,hst⟩:=ybE r.st
  rw [hst] at cB
  clear hc hb hst hr hm hB0
  go_enter Tryz.func26,Tryz.ntmps26
  go_wp2_with fail
  refine cB.out.mono ?_
  rintro e w1 ⟨rfl,hB1⟩
  have HB1:=hid ((HB0.out.trans (hB1.mono (by simp only [zzN]; omega))).trans ((yaa (o:= .cells #[.int .i64 y, .int .i64 mo, .int .i64 d, .int .i64 h, .int .i64 m, .int .i64 s] 66) (Below.refl w1.heap.size w1) (zG _)).mono (by have:=hB1.size; simp only [zzN] at this; omega)))
  clear hB1
  go_wp2
  exact bodyPost_ret (v:= .tuple #[.int .u64 0, .int .u64 0, .int .u64 0]) (by simp [results,Tryz.results26,go_sem]) rfl ⟨rfl,HB1.out⟩
 rw [if_pos hc,if_pos hc,if_pos hc]
 have hb:(yae r == 0)=true:=by simpa using hc
 rw [hb,ybV (yb1 (yaC hc).h).1] at cB
 obtain ⟨y,hy⟩:∃y,fY (r.st / 86400)=y:=⟨_,rfl⟩
 obtain ⟨mo,hmo⟩:∃y,fMo (r.st / 86400)=y:=⟨_,rfl⟩
 obtain ⟨d,hd⟩:∃y,fD (r.st / 86400)=y:=⟨_,rfl⟩
 obtain ⟨h,hh⟩:∃y,r.st % 86400 / 3600=y:=⟨_,rfl⟩
 obtain ⟨m,hmm⟩:∃y,r.st % 86400 / 60 % 60=y:=⟨_,rfl⟩
 obtain ⟨s,hss⟩:∃y,r.st % 86400 % 60=y:=⟨_,rfl⟩
 rw [hy,hmo,hd,hh,hmm,hss] at cB
 rw [hh,hmm,hss]
 have cF:=hid (fun W=>ybA W)
 obtain ⟨F,hF⟩:∃F,fullCl=F:=⟨_,rfl⟩
 rw [hF] at cF⊢
 have k8:=hid (fun b5 b8 W (k:TmS w r b5 b8 y mo d h m s F W)=>yax (yeh r.a8 r.c8 r.l8 h 3 (F.m 2) r.fq w.heap.size W (by have:=hm.n8; omega) (hr.below k.2.2.2.be).s8 k.1.1.2.1) (fun _=>k.keep))
 have k9:=hid (fun b5 b8 W (k:TmS w r b5 b8 y mo d h m s F W)=>yax (yeh r.a9 r.c9 r.l9 m 2 (F.m 1) r.fq w.heap.size W (by have:=hm.n9; omega) (hr.below k.2.2.2.be).s9 k.1.1.2.1) (fun _=>k.keep))
 have kx:=hid (fun b5 b8 W (k:TmS w r b5 b8 y mo d h m s F W)=>yax (yeh r.ax r.cx r.lx s 1 (F.m 0) r.fq w.heap.size W (by have:=hm.nx; omega) (hr.below k.2.2.2.be).sx k.1.1.2.1) (fun _=>k.keep))
 obtain ⟨p8,e8⟩:∃p,oneE r.l8 h 3 (F.m 2) r.fq=p:=⟨_,rfl⟩
 obtain ⟨p9,e9⟩:∃p,oneE r.l9 m 2 (F.m 1) r.fq=p:=⟨_,rfl⟩
 obtain ⟨px,ex⟩:∃p,oneE r.lx s 1 (F.m 0) r.fq=p:=⟨_,rfl⟩
 rw [e8] at k8⊢
 rw [e9] at k9⊢
 rw [ex] at kx⊢
 clear hc hb hr hm hB0 hy hmo hd hh hmm hss hF e8 e9 ex
 go_enter Tryz.func26,Tryz.ntmps26
 go_wp2_with fail
 refine cB.out.mono ?_
 rintro e w1 ⟨rfl,hB1⟩
 have hz1:=hB1.size
 rw [zzN] at hz1
 have hn:=yaa (o:= .cells #[.int .i64 y, .int .i64 mo, .int .i64 d, .int .i64 h, .int .i64 m, .int .i64 s] 66) (Below.refl w1.heap.size w1) (zG _)
 have HB1:=hid ((HB0.out.trans (hB1.mono (by rw [zzN]; omega))).trans (hn.mono (by omega)))
 have HR1:=hid ((HRB.out.below hB1 (by rw [zzN]; omega)).below hn (by omega))
 have HX1:=hid (ybh w1 (.int .i64 y) (.int .i64 mo) (.int .i64 d) (.int .i64 h) (.int .i64 m) (.int .i64 s) 66)
 have Hz1:Hid (w.heap.size < w1.heap.size):=by show _ < _; omega
 clear hB1 hn hz1 HRB HB0
 go_wp2_with fail
 refine (cF.out _).mono ?_
 rintro e w2 ⟨rfl,hB2⟩
 have hz2:=hB2.size
 rw [zzN] at hz2
 have hth:(w2.alloc (.cells zL.toArray 34)).there w2.heap.size 0 30:=yaF w2 zL.toArray 34
 have hB3:Below w2.heap.size w2 (yaw (w2.alloc (.cells zL.toArray 34)) w2.heap.size (yac F)):=yao (yaa (Below.refl _ _) (zG _)) (zG _) _
 have hsz:(yaw (w2.alloc (.cells zL.toArray 34)) w2.heap.size (yac F)).heap.size=w2.heap.size+1:=by rw [ycx,zzN]
 have HS0:Hid (TmS w r w1.heap.size w2.heap.size y mo d h m s F (yaw (w2.alloc (.cells zL.toArray 34)) w2.heap.size (yac F)).drew):=by
  have h1:=Hz1.out
  refine TmS.keep (TmF.sas ⟨(HR1.out.below hB2 (by rw [zzN]; omega)).below hB3 (by omega),(HX1.out.below hB2 (by rw [zzN]; omega)).below hB3 (by omega),yas _ rfl hth,(HB1.out.trans (hB2.mono (by rw [zzN]; omega))).trans (hB3.mono (by omega)),by rw [hsz]; omega,by rw [hsz]; omega,by rw [hsz]; omega⟩) (Below.refl _ _).drew
 clear hB2 hB3 hsz hz2
 go_upto_region 6 with fail
 refine wp_region_held_drew (S:=fun w'=>TmS w r w1.heap.size w2.heap.size y mo d h m s F w') (by kernel_rfl) HS0.out (fun hHeld=>?_)
 refine zhB 0 ?_
 refine zhB 1 ?_
 refine zhB 2 ?_
 refine zhB 3 ?_
 refine zhB 4 ?_
 refine zhB 5 ?_
 refine zhB 6 ?_
 refine zhB 8 ?_
 refine zhB 9 ?_
 refine zhB 10 ?_
 refine zhB 11 ?_
 refine zhB 12 ?_
 refine zhB 13 ?_
 refine zhB 14 ?_
 refine zhB 16 ?_
 refine zhB 17 ?_
 refine zhB 18 ?_
 refine zhB 19 ?_
 refine zhB 20 ?_
 refine zhB 21 ?_
 refine zhB 22 ?_
 refine zzK 7 (fun K hK=>?_)
 go_simp
 refine (k8.out _ _ _ (by assumption)).mono ?_; rintro e wr ⟨rfl,hS⟩
 (try go_wp2_with fail)
 refine hK.out _ _ (by assumption) (fun hHeld=>?_)
 clear hK K
 try simp only [zP]
 refine zzK 15 (fun K hK=>?_)
 go_simp
 refine (k9.out _ _ _ (by assumption)).mono ?_; rintro e wr ⟨rfl,hS⟩
 (try go_wp2_with fail)
 refine hK.out _ _ (by assumption) (fun hHeld=>?_)
 clear hK K
 try simp only [zP]
 refine zzK 23 (fun K hK=>?_)
 go_simp
 refine (kx.out _ _ _ (by assumption)).mono ?_; rintro e wr ⟨rfl,hS⟩
 (try go_wp2_with fail)
 refine hK.out _ _ (by assumption) (fun hHeld=>?_)
 clear hK K
 try simp only [zP]
 refine zhB 24 ?_
 refine zhB 25 ?_
 refine zhB 26 ?_
 refine wpAnyH_done (by kernel_rfl) ?_ _
 have HV:=hid ‹TmS w r w1.heap.size w2.heap.size y mo d h m s F _›
 go_wp2
 exact bodyPost_ret (v:= .tuple #[.int .u64 (p8:Nat), .int .u64 (p9:Nat), .int .u64 (px:Nat)]) (by simp [results,Tryz.results26,go_sem]) rfl ⟨rfl,HV.out.2.2.2.be⟩
end
section
open Go.RowKit
structure MoF (w:World) (r:Ru) (b3:Nat) (y mo d h m s:Int) (W:World):Prop where
 rb:RuB W w.heap.size r
 six:Six W b3 (.int .i64 y) (.int .i64 mo) (.int .i64 d) (.int .i64 h) (.int .i64 m) (.int .i64 s)
 be:Below w.heap.size w W
 l:w.heap.size < W.heap.size∧b3 < W.heap.size
theorem MoF.keep {w W W':World} {r:Ru} {b3:Nat} {y mo d h m s:Int} (k:MoF w r b3 y mo d h m s W) (hb:Below W.heap.size W W'):MoF w r b3 y mo d h m s W':=by
 have hs:=hb.size
 obtain ⟨l1,l2⟩:=k.l
 exact ⟨k.rb.below hb l1,k.six.below hb l2,k.be.trans (hb.mono (by omega)),by omega,by omega⟩
def yaY (r:Ru):Nat:=if yae r=0 then (if 0 < r.l5.length then ofM r.l5 else if r.fq=6∧r.l6.length=0∧r.l7.length=0 then ofM [fMo (r.st / 86400)] else fullCl.m 3) else 0
theorem ykz (F:Cl) (W:World):(Instr.field 34 (clv F) 3).run Tryz.prog W= .ok (.int .u64 (F.m 3:Nat)) W:=by kernel_rfl
theorem ykU (r:Ru) (w:World) (hr:RuS w r) (hm:r.Sm 1000000):Calls Tryz.prog 23 #[ruv r] w fun e w'=>e= .returned (.int .u64 (yaY r:Nat))∧Below w.heap.size w w':=by
 have hB0:Below w.heap.size w (w.alloc (.cells (yak r).toArray 25)):=yaa (Below.refl _ _) (zG _)
 have cB:=hid (ybm r _ (hr.below hB0) hm)
 have HB0:=hid hB0
 have HRB:=hid (yaX w r 25)
 have HR:=hid hr
 have cF:=hid (fun W=>ybA W)
 have cM:=hid (fun W (h:RuS W r)=>yej r.a5 r.c5 r.l5 W (by have:=hm.n5; omega) h.s5)
 have hfd:∀W,(Instr.field 34 (clv fullCl) 3).run Tryz.prog W= .ok (.int .u64 (fullCl.m 3:Nat)) W:=fun W=>ykz fullCl W
 have cO:=hid (fun x W=>ycD x W 3)
 rw [yaY]
 have hst:yae r=0→yeo r.st=stpv (fY (r.st / 86400)) (fMo (r.st / 86400)) (fD (r.st / 86400)) (r.st % 86400 / 3600) (r.st % 86400 / 60 % 60) (r.st % 86400 % 60):=fun hc=>ybV (yb1 (yaC hc).h).1
 obtain ⟨y,mo,d,h,m,s,hsv⟩:=ybE r.st
 have hmo:yae r=0→fMo (r.st / 86400)=mo:=fun hc=>by
  have e:=hst hc
  rw [hsv] at e
  simp only [stpv,stpL,Value.agg.injEq,Array.mk.injEq,List.cons.injEq,Value.int.injEq,true_and,and_true] at e
  exact e.2.1.symm
 rw [hsv] at cB
 obtain ⟨F,hF⟩:∃F,fullCl=F:=⟨_,rfl⟩
 rw [hF] at cF hfd⊢
 obtain ⟨M,hM⟩:∃M,ofM r.l5=M:=⟨_,rfl⟩
 rw [hM] at cM⊢
 by_cases hc:yae r=0
 rotate_left
 ·rw [if_neg hc]
  have hb:(yae r == 0)=false:=by simpa using hc
  rw [hb] at cB
  clear hc hb hst hsv hmo hF hM hr hm hB0
  go_enter Tryz.func23,Tryz.ntmps23
  go_wp2_with fail
  refine cB.out.mono ?_
  rintro e w1 ⟨rfl,hB1⟩
  have hz1:=hB1.size
  rw [zzN] at hz1
  have hn:=yaa (o:= .cells #[.int .i64 y, .int .i64 mo, .int .i64 d, .int .i64 h, .int .i64 m, .int .i64 s] 66) (Below.refl w1.heap.size w1) (zG _)
  have HF1:Hid (MoF w r w1.heap.size y mo d h m s (w1.alloc (.cells #[.int .i64 y, .int .i64 mo, .int .i64 d, .int .i64 h, .int .i64 m, .int .i64 s] 66))):=⟨(HRB.out.below hB1 (by rw [zzN]; omega)).below hn (by omega),ybh w1 (.int .i64 y) (.int .i64 mo) (.int .i64 d) (.int .i64 h) (.int .i64 m) (.int .i64 s) 66,(HB0.out.trans (hB1.mono (by rw [zzN]; omega))).trans (hn.mono (by omega)),by rw [zzN]; omega,by rw [zzN]; omega⟩
  obtain ⟨⟨k0,k1,k2,k3,k4⟩,k5,k6,k7,k8,k9,kx⟩:=HF1.out.rb.all
  clear hB1 hn hz1
  go_wp2
  go_ret
  exact ⟨rfl,HF1.out.be⟩
 rw [if_pos hc,hmo hc]
 have hb:(yae r == 0)=true:=by simpa using hc
 rw [hb] at cB
 clear hc hb hst hsv hmo hF hM hr hm hB0
 by_cases h5:0 < r.l5.length
 ·rw [if_pos h5]
  have hI:(0:Int) < r.l5.length:=by omega
  clear h5
  go_enter Tryz.func23,Tryz.ntmps23
  go_wp2_with fail
  refine cB.out.mono ?_
  rintro e w1 ⟨rfl,hB1⟩
  have hz1:=hB1.size
  rw [zzN] at hz1
  have hn:=yaa (o:= .cells #[.int .i64 y, .int .i64 mo, .int .i64 d, .int .i64 h, .int .i64 m, .int .i64 s] 66) (Below.refl w1.heap.size w1) (zG _)
  have HF1:Hid (MoF w r w1.heap.size y mo d h m s (w1.alloc (.cells #[.int .i64 y, .int .i64 mo, .int .i64 d, .int .i64 h, .int .i64 m, .int .i64 s] 66))):=⟨(HRB.out.below hB1 (by rw [zzN]; omega)).below hn (by omega),ybh w1 (.int .i64 y) (.int .i64 mo) (.int .i64 d) (.int .i64 h) (.int .i64 m) (.int .i64 s) 66,(HB0.out.trans (hB1.mono (by rw [zzN]; omega))).trans (hn.mono (by omega)),by rw [zzN]; omega,by rw [zzN]; omega⟩
  obtain ⟨⟨k0,k1,k2,k3,k4⟩,k5,k6,k7,k8,k9,kx⟩:=HF1.out.rb.all
  clear hB1 hn hz1
  go_wp2_with fail
  refine (cM.out _ (HR.out.below HF1.out.be)).mono ?_
  rintro e w2 ⟨rfl,hB2⟩
  have HF2:=hid (HF1.out.keep hB2)
  clear hB2
  go_wp2
  go_ret
  exact ⟨rfl,HF2.out.be⟩
 rw [if_neg h5]
 have hI:¬(0:Int) < r.l5.length:=by omega
 clear h5
 by_cases h6:r.fq=6
 rotate_left
 ·rw [if_neg (fun h=>h6 h.1)]
  have hb6:(r.fq == 6)=false:=by simpa using h6
  clear h6
  go_enter Tryz.func23,Tryz.ntmps23
  go_wp2_with fail
  refine cB.out.mono ?_
  rintro e w1 ⟨rfl,hB1⟩
  have hz1:=hB1.size
  rw [zzN] at hz1
  have hn:=yaa (o:= .cells #[.int .i64 y, .int .i64 mo, .int .i64 d, .int .i64 h, .int .i64 m, .int .i64 s] 66) (Below.refl w1.heap.size w1) (zG _)
  have HF1:Hid (MoF w r w1.heap.size y mo d h m s (w1.alloc (.cells #[.int .i64 y, .int .i64 mo, .int .i64 d, .int .i64 h, .int .i64 m, .int .i64 s] 66))):=⟨(HRB.out.below hB1 (by rw [zzN]; omega)).below hn (by omega),ybh w1 (.int .i64 y) (.int .i64 mo) (.int .i64 d) (.int .i64 h) (.int .i64 m) (.int .i64 s) 66,(HB0.out.trans (hB1.mono (by rw [zzN]; omega))).trans (hn.mono (by omega)),by rw [zzN]; omega,by rw [zzN]; omega⟩
  obtain ⟨⟨k0,k1,k2,k3,k4⟩,k5,k6,k7,k8,k9,kx⟩:=HF1.out.rb.all
  clear hB1 hn hz1
  go_wp2_with fail
  refine (cF.out _).mono ?_
  rintro e w2 ⟨rfl,hB2⟩
  have HF2:=hid (HF1.out.keep hB2)
  clear hB2
  go_wp2
  go_ret
  exact ⟨rfl,HF2.out.be⟩
 by_cases h7:r.l6.length=0
 rotate_left
 ·rw [if_neg (fun h=>h7 h.2.1)]
  have hb6:(r.fq == 6)=true:=by simpa using h6
  have hb7:((r.l6.length:Int) == 0)=false:=by simpa using h7
  clear h6 h7
  go_enter Tryz.func23,Tryz.ntmps23
  go_wp2_with fail
  refine cB.out.mono ?_
  rintro e w1 ⟨rfl,hB1⟩
  have hz1:=hB1.size
  rw [zzN] at hz1
  have hn:=yaa (o:= .cells #[.int .i64 y, .int .i64 mo, .int .i64 d, .int .i64 h, .int .i64 m, .int .i64 s] 66) (Below.refl w1.heap.size w1) (zG _)
  have HF1:Hid (MoF w r w1.heap.size y mo d h m s (w1.alloc (.cells #[.int .i64 y, .int .i64 mo, .int .i64 d, .int .i64 h, .int .i64 m, .int .i64 s] 66))):=⟨(HRB.out.below hB1 (by rw [zzN]; omega)).below hn (by omega),ybh w1 (.int .i64 y) (.int .i64 mo) (.int .i64 d) (.int .i64 h) (.int .i64 m) (.int .i64 s) 66,(HB0.out.trans (hB1.mono (by rw [zzN]; omega))).trans (hn.mono (by omega)),by rw [zzN]; omega,by rw [zzN]; omega⟩
  obtain ⟨⟨k0,k1,k2,k3,k4⟩,k5,k6,k7,k8,k9,kx⟩:=HF1.out.rb.all
  clear hB1 hn hz1
  go_wp2_with fail
  refine (cF.out _).mono ?_
  rintro e w2 ⟨rfl,hB2⟩
  have HF2:=hid (HF1.out.keep hB2)
  clear hB2
  go_wp2
  go_ret
  exact ⟨rfl,HF2.out.be⟩
 by_cases h8:r.l7.length=0
 rotate_left
 ·rw [if_neg (fun h=>h8 h.2.2)]
  have hb6:(r.fq == 6)=true:=by simpa using h6
  have hb7:((r.l6.length:Int) == 0)=true:=by simpa using h7
  have hb8:((r.l7.length:Int) == 0)=false:=by simpa using h8
  clear h6 h7 h8
  go_enter Tryz.func23,Tryz.ntmps23
  go_wp2_with fail
  refine cB.out.mono ?_
  rintro e w1 ⟨rfl,hB1⟩
  have hz1:=hB1.size
  rw [zzN] at hz1
  have hn:=yaa (o:= .cells #[.int .i64 y, .int .i64 mo, .int .i64 d, .int .i64 h, .int .i64 m, .int .i64 s] 66) (Below.refl w1.heap.size w1) (zG _)
  have HF1:Hid (MoF w r w1.heap.size y mo d h m s (w1.alloc (.cells #[.int .i64 y, .int .i64 mo, .int .i64 d, .int .i64 h, .int .i64 m, .int .i64 s] 66))):=⟨(HRB.out.below hB1 (by rw [zzN]; omega)).below hn (by omega),ybh w1 (.int .i64 y) (.int .i64 mo) (.int .i64 d) (.int .i64 h) (.int .i64 m) (.int .i64 s) 66,(HB0.out.trans (hB1.mono (by rw [zzN]; omega))).trans (hn.mono (by omega)),by rw [zzN]; omega,by rw [zzN]; omega⟩
  obtain ⟨⟨k0,k1,k2,k3,k4⟩,k5,k6,k7,k8,k9,kx⟩:=HF1.out.rb.all
  clear hB1 hn hz1
  go_wp2_with fail
  refine (cF.out _).mono ?_
  rintro e w2 ⟨rfl,hB2⟩
  have HF2:=hid (HF1.out.keep hB2)
  clear hB2
  go_wp2
  go_ret
  exact ⟨rfl,HF2.out.be⟩
 rw [if_pos ⟨h6,h7,h8⟩]
 have hb6:(r.fq == 6)=true:=by simpa using h6
 have hb7:((r.l6.length:Int) == 0)=true:=by simpa using h7
 have hb8:((r.l7.length:Int) == 0)=true:=by simpa using h8
 clear h6 h7 h8
 go_enter Tryz.func23,Tryz.ntmps23
 go_wp2_with fail
 refine cB.out.mono ?_
 rintro e w1 ⟨rfl,hB1⟩
 have hz1:=hB1.size
 rw [zzN] at hz1
 have hn:=yaa (o:= .cells #[.int .i64 y, .int .i64 mo, .int .i64 d, .int .i64 h, .int .i64 m, .int .i64 s] 66) (Below.refl w1.heap.size w1) (zG _)
 have HF1:Hid (MoF w r w1.heap.size y mo d h m s (w1.alloc (.cells #[.int .i64 y, .int .i64 mo, .int .i64 d, .int .i64 h, .int .i64 m, .int .i64 s] 66))):=⟨(HRB.out.below hB1 (by rw [zzN]; omega)).below hn (by omega),ybh w1 (.int .i64 y) (.int .i64 mo) (.int .i64 d) (.int .i64 h) (.int .i64 m) (.int .i64 s) 66,(HB0.out.trans (hB1.mono (by rw [zzN]; omega))).trans (hn.mono (by omega)),by rw [zzN]; omega,by rw [zzN]; omega⟩
 obtain ⟨⟨k0,k1,k2,k3,k4⟩,k5,k6,k7,k8,k9,kx⟩:=HF1.out.rb.all
 clear hB1 hn hz1
 obtain ⟨⟨s0,s1,s2,s3,s4,s5⟩,-⟩:=HF1.out.six
 have cO1:=hid (cO.out mo (w1.alloc (.cells #[.int .i64 y, .int .i64 mo, .int .i64 d, .int .i64 h, .int .i64 m, .int .i64 s] 66)))
 rw [zzN] at cO1
 go_wp2_with fail
 refine cO1.out.mono ?_
 rintro e w2 ⟨rfl,hB2⟩
 have HF2:=hid (HF1.out.keep (by rw [zzN]; exact hB2))
 clear hB2
 go_wp2
 go_ret
 exact ⟨rfl,HF2.out.be⟩
end
section
open Go.RowKit
def yg4 (l:List Int) (at' freq fq x:Int):Bool:=(decide (l.length=0) && (decide (fq < freq) || decide (x=at'))) || decide (x∈l)
theorem yca {l:List Int} {x:Int} (h0:0≤x) (h1:x < 64):hasB (ofM l) x=decide (x∈l):=by
 rw [hasB,zzZ h0,zzo,ofM,ya8,zzZ (by omega:x.toNat < 64),zzo,inB,decide_eq_decide]
 rw [Int.toNat_of_nonneg h0]
theorem ygf {l:List Int} {at' freq fq x:Int} {full:Nat} (h0:0≤x) (h1:x < 64) (hf:hasB full x=true):hasB (oneE l at' freq full fq) x=yg4 l at' freq fq x:=by
 rw [oneE,yg4]
 by_cases h:0 < l.length
 ·rw [if_pos h,yca h0 h1,zzd (by omega:¬l.length=0),Bool.false_and,Bool.false_or]
 ·have hl:l= []:=List.eq_nil_of_length_eq_zero (by omega)
  subst hl
  rw [if_neg h]
  by_cases h2:freq≤fq
  ·rw [if_pos h2,yca h0 h1,zzd (by omega:¬fq < freq)]
   simp
  ·rw [if_neg h2,hf,zzZ (by omega:fq < freq)]
   simp
theorem ygs:(∀n:Nat,n < 24→(fullCl.m 2).testBit n=true)∧(∀n:Nat,n < 60→(fullCl.m 1).testBit n=true)∧(∀n:Nat,n < 60→(fullCl.m 0).testBit n=true):=by
 refine ⟨?_,?_,?_⟩ <;> decide +kernel
theorem yfb {m:Nat} {x:Int} {k:Nat} (h:∀n:Nat,n < k→m.testBit n=true) (h0:0≤x) (h1:x < k):hasB m x=true:=by
 rw [hasB,zzZ h0,zzo]; exact h _ (by omega)
def yj2 (r:Ru) (n:Int):Bool:=yg4 r.l8 (r.st % 86400 / 3600) 3 r.fq (n / 3600) && (yg4 r.l9 (r.st % 86400 / 60 % 60) 2 r.fq (n % 3600 / 60) && yg4 r.lx (r.st % 86400 % 60) 1 r.fq (n % 60))
theorem time_law {r:Ru} {n:Int} (hc:yae r=0) (h0:0≤n) (h1:n < 86400):(hasB (tmH r) (n / 3600) && (hasB (tmM r) (n % 3600 / 60) && hasB (tmS r) (n % 60)))=yj2 r n:=by
 rw [tmH,tmM,tmS,if_pos hc,if_pos hc,if_pos hc,yj2,
  ygf (by omega) (by omega) (yfb ygs.1 (by omega) (by omega)),
  ygf (by omega) (by omega) (yfb ygs.2.1 (by omega) (by omega)),
  ygf (by omega) (by omega) (yfb ygs.2.2 (by omega) (by omega))]
end
section
open Go.RowKit
def yiw (r:Ru):Bool:=decide (r.l6.length=0) && decide (r.l7.length=0)
def monthB (r:Ru) (x:Int):Bool:=(decide (r.l5.length=0) && (decide (r.fq≠6) || (!yiw r || decide (x=fMo (r.st / 86400))))) || decide (x∈r.l5)
theorem ydK:(∀n:Nat,n < 13→1≤n→(fullCl.m 3).testBit n=true)∧(∀n:Nat,n < 32→1≤n→(fullCl.m 4).testBit n=true)∧(∀n:Nat,n < 32→1≤n→(fullCl.m 5).testBit n=true):=by
 refine ⟨?_,?_,?_⟩ <;> decide +kernel
theorem ybW {m:Nat} {x:Int} {k:Nat} (h:∀n:Nat,n < k→1≤n→m.testBit n=true) (h0:1≤x) (h1:x < k):hasB m x=true:=by
 rw [hasB,zzZ (by omega:0≤x),zzo]; exact h _ (by omega) (by omega)
theorem month_law {r:Ru} {x:Int} (hc:yae r=0) (h0:1≤x) (h1:x≤12):hasB (yaY r) x=monthB r x:=by
 rw [yaY,if_pos hc,monthB]
 by_cases h:0 < r.l5.length
 ·rw [if_pos h,yca (by omega) (by omega),zzd (by omega:¬r.l5.length=0),Bool.false_and,Bool.false_or]
 ·have hl:r.l5= []:=List.eq_nil_of_length_eq_zero (by omega)
  rw [if_neg h,hl]
  by_cases h2:r.fq=6∧r.l6.length=0∧r.l7.length=0
  ·rw [if_pos h2,yca (by omega) (by omega),yiw,zzZ h2.2.1,zzZ h2.2.2,show decide (r.fq≠6)=false from zzd (fun c=>c h2.1)]
   simp
  ·rw [if_neg h2,ybW ydK.1 h0 (by omega)]
   have e:(decide (r.fq≠6) || (!yiw r || decide (x=fMo (r.st / 86400))))=true:=by
    by_cases a:r.fq=6
    ·have:yiw r=false:=by
      rw [yiw]
      by_cases b:r.l6.length=0
      ·rw [zzd (fun c=>h2 ⟨a,b,c⟩),Bool.and_false]
      ·rw [zzd b,Bool.false_and]
     rw [this]; simp
    ·rw [zzZ a]; rfl
   rw [e]; simp
def negM (l:List Int):Nat:=l.foldl (fun m n=>m ||| ofM [-n]) 0
def domV (r:Ru):Nat:=if yae r=0 then (if r.l6.headD 0 < 0 then fullCl.m 4 else if 0 < r.l6.length then ofM r.l6 else if r.l7.length=0∧(r.fq=5∨r.fq=6) then ofM [fD (r.st / 86400)] else fullCl.m 4) else 0
def endV (r:Ru):Nat:=if yae r=0 then (if r.l6.headD 0 < 0 then negM r.l6 else fullCl.m 5) else 0
theorem yja (x:Int) (h0:0≤x) (h1:x < 64):∀(l:List Int) (m:Nat),(l.foldl (fun m n=>m ||| ofM [-n]) m).testBit x.toNat= (m.testBit x.toNat || decide (-x∈l))
 | [],m=>by simp
 | n :: l,m=>by
   rw [List.foldl_cons,yja x h0 h1 l]
   have e:(ofM [-n]).testBit x.toNat=decide (x= -n):=by
    have:=yca (l:= [-n]) h0 h1
    rw [hasB,zzZ h0,zzo] at this
    rw [this]; simp
   rw [Nat.testBit_or,e,Bool.or_assoc]
   congr 1
   rw [zze]
   simp only [Bool.or_eq_true,zzY,List.mem_cons]
   constructor
   ·rintro (h | h)
    ·exact .inl (by omega)
    ·exact .inr h
   ·rintro (h | h)
    ·exact .inl (by omega)
    ·exact .inr h
theorem neg_has {l:List Int} {x:Int} (h0:0≤x) (h1:x < 64):hasB (negM l) x=decide (-x∈l):=by
 rw [hasB,zzZ h0,zzo,negM,yja x h0 h1,Nat.zero_testBit,Bool.false_or]
theorem ygx {r:Ru} (h:yed r=0):(r.l6.length≤64∧∀x∈r.l6,(-31≤x∧x≤31)∧x≠0)∧mixB r.l6=false∧(0 < r.l6.length→r.fq≠4):=by
 unfold yed at h
 split at h
 ·rename_i hl
  obtain ⟨n,hx⟩:=ye2 hl
  split at h
  ·cases h
  ·rename_i hz
   split at h
   ·cases h
   ·rename_i h4
    split at h
    ·cases h
    ·rename_i hm
     refine ⟨⟨n,fun x hxm=>⟨hx x hxm,fun e=>hz (List.any_eq_true.2 ⟨x,hxm,by simp [e]⟩)⟩⟩,by simpa using hm,fun a b=>h4 ⟨a,b⟩⟩
 ·rename_i hl
  exact absurd h hl
theorem yi6 {l:List Int} (hz:∀x∈l,x≠0) (hm:mixB l=false):(l.headD 0 < 0→∀x∈l,x < 0)∧(¬l.headD 0 < 0→∀x∈l,0 < x):=by
 rw [←yh2] at hm
 have key:∀x∈l,sgP (l.headD 0) x=false:=fun x hx=>by
  rw [←Bool.not_eq_true]; intro e
  have:l.any (sgP (l.headD 0))=true:=List.any_eq_true.2 ⟨x,hx,e⟩
  rw [hm] at this; cases this
 have two:∀x∈l,(x < 0↔l.headD 0 < 0):=fun x hx=>by
  have:=key x hx
  rw [sgP,Bool.or_eq_false_iff,bne_eq_false_iff_eq] at this
  exact decide_eq_decide.1 this.1
 exact ⟨fun h x hx=>(two x hx).2 h,fun h x hx=>by
  have h1:=hz x hx
  have h2:¬x < 0:=fun e=>h ((two x hx).1 e)
  omega⟩
def dayVB (r:Ru) (x b:Int):Bool:=(decide (r.l6.length=0) && (decide (r.fq < 5) || (!yiw r || decide (x=fD (r.st / 86400))))) || (decide (x∈r.l6) || decide (-b∈r.l6))
theorem day_law {r:Ru} {x b:Int} (hc:yae r=0) (h0:1≤x) (h1:x≤31) (h2:1≤b) (h3:b≤31):(hasB (domV r) x && hasB (endV r) b)=dayVB r x b:=by
 obtain ⟨⟨-,hx⟩,hm,-⟩:=ygx (yaC hc).e6
 obtain ⟨sn,sp⟩:=yi6 (fun y hy=>(hx y hy).2) hm
 have hu:0≤r.fq∧r.fq≤6:=by simpa only [unB,zzY] using (yb1 (yaC hc).h).2
 rw [domV,endV,if_pos hc,if_pos hc,dayVB]
 by_cases hn:r.l6.headD 0 < 0
 ·have hne:r.l6.length≠0:=fun e=>by rw [List.eq_nil_of_length_eq_zero e] at hn; exact absurd hn (by simp)
  rw [if_pos hn,if_pos hn,ybW ydK.2.1 h0 (by omega),zzo,neg_has (by omega) (by omega),zzd hne,Bool.false_and,Bool.false_or,
   zzd (fun e=>by have:=sn hn x e; omega:¬x∈r.l6),Bool.false_or]
 ·rw [if_neg hn,if_neg hn,ybW ydK.2.2 h2 (by omega),Bool.and_true]
  have hb:decide (-b∈r.l6)=false:=zzd (fun e=>by have:=sp hn (-b) e; omega)
  rw [hb,Bool.or_false]
  by_cases h:0 < r.l6.length
  ·rw [if_pos h,yca (by omega) (by omega),zzd (by omega:¬r.l6.length=0),Bool.false_and,Bool.false_or]
  ·have hl:r.l6= []:=List.eq_nil_of_length_eq_zero (by omega)
   have hl0:r.l6.length=0:=by omega
   rw [if_neg h,zzZ hl0,zzo,zzd (by rw [hl]; simp:¬x∈r.l6),Bool.or_false,yiw,zzZ hl0,zzo]
   by_cases h7:r.l7.length=0∧(r.fq=5∨r.fq=6)
   ·rw [if_pos h7,yca (by omega) (by omega),zzZ h7.1,zzd (by omega:¬r.fq < 5)]
    simp
   ·rw [if_neg h7,ybW ydK.2.1 h0 (by omega)]
    by_cases a:r.l7.length=0
    ·rw [zzZ (by omega:r.fq < 5)]; rfl
    ·rw [zzd a]; simp
end
section
open Go.RowKit
def shq (s:Nat→Int):Value:= .agg #[.int .i64 (s 0), .int .i64 (s 1), .int .i64 (s 2), .int .i64 (s 3), .int .i64 (s 4), .int .i64 (s 5), .int .i64 (s 6), .int .i64 (s 7), .int .i64 (s 8), .int .i64 (s 9)]
def nthN (oin:Int) (oback:Bool) (s:Nat→Int):Int:=if oin=1 then (if oback then s 7 else s 6) else (if oback then s 9 else s 8)
def nthB (oin:Int) (oback:Bool) (od:Nat→Nat) (s:Nat→Int):Bool:=if oin=0 then true else hasB (od (s 5).toNat) (nthN oin oback s)
abbrev ShS (W:World) (b:Nat) (s:Nat→Int):Prop:=ShC W b (s 0) (s 1) (s 2) (s 3) (s 4) (s 5) (s 6) (s 7) (s 8) (s 9)
abbrev yaV (s:Nat→Int):List Value:= [.int .i64 (s 0), .int .i64 (s 1), .int .i64 (s 2), .int .i64 (s 3), .int .i64 (s 4), .int .i64 (s 5), .int .i64 (s 6), .int .i64 (s 7), .int .i64 (s 8), .int .i64 (s 9)]
def shF (n:Int) (i:Nat):Int:=match i with
 | 0=>n | 1=>fY n | 2=>fMo n | 3=>fD n | 4=>lenI (fY n) (fMo n) - fD n+1 | 5=>(n % 7+3) % 7+1 | 6=>(fD n - 1) / 7+1 | 7=>(lenI (fY n) (fMo n) - fD n) / 7+1 | 8=>(fOr n - 1) / 7+1 | _=>(365+ya5 (fY n) - fOr n) / 7+1
theorem yaK (n:Int):shq (shF n)=shN n:=rfl
theorem shF_wk (n:Int):1≤shF n 5∧shF n 5≤7:=by show 1≤(n % 7+3) % 7+1∧(n % 7+3) % 7+1≤7; omega
theorem shF_yr {n:Int} (h0:0≤n) (h1:n < 146097):0≤shF n 1∧shF n 1 < 100000:=by
 have:=ya3 h0 h1
 show 0≤fY n∧fY n < 100000
 omega
end
end Go.Proofs.YtjahgimnfliooaaGreatDoor
