/-
  rule.Times; feriaref32.has, feriaref08.Stamp.
  rule.Months.
-/
import Derived.Test.YtjahgimnfliooaaGreatDoorQ4a6ba8
import Derived.Test.YtjahgimnfliooaaGreatDoorQ383ebe
set_option maxRecDepth 100000
set_option maxHeartbeats 25600000
namespace Go.Proofs.YtjahgimnfliooaaGreatDoor
set_option linter.unusedVariables false
section
open Go.RowKit
attribute [local go_sem ↓] yaK
attribute [local go_sem] yaA
theorem ybQ (a:Option Addr) (cap:Nat) (l:List Int) (x:Int) (w:World) (hl:l.length≤9223372036854775807) (hs:Sl w a (ints l)) :
  Calls Tryz.prog 88 #[.slice a l.length cap, .int .i64 x] w fun e w'=>e= .returned (.bool (decide (x∈l)))∧w=w':=by
 have Hs:=hid hs
 have hlI:(l.length:Int)≤9223372036854775807:=by omega
 clear hs hl
 go_enter Tryz.func88,Tryz.ntmps88
 go_wp2
 go_loopw [5] (fun i wr=>∃k:Nat,i= .int .i64 k∧k≤l.length∧Hid (¬x∈l.take k)∧wr=w) (fun i _=>l.length - (intOf i).toNat)
 case atStart=>exact ⟨0,rfl,by omega,by show¬_; simp,rfl⟩
 case round=>
  obtain ⟨k,rfl,hk,hI,rfl⟩:=hrel
  by_cases hlt:k < l.length
  ·obtain ⟨b,off,rfl,hb,hc⟩:=Hs.out.atInt hlt
   have e1:=hc k hlt
   have ht:=hid (yam l k hlt)
   have hmem:=hid (zzr hlt)
   obtain ⟨y,hy⟩:∃y,l[k]=y:=⟨_,rfl⟩
   rw [hy] at e1 ht hmem
   clear hc hy
   by_cases he:y=x
   ·have hb2:(y == x)=true:=by simpa using he
    have hr:Hid (decide (x∈l)=true):=zzZ (he ▸ hmem.out)
    clear he
    go_wp2
    go_ret
    exact ⟨by rw [hr.out]; rfl,by trivial⟩
   ·have hb2:(y == x)=false:=by simpa using he
    have hr:Hid (¬x∈l.take (k+1)):=by
     show¬_
     rw [ht.out]
     simp only [List.mem_append,List.mem_singleton]
     rintro (h | h)
     ·exact hI.out h
     ·exact he h.symm
    clear he
    go_wp2
    exact ⟨⟨k+1,by go_num,by omega,hr.out,by trivial⟩,by simp [intOf]; omega⟩
  ·have hke:l.take k=l:=List.take_of_length_le (by omega)
   rw [hke] at hI
   have hr:Hid (decide (x∈l)=false):=zzd hI.out
   clear hke
   go_wp2
   go_ret
   exact ⟨by rw [hr.out]; rfl,by trivial⟩
theorem ycs (W:World) (b:Nat) (cs:List Value):(yas W b cs).heap.size=W.heap.size:=by
 have h:∀(vs:List Value) (o:Nat) (W:World),(W.setCells b o vs).heap.size=W.heap.size:=by
  intro vs
  induction vs with
  | nil=>intro o W; rfl
  | cons v vs ih=>intro o W; rw [World.setCells,ih,World.size_setCell]
 exact h cs 0 W
theorem ya1 {t:Int} (h:winB t=true):ydC t=stpv (fY (t / 86400)) (fMo (t / 86400)) (fD (t / 86400)) (t % 86400 / 3600) (t % 86400 / 60 % 60) (t % 86400 % 60):=by rw [ydC,if_pos h]
theorem yeg (t:Int) (w:World) (h:winB t=true):Calls Tryz.prog 30 #[.int .i64 t] w fun e w'=>e= .returned (ydC t)∧Below w.heap.size w w':=by
 obtain ⟨h0,h1⟩:=ydx h
 rw [ya1 h,show t % 86400 / 60 % 60=t % 3600 / 60 by omega,show t % 86400 % 60=t % 60 by omega]
 have cD:=hid (fun W=>yfs (t / 86400) W (by omega) (by omega))
 obtain ⟨y,hy⟩:∃y,fY (t / 86400)=y:=⟨_,rfl⟩
 obtain ⟨m,hm⟩:∃y,fMo (t / 86400)=y:=⟨_,rfl⟩
 obtain ⟨d,hd⟩:∃y,fD (t / 86400)=y:=⟨_,rfl⟩
 rw [hy,hm,hd] at cD⊢
 clear h hy hm hd
 go_enter Tryz.func30,Tryz.ntmps30
 go_wp2_with fail
 refine (cD.out _).mono ?_
 rintro e w1 ⟨rfl,rfl⟩
 have h2:0≤t % 86400:=by omega
 have h3:t % 86400 < 86400:=by omega
 go_wp2
 refine bodyPost_ret (yad rfl _ _ w.heap.size 0 _ _ rfl (yau w (stpL y m d (t % 86400 / 3600) (t % 3600 / 60) (t % 60)) 66) Tryz.underlying66 rfl ygo) rfl ⟨rfl,yaa (Below.refl _ _) (zG _)⟩
def oneE (l:List Int) (at' freq:Int) (full:Nat) (fq:Int):Nat:=if 0 < l.length then ofM l else if freq≤fq then ofM [at'] else full
theorem yee (a:Option Addr) (cap:Nat) (l:List Int) (at' freq:Int) (full:Nat) (fq:Int) (b1:Nat) (w:World) (hl:l.length≤9223372036854775807) (hs:Sl w a (ints l)) (h1:w.cell? ⟨b1,1,none⟩=some (.int .i64 fq)) :
  Calls Tryz.prog 71 #[.slice a l.length cap, .int .i64 at', .int .i64 freq, .int .u64 (full:Nat), .pointer (some ⟨b1,0,none⟩)] w fun e w'=>e= .returned (.int .u64 (oneE l at' freq full fq:Nat))∧Below w.heap.size w w':=by
 have c1:=hid (yei a cap l w hl hs)
 have c2:=hid (ycw at' w 3)
 rw [oneE]
 obtain ⟨M,hM⟩:∃M,ofM l=M:=⟨_,rfl⟩
 obtain ⟨N,hN⟩:∃M,ofM [at']=M:=⟨_,rfl⟩
 rw [hM] at c1⊢
 rw [hN] at c2⊢
 clear hM hN hs hl
 by_cases h:0 < l.length
 ·rw [if_pos h]
  have hI:(0:Int) < l.length:=by omega
  go_enter Tryz.func71,Tryz.ntmps71
  go_wp2_with fail
  refine c1.out.mono ?_
  rintro e w1 ⟨rfl,hB⟩
  have HB:=hid hB
  clear hB
  go_wp2
  go_ret
  exact ⟨rfl,HB.out⟩
 ·rw [if_neg h]
  have hI:¬(0:Int) < l.length:=by omega
  clear h
  by_cases h2:freq≤fq
  ·rw [if_pos h2]
   go_enter Tryz.func71,Tryz.ntmps71
   go_wp2_with fail
   refine c2.out.mono ?_
   rintro e w1 ⟨rfl,hB⟩
   have HB:=hid hB
   clear hB
   go_wp2
   go_ret
   exact ⟨rfl,HB.out⟩
  ·rw [if_neg h2]
   go_enter Tryz.func71,Tryz.ntmps71
   go_wp2
   go_ret
   exact ⟨rfl,Below.refl _ _⟩
structure TmF (w:World) (r:Ru) (b5 b8:Nat) (y mo d h m s:Int) (F:Cl) (W:World):Prop where
 rb:RuB W w.heap.size r
 six:Six W b5 (.int .i64 y) (.int .i64 mo) (.int .i64 d) (.int .i64 h) (.int .i64 m) (.int .i64 s)
 cl:ClB W b8 F
 be:Below w.heap.size w W
 l:w.heap.size < W.heap.size∧b5 < W.heap.size∧b8 < W.heap.size
abbrev TmS (w:World) (r:Ru) (b5 b8:Nat) (y mo d h m s:Int) (F:Cl) (W:World):Prop:=
 RuC W w.heap.size r∧Six W b5 (.int .i64 y) (.int .i64 mo) (.int .i64 d) (.int .i64 h) (.int .i64 m) (.int .i64 s)∧(W.cell? ⟨b8,0,none⟩=some (.int .u64 (F.m 0:Nat))∧W.cell? ⟨b8,1,none⟩=some (.int .u64 (F.m 1:Nat))∧W.cell? ⟨b8,2,none⟩=some (.int .u64 (F.m 2:Nat)))∧TmF w r b5 b8 y mo d h m s F W
theorem TmF.sas {w W:World} {r:Ru} {b5 b8:Nat} {y mo d h m s:Int} {F:Cl} (k:TmF w r b5 b8 y mo d h m s F W):TmS w r b5 b8 y mo d h m s F W:=⟨k.rb.all,k.six,⟨k.cl.at 0 rfl,k.cl.at 1 rfl,k.cl.at 2 rfl⟩,k⟩
theorem TmF.keep {w W W':World} {r:Ru} {b5 b8:Nat} {y mo d h m s:Int} {F:Cl} (k:TmF w r b5 b8 y mo d h m s F W) (hb:Below W.heap.size W W'):TmF w r b5 b8 y mo d h m s F W':=by
 have hs:=hb.size
 obtain ⟨l1,l2,l3⟩:=k.l
 exact ⟨k.rb.below hb l1,k.six.below hb l2,k.cl.below hb l3,k.be.trans (hb.mono (by omega)),by omega,by omega,by omega⟩
theorem TmS.keep {w W W':World} {r:Ru} {b5 b8:Nat} {y mo d h m s:Int} {F:Cl} (k:TmS w r b5 b8 y mo d h m s F W) (hb:Below W.heap.size W W'):TmS w r b5 b8 y mo d h m s F W':=(k.2.2.2.keep hb).sas
def tmH (r:Ru):Nat:=if yaf r=0 then oneE r.l8 (r.st % 86400 / 3600) 3 (fullCl.m 2) r.fq else 0
def tmM (r:Ru):Nat:=if yaf r=0 then oneE r.l9 (r.st % 86400 / 60 % 60) 2 (fullCl.m 1) r.fq else 0
def tmS (r:Ru):Nat:=if yaf r=0 then oneE r.lx (r.st % 86400 % 60) 1 (fullCl.m 0) r.fq else 0
theorem yin (r:Ru) (w:World) (hr:RuS w r) (hm:r.Sm 1000000):Calls Tryz.prog 26 #[ruv r] w fun e w'=>e= .returned (.tuple #[.int .u64 (tmH r:Nat), .int .u64 (tmM r:Nat), .int .u64 (tmS r:Nat)])∧Below w.heap.size w w':=by
 have hB0:Below w.heap.size w (w.alloc (.cells (yai r).toArray 25)):=yaa (Below.refl _ _) (zG _)
 have cB:=hid (ybe r _ (hr.below hB0) hm)
 have HB0:=hid hB0
 have HRB:=hid (yaJ w r 25)
 rw [tmH,tmM,tmS]
 by_cases hc:yaf r=0
 rotate_left
 ·rw [if_neg hc,if_neg hc,if_neg hc]
  have hb:(yaf r == 0)=false:=by simpa using hc
  rw [hb] at cB
  obtain ⟨y,mo,d,h,m,s,hst⟩:=ybv r.st
  rw [hst] at cB
  clear hc hb hst hr hm hB0
  go_enter Tryz.func26,Tryz.ntmps26
  go_wp2_with fail
  refine cB.out.mono ?_
  rintro e w1 ⟨rfl,hB1⟩
  have HB1:=hid ((HB0.out.trans (hB1.mono (by simp only [zzN]; omega))).trans ((yaa (o:= .cells #[.int .i64 y, .int .i64 mo, .int .i64 d, .int .i64 h, .int .i64 m, .int .i64 s] 66) (Below.refl w1.heap.size w1) (zG _)).mono (by have:=hB1.size; simp only [zzN] at this; omega)))
  clear hB1
  go_wp2
  exact bodyPost_ret (v:= .tuple #[.int .u64 0, .int .u64 0, .int .u64 0]) (by simp [results,Tryz.results26,go_sem]) rfl ⟨rfl,HB1.out⟩
 rw [if_pos hc,if_pos hc,if_pos hc]
 have hb:(yaf r == 0)=true:=by simpa using hc
 rw [hb,ya1 (ybo (yaw hc).h).1] at cB
 obtain ⟨y,hy⟩:∃y,fY (r.st / 86400)=y:=⟨_,rfl⟩
 obtain ⟨mo,hmo⟩:∃y,fMo (r.st / 86400)=y:=⟨_,rfl⟩
 obtain ⟨d,hd⟩:∃y,fD (r.st / 86400)=y:=⟨_,rfl⟩
 obtain ⟨h,hh⟩:∃y,r.st % 86400 / 3600=y:=⟨_,rfl⟩
 obtain ⟨m,hmm⟩:∃y,r.st % 86400 / 60 % 60=y:=⟨_,rfl⟩
 obtain ⟨s,hss⟩:∃y,r.st % 86400 % 60=y:=⟨_,rfl⟩
 rw [hy,hmo,hd,hh,hmm,hss] at cB
 rw [hh,hmm,hss]
 have cF:=hid (fun W=>ybr W)
 obtain ⟨F,hF⟩:∃F,fullCl=F:=⟨_,rfl⟩
 rw [hF] at cF⊢
 have k8:=hid (fun b5 b8 W (k:TmS w r b5 b8 y mo d h m s F W)=>yax (yee r.a8 r.c8 r.l8 h 3 (F.m 2) r.fq w.heap.size W (by have:=hm.n8; omega) (hr.below k.2.2.2.be).s8 k.1.1.2.1) (fun _=>k.keep))
 have k9:=hid (fun b5 b8 W (k:TmS w r b5 b8 y mo d h m s F W)=>yax (yee r.a9 r.c9 r.l9 m 2 (F.m 1) r.fq w.heap.size W (by have:=hm.n9; omega) (hr.below k.2.2.2.be).s9 k.1.1.2.1) (fun _=>k.keep))
 have kx:=hid (fun b5 b8 W (k:TmS w r b5 b8 y mo d h m s F W)=>yax (yee r.ax r.cx r.lx s 1 (F.m 0) r.fq w.heap.size W (by have:=hm.nx; omega) (hr.below k.2.2.2.be).sx k.1.1.2.1) (fun _=>k.keep))
 obtain ⟨p8,e8⟩:∃p,oneE r.l8 h 3 (F.m 2) r.fq=p:=⟨_,rfl⟩
 obtain ⟨p9,e9⟩:∃p,oneE r.l9 m 2 (F.m 1) r.fq=p:=⟨_,rfl⟩
 obtain ⟨px,ex⟩:∃p,oneE r.lx s 1 (F.m 0) r.fq=p:=⟨_,rfl⟩
 rw [e8] at k8⊢
 rw [e9] at k9⊢
 rw [ex] at kx⊢
 clear hc hb hr hm hB0 hy hmo hd hh hmm hss hF e8 e9 ex
 go_enter Tryz.func26,Tryz.ntmps26
 go_wp2_with fail
 refine cB.out.mono ?_
 rintro e w1 ⟨rfl,hB1⟩
 have hz1:=hB1.size
 rw [zzN] at hz1
 have hn:=yaa (o:= .cells #[.int .i64 y, .int .i64 mo, .int .i64 d, .int .i64 h, .int .i64 m, .int .i64 s] 66) (Below.refl w1.heap.size w1) (zG _)
 have HB1:=hid ((HB0.out.trans (hB1.mono (by rw [zzN]; omega))).trans (hn.mono (by omega)))
 have HR1:=hid ((HRB.out.below hB1 (by rw [zzN]; omega)).below hn (by omega))
 have HX1:=hid (ya3 w1 (.int .i64 y) (.int .i64 mo) (.int .i64 d) (.int .i64 h) (.int .i64 m) (.int .i64 s) 66)
 have Hz1:Hid (w.heap.size < w1.heap.size):=by show _ < _; omega
 clear hB1 hn hz1 HRB HB0
 go_wp2_with fail
 refine (cF.out _).mono ?_
 rintro e w2 ⟨rfl,hB2⟩
 have hz2:=hB2.size
 rw [zzN] at hz2
 have hth:(w2.alloc (.cells zL.toArray 34)).there w2.heap.size 0 30:=yat w2 zL.toArray 34
 have hB3:Below w2.heap.size w2 (yas (w2.alloc (.cells zL.toArray 34)) w2.heap.size (yac F)):=yaj (yaa (Below.refl _ _) (zG _)) (zG _) _
 have hsz:(yas (w2.alloc (.cells zL.toArray 34)) w2.heap.size (yac F)).heap.size=w2.heap.size+1:=by rw [ycs,zzN]
 have HS0:Hid (TmS w r w1.heap.size w2.heap.size y mo d h m s F (yas (w2.alloc (.cells zL.toArray 34)) w2.heap.size (yac F)).drew):=by
  have h1:=Hz1.out
  refine TmS.keep (TmF.sas ⟨(HR1.out.below hB2 (by rw [zzN]; omega)).below hB3 (by omega),(HX1.out.below hB2 (by rw [zzN]; omega)).below hB3 (by omega),yak _ rfl hth,(HB1.out.trans (hB2.mono (by rw [zzN]; omega))).trans (hB3.mono (by omega)),by rw [hsz]; omega,by rw [hsz]; omega,by rw [hsz]; omega⟩) (Below.refl _ _).drew
 clear hB2 hB3 hsz hz2
 go_upto_region 6 with fail
 refine wp_region_held_drew (S:=fun w'=>TmS w r w1.heap.size w2.heap.size y mo d h m s F w') (by kernel_rfl) HS0.out (fun hHeld=>?_)
 refine zhB 0 ?_
 refine zhB 1 ?_
 refine zhB 2 ?_
 refine zhB 3 ?_
 refine zhB 4 ?_
 refine zhB 5 ?_
 refine zhB 6 ?_
 refine zhB 8 ?_
 refine zhB 9 ?_
 refine zhB 10 ?_
 refine zhB 11 ?_
 refine zhB 12 ?_
 refine zhB 13 ?_
 refine zhB 14 ?_
 refine zhB 16 ?_
 refine zhB 17 ?_
 refine zhB 18 ?_
 refine zhB 19 ?_
 refine zhB 20 ?_
 refine zhB 21 ?_
 refine zhB 22 ?_
 refine zzK 7 (fun K hK=>?_)
 go_simp
 refine (k8.out _ _ _ (by assumption)).mono ?_; rintro e wr ⟨rfl,hS⟩
 (try go_wp2_with fail)
 refine hK.out _ _ (by assumption) (fun hHeld=>?_)
 clear hK K
 try simp only [zP]
 refine zzK 15 (fun K hK=>?_)
 go_simp
 refine (k9.out _ _ _ (by assumption)).mono ?_; rintro e wr ⟨rfl,hS⟩
 (try go_wp2_with fail)
 refine hK.out _ _ (by assumption) (fun hHeld=>?_)
 clear hK K
 try simp only [zP]
 refine zzK 23 (fun K hK=>?_)
 go_simp
 refine (kx.out _ _ _ (by assumption)).mono ?_; rintro e wr ⟨rfl,hS⟩
 (try go_wp2_with fail)
 refine hK.out _ _ (by assumption) (fun hHeld=>?_)
 clear hK K
 try simp only [zP]
 refine zhB 24 ?_
 refine zhB 25 ?_
 refine zhB 26 ?_
 refine wpAnyH_done (by kernel_rfl) ?_ _
 have HV:=hid ‹TmS w r w1.heap.size w2.heap.size y mo d h m s F _›
 go_wp2
 exact bodyPost_ret (v:= .tuple #[.int .u64 (p8:Nat), .int .u64 (p9:Nat), .int .u64 (px:Nat)]) (by simp [results,Tryz.results26,go_sem]) rfl ⟨rfl,HV.out.2.2.2.be⟩
end
section
open Go.RowKit
structure MoF (w:World) (r:Ru) (b3:Nat) (y mo d h m s:Int) (W:World):Prop where
 rb:RuB W w.heap.size r
 six:Six W b3 (.int .i64 y) (.int .i64 mo) (.int .i64 d) (.int .i64 h) (.int .i64 m) (.int .i64 s)
 be:Below w.heap.size w W
 l:w.heap.size < W.heap.size∧b3 < W.heap.size
theorem MoF.keep {w W W':World} {r:Ru} {b3:Nat} {y mo d h m s:Int} (k:MoF w r b3 y mo d h m s W) (hb:Below W.heap.size W W'):MoF w r b3 y mo d h m s W':=by
 have hs:=hb.size
 obtain ⟨l1,l2⟩:=k.l
 exact ⟨k.rb.below hb l1,k.six.below hb l2,k.be.trans (hb.mono (by omega)),by omega,by omega⟩
def ya7 (r:Ru):Nat:=if yaf r=0 then (if 0 < r.l5.length then ofM r.l5 else if r.fq=6∧r.l6.length=0∧r.l7.length=0 then ofM [fMo (r.st / 86400)] else fullCl.m 3) else 0
theorem ykd (F:Cl) (W:World):(Instr.field 34 (clv F) 3).run Tryz.prog W= .ok (.int .u64 (F.m 3:Nat)) W:=by kernel_rfl
theorem ykv (r:Ru) (w:World) (hr:RuS w r) (hm:r.Sm 1000000):Calls Tryz.prog 23 #[ruv r] w fun e w'=>e= .returned (.int .u64 (ya7 r:Nat))∧Below w.heap.size w w':=by
 have hB0:Below w.heap.size w (w.alloc (.cells (yai r).toArray 25)):=yaa (Below.refl _ _) (zG _)
 have cB:=hid (ybe r _ (hr.below hB0) hm)
 have HB0:=hid hB0
 have HRB:=hid (yaJ w r 25)
 have HR:=hid hr
 have cF:=hid (fun W=>ybr W)
 have cM:=hid (fun W (h:RuS W r)=>yei r.a5 r.c5 r.l5 W (by have:=hm.n5; omega) h.s5)
 have hfd:∀W,(Instr.field 34 (clv fullCl) 3).run Tryz.prog W= .ok (.int .u64 (fullCl.m 3:Nat)) W:=fun W=>ykd fullCl W
 have cO:=hid (fun x W=>ycw x W 3)
 rw [ya7]
 have hst:yaf r=0→ydC r.st=stpv (fY (r.st / 86400)) (fMo (r.st / 86400)) (fD (r.st / 86400)) (r.st % 86400 / 3600) (r.st % 86400 / 60 % 60) (r.st % 86400 % 60):=fun hc=>ya1 (ybo (yaw hc).h).1
 obtain ⟨y,mo,d,h,m,s,hsv⟩:=ybv r.st
 have hmo:yaf r=0→fMo (r.st / 86400)=mo:=fun hc=>by
  have e:=hst hc
  rw [hsv] at e
  simp only [stpv,stpL,Value.agg.injEq,Array.mk.injEq,List.cons.injEq,Value.int.injEq,true_and,and_true] at e
  exact e.2.1.symm
 rw [hsv] at cB
 obtain ⟨F,hF⟩:∃F,fullCl=F:=⟨_,rfl⟩
 rw [hF] at cF hfd⊢
 obtain ⟨M,hM⟩:∃M,ofM r.l5=M:=⟨_,rfl⟩
 rw [hM] at cM⊢
 by_cases hc:yaf r=0
 rotate_left
 ·rw [if_neg hc]
  have hb:(yaf r == 0)=false:=by simpa using hc
  rw [hb] at cB
  clear hc hb hst hsv hmo hF hM hr hm hB0
  go_enter Tryz.func23,Tryz.ntmps23
  go_wp2_with fail
  refine cB.out.mono ?_
  rintro e w1 ⟨rfl,hB1⟩
  have hz1:=hB1.size
  rw [zzN] at hz1
  have hn:=yaa (o:= .cells #[.int .i64 y, .int .i64 mo, .int .i64 d, .int .i64 h, .int .i64 m, .int .i64 s] 66) (Below.refl w1.heap.size w1) (zG _)
  have HF1:Hid (MoF w r w1.heap.size y mo d h m s (w1.alloc (.cells #[.int .i64 y, .int .i64 mo, .int .i64 d, .int .i64 h, .int .i64 m, .int .i64 s] 66))):=⟨(HRB.out.below hB1 (by rw [zzN]; omega)).below hn (by omega),ya3 w1 (.int .i64 y) (.int .i64 mo) (.int .i64 d) (.int .i64 h) (.int .i64 m) (.int .i64 s) 66,(HB0.out.trans (hB1.mono (by rw [zzN]; omega))).trans (hn.mono (by omega)),by rw [zzN]; omega,by rw [zzN]; omega⟩
  obtain ⟨⟨k0,k1,k2,k3,k4⟩,k5,k6,k7,k8,k9,kx⟩:=HF1.out.rb.all
  clear hB1 hn hz1
  go_wp2
  go_ret
  exact ⟨rfl,HF1.out.be⟩
 rw [if_pos hc,hmo hc]
 have hb:(yaf r == 0)=true:=by simpa using hc
 rw [hb] at cB
 clear hc hb hst hsv hmo hF hM hr hm hB0
 by_cases h5:0 < r.l5.length
 ·rw [if_pos h5]
  have hI:(0:Int) < r.l5.length:=by omega
  clear h5
  go_enter Tryz.func23,Tryz.ntmps23
  go_wp2_with fail
  refine cB.out.mono ?_
  rintro e w1 ⟨rfl,hB1⟩
  have hz1:=hB1.size
  rw [zzN] at hz1
  have hn:=yaa (o:= .cells #[.int .i64 y, .int .i64 mo, .int .i64 d, .int .i64 h, .int .i64 m, .int .i64 s] 66) (Below.refl w1.heap.size w1) (zG _)
  have HF1:Hid (MoF w r w1.heap.size y mo d h m s (w1.alloc (.cells #[.int .i64 y, .int .i64 mo, .int .i64 d, .int .i64 h, .int .i64 m, .int .i64 s] 66))):=⟨(HRB.out.below hB1 (by rw [zzN]; omega)).below hn (by omega),ya3 w1 (.int .i64 y) (.int .i64 mo) (.int .i64 d) (.int .i64 h) (.int .i64 m) (.int .i64 s) 66,(HB0.out.trans (hB1.mono (by rw [zzN]; omega))).trans (hn.mono (by omega)),by rw [zzN]; omega,by rw [zzN]; omega⟩
  obtain ⟨⟨k0,k1,k2,k3,k4⟩,k5,k6,k7,k8,k9,kx⟩:=HF1.out.rb.all
  clear hB1 hn hz1
  go_wp2_with fail
  refine (cM.out _ (HR.out.below HF1.out.be)).mono ?_
  rintro e w2 ⟨rfl,hB2⟩
  have HF2:=hid (HF1.out.keep hB2)
  clear hB2
  go_wp2
  go_ret
  exact ⟨rfl,HF2.out.be⟩
 rw [if_neg h5]
 have hI:¬(0:Int) < r.l5.length:=by omega
 clear h5
 by_cases h6:r.fq=6
 rotate_left
 ·rw [if_neg (fun h=>h6 h.1)]
  have hb6:(r.fq == 6)=false:=by simpa using h6
  clear h6
  go_enter Tryz.func23,Tryz.ntmps23
  go_wp2_with fail
  refine cB.out.mono ?_
  rintro e w1 ⟨rfl,hB1⟩
  have hz1:=hB1.size
  rw [zzN] at hz1
  have hn:=yaa (o:= .cells #[.int .i64 y, .int .i64 mo, .int .i64 d, .int .i64 h, .int .i64 m, .int .i64 s] 66) (Below.refl w1.heap.size w1) (zG _)
  have HF1:Hid (MoF w r w1.heap.size y mo d h m s (w1.alloc (.cells #[.int .i64 y, .int .i64 mo, .int .i64 d, .int .i64 h, .int .i64 m, .int .i64 s] 66))):=⟨(HRB.out.below hB1 (by rw [zzN]; omega)).below hn (by omega),ya3 w1 (.int .i64 y) (.int .i64 mo) (.int .i64 d) (.int .i64 h) (.int .i64 m) (.int .i64 s) 66,(HB0.out.trans (hB1.mono (by rw [zzN]; omega))).trans (hn.mono (by omega)),by rw [zzN]; omega,by rw [zzN]; omega⟩
  obtain ⟨⟨k0,k1,k2,k3,k4⟩,k5,k6,k7,k8,k9,kx⟩:=HF1.out.rb.all
  clear hB1 hn hz1
  go_wp2_with fail
  refine (cF.out _).mono ?_
  rintro e w2 ⟨rfl,hB2⟩
  have HF2:=hid (HF1.out.keep hB2)
  clear hB2
  go_wp2
  go_ret
  exact ⟨rfl,HF2.out.be⟩
 by_cases h7:r.l6.length=0
 rotate_left
 ·rw [if_neg (fun h=>h7 h.2.1)]
  have hb6:(r.fq == 6)=true:=by simpa using h6
  have hb7:((r.l6.length:Int) == 0)=false:=by simpa using h7
  clear h6 h7
  go_enter Tryz.func23,Tryz.ntmps23
  go_wp2_with fail
  refine cB.out.mono ?_
  rintro e w1 ⟨rfl,hB1⟩
  have hz1:=hB1.size
  rw [zzN] at hz1
  have hn:=yaa (o:= .cells #[.int .i64 y, .int .i64 mo, .int .i64 d, .int .i64 h, .int .i64 m, .int .i64 s] 66) (Below.refl w1.heap.size w1) (zG _)
  have HF1:Hid (MoF w r w1.heap.size y mo d h m s (w1.alloc (.cells #[.int .i64 y, .int .i64 mo, .int .i64 d, .int .i64 h, .int .i64 m, .int .i64 s] 66))):=⟨(HRB.out.below hB1 (by rw [zzN]; omega)).below hn (by omega),ya3 w1 (.int .i64 y) (.int .i64 mo) (.int .i64 d) (.int .i64 h) (.int .i64 m) (.int .i64 s) 66,(HB0.out.trans (hB1.mono (by rw [zzN]; omega))).trans (hn.mono (by omega)),by rw [zzN]; omega,by rw [zzN]; omega⟩
  obtain ⟨⟨k0,k1,k2,k3,k4⟩,k5,k6,k7,k8,k9,kx⟩:=HF1.out.rb.all
  clear hB1 hn hz1
  go_wp2_with fail
  refine (cF.out _).mono ?_
  rintro e w2 ⟨rfl,hB2⟩
  have HF2:=hid (HF1.out.keep hB2)
  clear hB2
  go_wp2
  go_ret
  exact ⟨rfl,HF2.out.be⟩
 by_cases h8:r.l7.length=0
 rotate_left
 ·rw [if_neg (fun h=>h8 h.2.2)]
  have hb6:(r.fq == 6)=true:=by simpa using h6
  have hb7:((r.l6.length:Int) == 0)=true:=by simpa using h7
  have hb8:((r.l7.length:Int) == 0)=false:=by simpa using h8
  clear h6 h7 h8
  go_enter Tryz.func23,Tryz.ntmps23
  go_wp2_with fail
  refine cB.out.mono ?_
  rintro e w1 ⟨rfl,hB1⟩
  have hz1:=hB1.size
  rw [zzN] at hz1
  have hn:=yaa (o:= .cells #[.int .i64 y, .int .i64 mo, .int .i64 d, .int .i64 h, .int .i64 m, .int .i64 s] 66) (Below.refl w1.heap.size w1) (zG _)
  have HF1:Hid (MoF w r w1.heap.size y mo d h m s (w1.alloc (.cells #[.int .i64 y, .int .i64 mo, .int .i64 d, .int .i64 h, .int .i64 m, .int .i64 s] 66))):=⟨(HRB.out.below hB1 (by rw [zzN]; omega)).below hn (by omega),ya3 w1 (.int .i64 y) (.int .i64 mo) (.int .i64 d) (.int .i64 h) (.int .i64 m) (.int .i64 s) 66,(HB0.out.trans (hB1.mono (by rw [zzN]; omega))).trans (hn.mono (by omega)),by rw [zzN]; omega,by rw [zzN]; omega⟩
  obtain ⟨⟨k0,k1,k2,k3,k4⟩,k5,k6,k7,k8,k9,kx⟩:=HF1.out.rb.all
  clear hB1 hn hz1
  go_wp2_with fail
  refine (cF.out _).mono ?_
  rintro e w2 ⟨rfl,hB2⟩
  have HF2:=hid (HF1.out.keep hB2)
  clear hB2
  go_wp2
  go_ret
  exact ⟨rfl,HF2.out.be⟩
 rw [if_pos ⟨h6,h7,h8⟩]
 have hb6:(r.fq == 6)=true:=by simpa using h6
 have hb7:((r.l6.length:Int) == 0)=true:=by simpa using h7
 have hb8:((r.l7.length:Int) == 0)=true:=by simpa using h8
 clear h6 h7 h8
 go_enter Tryz.func23,Tryz.ntmps23
 go_wp2_with fail
 refine cB.out.mono ?_
 rintro e w1 ⟨rfl,hB1⟩
 have hz1:=hB1.size
 rw [zzN] at hz1
 have hn:=yaa (o:= .cells #[.int .i64 y, .int .i64 mo, .int .i64 d, .int .i64 h, .int .i64 m, .int .i64 s] 66) (Below.refl w1.heap.size w1) (zG _)
 have HF1:Hid (MoF w r w1.heap.size y mo d h m s (w1.alloc (.cells #[.int .i64 y, .int .i64 mo, .int .i64 d, .int .i64 h, .int .i64 m, .int .i64 s] 66))):=⟨(HRB.out.below hB1 (by rw [zzN]; omega)).below hn (by omega),ya3 w1 (.int .i64 y) (.int .i64 mo) (.int .i64 d) (.int .i64 h) (.int .i64 m) (.int .i64 s) 66,(HB0.out.trans (hB1.mono (by rw [zzN]; omega))).trans (hn.mono (by omega)),by rw [zzN]; omega,by rw [zzN]; omega⟩
 obtain ⟨⟨k0,k1,k2,k3,k4⟩,k5,k6,k7,k8,k9,kx⟩:=HF1.out.rb.all
 clear hB1 hn hz1
 obtain ⟨⟨s0,s1,s2,s3,s4,s5⟩,-⟩:=HF1.out.six
 have cO1:=hid (cO.out mo (w1.alloc (.cells #[.int .i64 y, .int .i64 mo, .int .i64 d, .int .i64 h, .int .i64 m, .int .i64 s] 66)))
 rw [zzN] at cO1
 go_wp2_with fail
 refine cO1.out.mono ?_
 rintro e w2 ⟨rfl,hB2⟩
 have HF2:=hid (HF1.out.keep (by rw [zzN]; exact hB2))
 clear hB2
 go_wp2
 go_ret
 exact ⟨rfl,HF2.out.be⟩
end
end Go.Proofs.YtjahgimnfliooaaGreatDoor
