/-
  rule.begin.
  What a rule that may be is; ten cells of a block; the weekdays of a rule.
  rule.Week.
-/
import Derived.Test.YtjahgimnfliooaaGreatDoorQ383ebe
import Derived.Deep.RegionHeld3
import Derived.Test.YtjahgimnfliooaaGreatDoorQb17bbc
set_option maxRecDepth 100000
set_option maxHeartbeats 25600000
namespace Go.Proofs.YtjahgimnfliooaaGreatDoor
set_option linter.unusedVariables false
section
open Go.RowKit
theorem yaY (w:World) (a b:Addr) (v:Value):(w.setCell a v).frozen? b=w.frozen? b:=by simp [go_sem]
structure BgF (w:World) (r:Ru) (b:Nat) (y mo d h m s:Int) (W:World):Prop where
 rb:RuB W w.heap.size r
 six:Six W b (.int .i64 y) (.int .i64 mo) (.int .i64 d) (.int .i64 h) (.int .i64 m) (.int .i64 s)
 be:Below w.heap.size w W
 l:w.heap.size+1 < b∧b < W.heap.size
abbrev BgS (w:World) (r:Ru) (b:Nat) (y mo d h m s:Int) (W:World):Prop:=
 RuC W w.heap.size r∧Six W b (.int .i64 y) (.int .i64 mo) (.int .i64 d) (.int .i64 h) (.int .i64 m) (.int .i64 s)∧BgF w r b y mo d h m s W
theorem BgF.sas {w W:World} {r:Ru} {b:Nat} {y mo d h m s:Int} (k:BgF w r b y mo d h m s W):BgS w r b y mo d h m s W:=⟨k.rb.all,k.six,k⟩
theorem BgF.keep {w W W':World} {r:Ru} {b:Nat} {y mo d h m s:Int} (k:BgF w r b y mo d h m s W) (hb:Below W.heap.size W W'):BgF w r b y mo d h m s W':=by
 have hs:=hb.size
 have l:=k.l
 exact ⟨k.rb.below hb (by omega),k.six.below hb l.2,k.be.trans (hb.mono (by omega)),l.1,by omega⟩
theorem BgS.keep {w W W':World} {r:Ru} {b:Nat} {y mo d h m s:Int} (k:BgS w r b y mo d h m s W) (hb:Below W.heap.size W W'):BgS w r b y mo d h m s W':=(k.2.2.keep hb).sas
theorem BgS.set {w W:World} {r:Ru} {b:Nat} {y mo d h m s:Int} (k:BgS w r b y mo d h m s W) (o:Nat) (v:Value):BgS w r b y mo d h m s (W.setCell ⟨w.heap.size+1,o,none⟩ v):=by
 obtain ⟨h1,⟨⟨a0,a1,a2,a3,a4,a5⟩,f0,f1,f2,f3,f4,f5⟩,h3,h4⟩:=k.2.2
 have hb:Below (w.heap.size+1) W (W.setCell ⟨w.heap.size+1,o,none⟩ v):=yab (Below.refl _ _) (zG _)
 have hs:(W.setCell ⟨w.heap.size+1,o,none⟩ v).heap.size=W.heap.size:=World.size_setCell _ _ _
 have ne:∀i,(⟨b,i,none⟩:Addr)≠⟨w.heap.size+1,o,none⟩:=fun i e=>by injection e with e _ _; omega
 have ec:∀i,(W.setCell ⟨w.heap.size+1,o,none⟩ v).cell? ⟨b,i,none⟩=W.cell? ⟨b,i,none⟩:=fun i=>zzL _ _ _ _ (ne i).symm
 exact BgF.sas ⟨h1.below hb (by omega),⟨⟨(ec 0).trans a0,(ec 1).trans a1,(ec 2).trans a2,(ec 3).trans a3,(ec 4).trans a4,(ec 5).trans a5⟩,by rw [yaY]; exact f0,by rw [yaY]; exact f1,by rw [yaY]; exact f2,by rw [yaY]; exact f3,by rw [yaY]; exact f4,by rw [yaY]; exact f5⟩,
  yab h3 (by omega),h4.1,by rw [hs]; exact h4.2⟩
theorem ybv (t:Int):∃y mo d h m s:Int,ydC t=stpv y mo d h m s:=by
 rw [ydC]; split <;> exact ⟨_,_,_,_,_,_,rfl⟩
theorem ybe (r:Ru) (w:World) (hr:RuS w r) (hm:r.Sm 1000000):Calls Tryz.prog 67 #[ruv r] w fun e w'=>e= .returned (.tuple #[ydC r.st, .bool (yaf r == 0)])∧Below w.heap.size w w':=by
 have cS:=hid (fun W=>Stamp_any r.st W)
 obtain ⟨y,mo,d,h,m,s,hst⟩:=ybv r.st
 rw [hst] at cS⊢
 have cC:Hid (∀b W,BgS w r b y mo d h m s W→Calls Tryz.prog 63 #[ruv r] W fun e w'=>e= .returned (.int .i64 (yaf r))∧BgS w r b y mo d h m s w'∧Below W.heap.size W w'):=fun b W k=>
  (yhH r W (hr.below k.2.2.be) hm).mono fun e w' ⟨he,hb⟩=>⟨he,k.keep hb,hb⟩
 obtain ⟨E,hE⟩:∃E,yaf r=E:=⟨_,rfl⟩
 rw [hE] at cC⊢
 obtain ⟨i,hi⟩:∃i,winB r.st=i:=⟨_,rfl⟩
 rw [hi] at cS
 have HB0:Hid (Below w.heap.size w ((w.alloc (.cells (yai r).toArray 25)).alloc (.cells #[.int .i64 0, .int .i64 0, .int .i64 0, .int .i64 0, .int .i64 0, .int .i64 0] 66))):=yaa (yaa (Below.refl _ _) (zG _)) (by simp)
 have hRB:RuB ((w.alloc (.cells (yai r).toArray 25)).alloc (.cells #[.int .i64 0, .int .i64 0, .int .i64 0, .int .i64 0, .int .i64 0, .int .i64 0] 66)) w.heap.size r:=(yaJ w r _).below (yaa (Below.refl _ _) (zG _)) (by simp)
 have HRB:=hid hRB
 have hX:=ya3 (w.alloc (.cells (yai r).toArray 25)) (.int .i64 0) (.int .i64 0) (.int .i64 0) (.int .i64 0) (.int .i64 0) (.int .i64 0) 66
 rw [zzN] at hX
 have HX:=hid hX
 have Hz0:Hid (((w.alloc (.cells (yai r).toArray 25)).alloc (.cells #[.int .i64 0, .int .i64 0, .int .i64 0, .int .i64 0, .int .i64 0, .int .i64 0] 66)).heap.size=w.heap.size+1+1):=by show _ = _; simp
 clear hr hm hst hE hi hRB hX
 go_enter Tryz.func67,Tryz.ntmps67
 go_wp2_with fail
 refine (cS.out _).mono ?_
 rintro e w1 ⟨rfl,hB1⟩
 have hz:=hB1.size
 rw [Hz0.out] at hz
 have hn:=yaa (o:= .cells #[.int .i64 y, .int .i64 mo, .int .i64 d, .int .i64 h, .int .i64 m, .int .i64 s] 66) (Below.refl w1.heap.size w1) (zG _)
 have hX1:=(HX.out.below hB1 (by rw [Hz0.out]; omega)).below hn (by omega)
 have HF:=hid (BgF.sas (b:=w1.heap.size) ⟨((HRB.out.below hB1 (by rw [Hz0.out]; omega)).below hn (by omega)),ya3 w1 (.int .i64 y) (.int .i64 mo) (.int .i64 d) (.int .i64 h) (.int .i64 m) (.int .i64 s) 66,(HB0.out.trans (hB1.mono (by rw [Hz0.out]; omega))).trans (hn.mono (by omega)),by omega,by simp only [zzN]; omega⟩)
 have HX1:=hid (hX1.below (Below.refl (w.heap.size+1+1) _).drew (by omega))
 have HS0:=hid (HF.out.keep (Below.refl _ _).drew)
 have hzz:w.heap.size+1 < w1.heap.size:=by omega
 have Hzz:=hid hzz
 clear hB1 hn hX1 HRB HX HB0 Hz0 hz hzz HF
 go_wp2_with fail
 refine wp_region_held_drew (S:=fun w'=>BgS w r w1.heap.size y mo d h m s w') (by kernel_rfl) HS0.out (fun hHeld=>?_)
 refine zhB 0 ?_
 refine zhB 1 ?_
 refine zzK 2 (fun K hK=>?_)
 go_simp
 refine (cC.out _ _ (by assumption)).mono ?_; rintro e w2 ⟨rfl,hS,hB⟩
 have HX2:=hid (HX1.out.below hB (by have:=hHeld.2.2.l; omega))
 clear hB
 (try go_wp2_with fail)
 refine hK.out _ _ hS (fun hHeld=>?_)
 clear hK K
 try simp only [zP]
 refine zhB 3 ?_
 obtain ⟨⟨a0,a1,a2,a3,a4,a5⟩,f0,f1,f2,f3,f4,f5⟩:=HX2.out
 refine zzK 4 (fun K hK=>?_)
 go_simp
 (try go_wp2_with fail)
 refine hK.out _ _ ((((((hS.set 0 _).set 1 _).set 2 _).set 3 _).set 4 _).set 5 _) (fun hHeld=>?_)
 clear hK K
 try simp only [zP]
 refine zhB 5 ?_
 refine wpAnyH_done (by kernel_rfl) ?_ _
 have HV:=hid (((((((hS.set 0 (.int .i64 y)).set 1 (.int .i64 mo)).set 2 (.int .i64 d)).set 3 (.int .i64 h)).set 4 (.int .i64 m)).set 5 (.int .i64 s)).2.2.be)
 go_wp2
 exact bodyPost_ret (yaD rfl _ _ (w.heap.size+1) 0 _ _ rfl (six_put HX2.out.there _ _ _ _ _ _) Tryz.underlying66 rfl ygo) rfl ⟨rfl,HV.out⟩
end
section
open Go.RowKit
theorem first_ok {l:List Int} (h:yah l=0):∀x∈l,x=0:=by
 induction l with
 | nil=>simp
 | cons x l ih=>
   rw [yah] at h
   intro y hy
   by_cases hx:x=0
   ·rw [if_pos hx] at h
    rcases List.mem_cons.1 hy with rfl | hy
    ·exact hx
    ·exact ih h y hy
   ·rw [if_neg hx] at h; exact absurd h hx
structure Ru.Ok (r:Ru):Prop where
 h:yde r=0
 e5:yaS 1 12 r.l5=0
 e6:yeb r=0
 e7:ybJ r=0
 e8:yaS 0 23 r.l8=0
 e9:yaS 0 59 r.l9=0
 ex:yaS 0 59 r.lx=0
theorem yaw {r:Ru} (h:yaf r=0):r.Ok:=by
 have k:=first_ok h
 unfold errsL at k
 exact ⟨k _ (by simp),k _ (by simp),k _ (by simp),k _ (by simp),k _ (by simp),k _ (by simp),k _ (by simp)⟩
theorem ybo {r:Ru} (h:yde r=0):winB r.st=true∧unB r.fq=true:=by
 unfold yde at h
 split at h
 ·cases h
 ·split at h
  ·cases h
  ·rename_i a b
   simp only [Bool.not_eq_false] at a b
   exact ⟨a,b⟩
theorem ye8 {lo hi:Int} {l:List Int} (h:yaS lo hi l=0):l.length≤64∧∀x∈l,lo≤x∧x≤hi:=by
 unfold yaS at h
 split at h
 ·cases h
 ·split at h
  ·cases h
  ·rename_i a b
   refine ⟨by omega,fun x hx=>?_⟩
   rw [outB,List.any_eq_true] at b
   have:¬outP lo hi x=true:=fun e=>b ⟨x,hx,e⟩
   simp only [outP,Bool.or_eq_true,zzY] at this
   omega
theorem ycn {r:Ru} (h:ybJ r=0):r.l7.length≤64∧(∀x∈r.l7,(-53≤x.1∧x.1≤53)∧1≤x.2∧x.2≤7)∧mixB (nsL r)=false∧(outB 0 0 (nsL r)=true→r.fq=5∨r.fq=6)∧(r.fq=5∨0 < r.l5.length→outB (-5) 5 (nsL r)=false):=by
 unfold ybJ at h
 split at h
 ·cases h
 ·rename_i a
  unfold yfE at h
  cases ho:outB (-53) 53 (nsL r) <;> cases hd:r.l7.any dayP <;> rw [ho,hd] at h <;> try (exact absurd (show (4:Int)=0 from h) (by decide))
  cases hm:mixB (nsL r) <;> rw [hm] at h <;> try (exact absurd (show (12:Int)=0 from h) (by decide))
  refine ⟨by omega,fun x hx=>⟨?_,?_⟩,rfl,?_,?_⟩
  ·have:¬outB (-53) 53 (nsL r)=true:=by rw [ho]; simp
   rw [outB,List.any_eq_true] at this
   have:¬outP (-53) 53 x.1=true:=fun e=>this ⟨x.1,List.mem_map_of_mem hx,e⟩
   simp only [outP,Bool.or_eq_true,zzY] at this
   omega
  ·have:¬r.l7.any dayP=true:=by rw [hd]; simp
   rw [List.any_eq_true] at this
   have:¬dayP x=true:=fun e=>this ⟨x,hx,e⟩
   simp only [dayP,Bool.or_eq_true,zzY] at this
   omega
  ·intro hz
   rw [hz] at h
   by_cases h5:r.fq=5
   ·exact .inl h5
   ·by_cases h6:r.fq=6
    ·exact .inr h6
    ·rw [show (r.fq == 5)=false by simp [h5],show (r.fq == 6)=false by simp [h6]] at h
     simp at h
  ·intro hc
   cases hq:outB (-5) 5 (nsL r)
   ·rfl
   ·rw [hq] at h
    have e:((r.fq == 5) || decide (0 < r.l5.length))=true:=by
     rcases hc with hc | hc
     ·rw [show (r.fq == 5)=true by simp [hc]]; rfl
     ·rw [zzZ hc,Bool.or_true]
    rw [e] at h
    cases hz:outB 0 0 (nsL r) <;> cases h5:(r.fq == 5) <;> cases h6:(r.fq == 6) <;> rw [hz,h5,h6] at h <;> simp at h
/-! ### ten cells -/
abbrev TenX (W:World) (b:Nat) (v0 v1 v2 v3 v4 v5 v6 v7 v8 v9:Value):Prop:=
 (W.cell? ⟨b,0,none⟩=some v0∧W.cell? ⟨b,1,none⟩=some v1∧W.cell? ⟨b,2,none⟩=some v2∧W.cell? ⟨b,3,none⟩=some v3∧W.cell? ⟨b,4,none⟩=some v4∧W.cell? ⟨b,5,none⟩=some v5∧W.cell? ⟨b,6,none⟩=some v6∧W.cell? ⟨b,7,none⟩=some v7∧W.cell? ⟨b,8,none⟩=some v8∧W.cell? ⟨b,9,none⟩=some v9)∧
 (W.frozen? ⟨b,0,none⟩=false∧W.frozen? ⟨b,1,none⟩=false∧W.frozen? ⟨b,2,none⟩=false∧W.frozen? ⟨b,3,none⟩=false∧W.frozen? ⟨b,4,none⟩=false∧W.frozen? ⟨b,5,none⟩=false∧W.frozen? ⟨b,6,none⟩=false∧W.frozen? ⟨b,7,none⟩=false∧W.frozen? ⟨b,8,none⟩=false∧W.frozen? ⟨b,9,none⟩=false)
theorem tenX_of {W:World} {b:Nat} {v0 v1 v2 v3 v4 v5 v6 v7 v8 v9:Value} (h:W.rangeAt b 0 [v0,v1,v2,v3,v4,v5,v6,v7,v8,v9]) (ht:W.there b 0 10):TenX W b v0 v1 v2 v3 v4 v5 v6 v7 v8 v9:=by
 have g:∀j v,[v0,v1,v2,v3,v4,v5,v6,v7,v8,v9][j]? =some v→W.cell? ⟨b,j,none⟩=some v:=fun j v e=>by have:=h j v e; rwa [zzn] at this
 have k:∀j,j < 10→W.frozen? ⟨b,j,none⟩=false:=fun j hj=>by have:=(ht j hj).2; rwa [zzn] at this
 exact ⟨⟨g 0 _ rfl,g 1 _ rfl,g 2 _ rfl,g 3 _ rfl,g 4 _ rfl,g 5 _ rfl,g 6 _ rfl,g 7 _ rfl,g 8 _ rfl,g 9 _ rfl⟩,k 0 (by omega),k 1 (by omega),k 2 (by omega),k 3 (by omega),k 4 (by omega),k 5 (by omega),k 6 (by omega),k 7 (by omega),k 8 (by omega),k 9 (by omega)⟩
theorem ten_ix {j:Nat} (h:j < 10):j=0∨j=1∨j=2∨j=3∨j=4∨j=5∨j=6∨j=7∨j=8∨j=9:=by omega
theorem TenX.there {W:World} {b:Nat} {v0 v1 v2 v3 v4 v5 v6 v7 v8 v9:Value} (h:TenX W b v0 v1 v2 v3 v4 v5 v6 v7 v8 v9):W.there b 0 10:=fun j hj=>by
 obtain ⟨⟨a0,a1,a2,a3,a4,a5,a6,a7,a8,a9⟩,f0,f1,f2,f3,f4,f5,f6,f7,f8,f9⟩:=h
 rw [zzn]
 rcases ten_ix hj with rfl | rfl | rfl | rfl | rfl | rfl | rfl | rfl | rfl | rfl
 ·exact ⟨by rw [a0]; rfl,f0⟩
 ·exact ⟨by rw [a1]; rfl,f1⟩
 ·exact ⟨by rw [a2]; rfl,f2⟩
 ·exact ⟨by rw [a3]; rfl,f3⟩
 ·exact ⟨by rw [a4]; rfl,f4⟩
 ·exact ⟨by rw [a5]; rfl,f5⟩
 ·exact ⟨by rw [a6]; rfl,f6⟩
 ·exact ⟨by rw [a7]; rfl,f7⟩
 ·exact ⟨by rw [a8]; rfl,f8⟩
 ·exact ⟨by rw [a9]; rfl,f9⟩
theorem TenX.range {W:World} {b:Nat} {v0 v1 v2 v3 v4 v5 v6 v7 v8 v9:Value} (h:TenX W b v0 v1 v2 v3 v4 v5 v6 v7 v8 v9):W.rangeAt b 0 [v0,v1,v2,v3,v4,v5,v6,v7,v8,v9]:=fun j v hv=>by
 obtain ⟨⟨a0,a1,a2,a3,a4,a5,a6,a7,a8,a9⟩,-⟩:=h
 have hj:j < 10:=(zzq.1 hv).1
 rw [zzn]
 rcases ten_ix hj with rfl | rfl | rfl | rfl | rfl | rfl | rfl | rfl | rfl | rfl <;> (cases hv; assumption)
theorem TenX.below {W W':World} {b B:Nat} {v0 v1 v2 v3 v4 v5 v6 v7 v8 v9:Value} (h:TenX W b v0 v1 v2 v3 v4 v5 v6 v7 v8 v9) (hb:Below B W W') (hB:b < B):TenX W' b v0 v1 v2 v3 v4 v5 v6 v7 v8 v9:=
 tenX_of (fun j v hv=>(hb.cell (p:=⟨b,0+j,none⟩) hB).trans (h.range j v hv)) (fun j hj=>by
  obtain ⟨k1,k2⟩:=h.there j hj
  exact ⟨by rw [hb.cell (p:=⟨b,0+j,none⟩) hB]; exact k1,(hb.frozen (p:=⟨b,0+j,none⟩) hB).trans k2⟩)
theorem yf3 (w:World) (v0 v1 v2 v3 v4 v5 v6 v7 v8 v9:Value) (t:TypeId):TenX (w.alloc (.cells #[v0,v1,v2,v3,v4,v5,v6,v7,v8,v9] t)) w.heap.size v0 v1 v2 v3 v4 v5 v6 v7 v8 v9:=
 tenX_of (yau w [v0,v1,v2,v3,v4,v5,v6,v7,v8,v9] t) (yat w #[v0,v1,v2,v3,v4,v5,v6,v7,v8,v9] t)
abbrev yiS (W:World) (b:Nat) (v0 v1 v2 v3 v4 v5 v6 v7 v8 v9:Value):World:=
 (((((((((W.setCell ⟨b,0,none⟩ v0).setCell ⟨b,1,none⟩ v1).setCell ⟨b,2,none⟩ v2).setCell ⟨b,3,none⟩ v3).setCell ⟨b,4,none⟩ v4).setCell ⟨b,5,none⟩ v5).setCell ⟨b,6,none⟩ v6).setCell ⟨b,7,none⟩ v7).setCell ⟨b,8,none⟩ v8).setCell ⟨b,9,none⟩ v9
theorem ybL {W:World} {b:Nat} (h:W.there b 0 10) (v0 v1 v2 v3 v4 v5 v6 v7 v8 v9:Value):(yiS W b v0 v1 v2 v3 v4 v5 v6 v7 v8 v9).rangeAt b 0 [v0,v1,v2,v3,v4,v5,v6,v7,v8,v9]:=
 World.rangeAt_setCells_same W b 0 [v0,v1,v2,v3,v4,v5,v6,v7,v8,v9] h
theorem ybb {B:Nat} {a W:World} {b:Nat} (h:Below B a W) (hb:B≤b) (v0 v1 v2 v3 v4 v5 v6 v7 v8 v9:Value):Below B a (yiS W b v0 v1 v2 v3 v4 v5 v6 v7 v8 v9):=
 yaQ hb [v0,v1,v2,v3,v4,v5,v6,v7,v8,v9] 0 W h
theorem yb6:(Tryz.prog.info? 31).map (·.size)=some 10:=by kernel_rfl
theorem yar {P:Program} {fn:Func} {p t:Tmp} {ty:TypeId} (h:fn.results= #[.tmp t, .cell p ty]) (tmps:Array Value) (w:World) (b o:Nat) (cs:List Value) (d:TypeDesc)
  (hp:tmps.getD p undef= .pointer (some ⟨b,o,none⟩)) (hc:w.rangeAt b o cs) (hu:P.underlying ty=some d) (hd:d.isRow=true) (hi:(P.info? ty).map (·.size)=some cs.length) :
  (results fn tmps).run P w= .ok (.tuple #[tmps.getD t undef, .agg cs.toArray]) w:=by
 have hp':tmps[p]?.getD undef= .pointer (some ⟨b,o,none⟩):=by simpa using hp
 simp [results,h,hp',asAddr,run_loadVar_mid w b o ty cs d hc hu hd hi]
/-! ### the weekdays -/
def wkM (l:List (Int × Int)):Nat:=l.foldl (fun m x=>m ||| ofM [x.2]) 0
def wkD (l:List (Int × Int)) (j:Nat):Nat:=l.foldl (fun m x=>if x.2= (j:Int) then m ||| ofM [max x.1 (-x.1)] else m) 0
end
section
open Go.RowKit
theorem ycw (x:Int) (W:World) (t:TypeId):Calls Tryz.prog 68 #[.slice (some ⟨W.heap.size,0,none⟩) 1 1] (W.alloc (.cells #[.int .i64 x] t)) fun e w'=>e= .returned (.int .u64 (ofM [x]))∧Below W.heap.size W w':=by
 have hb:Below W.heap.size W (W.alloc (.cells #[.int .i64 x] t)):=yaa (Below.refl _ _) (zG _)
 exact (yei (some ⟨W.heap.size,0,none⟩) 1 [x] (W.alloc (.cells #[.int .i64 x] t)) (by simp) (ybZ (yau W [.int .i64 x] t) (by simp))).mono fun e w' ⟨he,h⟩=>⟨he,hb.trans (h.mono hb.size)⟩
theorem ydx {t:Int} (h:winB t=true):0≤t∧t < 12622780800:=by
 rcases ya4 t with ⟨-,h0,h1⟩ | ⟨e,-⟩
 ·exact ⟨h0,h1⟩
 ·rw [h] at e; cases e
theorem yd9 (F:Cl) (W:World):(Instr.field 34 (clv F) 6).run Tryz.prog W= .ok (.int .u64 (F.m 6:Nat)) W:=by kernel_rfl
structure WeF (w:World) (r:Ru) (W:World):Prop where
 rb:RuB W w.heap.size r
 z:TenX W (w.heap.size+1) (.int .i64 0) (.bool false) (.int .u64 0) (.int .u64 0) (.int .u64 0) (.int .u64 0) (.int .u64 0) (.int .u64 0) (.int .u64 0) (.int .u64 0)
 be:Below w.heap.size w W
 l:w.heap.size+1 < W.heap.size
theorem WeF.keep {w W W':World} {r:Ru} (k:WeF w r W) (hb:Below W.heap.size W W'):WeF w r W':=by
 have hs:=hb.size
 have l:=k.l
 exact ⟨k.rb.below hb (by omega),k.z.below hb l,k.be.trans (hb.mono (by omega)),by omega⟩
theorem ydY (w:World) (r:Ru) (t t':TypeId):WeF w r ((w.alloc (.cells (yai r).toArray t)).alloc (.cells #[.int .i64 0, .bool false, .int .u64 0, .int .u64 0, .int .u64 0, .int .u64 0, .int .u64 0, .int .u64 0, .int .u64 0, .int .u64 0] t')):=by
 have h:=yf3 (w.alloc (.cells (yai r).toArray t)) (.int .i64 0) (.bool false) (.int .u64 0) (.int .u64 0) (.int .u64 0) (.int .u64 0) (.int .u64 0) (.int .u64 0) (.int .u64 0) (.int .u64 0) t'
 rw [zzN] at h
 exact ⟨(yaJ w r t).below (yaa (Below.refl _ _) (zG _)) (by simp),h,yaa (yaa (Below.refl _ _) (zG _)) (by simp),by simp only [zzN]; omega⟩
def wdI (n:Int):Int:=(n % 7+3) % 7+1
abbrev yfZ:Value:= .agg #[.int .i64 0, .bool false, .int .u64 0, .int .u64 0, .int .u64 0, .int .u64 0, .int .u64 0, .int .u64 0, .int .u64 0, .int .u64 0]
def ybE (r:Ru):Nat:=if yaf r=0 then (if r.l7= [] then (if r.fq=4 then ofM [wdI (r.st / 86400)] else fullCl.m 6) else if outB 0 0 (nsL r)=true then fullCl.m 6 else wkM r.l7) else 0
def yal (r:Ru):Int:=if r.fq=6∧r.l5.length=0 then 2 else 1
def ybs (r:Ru):Bool:=decide ((nsL r).headD 0 < 0)
def yex (r:Ru):Value:=if yaf r=0∧outB 0 0 (nsL r)=true then ordv (yal r) (ybs r) (wkD r.l7) else yfZ
theorem Week_no (r:Ru) (w:World) (hr:RuS w r) (hm:r.Sm 1000000) (hc:¬yaf r=0):Calls Tryz.prog 25 #[ruv r] w fun e w'=>e= .returned (.tuple #[.int .u64 (ybE r:Nat),yex r])∧Below w.heap.size w w':=by
 have hB0:=(ydY w r 25 31).be
 have HF0:=hid (ydY w r 25 31)
 have cB:=hid (ybe r _ (hr.below hB0) hm)
 have cF:=hid (fun W=>ybr W)
 have hfd:∀W,(Instr.field 34 (clv fullCl) 6).run Tryz.prog W= .ok (.int .u64 (fullCl.m 6:Nat)) W:=fun W=>yd9 fullCl W
 obtain ⟨y,mo,d,h,m,s,hst⟩:=ybv r.st
 rw [hst] at cB
 have e1:ybE r=0:=by rw [ybE,if_neg hc]
 have e2:yex r=yfZ:=by rw [yex,if_neg (fun h=>hc h.1)]
 rw [e1,e2]
 clear e1 e2
 have hb:(yaf r == 0)=false:=by simpa using hc
 rw [hb] at cB
 clear hr hm hst hB0 hb hc
 go_enter Tryz.func25,Tryz.ntmps25
 go_wp2_with fail
 refine cB.out.mono ?_
 rintro e w1 ⟨rfl,hB1⟩
 have HF1:=hid ((HF0.out.keep hB1).keep (yaa (o:= .cells #[.int .i64 y, .int .i64 mo, .int .i64 d, .int .i64 h, .int .i64 m, .int .i64 s] 66) (Below.refl w1.heap.size w1) (zG _)))
 clear hB1
 go_wp2_with fail
 refine (cF.out _).mono ?_
 rintro e w2 ⟨rfl,hB2⟩
 have HF2:=hid (HF1.out.keep hB2)
 clear hB2
 obtain ⟨⟨k0,k1,k2,k3,k4⟩,k5,k6,k7,k8,k9,kx⟩:=HF2.out.rb.all
 obtain ⟨⟨z0,z1,z2,z3,z4,z5,z6,z7,z8,z9⟩,f0,f1,f2,f3,f4,f5,f6,f7,f8,f9⟩:=HF2.out.z
 go_wp2
 exact bodyPost_ret (yar rfl _ _ (w.heap.size+1) 0 _ _ rfl (ybL HF2.out.z.there _ _ _ _ _ _ _ _ _ _) Tryz.underlying31 rfl yb6) rfl ⟨rfl,ybb HF2.out.be (by omega) _ _ _ _ _ _ _ _ _ _⟩
theorem Week_nil (r:Ru) (w:World) (hr:RuS w r) (hm:r.Sm 1000000) (hc:yaf r=0) (h7:r.l7= []):Calls Tryz.prog 25 #[ruv r] w fun e w'=>e= .returned (.tuple #[.int .u64 (ybE r:Nat),yex r])∧Below w.heap.size w w':=by
 have hn:nsL r= []:=by rw [nsL,h7]; rfl
 have hB0:=(ydY w r 25 31).be
 have HF0:=hid (ydY w r 25 31)
 have cB:=hid (ybe r _ (hr.below hB0) hm)
 have cF:=hid (fun W=>ybr W)
 have hfd:∀W,(Instr.field 34 (clv fullCl) 6).run Tryz.prog W= .ok (.int .u64 (fullCl.m 6:Nat)) W:=fun W=>yd9 fullCl W
 obtain ⟨y,mo,d,h,m,s,hst⟩:=ybv r.st
 rw [hst] at cB
 have e1:ybE r=if r.fq=4 then ofM [wdI (r.st / 86400)] else fullCl.m 6:=by rw [ybE,if_pos hc,if_pos h7]
 have e2:yex r=yfZ:=by rw [yex,if_neg (fun h=>by have h2:=h.2; rw [hn] at h2; cases h2)]
 rw [e1,e2]
 clear e1 e2
 have hb:(yaf r == 0)=true:=by simpa using hc
 rw [hb] at cB
 have hl:((r.l7.length:Int) == 0)=true:=by rw [h7]; rfl
 obtain ⟨h0,h1⟩:=ydx (ybo (yaw hc).h).1
 have cD:=hid (fun W=>yhr (r.st / 86400) W (by omega))
 rw [show (r.st / 86400 % 7+3) % 7+1=wdI (r.st / 86400) from rfl] at cD
 obtain ⟨x,hx⟩:∃x,wdI (r.st / 86400)=x:=⟨_,rfl⟩
 rw [hx] at cD⊢
 have cO:=hid (fun W=>ycw x W 3)
 obtain ⟨M,hM⟩:∃M,ofM [x]=M:=⟨_,rfl⟩
 rw [hM] at cO⊢
 obtain ⟨F,hF⟩:∃F,fullCl=F:=⟨_,rfl⟩
 rw [hF] at cF hfd⊢
 clear hr hm hst hB0 hb hc h7 hn hx hM hF
 by_cases h4:r.fq=4
 ·rw [if_pos h4]
  have hb4:(r.fq == 4)=true:=by simpa using h4
  clear h4
  go_enter Tryz.func25,Tryz.ntmps25
  go_wp2_with fail
  refine cB.out.mono ?_
  rintro e w1 ⟨rfl,hB1⟩
  have HF1:=hid ((HF0.out.keep hB1).keep (yaa (o:= .cells #[.int .i64 y, .int .i64 mo, .int .i64 d, .int .i64 h, .int .i64 m, .int .i64 s] 66) (Below.refl w1.heap.size w1) (zG _)))
  clear hB1
  go_wp2_with fail
  refine (cF.out _).mono ?_
  rintro e w2 ⟨rfl,hB2⟩
  have HF2:=hid (HF1.out.keep hB2)
  clear hB2
  obtain ⟨⟨k0,k1,k2,k3,k4⟩,k5,k6,k7,k8,k9,kx⟩:=HF2.out.rb.all
  obtain ⟨⟨z0,z1,z2,z3,z4,z5,z6,z7,z8,z9⟩,f0,f1,f2,f3,f4,f5,f6,f7,f8,f9⟩:=HF2.out.z
  go_wp2_with fail
  refine (cD.out _).mono ?_
  rintro e w3 ⟨rfl,rfl⟩
  go_wp2_with fail
  refine (cO.out _).mono ?_
  rintro e w4 ⟨rfl,hB4⟩
  have HF4:=hid (HF2.out.keep hB4)
  clear hB4 k0 k1 k2 k3 k4 k5 k6 k7 k8 k9 kx z0 z1 z2 z3 z4 z5 z6 z7 z8 z9 f0 f1 f2 f3 f4 f5 f6 f7 f8 f9
  obtain ⟨⟨z0,z1,z2,z3,z4,z5,z6,z7,z8,z9⟩,f0,f1,f2,f3,f4,f5,f6,f7,f8,f9⟩:=HF4.out.z
  go_wp2
  exact bodyPost_ret (yar rfl _ _ (w.heap.size+1) 0 _ _ rfl (ybL HF4.out.z.there _ _ _ _ _ _ _ _ _ _) Tryz.underlying31 rfl yb6) rfl ⟨rfl,ybb HF4.out.be (by omega) _ _ _ _ _ _ _ _ _ _⟩
 ·rw [if_neg h4]
  have hb4:(r.fq == 4)=false:=by simpa using h4
  clear h4
  go_enter Tryz.func25,Tryz.ntmps25
  go_wp2_with fail
  refine cB.out.mono ?_
  rintro e w1 ⟨rfl,hB1⟩
  have HF1:=hid ((HF0.out.keep hB1).keep (yaa (o:= .cells #[.int .i64 y, .int .i64 mo, .int .i64 d, .int .i64 h, .int .i64 m, .int .i64 s] 66) (Below.refl w1.heap.size w1) (zG _)))
  clear hB1
  go_wp2_with fail
  refine (cF.out _).mono ?_
  rintro e w2 ⟨rfl,hB2⟩
  have HF2:=hid (HF1.out.keep hB2)
  clear hB2
  obtain ⟨⟨k0,k1,k2,k3,k4⟩,k5,k6,k7,k8,k9,kx⟩:=HF2.out.rb.all
  obtain ⟨⟨z0,z1,z2,z3,z4,z5,z6,z7,z8,z9⟩,f0,f1,f2,f3,f4,f5,f6,f7,f8,f9⟩:=HF2.out.z
  go_wp2
  exact bodyPost_ret (yar rfl _ _ (w.heap.size+1) 0 _ _ rfl (ybL HF2.out.z.there _ _ _ _ _ _ _ _ _ _) Tryz.underlying31 rfl yb6) rfl ⟨rfl,ybb HF2.out.be (by omega) _ _ _ _ _ _ _ _ _ _⟩
end
end Go.Proofs.YtjahgimnfliooaaGreatDoor
