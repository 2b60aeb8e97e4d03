/-
  feriaref32.days and weeks.
  rule.parts, rule.Check.
-/
import Derived.Test.YtjahgimnfliooaaGreatDoorQ3bc6b4
set_option maxRecDepth 100000
set_option maxHeartbeats 25600000
namespace Go.Proofs.YtjahgimnfliooaaGreatDoor
set_option linter.unusedVariables false
section
open Go.RowKit
theorem yir (r:Ru) (w:World) (hr:RuS w r) (hm:r.Sm 1000000):Calls Tryz.prog 73 #[ruv r] w fun e w'=>e= .returned (.int .i64 (yeb r))∧Below w.heap.size w w':=by
 have hB0:Below w.heap.size w (w.alloc (.cells (yai r).toArray 25)):=yaa (Below.refl _ _) (zG _)
 have c1:=hid (ydT r.a6 r.c6 r.l6 (-31) 31 _ (by have:=hm.n6; omega) (hr.below hB0).s6)
 have c3:=hid (yhw r.a6 r.c6 r.l6 _ (by have:=hm.n6; omega) (hr.below hB0).s6)
 have HB0:=hid hB0
 have Hs:=hid (hr.below hB0).s6
 have hlI:(r.l6.length:Int)≤1000000:=by have:=hm.n6; omega
 rw [yeb]
 obtain ⟨E,hE⟩:∃q,yaS (-31) 31 r.l6=q:=⟨_,rfl⟩
 obtain ⟨m,hmx⟩:∃q,mixB r.l6=q:=⟨_,rfl⟩
 rw [hE] at c1⊢
 rw [hmx] at c3⊢
 clear hE hmx hr hm hB0
 by_cases hE0:E=0
 rotate_left
 ·rw [if_neg hE0]
  have hb:(E != 0)=true:=by simp [hE0]
  clear hE0
  go_enter Tryz.func73,Tryz.ntmps73
  go_wp2_with fail
  refine c1.out.mono ?_
  rintro e w1 ⟨rfl,rfl⟩
  go_wp2
  go_ret
  exact ⟨rfl,HB0.out⟩
 subst hE0
 rw [if_pos rfl]
 obtain ⟨V,hV⟩:∃V,(if r.l6.any (fun n=>n == 0)=true then (4:Int) else if 0 < r.l6.length∧r.fq=4 then 12 else if m=true then 12 else 0)=V:=⟨_,rfl⟩
 have HV:=hid hV
 rw [hV]
 clear hV
 go_enter Tryz.func73,Tryz.ntmps73
 go_wp2_with fail
 refine c1.out.mono ?_
 rintro e w1 ⟨rfl,rfl⟩
 clear c1
 go_wp2_with fail
 go_loopw [4] (fun i wr=>∃k:Nat,i= .int .i64 k∧k≤r.l6.length∧Hid (∀x∈r.l6.take k,(fun n:Int=>n == 0) x=false)∧wr=w.alloc (.cells (yai r).toArray 25)) (fun i _=>r.l6.length - (intOf i).toNat)
 case atStart=>exact ⟨0,rfl,by omega,by show∀x,_; simp,by rfl⟩
 case round=>
  obtain ⟨k,rfl,hk,hI,rfl⟩:=hrel
  by_cases hlt:k < r.l6.length
  ·obtain ⟨b,off,ha,hb,hc⟩:=Hs.out.atInt hlt
   have e1:=hc k hlt
   have ht:=hid (yam r.l6 k hlt)
   have hmm:=hid (zzr hlt)
   obtain ⟨y,hy⟩:∃y,r.l6[k]=y:=⟨_,rfl⟩
   rw [hy] at e1 ht hmm
   rw [ha]
   clear hc hy
   by_cases h:y=0
   ·have hz:(y == 0)=true:=by simpa using h
    have hf:Hid (V=4):=by
     show _ = _
     rw [←HV.out,if_pos (List.any_eq_true.2 ⟨y,hmm.out,hz⟩)]
    clear h
    go_wp2
    go_ret
    exact ⟨by rw [hf.out]; rfl,HB0.out⟩
   ·have hz:(y == 0)=false:=by simpa using h
    have hf:=hid (yb2 (p:=fun n:Int=>n == 0) ht.out hI.out hz)
    clear h
    go_wp2
    exact ⟨⟨k+1,by go_num,by omega,hf,by trivial⟩,by simp [intOf]; omega⟩
  ·have hke:r.l6.take k=r.l6:=List.take_of_length_le (by omega)
   rw [hke] at hI
   have hf:Hid (V=if 0 < r.l6.length∧r.fq=4 then 12 else if m=true then 12 else 0):=by
    show _ = _
    rw [←HV.out,if_neg]
    intro h
    obtain ⟨x,hx,h⟩:=List.any_eq_true.1 h
    have h2:(x == 0)=false:=hI.out x hx
    rw [h2] at h
    cases h
   clear hke
   by_cases h0:0 < r.l6.length
   ·have h0I:(0:Int) < r.l6.length:=by omega
    by_cases h4:r.fq=4
    ·have hf2:Hid (V=12):=by show _ = _; rw [hf.out,if_pos ⟨h0,h4⟩]
     have hb4:(r.fq == 4)=true:=by simp [h4]
     clear h4
     go_wp2
     go_ret
     exact ⟨by rw [hf2.out]; rfl,HB0.out⟩
    ·have hf2:Hid (V=if m=true then 12 else 0):=by show _ = _; rw [hf.out,if_neg (fun h=>h4 h.2)]
     have hb4:(r.fq == 4)=false:=by simp [h4]
     clear h4
     go_wp2_with fail
     refine c3.out.mono ?_
     rintro e w2 ⟨rfl,hB2⟩
     have HB2:=hid (HB0.out.trans (hB2.mono HB0.out.size))
     clear hB2
     cases m
     ·go_wp2
      go_ret
      exact ⟨by rw [hf2.out]; rfl,HB2.out⟩
     ·go_wp2
      go_ret
      exact ⟨by rw [hf2.out]; rfl,HB2.out⟩
   ·have h0I:¬(0:Int) < r.l6.length:=by omega
    have hf2:Hid (V=if m=true then 12 else 0):=by show _ = _; rw [hf.out,if_neg (fun h=>h0 h.1)]
    go_wp2_with fail
    refine c3.out.mono ?_
    rintro e w2 ⟨rfl,hB2⟩
    have HB2:=hid (HB0.out.trans (hB2.mono HB0.out.size))
    clear hB2
    cases m
    ·go_wp2
     go_ret
     exact ⟨by rw [hf2.out]; rfl,HB2.out⟩
    ·go_wp2
     go_ret
     exact ⟨by rw [hf2.out]; rfl,HB2.out⟩
def wkP (x:Int × Int):Bool:=outP (-53) 53 x.1 || dayP x
theorem any_or {α:Type} (p q:α→Bool):∀l:List α,l.any (fun x=>p x || q x)= (l.any p || l.any q)
 | []=>rfl
 | x :: l=>by
   rw [List.any_cons,List.any_cons,List.any_cons,any_or p q l]
   cases p x <;> cases q x <;> cases l.any p <;> rfl
theorem wk_any (r:Ru):r.l7.any wkP= (outB (-53) 53 (nsL r) || r.l7.any dayP):=by
 rw [show r.l7.any wkP=r.l7.any (fun x=>(fun y:Int × Int=>outP (-53) 53 y.1) x || dayP x) from rfl,any_or,outB,List.any_map]; rfl
theorem yhz (r:Ru) (w:World) (hr:RuS w r) (hm:r.Sm 1000000) (hu:0≤r.fq∧r.fq≤6):Calls Tryz.prog 74 #[ruv r] w fun e w'=>e= .returned (.int .i64 (ybJ r))∧Below w.heap.size w w':=by
 have hB0:Below w.heap.size w (w.alloc (.cells (yai r).toArray 25)):=yaa (Below.refl _ _) (zG _)
 have Hln:Hid ((nsL r).length=r.l7.length):=List.length_map _
 have c1:=hid (Ns_any r.a7 r.c7 r.l7 _ hm.n7 (hr.below hB0).s7)
 have hSt:∀a W,Below (w.alloc (.cells (yai r).toArray 25)).heap.size (w.alloc (.cells (yai r).toArray 25)) W→Sl W a (ints (nsL r))→WkS w r a W:=fun a W hb hs=>
  ⟨(yaJ w r _).below hb (by simp),(hr.below hB0).below hb,hs,hB0.trans (hb.mono (by simp)),zH (by simp) hb.size⟩
 have HSt:=hid hSt
 have kM:Hid (∀a cap W,WkS w r a W→Calls Tryz.prog 122 #[.slice a r.l7.length cap] W fun e w'=>e= .returned (.bool (mixB (nsL r)))∧WkS w r a w'):=fun a cap W h=>yax (by have h':=yhw a cap (nsL r) W (by have:=hm.n7; have:=Hln.out; omega) h.n; rw [Hln.out] at h'; exact h') (fun _=>h.keep)
 have kZ:Hid (∀a cap W,WkS w r a W→Calls Tryz.prog 121 #[.slice a r.l7.length cap, .int .i64 0, .int .i64 0] W fun e w'=>e= .returned (.bool (outB 0 0 (nsL r)))∧W=w'):=fun a cap W h=>by have h':=ygB a cap (nsL r) 0 0 W (by have:=hm.n7; have:=Hln.out; omega) h.n; rw [Hln.out] at h'; exact h'
 have kB:Hid (∀a cap W,WkS w r a W→Calls Tryz.prog 121 #[.slice a r.l7.length cap, .int .i64 (-5), .int .i64 5] W fun e w'=>e= .returned (.bool (outB (-5) 5 (nsL r)))∧W=w'):=fun a cap W h=>by have h':=ygB a cap (nsL r) (-5) 5 W (by have:=hm.n7; have:=Hln.out; omega) h.n; rw [Hln.out] at h'; exact h'
 have h7:=hm.n7
 have hnI:(r.l7.length:Int)≤1000000:=by omega
 have hwk:=hid (wk_any r)
 by_cases h64:64 < r.l7.length
 ·rw [ybJ,if_pos h64]
  have hI:(64:Int) < r.l7.length:=by omega
  clear hB0 hr hm h64 hSt
  go_enter Tryz.func74,Tryz.ntmps74
  go_wp2_with fail
  refine c1.out.mono ?_
  rintro e w1 ⟨v,rfl,hown,hB1⟩
  obtain ⟨a,cap,rfl,hsl,-⟩:=ya6 hown
  have hS:=HSt.out a w1 hB1 hsl
  clear hown hB1 hsl
  go_wp2
  go_ret
  exact ⟨rfl,hS.be⟩
 have hI:¬(64:Int) < r.l7.length:=by omega
 rw [ybJ,if_neg h64]
 obtain ⟨n5,hn5⟩:∃q,decide (0 < r.l5.length)=q:=⟨_,rfl⟩
 obtain ⟨f5,hf5⟩:∃q,(r.fq == 5)=q:=⟨_,rfl⟩
 obtain ⟨f6,hf6⟩:∃q,(r.fq == 6)=q:=⟨_,rfl⟩
 have hlt5:decide (r.fq < 5)= (!f5 && !f6):=by
  rw [←hf5,←hf6,zze]; simp; omega
 have hn5':decide ((0:Int) < r.l5.length)=n5:=by rw [←hn5,decide_eq_decide]; omega
 obtain ⟨o,ho⟩:∃q,outB (-53) 53 (nsL r)=q:=⟨_,rfl⟩
 obtain ⟨d,hd⟩:∃q,r.l7.any dayP=q:=⟨_,rfl⟩
 obtain ⟨m,hmx⟩:∃q,mixB (nsL r)=q:=⟨_,rfl⟩
 obtain ⟨z,hz⟩:∃q,outB 0 0 (nsL r)=q:=⟨_,rfl⟩
 obtain ⟨q,hq⟩:∃q,outB (-5) 5 (nsL r)=q:=⟨_,rfl⟩
 rw [hn5,hf5,hf6,ho,hd,hmx,hz,hq]
 rw [ho,hd] at hwk
 rw [hmx] at kM
 rw [hz] at kZ
 rw [hq] at kB
 have hK:Hid (yfE o d m z f5 f6 n5 q=if (o || d)=true then 4 else yfE false false m z f5 f6 n5 q):=by
  show _ = _
  cases o <;> cases d <;> rfl
 obtain ⟨V,hV⟩:∃V,yfE o d m z f5 f6 n5 q=V:=⟨_,rfl⟩
 rw [hV] at hK⊢
 obtain ⟨U,hU⟩:∃V,(o || d)=V:=⟨_,rfl⟩
 rw [hU] at hK hwk
 clear hm h64 hB0 hSt hn5 hf6 ho hd hmx hz hq hu hV hU
 have H7:Hid (∀W,WkS w r none W∨True→True):=fun _ _=>trivial
 go_enter Tryz.func74,Tryz.ntmps74
 go_wp2_with fail
 refine c1.out.mono ?_
 rintro e w1 ⟨v,rfl,hown,hB1⟩
 obtain ⟨a,cap,rfl,hsl,-⟩:=ya6 hown
 have hS:=HSt.out a w1 hB1 hsl
 have HS:=hid hS
 clear hown hB1 hsl H7 c1 HSt hr
 go_wp2_with fail
 go_loopw [4] (fun i wr=>∃k:Nat,i= .int .i64 k∧k≤r.l7.length∧Hid (∀x∈r.l7.take k,wkP x=false)∧wr=w1) (fun i _=>r.l7.length - (intOf i).toNat)
 case atStart=>exact ⟨0,rfl,by omega,by show∀x,_; simp,by trivial⟩
 case round=>
  obtain ⟨k,rfl,hk,hI',rfl⟩:=hrel
  obtain ⟨⟨k0,k1,k2,k3,k4⟩,k5,k6,k7,k8,k9,kx⟩:=hS.b.all
  by_cases hlt:k < r.l7.length
  ·obtain ⟨b,off,ha,hb,hc⟩:=hS.s.s7.atNth hlt
   obtain ⟨b',off',ha',hb',hc'⟩:=hS.n.atInt (l:=nsL r) (k:=k) (by rw [Hln.out]; exact hlt)
   have e1:=hc' k (by rw [Hln.out]; exact hlt)
   rw [List.getElem_map] at e1
   have e2:=(hc k hlt).2
   have ht:=hid (yam r.l7 k hlt)
   have hmm:=hid (zzr hlt)
   obtain ⟨y,hy⟩:∃y,r.l7[k]=y:=⟨_,rfl⟩
   rw [hy] at e1 e2 ht hmm
   subst ha'
   rw [ha] at k7
   clear hc hy hc' ha
   by_cases g0:y.1 < -53
   ·have hf:Hid (U=true):=by
     show _ = _
     rw [←hwk.out,List.any_eq_true]
     exact ⟨y,hmm.out,by rw [wkP,outP,zzZ g0]; rfl⟩
    go_wp2
    go_ret
    exact ⟨by rw [hK.out,hf.out]; rfl,HS.out.be⟩
   by_cases g1:53 < y.1
   ·have hf:Hid (U=true):=by
     show _ = _
     rw [←hwk.out,List.any_eq_true]
     exact ⟨y,hmm.out,by rw [wkP,outP,zzZ g1,Bool.or_true]; rfl⟩
    go_wp2
    go_ret
    exact ⟨by rw [hK.out,hf.out]; rfl,HS.out.be⟩
   by_cases g2:y.2 < 1
   ·have hf:Hid (U=true):=by
     show _ = _
     rw [←hwk.out,List.any_eq_true]
     exact ⟨y,hmm.out,by rw [wkP,dayP,zzZ g2,Bool.true_or,Bool.or_true]⟩
    go_wp2
    go_ret
    exact ⟨by rw [hK.out,hf.out]; rfl,HS.out.be⟩
   by_cases g3:7 < y.2
   ·have hf:Hid (U=true):=by
     show _ = _
     rw [←hwk.out,List.any_eq_true]
     exact ⟨y,hmm.out,by rw [wkP,dayP,zzZ g3,Bool.or_true,Bool.or_true]⟩
    go_wp2
    go_ret
    exact ⟨by rw [hK.out,hf.out]; rfl,HS.out.be⟩
   have hf:=hid (yg7 (p:=wkP) ht.out hI'.out (by rw [wkP,outP,dayP,zzd g0,zzd g1,zzd g2,zzd g3]; rfl))
   go_wp2
   exact ⟨⟨k+1,by go_num,by omega,hf,by trivial⟩,by simp [intOf]; omega⟩
  ·have hke:r.l7.take k=r.l7:=List.take_of_length_le (by omega)
   rw [hke] at hI'
   have hf:Hid (U=false):=by
    show _ = _
    rw [←hwk.out,←Bool.not_eq_true,List.any_eq_true]
    rintro ⟨x,hx,h⟩
    rw [hI'.out x hx] at h
    cases h
   have hVV:Hid (V=yfE false false m z f5 f6 n5 q):=by show _ = _; rw [hK.out,hf.out]; rfl
   clear hke
   go_wp2_with fail
   refine (kM.out a cap _ HS.out).mono ?_
   rintro e w4 ⟨rfl,hS4⟩
   clear k0 k1 k2 k3 k4 k5 k6 k7 k8 k9 kx
   obtain ⟨⟨k0,k1,k2,k3,k4⟩,k5,k6,k7,k8,k9,kx⟩:=hS4.b.all
   cases m
   rotate_left
   ·go_wp2
    go_ret
    exact ⟨by rw [hVV.out]; rfl,hS4.be⟩
   go_wp2_with fail
   refine (kZ.out a cap w4 hS4).mono ?_
   rintro e w5 ⟨rfl,rfl⟩
   cases z <;> cases f5 <;> cases f6
   all_goals
    simp only [Bool.not_true,Bool.not_false,Bool.and_true,Bool.and_false] at hlt5
    first
     | (go_wp2; go_ret; exact ⟨by rw [hVV.out]; rfl,hS4.be⟩)
     | (go_wp2_with fail
        refine (kB.out a cap w4 hS4).mono ?_
        rintro e w5 ⟨rfl,rfl⟩
        cases q <;> cases n5
        all_goals
         simp only [zzY,decide_eq_false_iff_not] at hn5'
         go_wp2
         go_ret
         exact ⟨by rw [hVV.out]; rfl,hS4.be⟩)
end
section
open Go.RowKit
theorem ygU (w:World) (a:Addr) (m:Mode) (fn:Fn) (first captured:Array Value):(store a (.func fn first captured) m).run Tryz.prog w=stored Tryz.prog w a (.func fn first captured) m:=run_store Tryz.prog w a _ m rfl
attribute [local go_sem] ygU
def yah:List Int→Int
 | []=>0
 | x :: l=>if x=0 then yah l else x
def errsL (r:Ru):List Int:= [yde r,yaS 1 12 r.l5,yeb r,ybJ r,yaS 0 23 r.l8,yaS 0 59 r.l9,yaS 0 59 r.lx]
def yaf (r:Ru):Int:=yah (errsL r)
abbrev partL:List Value:= [(.func (.func 160) #[] #[]),(.func (.func 161) #[] #[]),(.func (.func 163) #[] #[]),(.func (.func 164) #[] #[]),(.func (.func 165) #[] #[]),(.func (.func 166) #[] #[]),(.func (.func 167) #[] #[])]
theorem Parts_any (w:World):Calls Tryz.prog 116 #[] w fun e w'=>e= .returned (.slice (some ⟨w.heap.size,0,none⟩) 7 7)∧w' =w.alloc (.cells partL.toArray 181):=by
 go_enter Tryz.func116,Tryz.ntmps116
 go_wp2
 go_ret
 exact ⟨rfl,rfl⟩
abbrev PaC (W:World) (b:Nat):Prop:=W.cell? ⟨b,0,none⟩=some (.func (.func 160) #[] #[])∧W.cell? ⟨b,1,none⟩=some (.func (.func 161) #[] #[])∧W.cell? ⟨b,2,none⟩=some (.func (.func 163) #[] #[])∧W.cell? ⟨b,3,none⟩=some (.func (.func 164) #[] #[])∧W.cell? ⟨b,4,none⟩=some (.func (.func 165) #[] #[])∧W.cell? ⟨b,5,none⟩=some (.func (.func 166) #[] #[])∧W.cell? ⟨b,6,none⟩=some (.func (.func 167) #[] #[])
structure ChS (w:World) (r:Ru) (b:Nat) (W:World):Prop where
 rb:RuB W w.heap.size r
 s:RuS W r
 c:PaC W b
 be:Below w.heap.size w W
 l:w.heap.size < W.heap.size∧b < W.heap.size
theorem ChS.keep {w W W':World} {r:Ru} {b:Nat} (h:ChS w r b W) (hb:Below W.heap.size W W'):ChS w r b W':=by
 obtain ⟨c0,c1,c2,c3,c4,c5,c6⟩:=h.c
 have hs:=hb.size
 exact ⟨h.rb.below hb h.l.1,h.s.below hb,⟨(hb.cell (p:=⟨b,0,none⟩) h.l.2).trans c0,(hb.cell (p:=⟨b,1,none⟩) h.l.2).trans c1,(hb.cell (p:=⟨b,2,none⟩) h.l.2).trans c2,(hb.cell (p:=⟨b,3,none⟩) h.l.2).trans c3,(hb.cell (p:=⟨b,4,none⟩) h.l.2).trans c4,(hb.cell (p:=⟨b,5,none⟩) h.l.2).trans c5,(hb.cell (p:=⟨b,6,none⟩) h.l.2).trans c6⟩,h.be.trans (hb.mono (Nat.le_of_lt h.l.1)),zH h.l.1 hs,zH h.l.2 hs⟩
theorem paC_new (w:World) (t:TypeId):PaC (w.alloc (.cells partL.toArray t)) w.heap.size:=by
 refine ⟨?_,?_,?_,?_,?_,?_,?_⟩ <;> simp [go_sem]
theorem yhH (r:Ru) (w:World) (hr:RuS w r) (hm:r.Sm 1000000):Calls Tryz.prog 63 #[ruv r] w fun e w'=>e= .returned (.int .i64 (yaf r))∧Below w.heap.size w w':=by
 have hB0:Below w.heap.size w (w.alloc (.cells (yai r).toArray 25)):=yaa (Below.refl _ _) (zG _)
 have hn:Below (w.heap.size+1) (w.alloc (.cells (yai r).toArray 25)) ((w.alloc (.cells (yai r).toArray 25)).alloc (.cells partL.toArray 181)):=yaa (Below.refl _ _) (by simp)
 have hP:=paC_new (w.alloc (.cells (yai r).toArray 25)) 181
 rw [zzN] at hP
 have HS0:Hid (ChS w r (w.heap.size+1) ((w.alloc (.cells (yai r).toArray 25)).alloc (.cells partL.toArray 181))):=
  ⟨(yaJ w r _).below hn (by omega),(hr.below hB0).below (by simpa only [zzN] using hn),hP,hB0.trans (hn.mono (by omega)),by simp only [zzN]; omega,by simp only [zzN]; omega⟩
 have k0:Hid (∀W,ChS w r (w.heap.size+1) W→Calls Tryz.prog 160 #[ruv r] W fun e w'=>e= .returned (.int .i64 (yde r))∧ChS w r (w.heap.size+1) w'):=fun W h=>yax (Head_any r W) (fun _=>h.keep)
 have k1:Hid (∀W,ChS w r (w.heap.size+1) W→Calls Tryz.prog 161 #[ruv r] W fun e w'=>e= .returned (.int .i64 (yaS 1 12 r.l5))∧ChS w r (w.heap.size+1) w'):=fun W h=>yax (Part1_any r W h.s hm) (fun _=>h.keep)
 have k2:Hid (∀W,ChS w r (w.heap.size+1) W→Calls Tryz.prog 163 #[ruv r] W fun e w'=>e= .returned (.int .i64 (yeb r))∧ChS w r (w.heap.size+1) w'):=fun W h=>yax (ykr r W h.s hm) (fun _=>h.keep)
 have k3:Hid (∀W,ChS w r (w.heap.size+1) W→Calls Tryz.prog 164 #[ruv r] W fun e w'=>e= .returned (.int .i64 (ybJ r))∧ChS w r (w.heap.size+1) w'):=fun W h=>yax (yim r W h.s hm) (fun _=>h.keep)
 have k4:Hid (∀W,ChS w r (w.heap.size+1) W→Calls Tryz.prog 165 #[ruv r] W fun e w'=>e= .returned (.int .i64 (yaS 0 23 r.l8))∧ChS w r (w.heap.size+1) w'):=fun W h=>yax (Part2_any r W h.s hm) (fun _=>h.keep)
 have k5:Hid (∀W,ChS w r (w.heap.size+1) W→Calls Tryz.prog 166 #[ruv r] W fun e w'=>e= .returned (.int .i64 (yaS 0 59 r.l9))∧ChS w r (w.heap.size+1) w'):=fun W h=>yax (Part3_any r W h.s hm) (fun _=>h.keep)
 have k6:Hid (∀W,ChS w r (w.heap.size+1) W→Calls Tryz.prog 167 #[ruv r] W fun e w'=>e= .returned (.int .i64 (yaS 0 59 r.lx))∧ChS w r (w.heap.size+1) w'):=fun W h=>yax (Part4_any r W h.s hm) (fun _=>h.keep)
 have cP:=hid (Parts_any (w.alloc (.cells (yai r).toArray 25)))
 rw [zzN] at cP
 rw [yaf]
 have hq:errsL r= [yde r,yaS 1 12 r.l5,yeb r,ybJ r,yaS 0 23 r.l8,yaS 0 59 r.l9,yaS 0 59 r.lx]:=rfl
 rw [hq]
 obtain ⟨E0,h0⟩:∃q,yde r=q:=⟨_,rfl⟩
 obtain ⟨E1,h1⟩:∃q,yaS 1 12 r.l5=q:=⟨_,rfl⟩
 obtain ⟨E2,h2⟩:∃q,yeb r=q:=⟨_,rfl⟩
 obtain ⟨E3,h3⟩:∃q,ybJ r=q:=⟨_,rfl⟩
 obtain ⟨E4,h4⟩:∃q,yaS 0 23 r.l8=q:=⟨_,rfl⟩
 obtain ⟨E5,h5⟩:∃q,yaS 0 59 r.l9=q:=⟨_,rfl⟩
 obtain ⟨E6,h6⟩:∃q,yaS 0 59 r.lx=q:=⟨_,rfl⟩
 rw [h0,h1,h2,h3,h4,h5,h6]
 rw [h0] at k0
 rw [h1] at k1
 rw [h2] at k2
 rw [h3] at k3
 rw [h4] at k4
 rw [h5] at k5
 rw [h6] at k6
 clear h0 h1 h2 h3 h4 h5 h6 hr hm hB0 hn hP hq
 go_enter Tryz.func63,Tryz.ntmps63
 go_wp2_with fail
 refine cP.out.mono ?_
 rintro e w1 ⟨rfl,rfl⟩
 have HS0:=HS0
 go_wp2_with fail
 go_loopw [8] (fun i wr=>∃k:Nat,i= .int .i64 k∧k≤7∧Hid (yah [E0,E1,E2,E3,E4,E5,E6]=yah ([E0,E1,E2,E3,E4,E5,E6].drop k))∧Hid (ChS w r (w.heap.size+1) wr)) (fun i _=>7 - (intOf i).toNat)
 case atStart=>exact ⟨0,rfl,by omega,by rfl,HS0⟩
 case round=>
  obtain ⟨k,rfl,hk,hI,hS⟩:=hrel
  have hk8:k=0∨k=1∨k=2∨k=3∨k=4∨k=5∨k=6∨k=7:=by omega
  obtain ⟨p0,p1,p2,p3,p4,p5,p6⟩:=hS.out.c
  rcases hk8 with rfl | rfl | rfl | rfl | rfl | rfl | rfl | rfl
  ·have hn:=yaa (o:= .cells #[(.func (.func 160) #[] #[])] 181) (Below.refl wr.heap.size wr) (zG _)
   have hS1:=hS.out.keep hn
   obtain ⟨⟨q0,q1,q2,q3,q4⟩,q5,q6,q7,q8,q9,qx⟩:=hS1.rb.all
   clear hn
   go_wp2_with fail
   refine (k0.out _ hS1).mono ?_
   rintro e w2 ⟨rfl,hS2⟩
   by_cases hz:E0=0
   ·have hb:(E0 != 0)=false:=by simp [hz]
    have hf:Hid (yah [E0,E1,E2,E3,E4,E5,E6]=yah ([E0,E1,E2,E3,E4,E5,E6].drop 1)):=by
     show _ = _
     rw [hI.out]; simp [yah,hz]
    have HS2:=hid hS2
    clear hz q0 q1 q2 q3 q4 q5 q6 q7 q8 q9 qx p0 p1 p2 p3 p4 p5 p6 hS1 hS2
    go_wp2
    exact ⟨⟨1,by go_num,by omega,hf,HS2⟩,by simp [intOf]⟩
   ·have hb:(E0 != 0)=true:=by simp [hz]
    have hf:Hid (yah [E0,E1,E2,E3,E4,E5,E6]=E0):=by
     show _ = _
     rw [hI.out]; simp [yah,hz]
    have HS2:=hid hS2
    clear hz q0 q1 q2 q3 q4 q5 q6 q7 q8 q9 qx p0 p1 p2 p3 p4 p5 p6 hS1 hS2
    go_wp2
    go_ret
    exact ⟨by rw [hf.out]; rfl,HS2.out.be⟩
  ·have hn:=yaa (o:= .cells #[(.func (.func 161) #[] #[])] 181) (Below.refl wr.heap.size wr) (zG _)
   have hS1:=hS.out.keep hn
   obtain ⟨⟨q0,q1,q2,q3,q4⟩,q5,q6,q7,q8,q9,qx⟩:=hS1.rb.all
   clear hn
   go_wp2_with fail
   refine (k1.out _ hS1).mono ?_
   rintro e w2 ⟨rfl,hS2⟩
   by_cases hz:E1=0
   ·have hb:(E1 != 0)=false:=by simp [hz]
    have hf:Hid (yah [E0,E1,E2,E3,E4,E5,E6]=yah ([E0,E1,E2,E3,E4,E5,E6].drop 2)):=by
     show _ = _
     rw [hI.out]; simp [yah,hz]
    have HS2:=hid hS2
    clear hz q0 q1 q2 q3 q4 q5 q6 q7 q8 q9 qx p0 p1 p2 p3 p4 p5 p6 hS1 hS2
    go_wp2
    exact ⟨⟨2,by go_num,by omega,hf,HS2⟩,by simp [intOf]⟩
   ·have hb:(E1 != 0)=true:=by simp [hz]
    have hf:Hid (yah [E0,E1,E2,E3,E4,E5,E6]=E1):=by
     show _ = _
     rw [hI.out]; simp [yah,hz]
    have HS2:=hid hS2
    clear hz q0 q1 q2 q3 q4 q5 q6 q7 q8 q9 qx p0 p1 p2 p3 p4 p5 p6 hS1 hS2
    go_wp2
    go_ret
    exact ⟨by rw [hf.out]; rfl,HS2.out.be⟩
  ·have hn:=yaa (o:= .cells #[(.func (.func 163) #[] #[])] 181) (Below.refl wr.heap.size wr) (zG _)
   have hS1:=hS.out.keep hn
   obtain ⟨⟨q0,q1,q2,q3,q4⟩,q5,q6,q7,q8,q9,qx⟩:=hS1.rb.all
   clear hn
   go_wp2_with fail
   refine (k2.out _ hS1).mono ?_
   rintro e w2 ⟨rfl,hS2⟩
   by_cases hz:E2=0
   ·have hb:(E2 != 0)=false:=by simp [hz]
    have hf:Hid (yah [E0,E1,E2,E3,E4,E5,E6]=yah ([E0,E1,E2,E3,E4,E5,E6].drop 3)):=by
     show _ = _
     rw [hI.out]; simp [yah,hz]
    have HS2:=hid hS2
    clear hz q0 q1 q2 q3 q4 q5 q6 q7 q8 q9 qx p0 p1 p2 p3 p4 p5 p6 hS1 hS2
    go_wp2
    exact ⟨⟨3,by go_num,by omega,hf,HS2⟩,by simp [intOf]⟩
   ·have hb:(E2 != 0)=true:=by simp [hz]
    have hf:Hid (yah [E0,E1,E2,E3,E4,E5,E6]=E2):=by
     show _ = _
     rw [hI.out]; simp [yah,hz]
    have HS2:=hid hS2
    clear hz q0 q1 q2 q3 q4 q5 q6 q7 q8 q9 qx p0 p1 p2 p3 p4 p5 p6 hS1 hS2
    go_wp2
    go_ret
    exact ⟨by rw [hf.out]; rfl,HS2.out.be⟩
  ·have hn:=yaa (o:= .cells #[(.func (.func 164) #[] #[])] 181) (Below.refl wr.heap.size wr) (zG _)
   have hS1:=hS.out.keep hn
   obtain ⟨⟨q0,q1,q2,q3,q4⟩,q5,q6,q7,q8,q9,qx⟩:=hS1.rb.all
   clear hn
   go_wp2_with fail
   refine (k3.out _ hS1).mono ?_
   rintro e w2 ⟨rfl,hS2⟩
   by_cases hz:E3=0
   ·have hb:(E3 != 0)=false:=by simp [hz]
    have hf:Hid (yah [E0,E1,E2,E3,E4,E5,E6]=yah ([E0,E1,E2,E3,E4,E5,E6].drop 4)):=by
     show _ = _
     rw [hI.out]; simp [yah,hz]
    have HS2:=hid hS2
    clear hz q0 q1 q2 q3 q4 q5 q6 q7 q8 q9 qx p0 p1 p2 p3 p4 p5 p6 hS1 hS2
    go_wp2
    exact ⟨⟨4,by go_num,by omega,hf,HS2⟩,by simp [intOf]⟩
   ·have hb:(E3 != 0)=true:=by simp [hz]
    have hf:Hid (yah [E0,E1,E2,E3,E4,E5,E6]=E3):=by
     show _ = _
     rw [hI.out]; simp [yah,hz]
    have HS2:=hid hS2
    clear hz q0 q1 q2 q3 q4 q5 q6 q7 q8 q9 qx p0 p1 p2 p3 p4 p5 p6 hS1 hS2
    go_wp2
    go_ret
    exact ⟨by rw [hf.out]; rfl,HS2.out.be⟩
  ·have hn:=yaa (o:= .cells #[(.func (.func 165) #[] #[])] 181) (Below.refl wr.heap.size wr) (zG _)
   have hS1:=hS.out.keep hn
   obtain ⟨⟨q0,q1,q2,q3,q4⟩,q5,q6,q7,q8,q9,qx⟩:=hS1.rb.all
   clear hn
   go_wp2_with fail
   refine (k4.out _ hS1).mono ?_
   rintro e w2 ⟨rfl,hS2⟩
   by_cases hz:E4=0
   ·have hb:(E4 != 0)=false:=by simp [hz]
    have hf:Hid (yah [E0,E1,E2,E3,E4,E5,E6]=yah ([E0,E1,E2,E3,E4,E5,E6].drop 5)):=by
     show _ = _
     rw [hI.out]; simp [yah,hz]
    have HS2:=hid hS2
    clear hz q0 q1 q2 q3 q4 q5 q6 q7 q8 q9 qx p0 p1 p2 p3 p4 p5 p6 hS1 hS2
    go_wp2
    exact ⟨⟨5,by go_num,by omega,hf,HS2⟩,by simp [intOf]⟩
   ·have hb:(E4 != 0)=true:=by simp [hz]
    have hf:Hid (yah [E0,E1,E2,E3,E4,E5,E6]=E4):=by
     show _ = _
     rw [hI.out]; simp [yah,hz]
    have HS2:=hid hS2
    clear hz q0 q1 q2 q3 q4 q5 q6 q7 q8 q9 qx p0 p1 p2 p3 p4 p5 p6 hS1 hS2
    go_wp2
    go_ret
    exact ⟨by rw [hf.out]; rfl,HS2.out.be⟩
  ·have hn:=yaa (o:= .cells #[(.func (.func 166) #[] #[])] 181) (Below.refl wr.heap.size wr) (zG _)
   have hS1:=hS.out.keep hn
   obtain ⟨⟨q0,q1,q2,q3,q4⟩,q5,q6,q7,q8,q9,qx⟩:=hS1.rb.all
   clear hn
   go_wp2_with fail
   refine (k5.out _ hS1).mono ?_
   rintro e w2 ⟨rfl,hS2⟩
   by_cases hz:E5=0
   ·have hb:(E5 != 0)=false:=by simp [hz]
    have hf:Hid (yah [E0,E1,E2,E3,E4,E5,E6]=yah ([E0,E1,E2,E3,E4,E5,E6].drop 6)):=by
     show _ = _
     rw [hI.out]; simp [yah,hz]
    have HS2:=hid hS2
    clear hz q0 q1 q2 q3 q4 q5 q6 q7 q8 q9 qx p0 p1 p2 p3 p4 p5 p6 hS1 hS2
    go_wp2
    exact ⟨⟨6,by go_num,by omega,hf,HS2⟩,by simp [intOf]⟩
   ·have hb:(E5 != 0)=true:=by simp [hz]
    have hf:Hid (yah [E0,E1,E2,E3,E4,E5,E6]=E5):=by
     show _ = _
     rw [hI.out]; simp [yah,hz]
    have HS2:=hid hS2
    clear hz q0 q1 q2 q3 q4 q5 q6 q7 q8 q9 qx p0 p1 p2 p3 p4 p5 p6 hS1 hS2
    go_wp2
    go_ret
    exact ⟨by rw [hf.out]; rfl,HS2.out.be⟩
  ·have hn:=yaa (o:= .cells #[(.func (.func 167) #[] #[])] 181) (Below.refl wr.heap.size wr) (zG _)
   have hS1:=hS.out.keep hn
   obtain ⟨⟨q0,q1,q2,q3,q4⟩,q5,q6,q7,q8,q9,qx⟩:=hS1.rb.all
   clear hn
   go_wp2_with fail
   refine (k6.out _ hS1).mono ?_
   rintro e w2 ⟨rfl,hS2⟩
   by_cases hz:E6=0
   ·have hb:(E6 != 0)=false:=by simp [hz]
    have hf:Hid (yah [E0,E1,E2,E3,E4,E5,E6]=yah ([E0,E1,E2,E3,E4,E5,E6].drop 7)):=by
     show _ = _
     rw [hI.out]; simp [yah,hz]
    have HS2:=hid hS2
    clear hz q0 q1 q2 q3 q4 q5 q6 q7 q8 q9 qx p0 p1 p2 p3 p4 p5 p6 hS1 hS2
    go_wp2
    exact ⟨⟨7,by go_num,by omega,hf,HS2⟩,by simp [intOf]⟩
   ·have hb:(E6 != 0)=true:=by simp [hz]
    have hf:Hid (yah [E0,E1,E2,E3,E4,E5,E6]=E6):=by
     show _ = _
     rw [hI.out]; simp [yah,hz]
    have HS2:=hid hS2
    clear hz q0 q1 q2 q3 q4 q5 q6 q7 q8 q9 qx p0 p1 p2 p3 p4 p5 p6 hS1 hS2
    go_wp2
    go_ret
    exact ⟨by rw [hf.out]; rfl,HS2.out.be⟩
  ·have hf:Hid (yah [E0,E1,E2,E3,E4,E5,E6]=0):=hI.out
   clear p0 p1 p2 p3 p4 p5 p6
   go_wp2
   go_ret
   exact ⟨by rw [hf.out]; rfl,hS.out.be⟩
end
end Go.Proofs.YtjahgimnfliooaaGreatDoor
