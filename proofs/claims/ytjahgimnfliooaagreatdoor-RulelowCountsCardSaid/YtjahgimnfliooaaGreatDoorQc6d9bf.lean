/-
  A rule's count against the same rule without it (plain).
  ferialaw35.RulelowCounts: the walk.
  The table of math/bits that this seat's rows list: what a row's premise gives of it, and a world that holds it.
  A rule that is handed in: its numbers, its lists.
-/
import Derived.Test.YtjahgimnfliooaaGreatDoorQ00f8d5
import Derived.Test.YtjahgimnfliooaaGreatDoorQedf971
import Derived.Test.YtjahgimnfliooaaGreatDoorQ36c419
import Derived.Test.YtjahgimnfliooaaGreatDoorQ5b4825
import Derived.Test.YtjahgimnfliooaaGreatDoorQ43de03
import Derived.Test.YtjahgimnfliooaaGreatDoorCards
import Derived.Test.YtjahgimnfliooaaGreatDoorTie
import Derived.Test.YtjahgimnfliooaaGreatDoorQ1da1f1
import Derived.Test.YtjahgimnfliooaaGreatDoorQ76f94a
import Derived.Deep.DeepHandedRow
import Derived.Lib.LaidTab
import Derived.Test.YtjahgimnfliooaaGreatDoorQ2b0ff1
import Derived.Test.YtjahgimnfliooaaGreatDoorQ3a6f10
import Derived.Deep.Fields
import Derived.ChangeSame
import Derived.SizedLaws
set_option maxRecDepth 100000
set_option maxHeartbeats 25600000
namespace Go.Proofs.YtjahgimnfliooaaGreatDoor
set_option linter.unusedVariables false
section
open Go.RowKit Go.Maps
attribute [local irreducible] secL
def r0 (r:Ru):Ru:={r with co:=0}
theorem head_r0 {r:Ru} (h:yb3 r=0):yb3 (r0 r)=0:=by
 rw [yb3] at h
 split at h
 ·cases h
 ·rename_i h1
  split at h
  ·cases h
  ·rename_i h2
   split at h
   ·cases h
   ·rename_i h3
    split at h
    ·cases h
    ·rename_i h4
     split at h
     ·cases h
     ·split at h
      ·cases h
      ·rw [yb3]
       show (if winB r.st=false then 4 else if unB r.fq=false then 4 else if r.iv < 1 then 4 else if 1000000000000000 < r.iv then 4 else if (0:Int) < 0 then 4 else if (1000000000000000:Int) < 0 then 4 else if r.un= -1 then 0 else if winB r.un=false then 4 else if (0:Int) < 0 then 12 else 0)=0
       rw [if_neg h1,if_neg h2,if_neg h3,if_neg h4,if_neg (by decide),if_neg (by decide)]
       split at h
       ·rename_i h5; rw [if_pos h5]
       ·rename_i h5
        split at h
        ·cases h
        ·rename_i h6
         rw [if_neg h5,if_neg h6,if_neg (by decide)]
theorem yeH {r:Ru} (h:yae r=0):yae (r0 r)=0:=by
 have h1:=(yaC h).h
 rw [yae,show yiq (r0 r)=yb3 (r0 r) :: (yiq r).tail from rfl,yah,if_pos (head_r0 h1)]
 rw [yae,show yiq r=yb3 r :: (yiq r).tail from rfl,yah,if_pos h1] at h
 exact h
theorem lowC_r0 {r:Ru} (h:yae r=0):lowC (r0 r)=lowC r:=by
 have h0:=yeH h
 have e0:tmS (r0 r)=tmS r:=by rw [tmS,tmS,if_pos h0,if_pos h]; rfl
 have e1:tmM (r0 r)=tmM r:=by rw [tmM,tmM,if_pos h0,if_pos h]; rfl
 have e2:tmH (r0 r)=tmH r:=by rw [tmH,tmH,if_pos h0,if_pos h]; rfl
 have e3:yaY (r0 r)=yaY r:=by rw [yaY,yaY,if_pos h0,if_pos h]; rfl
 have e4:domV (r0 r)=domV r:=by rw [domV,domV,if_pos h0,if_pos h]; rfl
 have e5:endV (r0 r)=endV r:=by rw [endV,endV,if_pos h0,if_pos h]; rfl
 have e6:ybD (r0 r)=ybD r:=by rw [ybD,ybD,if_pos h0,if_pos h]; rfl
 have em:lowM (r0 r)=lowM r:=by funext i; rw [lowM,lowM,e0,e1,e2,e3,e4,e5,e6]
 have iff0:(yae (r0 r)=0∧outB 0 0 (nsL (r0 r))=true)= (yae r=0∧outB 0 0 (nsL r)=true):=by rw [h0,h]; rfl
 have a0:woI (r0 r)=woI r:=by simp only [woI,iff0]; rfl
 have a1:woB (r0 r)=woB r:=by simp only [woB,iff0]; rfl
 have a2:woD (r0 r)=woD r:=by funext j; simp only [woD,iff0]; rfl
 rw [lowC,lowC,em,a0,a1,a2]; rfl
theorem lowE_r0 {r:Ru} (h:lowE r=0):lowE (r0 r)=0:=by
 have hc:=yhc h
 rw [lowE,if_pos hc] at h
 rw [lowE,if_pos (yeH hc)]
 show (if 100000000000 < r.iv∨(1000000:Int) < 0 then (14:Int) else 0)=0
 by_cases h1:100000000000 < r.iv
 ·rw [if_pos (.inl h1)] at h; exact absurd h (by decide)
 ·rw [if_neg (by omega)]
theorem lowF_r0 {r:Ru} (h:yae r=0):lowF (r0 r)=lowC r:=by
 rw [lowF,if_neg (fun e=>by have:(0:Int) < 0:=e.1; omega),lowC_r0 h]
theorem ydb {l:List Cl} (h:yaj l=0) (f u:Int):countP l f u= (((cntT l f u:Nat):Int),0):=by rw [countP,if_neg (by simp [h])]
theorem yhY {la lb:List Cl} {y:Bool} {t:Int} {f:Bool} {er:Int} (h:VrdP (fun p q=>p && !q) la lb y t f er) (ha:yaj la=0) (hb:yaj lb=0) (hs:∀t,yav la t=true→yav lb t=true):y=true:=by
 obtain ⟨h1,-,h3⟩:=h
 rw [yhp,if_neg (by simp [ha]),hb] at h1
 rcases h3 h1 with ⟨-,h4,-⟩ | ⟨h4,-⟩
 ·exact h4
 ·obtain ⟨-,-,h5,-⟩:=h4
  simp only [zzX] at h5
  rw [hs _ h5.1] at h5
  exact absurd h5.2 (by decide)
theorem ykD {r:Ru} (hc:yae r=0) (h1:1≤r.co):∃n m:Int,countP [lowF r] 0 12622780799= (n,0)∧countP [lowF (r0 r)] 0 12622780799= (m,0)∧n=min m r.co∧
  (∀t,yav [lowF r] t=true→yav [lowF (r0 r)] t=true)∧((ydh [lowF r] 12622780800= (0,15)∧n=0)∨∃b,ydh [lowF r] 12622780800= (b,0)∧countP [lowF (r0 r)] 0 b= (n,0)):=by
 have fA:=yea hc
 have fB:=ye0 hc
 rw [lowF_r0 hc]
 rcases yg9 fB h1 with ⟨x,e,hx,hcx,hle,-⟩ | ⟨e,hlt⟩
 ·have hxc:hasC (lowC r) x=true:=by simpa [yav] using hx
  have eF:lowF r= {lowC r with un:=x}:=by rw [lowF,if_pos ⟨by omega,by rw [e]⟩,e]
  have hA:∀t,yav [lowF r] t= (yav [lowC r] t && decide (t≤x)):=fun t=>by
   rw [yav,yav,List.any_cons,List.any_nil,Bool.or_false,List.any_cons,List.any_nil,Bool.or_false,eF,has_un (has_bet hxc).2]
  have eI:yaT [lowF r] 0 12622780799=yaT [lowC r] 0 x:=ybe (yaZ _ _ _) (yaZ _ _ _) fun t=>by
   rw [yaA,yaA,hA,zzX,zzY]
   constructor
   ·rintro ⟨a,b,c,d⟩; exact ⟨a,d,c⟩
   ·rintro ⟨a,b,c⟩
    have:=ybp hx
    exact ⟨a,by omega,c,b⟩
  have eN:(cntT [lowF r] 0 12622780799:Int)=r.co:=by rw [cntT,eI]; exact hcx
  refine ⟨_,_,ydb fA _ _,ydb fB _ _,by rw [eN]; omega,fun t ht=>?_, .inr ⟨x,?_,?_⟩⟩
  ·rw [hA,zzX] at ht; exact ht.1
  ·refine prevP_is fA ⟨?_,(ybp hx).2,fun y hy _=>?_⟩
   ·rw [hA,hx,zzZ (Int.le_refl x)]; rfl
   ·rw [hA,zzd (show¬y≤x by omega),Bool.and_false]
  ·rw [ydb fB,eN,hcx]
 ·have eF:lowF r=lowC r:=by
   rw [lowF,if_neg (fun h=>by rw [e] at h; exact absurd h.2 (by decide))]
  rw [eF]
  refine ⟨_,_,ydb fB _ _,ydb fB _ _,by omega,fun t ht=>ht,?_⟩
  rcases yfJ (t:=12622780800) fB with ⟨b,e2,f1,f2,f3⟩ | ⟨e2,f⟩
  ·refine .inr ⟨b,e2,?_⟩
   have eI:yaT [lowC r] 0 12622780799=yaT [lowC r] 0 b:=ybe (yaZ _ _ _) (yaZ _ _ _) fun t=>by
    rw [yaA,yaA]
    constructor
    ·rintro ⟨a,c,d⟩
     refine ⟨a,Int.not_lt.1 fun h=>?_,d⟩
     rw [f3 t h (by omega)] at d; cases d
    ·rintro ⟨a,c,d⟩; exact ⟨a,by omega,d⟩
   rw [ydb fB,cntT,cntT,eI]
  ·refine .inl ⟨e2,?_⟩
   have eI:yaT [lowC r] 0 12622780799= []:=by
    rw [List.eq_nil_iff_forall_not_mem]
    intro t ht
    obtain ⟨-,c,d⟩:=yaA.1 ht
    rw [f t (by omega)] at d; cases d
   rw [cntT,eI]; rfl
end
section
open Go.RowKit Go.Maps
attribute [local irreducible] secL
def yeB (v x:Value):Sem Unit:=Instr.storeAt 25 v x
theorem yj4 (v x:Value):Instr.storeAt 25 v x=yeB v x:=rfl
attribute [local go_sem ↓] ye1 yj4
def zRu:List Value:= [.int .i64 0, .int .i64 0, .int .i64 0, .int .i64 0, .int .i64 0, .slice none 0 0, .slice none 0 0, .slice none 0 0, .slice none 0 0, .slice none 0 0, .slice none 0 0]
theorem ru_put (r:Ru):yfx zRu 0 (yak r)=yak r:=rfl
theorem ru_set (r:Ru):(yak r).set 3 (.int .i64 0)=yak (r0 r):=rfl
theorem zRu_new (w:World):LsB w.heap.size zRu (w.alloc (.cells zRu.toArray 25)):=⟨yaz w _ _,fun i=>yaN w _ _ i,by rw [zzN]; omega⟩
theorem LsB.stR {b:Nat} {L:List Value} {W:World} (h:LsB b L W) (hl:L.length=11) (r:Ru):(yeB (.pointer (some ⟨b,0,none⟩)) (ruv r)).run Tryz.prog W= .ok () (W.setCells b 0 (yak r)):=by
 unfold yeB
 exact run_storeAt_mid W b 0 25 (yak r).toArray (h.there (by rw [hl]; show 0+11≤11; omega)) infoRu (by simp [Value.oneCell'])
theorem ydU (r:Ru) (w:World) (hr:RuS w r) (hm:r.Sm 281474976710656) (hn:r.Num) (hT:Tab w):Calls Tryz.prog 5 #[ruv r] w fun e w'=>e= .returned (.bool true)∧Below w.heap.size w w':=by
 have hB0:Below w.heap.size w (w.alloc (.cells (yak r).toArray 25)):=yaa (Below.refl _ _) (zG _)
 have hR0:=yaX w r 25
 have s0:w.heap.size < (w.alloc (.cells (yak r).toArray 25)).heap.size:=by simp
 obtain ⟨W0,hW0⟩:∃W,w.alloc (.cells (yak r).toArray 25)=W:=⟨_,rfl⟩
 rw [hW0] at hB0 hR0 s0
 obtain ⟨b1,eb1⟩:∃b,w.heap.size=b:=⟨_,rfl⟩
 rw [eb1] at hR0 s0
 have HC:Hid (∀W,Below W0.heap.size W0 W→Hid (RuB W b1 r)):=fun W hB=>hR0.below hB s0
 have HB:Hid (∀W,Below W0.heap.size W0 W→Below w.heap.size w W):=fun W hB=>hB0.trans (hB.mono hB0.size)
 have S0:=hid s0
 have E1:=hid eb1
 have HW0:=hid hW0
 have cG:=hid (fun W=>yiD r W hm)
 have cL:=hid (fun W (hB:Below w.heap.size w W)=>yiF W (hT.later hB))
 clear hB0 hR0 s0 hW0 eb1
 by_cases hg:yfc r=true
 ·rw [hg] at cG
  clear hg hr hm hn hT
  go_enter Tryz.func5,Tryz.ntmps5
  go_upto_region 1 with fail
  rw [HW0.out,E1.out]
  have ld:=(HC.out _ (Below.refl _ _)).out.ldw
  go_wp2_with fail
  refine (cG.out _).mono ?_
  rintro e w1 ⟨rfl,hB⟩
  have HU1:=hid hB
  clear hB ld
  go_wp2_with fail
  refine (cL.out _ (HB.out _ HU1.out)).mono ?_
  rintro e w2 ⟨rfl,hB⟩
  have HF:=hid (HB.out _ (HU1.out.trans (hB.mono HU1.out.size)))
  clear hB
  go_wp2
  go_ret
  exact ⟨rfl,HF.out⟩
 have hg0:yfc r=false:=by simpa using hg
 rw [hg0] at cG
 have m0:=great_sm hg0
 have sm:r.Sm 1000000:=⟨by have:=m0.n5; omega,by have:=m0.n6; omega,by have:=m0.n7; omega,by have:=m0.n8; omega,by have:=m0.n9; omega,by have:=m0.nx; omega⟩
 have cF:=hid (fun W (hB:Below w.heap.size w W)=>yhL r W (hr.below hB) sm)
 clear hg hg0 m0
 by_cases hE:lowE r=0
 rotate_left
 ·obtain ⟨c,hc⟩:∃c,lowE r=c:=⟨_,rfl⟩
  rw [hc] at hE cF
  have q1:(c == 0)=false:=by simpa using hE
  have q2:(c != 0)=true:=by simpa using hE
  clear hE hc hr hm hn hT sm
  go_enter Tryz.func5,Tryz.ntmps5
  go_upto_region 1 with fail
  rw [HW0.out,E1.out]
  have ld:=(HC.out _ (Below.refl _ _)).out.ldw
  go_wp2_with fail
  refine (cG.out _).mono ?_
  rintro e w1 ⟨rfl,hB⟩
  have HU1:=hid hB
  clear hB ld
  have ld:=(HC.out _ HU1.out).out.ldw
  go_wp2_with fail
  refine (cF.out _ (HB.out _ HU1.out)).mono ?_
  rintro e w2 ⟨rfl,hB⟩
  have HU2:=hid (HU1.out.trans (hB.mono HU1.out.size))
  clear hB ld
  obtain ⟨⟨k0,k1,k2,k3,k4⟩,-⟩:=(HC.out _ HU2.out).out.all
  clear k0 k1 k2 k4
  go_wp2_with fail
  refine (cL.out _ (HB.out _ HU2.out)).mono ?_
  rintro e w3 ⟨rfl,hB⟩
  have HF:=hid (HB.out _ (HU2.out.trans (hB.mono HU2.out.size)))
  clear hB
  go_wp2
  go_ret
  exact ⟨rfl,HF.out⟩
 have hck:=yhc hE
 rw [hE] at cF
 by_cases h0:r.co=0
 ·clear hE hr hm hn hT sm hck
  go_enter Tryz.func5,Tryz.ntmps5
  go_upto_region 1 with fail
  rw [HW0.out,E1.out]
  have ld:=(HC.out _ (Below.refl _ _)).out.ldw
  go_wp2_with fail
  refine (cG.out _).mono ?_
  rintro e w1 ⟨rfl,hB⟩
  have HU1:=hid hB
  clear hB ld
  have ld:=(HC.out _ HU1.out).out.ldw
  go_wp2_with fail
  refine (cF.out _ (HB.out _ HU1.out)).mono ?_
  rintro e w2 ⟨rfl,hB⟩
  have HU2:=hid (HU1.out.trans (hB.mono HU1.out.size))
  clear hB ld
  obtain ⟨⟨k0,k1,k2,k3,k4⟩,-⟩:=(HC.out _ HU2.out).out.all
  clear k0 k1 k2 k4
  rw [h0] at k3
  go_wp2_with fail
  refine (cL.out _ (HB.out _ HU2.out)).mono ?_
  rintro e w3 ⟨rfl,hB⟩
  have HF:=hid (HB.out _ (HU2.out.trans (hB.mono HU2.out.size)))
  clear hB
  go_wp2
  go_ret
  exact ⟨rfl,HF.out⟩
 have h1:1≤r.co:=by have:=(ydJ (yaC hck).h).2.1; omega
 have q0:(r.co == 0)=false:=by simpa using h0
 have hokA:∀c∈ [lowF r],c.Ok:=by simpa using yif hn hck
 have hn0:(r0 r).Num:=⟨hn.st,hn.fq,hn.iv,by show i64B 0; unfold i64B; omega,hn.un⟩
 have hokB:∀c∈ [lowF (r0 r)],c.Ok:=by simpa using yif hn0 (yeH hck)
 have sm0:(r0 r).Sm 1000000:=⟨sm.n5,sm.n6,sm.n7,sm.n8,sm.n9,sm.nx⟩
 have hr0:RuS w (r0 r):=⟨hr.s5,hr.s6,hr.s7,hr.s8,hr.s9,hr.sx⟩
 have hE0:=lowE_r0 hE
 have hfA:=yea hck
 have hfB:=yea (yeH hck)
 have low:∀(x:Ru),RuS w x→x.Sm 1000000→x.Num→lowE x=0→∀W,Below w.heap.size w W→Calls Tryz.prog 10 #[ruv x] W fun e w'=>(∃g,e= .returned (.tuple #[.slice (some ⟨g,0,none⟩) 1 1, .int .i64 0])∧Sl w' (some ⟨g,0,none⟩) (cls [lowF x]))∧Below W.heap.size W w':=fun x hx hsm hnx hex W hB=>(yfl x W (hx.below hB) hsm hnx (hT.later hB)).mono fun e w' h=>⟨by
  rcases h.1 with ⟨h1,-⟩ | ⟨-,g,h1,-,h2⟩
  ·exact absurd hex h1
  ·exact ⟨g,h1,h2⟩,h.2⟩
 have cA:=hid (low r hr sm hn hE)
 have cB:=hid (low (r0 r) hr0 sm0 hn0 hE0)
 obtain ⟨n,m,hnA,hmB,hmin,hsub,hlast⟩:=ykD hck h1
 have kA:Hid (∀g W,Sl W (some ⟨g,0,none⟩) (cls [lowF r])→Below w.heap.size w W→Calls Tryz.prog 18 #[.slice (some ⟨g,0,none⟩) 1 1, .int .i64 0, .int .i64 12622780799] W fun e w'=>e= .returned (.tuple #[.int .i64 n, .int .i64 0])∧Below W.heap.size W w'):=fun g W hs hB=>by
  have h:=yfs (some ⟨g,0,none⟩) 1 [lowF r] 0 12622780799 W (by simp) (by simp) hs (fun h=>by cases h) hokA (hT.later hB)
  rw [hnA] at h; exact h
 have kB:Hid (∀g W u,Sl W (some ⟨g,0,none⟩) (cls [lowF (r0 r)])→Below w.heap.size w W→Calls Tryz.prog 18 #[.slice (some ⟨g,0,none⟩) 1 1, .int .i64 0, .int .i64 u] W fun e w'=>e= .returned (.tuple #[.int .i64 (countP [lowF (r0 r)] 0 u).1, .int .i64 (countP [lowF (r0 r)] 0 u).2])∧Below W.heap.size W w'):=fun g W u hs hB=>yfs (some ⟨g,0,none⟩) 1 [lowF (r0 r)] 0 u W (by simp) (by simp) hs (fun h=>by cases h) hokB (hT.later hB)
 have kB1:=hid (fun g W=>kB.out g W 12622780799)
 rw [hmB] at kB1
 have kZ:Hid (∀g W,Sl W (some ⟨g,0,none⟩) (cls [lowF r])→Below w.heap.size w W→Calls Tryz.prog 16 #[.slice (some ⟨g,0,none⟩) 1 1] W fun e w'=>e= .returned (.tuple #[.int .i64 (ydh [lowF r] 12622780800).1, .int .i64 (ydh [lowF r] 12622780800).2])∧Below W.heap.size W w'):=fun g W hs hB=>ykM (some ⟨g,0,none⟩) 1 [lowF r] W (by simp) (by simp) hs (fun h=>by cases h) hokA (hT.later hB)
 have kW:Hid (∀g h W,Sl W (some ⟨g,0,none⟩) (cls [lowF r])→Sl W (some ⟨h,0,none⟩) (cls [lowF (r0 r)])→Below w.heap.size w W→Calls Tryz.prog 19 #[.slice (some ⟨g,0,none⟩) 1 1, .slice (some ⟨h,0,none⟩) 1 1] W fun e w'=>(∃t f er,e= .returned (.tuple #[.agg #[.bool true, .int .i64 t, .bool f], .int .i64 er]))∧Below W.heap.size W w'):=fun g h W hs hs2 hB=>(yhQ (some ⟨g,0,none⟩) 1 [lowF r] (some ⟨h,0,none⟩) 1 [lowF (r0 r)] W (by simp) (by simp) hs (fun h=>by cases h) hokA (by simp) (by simp) hs2 (fun h=>by cases h) hokB (hT.later hB)).mono fun e w' hh=>⟨by
  obtain ⟨y,t,f,er,he,hv⟩:=hh.1
  obtain rfl:=yhY hv hfA hfB hsub
  exact ⟨t,f,er,he⟩,hh.2⟩
 obtain ⟨la,hla⟩:∃l,cls [lowF r]=l:=⟨_,rfl⟩
 rw [hla] at cA kA kZ kW
 obtain ⟨lb,hlb⟩:∃l,cls [lowF (r0 r)]=l:=⟨_,rfl⟩
 rw [hlb] at cB kB kB1 kW
 have Hlast:=hid hlast
 have Hmin:=hid hmin
 have ev:ruv (r0 r)= .agg #[.int .i64 r.st, .int .i64 r.fq, .int .i64 r.iv, .int .i64 0, .int .i64 r.un, .slice r.a5 r.l5.length r.c5, .slice r.a6 r.l6.length r.c6, .slice r.a7 r.l7.length r.c7, .slice r.a8 r.l8.length r.c8, .slice r.a9 r.l9.length r.c9, .slice r.ax r.lx.length r.cx]:=rfl
 have Hev:=hid ev
 clear hlast hmin hnA hmB hsub hla hlb hE hck hokA hn0 hokB sm0 hr0 hE0 hfA hfB low hr hm hn hT sm ev h0
 go_enter Tryz.func5,Tryz.ntmps5
 go_upto_region 1 with fail
 rw [HW0.out,E1.out]
 have ld:=(HC.out _ (Below.refl _ _)).out.ldw
 go_wp2_with fail
 refine (cG.out _).mono ?_
 rintro e w1 ⟨rfl,hB⟩
 have HU1:=hid hB
 clear hB ld
 have ld:=(HC.out _ HU1.out).out.ldw
 go_wp2_with fail
 refine (cF.out _ (HB.out _ HU1.out)).mono ?_
 rintro e w2 ⟨rfl,hB⟩
 have HU2:=hid (HU1.out.trans (hB.mono HU1.out.size))
 clear hB ld
 obtain ⟨⟨k0,k1,k2,k3,k4⟩,-⟩:=(HC.out _ HU2.out).out.all
 clear k0 k1 k2 k4
 have ld:=(HC.out _ HU2.out).out.ldw
 have hz:=zRu_new w2
 have hz1:=hz.sets (yak r) 0 (by show 0+11≤11; omega)
 have st:=hz.stR rfl r
 rw [ru_put] at hz1
 have bz:Below w2.heap.size w2 ((w2.alloc (.cells zRu.toArray 25)).setCells w2.heap.size 0 (yak r)):=by
  have h:=yaa (o:= .cells zRu.toArray 25) (Below.refl w2.heap.size w2) (zG _)
  exact yao h (zG _) (yak r)
 obtain ⟨w3,hw3⟩:∃W,(w2.alloc (.cells zRu.toArray 25)).setCells w2.heap.size 0 (yak r)=W:=⟨_,rfl⟩
 rw [hw3] at hz1 bz st
 have ez:(⟨w2.heap.size,0,none⟩:Addr)= ⟨w2.heap.size,0,none⟩:=rfl
 have st':(yeB (.pointer (some ⟨w2.heap.size,0,none⟩)) (ruv r)).run Tryz.prog (w2.alloc (.cells #[.int .i64 0, .int .i64 0, .int .i64 0, .int .i64 0, .int .i64 0, .slice none 0 0, .slice none 0 0, .slice none 0 0, .slice none 0 0, .slice none 0 0, .slice none 0 0] 25))= .ok () w3:=st
 clear st
 have HW3:=hid hw3
 have hz2:=hz1.set (k:=3) (by show 3 < 11; omega) (.int .i64 0)
 rw [ru_set] at hz2
 have cc:=hz1.at (k:=3) (v:= .int .i64 r.co) rfl
 have cz:=hz1.z 3
 have HZ1:=hid hz1
 have HU3:=hid (HU2.out.trans (bz.mono HU2.out.size))
 have hlt3:Hid (b1 < w2.heap.size):=zH S0.out HU2.out.size
 have bz4:Below w2.heap.size w2 (w3.setCell ⟨w2.heap.size,3,none⟩ (.int .i64 0)):=yab bz (zG _)
 obtain ⟨w4,hw4⟩:∃W,w3.setCell ⟨w2.heap.size,3,none⟩ (.int .i64 0)=W:=⟨_,rfl⟩
 rw [hw4] at hz2 bz4
 have HU4:=hid (HU2.out.trans (bz4.mono HU2.out.size))
 obtain ⟨b3,eb3⟩:∃b,w2.heap.size=b:=⟨_,rfl⟩
 rw [eb3] at hz2 hlt3
 have HZ:=hid hz2
 have E3:=hid eb3
 have HW4:=hid hw4
 clear hz hz1 bz bz4 hw3 ez HZ1 hw4 hz2 eb3
 go_upto_region 5 with fail
 rw [HW4.out,E3.out]
 clear st' cc cz
 have ld:=(HC.out _ HU4.out).out.ldw
 go_wp2_with fail
 refine (cA.out _ (HB.out _ HU4.out)).mono ?_
 rintro e w5 ⟨⟨ga,rfl,hs⟩,hB⟩
 have HU5:=hid (HU4.out.trans (hB.mono HU4.out.size))
 have HA5:=hid hs
 have HZ5:=hid (HZ.out.block hB.size (hB.block _ HZ.out.lt))
 clear hB ld hs
 have ld:=(show RuB w5 b3 (r0 r) from HZ5.out.r).ldw
 go_wp2_with fail
 refine (cB.out _ (HB.out _ HU5.out)).mono ?_
 rintro e w6 ⟨⟨gb,rfl,hs⟩,hB⟩
 have HU6:=hid (HU5.out.trans (hB.mono HU5.out.size))
 have HA6:=hid (HA5.out.below hB)
 have HB6:=hid hs
 clear hB ld hs
 go_wp2_with fail
 refine (kA.out _ _ HA6.out (HB.out _ HU6.out)).mono ?_
 rintro e w7 ⟨rfl,hB⟩
 have HU7:=hid (HU6.out.trans (hB.mono HU6.out.size))
 have HA7:=hid (HA6.out.below hB)
 have HB7:=hid (HB6.out.below hB)
 clear hB
 go_wp2_with fail
 refine (kB1.out _ _ HB7.out (HB.out _ HU7.out)).mono ?_
 rintro e w8 ⟨rfl,hB⟩
 have HU8:=hid (HU7.out.trans (hB.mono HU7.out.size))
 have HA8:=hid (HA7.out.below hB)
 have HB8:=hid (HB7.out.below hB)
 clear hB
 go_wp2_with fail
 refine (kW.out _ _ _ HA8.out HB8.out (HB.out _ HU8.out)).mono ?_
 rintro e w9 ⟨⟨t,f,er,rfl⟩,hB⟩
 have HU9:=hid (HU8.out.trans (hB.mono HU8.out.size))
 have HA9:=hid (HA8.out.below hB)
 have HB9:=hid (HB8.out.below hB)
 clear hB
 have hb10:=yaa (o:= .cells #[.bool true, .int .i64 t, .bool f] 51) (Below.refl w9.heap.size w9) (zG _)
 have c0:(w9.alloc (.cells #[.bool true, .int .i64 t, .bool f] 51)).cell? ⟨w9.heap.size,0,none⟩=some (.bool true):=by simp [go_sem]
 obtain ⟨w10,hw10⟩:∃W,w9.alloc (.cells #[.bool true, .int .i64 t, .bool f] 51)=W:=⟨_,rfl⟩
 rw [hw10] at hb10 c0
 have HU10:=hid (HU9.out.trans (hb10.mono HU9.out.size))
 have HA10:=hid (HA9.out.below hb10)
 have HB10:=hid (HB9.out.below hb10)
 have HW10:=hid hw10
 obtain ⟨⟨k0,k1,k2,k3,k4⟩,-⟩:=(HC.out _ HU10.out).out.all
 clear k0 k1 k2 k4 hb10 hw10
 go_upto_region 12 with fail
 rw [HW10.out]
 have q5:(n != min m r.co)=false:=by rw [Hmin.out]; simp
 go_wp2_with fail
 refine (kZ.out _ _ HA10.out (HB.out _ HU10.out)).mono ?_
 rintro e w11 ⟨rfl,hB⟩
 have HU11:=hid (HU10.out.trans (hB.mono HU10.out.size))
 have HB11:=hid (HB10.out.below hB)
 clear hB c0 k3 q5
 rcases Hlast.out with ⟨hl,hz⟩ | ⟨b,hl,hk⟩
 ·rw [hl]
  have q6:(n == 0)=true:=by rw [hz]; rfl
  clear hl hz
  go_wp2_with fail
  refine (cL.out _ (HB.out _ HU11.out)).mono ?_
  rintro e w12 ⟨rfl,hB⟩
  have HF:=hid (HB.out _ (HU11.out.trans (hB.mono HU11.out.size)))
  clear hB
  go_wp2
  go_ret
  exact ⟨rfl,HF.out⟩
 ·rw [hl]
  have kb:=hid (fun g W=>kB.out g W b)
  rw [hk] at kb
  clear hl hk
  go_wp2_with fail
  refine (kb.out _ _ HB11.out (HB.out _ HU11.out)).mono ?_
  rintro e w12 ⟨rfl,hB⟩
  have HU12:=hid (HU11.out.trans (hB.mono HU11.out.size))
  clear hB
  go_wp2_with fail
  refine (cL.out _ (HB.out _ HU12.out)).mono ?_
  rintro e w13 ⟨rfl,hB⟩
  have HF:=hid (HB.out _ (HU12.out.trans (hB.mono HU12.out.size)))
  clear hB
  go_wp2
  go_ret
  exact ⟨rfl,HF.out⟩
end
section
open Go.ChangeShapes Go.WideShapes Go.ChangeAt Go.RowKit
theorem yh7:ownKnob Tryz.prog.godebug=none:=by kernel_rfl
theorem laidOut:laidOutB Tryz.prog=true:=by kernel_rfl
theorem gTab:Tryz.prog.globalNamed "math/bits.deBruijn64tab" =some 0:=by kernel_rfl
theorem gTabType:(Tryz.prog.globals[0]?).map (·.type)=some 234:=by kernel_rfl
theorem cellsTab:Tryz.prog.cellsOf 234=64:=by kernel_rfl
theorem cellsU8:Tryz.prog.cellsOf 5=1:=by kernel_rfl
def tabInts:List Int:=Lib.deBruijn64tab.map fun (n:Nat)=>(n:Int)
theorem yh0:∀i,i < 64→tabInts.getD i 0= ((Lib.deBruijn64tab.getD i 0:Nat):Int):=by decide
theorem tab_of {W:World} (h:laidMetH Tryz.prog [("math/bits.deBruijn64tab",Rows.laid_math_bits_deBruijn64tab)] W):Tab W:=by
 have ht:Lib.TabIs Tryz.prog W "math/bits.deBruijn64tab" .u8 tabInts:=Lib.tabIs_of_head (rest:= []) gTab gTabType Tryz.underlying234 Tryz.underlying5 cellsU8 cellsTab h
 have hc:∀i,i < 64→W.cell? ⟨0,i,none⟩=some (.int .u8 (tabInts.getD i 0)):=fun i hi=>ht.cell gTab i hi
 exact ⟨Nat.lt_of_le_of_lt (Nat.zero_le _) (World.block_lt_of_cell? W _ (hc 0 (by omega))),fun i hi=>by rw [hc i hi,yh0 i hi]⟩
noncomputable def ye4 (os:Os):World:=
 {World.holding Tryz.prog os ⟨#[],#[],[]⟩ with heap:=(World.holding Tryz.prog os ⟨#[],#[],[]⟩).heap.modify 0 fun
   | .cells _ t frozen=> .cells (tabInts.map (Value.int .u8)).toArray t frozen
   | o=>o}
end
section
open Go.ChangeShapes Go.WideShapes Go.ChangeAt Go.RowKit Go.Deep
theorem yi7:∀{cells:List Value} {n:Nat},cells.length=n * 2→(∀i,i < n→oks [.int .i64, .int .i64] ((cells.drop (i * 2)).take 2))→∃l:List (Int × Int),cells=nths l∧l.length=n
 | cells,0,h,_=>⟨[],by cases cells; rfl; simp at h,rfl⟩
 | cells,n+1,h,hk=>by
   obtain ⟨l,e,hl⟩:=yi7 (cells:=cells.drop 2) (n:=n) (by simp; omega) (fun i hi=>by
    have:=hk (i+1) (by omega)
    rw [List.drop_drop]
    rwa [show 2+i * 2= (i+1) * 2 by omega])
   have h0:=hk 0 (by omega)
   rw [Nat.zero_mul,List.drop_zero] at h0
   obtain ⟨x,y,ec,-,-⟩:=oks_two h0
   refine ⟨(x,y) :: l,?_,by simp [hl]⟩
   rw [show nths ((x,y) :: l)= [.int .i64 x, .int .i64 y] ++ nths l by simp [nths,nth2],←e,←ec,List.take_append_drop]
theorem ycj {H:Type} {enc:TypeId × Value→H} {W:World} {fuel:Nat} {v:Value} {y:DataW H × List MemPlace} (h:DataW.trod enc Tryz.prog W 0 (fun _=>true) true fuel 22 [v]=some y) :
  ∃(a:Option Addr) (cap:Nat) (l:List Int),v= .slice a l.length cap∧(l.length=0∨∃elems spare,y.1= .slice elems spare∧elems.length=l.length)∧Sl W a (ints l):=by
 obtain ⟨a,n,cap,cells,rfl,h1,h2,h3,h4,h6,h5⟩:=yg8 (m:=1) (ks:= [.int .i64]) Tryz.underlying22 (by kernel_rfl) (by kernel_rfl) (by decide) h
 obtain ⟨l,rfl,rfl,-⟩:=yi8 h3 h5
 refine ⟨a,cap,l,rfl,?_,h4⟩
 rcases Go.Deep.open_slice Tryz.underlying22 h with ⟨e,-⟩ | ⟨a',len,cap',m,nn,D,Pl,e,-,-,-,-,rfl,-⟩
 ·left
  simp only [List.cons.injEq,Value.slice.injEq] at e
  exact e.1.2.1
 ·right
  simp only [List.cons.injEq,Value.slice.injEq] at e
  exact ⟨_,_,rfl,by rw [List.length_map,List.length_range]; exact e.1.2.1.symm⟩
theorem ykd {H:Type} {enc:TypeId × Value→H} {W:World} {fuel:Nat} {v:Value} {y:DataW H × List MemPlace} (h:DataW.trod enc Tryz.prog W 0 (fun _=>true) true fuel 23 [v]=some y) :
  ∃(a:Option Addr) (cap:Nat) (l:List (Int × Int)),v= .slice a l.length cap∧(l.length=0∨∃elems spare,y.1= .slice elems spare∧elems.length=l.length)∧Sl W a (nths l):=by
 obtain ⟨a,n,cap,cells,rfl,h1,h2,h3,h4,h6,h5⟩:=yg8 (m:=3) (ks:= [.int .i64, .int .i64]) Tryz.underlying23 (by kernel_rfl) (by kernel_rfl) (by decide) h
 obtain ⟨l,rfl,rfl⟩:=yi7 h3 h5
 refine ⟨a,cap,l,rfl,?_,h4⟩
 rcases Go.Deep.open_slice Tryz.underlying23 h with ⟨e,-⟩ | ⟨a',len,cap',m,nn,D,Pl,e,-,-,-,-,rfl,-⟩
 ·left
  simp only [List.cons.injEq,Value.slice.injEq] at e
  exact e.1.2.1
 ·right
  simp only [List.cons.injEq,Value.slice.injEq] at e
  exact ⟨_,_,rfl,by rw [List.length_map,List.length_range]; exact e.1.2.1.symm⟩
theorem ydG {H:Type} {enc:TypeId × Value→H} {W:World} {fuel:Nat} {v:Value} {y:DataW H × List MemPlace} (h:DataW.trod enc Tryz.prog W 0 (fun _=>true) true fuel 2 [v]=some y):∃n,v= .int .i64 n∧i64B n:=by
 obtain ⟨k,-⟩:=ycR 1 (show yev Tryz.prog 1 2=some [.int .i64] by kernel_rfl) h
 exact ok_i k
theorem open_rint {H:Type} {enc:TypeId × Value→H} {W:World} {fuel:Nat} {v:Value} {y:DataW H × List MemPlace} (h:DataW.trod enc Tryz.prog W 0 (fun _=>true) true fuel 3 [v]=some y):∃n,v= .int .i64 n∧i64B n:=by
 obtain ⟨k,-⟩:=ycR 1 (show yev Tryz.prog 1 3=some [.int .i64] by kernel_rfl) h
 exact ok_i k
theorem oneRule:∃fs,Tryz.prog.underlying 25=some (.struct fs)∧oneCellFields Tryz.prog fs=true∧(fs.map (·.type)).toList= [2,3,2,2,2,22,22,23,22,22,22]:=⟨_,Tryz.underlying25,by kernel_rfl,by kernel_rfl⟩
theorem cellsRule:Tryz.prog.cellsOf 25=11:=by kernel_rfl
theorem open_rule {H:Type} {enc:TypeId × Value→H} {W:World} {rc:Reach} {b0:Nat} {v:Value} {d:DataW H} {p:List MemPlace} (hv:Value.okWide Tryz.prog W rc b0 25 v) (h:DataW.Trod enc Tryz.prog W 0 (fun _=>true) true 25 v d p)
  (hz:(DataW.weights Tryz.prog 25 d).all (·≤reachBytes)=true) :
  ∃r:Ru,v=ruv r∧RuS W r∧r.Num∧r.Sm 281474976710656:=by
 obtain ⟨fs,hs,hone,hty⟩:=oneRule
 obtain ⟨cs,rfl,hsz⟩:=okWide_struct hs hv
 obtain ⟨l⟩:=cs
 match l,hsz.trans cellsRule with
 | [c0,c1,c2,c3,c4,c5,c6,c7,c8,c9,c10],_=>
   obtain ⟨fuel,hf⟩:=h
   obtain ⟨xs,n,_,hx,_,hlen,hg⟩:=DataW.trod_struct hs hf
   obtain rfl:d= .agg (xs.map (·.1)):=by injection hx
   have hw:(DataW.weightsEach Tryz.prog [2,3,2,2,2,22,22,23,22,22,22] (xs.map (·.1))).all (·≤reachBytes)=true:=by
    have e:fs.toList.map (·.type)= [2,3,2,2,2,22,22,23,22,22,22]:=by rw [←hty,Array.toList_map]
    rw [←e]
    simpa only [DataW.weights,hs] using hz
   have key:∀(i:Nat) (t:TypeId) (c:Value),[2,3,2,2,2,22,22,23,22,22,22][i]? =some t→ [c0,c1,c2,c3,c4,c5,c6,c7,c8,c9,c10][i]? =some c→∃y,DataW.trod enc Tryz.prog W 0 (fun _=>true) true n t [c]=some y∧(xs.map (·.1))[i]? =some y.1:=by
    intro i t c ht hc
    rw [←hty] at ht
    have hfi:∃f,fs[i]? =some f∧f.type=t:=by
     simp only [Array.toList_map,List.getElem?_map,Option.map_eq_some_iff] at ht
     obtain ⟨f,hf1,hf2⟩:=ht
     exact ⟨f,by simpa using hf1,hf2⟩
    obtain ⟨f,hf1,rfl⟩:=hfi
    obtain ⟨o,k⟩:=hone_of hone i f hf1
    have g:=hg i f hf1
    rw [o,k] at g
    have hil:i < fs.size:=(Array.getElem?_eq_some_iff.1 hf1).1
    have hxs:i < xs.length:=by omega
    refine ⟨xs[i],?_,by rw [List.getElem?_map,zzp hxs]; rfl⟩
    rw [zzp hxs] at g
    have e:(((Value.agg [c0,c1,c2,c3,c4,c5,c6,c7,c8,c9,c10].toArray).cells.toList.drop i).take 1)= [c]:=by
     show ([c0,c1,c2,c3,c4,c5,c6,c7,c8,c9,c10].drop i).take 1= [c]
     obtain ⟨hi',hce⟩:=zzq.1 hc
     rw [List.drop_eq_getElem_cons hi',hce]; rfl
    rw [e] at g
    exact g
   obtain ⟨z0,t0,u0⟩:=key 0 _ _ rfl rfl
   obtain ⟨z1,t1,u1⟩:=key 1 _ _ rfl rfl
   obtain ⟨z2,t2,u2⟩:=key 2 _ _ rfl rfl
   obtain ⟨z3,t3,u3⟩:=key 3 _ _ rfl rfl
   obtain ⟨z4,t4,u4⟩:=key 4 _ _ rfl rfl
   obtain ⟨z5,t5,u5⟩:=key 5 _ _ rfl rfl
   obtain ⟨z6,t6,u6⟩:=key 6 _ _ rfl rfl
   obtain ⟨z7,t7,u7⟩:=key 7 _ _ rfl rfl
   obtain ⟨z8,t8,u8⟩:=key 8 _ _ rfl rfl
   obtain ⟨z9,t9,u9⟩:=key 9 _ _ rfl rfl
   obtain ⟨z10,t10,u10⟩:=key 10 _ _ rfl rfl
   obtain ⟨n0,rfl,g0⟩:=ydG t0
   obtain ⟨n1,rfl,g1⟩:=open_rint t1
   obtain ⟨n2,rfl,g2⟩:=ydG t2
   obtain ⟨n3,rfl,g3⟩:=ydG t3
   obtain ⟨n4,rfl,g4⟩:=ydG t4
   obtain ⟨a5,k5,l5,rfl,q5,s5⟩:=ycj t5
   have g5:l5.length≤281474976710656:=by
    rcases q5 with q | ⟨elems,spare,q,qe⟩
    ·omega
    ·rw [q] at u5
     have:=sized_slice hw (j:=5) rfl u5 Tryz.underlying22
     rw [show Tryz.prog.bytesOf 3=8 by kernel_rfl] at this
     simp only [reachBytes] at this
     omega
   obtain ⟨a6,k6,l6,rfl,q6,s6⟩:=ycj t6
   have g6:l6.length≤281474976710656:=by
    rcases q6 with q | ⟨elems,spare,q,qe⟩
    ·omega
    ·rw [q] at u6
     have:=sized_slice hw (j:=6) rfl u6 Tryz.underlying22
     rw [show Tryz.prog.bytesOf 3=8 by kernel_rfl] at this
     simp only [reachBytes] at this
     omega
   obtain ⟨a7,k7,l7,rfl,q7,s7⟩:=ykd t7
   have g7:l7.length≤281474976710656:=by
    rcases q7 with q | ⟨elems,spare,q,qe⟩
    ·omega
    ·rw [q] at u7
     have:=sized_slice hw (j:=7) rfl u7 Tryz.underlying23
     rw [show Tryz.prog.bytesOf 72=16 by kernel_rfl] at this
     simp only [reachBytes] at this
     omega
   obtain ⟨a8,k8,l8,rfl,q8,s8⟩:=ycj t8
   have g8:l8.length≤281474976710656:=by
    rcases q8 with q | ⟨elems,spare,q,qe⟩
    ·omega
    ·rw [q] at u8
     have:=sized_slice hw (j:=8) rfl u8 Tryz.underlying22
     rw [show Tryz.prog.bytesOf 3=8 by kernel_rfl] at this
     simp only [reachBytes] at this
     omega
   obtain ⟨a9,k9,l9,rfl,q9,s9⟩:=ycj t9
   have g9:l9.length≤281474976710656:=by
    rcases q9 with q | ⟨elems,spare,q,qe⟩
    ·omega
    ·rw [q] at u9
     have:=sized_slice hw (j:=9) rfl u9 Tryz.underlying22
     rw [show Tryz.prog.bytesOf 3=8 by kernel_rfl] at this
     simp only [reachBytes] at this
     omega
   obtain ⟨a10,k10,l10,rfl,q10,s10⟩:=ycj t10
   have g10:l10.length≤281474976710656:=by
    rcases q10 with q | ⟨elems,spare,q,qe⟩
    ·omega
    ·rw [q] at u10
     have:=sized_slice hw (j:=10) rfl u10 Tryz.underlying22
     rw [show Tryz.prog.bytesOf 3=8 by kernel_rfl] at this
     simp only [reachBytes] at this
     omega
   exact ⟨{st:=n0,fq:=n1,iv:=n2,co:=n3,un:=n4,l5:=l5,a5:=a5,c5:=k5,l6:=l6,a6:=a6,c6:=k6,l7:=l7,a7:=a7,c7:=k7,l8:=l8,a8:=a8,c8:=k8,l9:=l9,a9:=a9,c9:=k9,lx:=l10,ax:=a10,cx:=k10},rfl,⟨s5,s6,s7,s8,s9,s10⟩,⟨g0,g1,g2,g3,g4⟩,⟨g5,g6,g7,g8,g9,g10⟩⟩
end
end Go.Proofs.YtjahgimnfliooaaGreatDoor
