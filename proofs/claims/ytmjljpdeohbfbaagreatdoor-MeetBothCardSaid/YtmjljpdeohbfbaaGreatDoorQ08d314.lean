/-
  ferialaw21.differ, lacks, common.
  seek.All's function, walked: it tells the instants of a set, from one to another one.
  seek.Next and seek.First.
  tally.counter (and its function) and tally.part.
  Keys that are two pointers: what meet.asked keeps.
-/
import Derived.Test.YtmjljpdeohbfbaaGreatDoorQd86d0d
import Derived.BigQuiet
import Derived.Deep.CutRange
import Derived.Test.YtmjljpdeohbfbaaGreatDoorQ368508
import Derived.Test.YtmjljpdeohbfbaaGreatDoorQ1d4734
import Derived.BigRegion
import Derived.LaidEql
import Derived.Laws.EntriesVeiled
import Derived.Test.YtmjljpdeohbfbaaGreatDoorQa1fa8d
namespace Go.Proofs.YtmjljpdeohbfbaaGreatDoor
set_option linter.unusedVariables false
section
open Go.RowKit
attribute [local irreducible] secL
def WantC (g:Nat) (r:Bool→Bool→Bool):Prop:=∀(a b:Option Addr) (ca cb:Nat) (p q:Nat→Bool) (w:World),Sl w a (ints (secL p))→Sl w b (ints (secL q))→
 Calls Tryz.prog g #[.slice a (secL p).length ca, .slice b (secL q).length cb] w fun e w'=>(∃n,e= .returned (.int .i64 n)∧WantN (fun k=>r (p k) (q k)) n)∧Below w.heap.size w w'
set_option maxHeartbeats 1600000 in
theorem differ_core (a b:Option Addr) (ca cb:Nat) (x y:List Int) (R:Nat→Bool) (w:World) (hx:Sl w a (ints x)) (hy:Sl w b (ints y)) (lx:x.length≤86400) (ly:y.length≤86400)
  (d1:∀k (hk:k < x.length),x.take k=y.take k→(∀h:k < y.length,x[k] < y[k])→WantN R x[k]) (d2:∀k (hk:k < y.length),x.take k=y.take k→(∀h:k < x.length,y[k] < x[k])→WantN R y[k]) (d3:∀k,x.length≤k→y.length≤k→x.take k=y.take k→WantN R (-1)) :
  Calls Tryz.prog 16 #[.slice a x.length ca, .slice b y.length cb] w fun e w'=>(∃n,e= .returned (.int .i64 n)∧WantN R n)∧Below w.heap.size w w':=by
 have D1:=hid d1
 have D2:=hid d2
 have D3:=hid d3
 clear d1 d2 d3
 go_enter Tryz.func16,Tryz.ntmps16
 go_wp2_with fail
 go_loopw [5] (fun i wr=>∃k:Nat,i= .int .i64 k∧k≤x.length∧k≤y.length∧x.take k=y.take k∧Below w.heap.size w wr) (fun i _=>x.length - (intOf i).toNat)
 case atStart=>exact ⟨0,rfl,by omega,by omega,rfl,Below.refl _ _⟩
 case round=>
  obtain ⟨k,rfl,hk,hk2,ht,hB⟩:=hrel
  have HT:=hid ht
  have HB:=hid hB
  clear ht
  by_cases hlt:k < x.length
  ·obtain ⟨b1,o1,rfl,hb1,hc1⟩:=hx.atInt hlt
   have e1:=(hB.cell (p:=⟨b1,o1+k,none⟩) hb1).trans (hc1 k hlt)
   have hxs:=take_snoc _ _ hlt
   clear hc1 hx
   by_cases hlt2:k < y.length
   ·obtain ⟨b2,o2,rfl,hb2,hc2⟩:=hy.atInt hlt2
    have e2:=(hB.cell (p:=⟨b2,o2+k,none⟩) hb2).trans (hc2 k hlt2)
    have hys:=take_snoc _ _ hlt2
    clear hc2 hy
    obtain ⟨u,hu⟩:∃u,x[k]=u:=⟨_,rfl⟩
    obtain ⟨v,hv⟩:∃v,y[k]=v:=⟨_,rfl⟩
    have D1k:Hid (u < v→WantN R u):=fun hl=>by
     have:=D1.out k hlt HT.out (fun h=>by rw [hu,hv]; exact hl)
     rwa [hu] at this
    have D2k:Hid (v < u→WantN R v):=fun hl=>by
     have:=D2.out k hlt2 HT.out (fun h=>by rw [hu,hv]; exact hl)
     rwa [hv] at this
    rw [hu] at e1 hxs
    rw [hv] at e2 hys
    have HX:=hid hxs
    have HY:=hid hys
    have hky:((k:Int) == (y.length:Int))=false:=by simp; omega
    have hdx:decide ((k:Int) < (x.length:Int))=true:=by simp; omega
    have hdy:decide ((k:Int) < (y.length:Int))=true:=by simp; omega
    clear hu hv hxs hys D1 D2 D3
    by_cases heq:u=v
    ·have hbe:(u == v)=true:=by simp [heq]
     have HE:=hid heq
     clear heq
     go_wp2
     go_quiet (fail)
     go_wp2
     exact ⟨⟨k+1,by go_num,by omega,by omega,by rw [HX.out,HY.out,HT.out,HE.out],below_drewN HB.out _⟩,by simp [intOf]; omega⟩
    ·have hbe:(u == v)=false:=by simp [heq]
     by_cases hl:u < v
     ·have hbl:decide (u < v)=true:=by simp [hl]
      have HR:=hid (D1k.out hl)
      clear heq hl
      go_wp2
      go_quiet (fail)
      go_wp2
      go_quiet (fail)
      go_wp2
      go_ret
      exact ⟨⟨u,rfl,HR.out⟩,below_drewN HB.out _⟩
     ·have hbl:decide (u < v)=false:=by simp [hl]
      have HR:=hid (D2k.out (by omega))
      clear heq hl
      go_wp2
      go_quiet (fail)
      go_wp2
      go_quiet (fail)
      go_wp2
      go_ret
      exact ⟨⟨v,rfl,HR.out⟩,below_drewN HB.out _⟩
   ·have hky:((k:Int) == (y.length:Int))=true:=by simp; omega
    have hdx:decide ((k:Int) < (x.length:Int))=true:=by simp; omega
    have hdy:decide ((k:Int) < (y.length:Int))=false:=by simp; omega
    have HR:=hid (D1.out k hlt HT.out (fun h=>absurd h hlt2))
    obtain ⟨u,hu⟩:∃u,x[k]=u:=⟨_,rfl⟩
    rw [hu] at e1 HR
    clear hu hxs hy D1 D2 D3
    go_wp2
    go_quiet (fail)
    go_wp2
    go_quiet (fail)
    go_wp2
    go_ret
    exact ⟨⟨u,rfl,HR.out⟩,below_drewN HB.out _⟩
  ·have hdx:decide ((k:Int) < (x.length:Int))=false:=by simp; omega
   by_cases hlt2:k < y.length
   ·obtain ⟨b2,o2,rfl,hb2,hc2⟩:=hy.atInt hlt2
    have e2:=(hB.cell (p:=⟨b2,o2+k,none⟩) hb2).trans (hc2 k hlt2)
    have hdy:decide ((k:Int) < (y.length:Int))=true:=by simp; omega
    have HR:=hid (D2.out k hlt2 HT.out (fun h=>absurd h hlt))
    obtain ⟨v,hv⟩:∃v,y[k]=v:=⟨_,rfl⟩
    rw [hv] at e2 HR
    clear hv hc2 hy hx D1 D2 D3
    go_wp2
    go_quiet (fail)
    go_wp2
    go_quiet (fail)
    go_wp2
    go_ret
    exact ⟨⟨v,rfl,HR.out⟩,below_drewN HB.out _⟩
   ·have hdy:decide ((k:Int) < (y.length:Int))=false:=by simp; omega
    have HR:=hid (D3.out k (by omega) (by omega) HT.out)
    clear hy hx D1 D2 D3
    go_wp2
    go_quiet (fail)
    go_wp2
    go_quiet (fail)
    go_wp2
    go_ret
    exact ⟨⟨-1,rfl,HR.out⟩,below_drewN HB.out _⟩
theorem differW:WantC 16 (fun b c=>b != c):=fun a b ca cb p q w hx hy=>
 differ_core a b ca cb (secL p) (secL q) (fun k=>p k != q k) w hx hy (secL_len p) (secL_len q) (fun k hk ht hl=>dif_less hk ht hl) (fun k hk ht hl=>dif_swap (dif_less hk ht.symm hl)) (fun k h1 h2 ht=>dif_same h1 h2 ht)
set_option maxHeartbeats 1600000 in
theorem lacks_core (a b:Option Addr) (ca cb:Nat) (x y:List Int) (R:Nat→Bool) (LK:Nat→Nat→Prop) (NO:Nat→Prop) (w:World) (hx:Sl w a (ints x)) (hy:Sl w b (ints y)) (lx:x.length≤86400) (ly:y.length≤86400)
  (n0:NO 0) (l0:LK 0 0) (lle:∀i k,LK i k→k≤y.length) (lm:∀i k,LK i k→∀(hk:k < y.length) (hi:i < x.length),y[k] < x[i]→LK i (k+1)) (ln:∀i k,i < x.length→LK i k→LK (i+1) k)
  (hit:∀i k (hi:i < x.length),LK i k→NO i→(∀hk:k < y.length,x[i]≤y[k])→∀b:Bool,(b=true↔∃hk:k < y.length,y[k]=x[i])→(!b)=true→WantN R x[i])
  (pass:∀i k (hi:i < x.length),LK i k→NO i→(∀hk:k < y.length,x[i]≤y[k])→∀b:Bool,(b=true↔∃hk:k < y.length,y[k]=x[i])→(!b)=false→NO (i+1)) (fin:∀i,x.length≤i→NO i→WantN R (-1)) :
  Calls Tryz.prog 24 #[.slice a x.length ca, .slice b y.length cb] w fun e w'=>(∃n,e= .returned (.int .i64 n)∧WantN R n)∧Below w.heap.size w w':=by
 have N0:=hid n0
 have L0:=hid l0
 have Lle:=hid lle
 have Lm:=hid lm
 have Ln:=hid ln
 have Hit:=hid hit
 have Pass:=hid pass
 have Fin:=hid fin
 clear n0 l0 lle lm ln hit pass fin
 go_enter Tryz.func24,Tryz.ntmps24
 go_wp2_with fail
 go_loopw [5,6] (fun kv iv wr=>∃k i:Nat,kv= .int .i64 k∧iv= .int .i64 i∧i≤x.length∧LK i k∧NO i∧Below w.heap.size w wr) (fun kv iv _=>x.length - (intOf iv).toNat)
 case atStart=>exact ⟨0,0,rfl,rfl,by omega,L0.out,N0.out,Below.refl _ _⟩
 case round=>
  obtain ⟨k0,i,rfl,rfl,hil,hL,hN,hB⟩:=hrel
  have HL:=hid hL
  have HN:=hid hN
  have HB:=hid hB
  clear hL hN
  by_cases hi:i < x.length
  ·obtain ⟨b1,o1,rfl,hb1,hc1⟩:=hx.atInt hi
   have HC1:=hid (hc1 i hi)
   have Hb1:=hid hb1
   clear hx hc1 hB hb1
   go_wp2_with fail
   go_loopw [5] (fun kv wr=>∃k:Nat,kv= .int .i64 k∧LK i k∧Below w.heap.size w wr) (fun kv _=>y.length - (intOf kv).toNat)
   case atStart=>exact ⟨k0,rfl,HL.out,HB.out⟩
   case round=>
    clear HL
    obtain ⟨k,rfl,hL,hB2⟩:=hrel
    have HL:=hid hL
    have HB2:=hid hB2
    have hky:=Lle.out i k hL
    have e1:=(hB2.cell (p:=⟨b1,o1+i,none⟩) Hb1.out).trans HC1.out
    have hil2:decide ((i:Int) < (x.length:Int))=true:=by simp; omega
    clear hL
    by_cases hlt2:k < y.length
    ·obtain ⟨b2,o2,rfl,hb2,hc2⟩:=hy.atInt hlt2
     have e2:=(hB2.cell (p:=⟨b2,o2+k,none⟩) hb2).trans (hc2 k hlt2)
     have hkY:((k:Int) == (y.length:Int))=false:=by simp; omega
     have hdy:decide ((k:Int) < (y.length:Int))=true:=by simp; omega
     clear hc2 hb2
     obtain ⟨u,hu⟩:∃u,x[i]=u:=⟨_,rfl⟩
     obtain ⟨v,hv⟩:∃v,y[k]=v:=⟨_,rfl⟩
     rw [hu] at e1
     rw [hv] at e2
     by_cases hl:v < u
     ·have HM:=hid (Lm.out i k HL.out hlt2 hi (by rw [hu,hv]; exact hl))
      have hbl:decide (v < u)=true:=by simp [hl]
      clear hu hv hl
      go_wp2
      go_quiet (fail)
      go_wp2
      exact ⟨⟨k+1,by go_num,HM.out,below_drewN HB2.out _⟩,by simp [intOf]; omega⟩
     ·have hbl:decide (v < u)=false:=by simp [hl]
      by_cases heq:v=u
      ·have hbe:(v == u)=true:=by simp [heq]
       have hbn:(v != u)=false:=by simp [heq]
       have E1:Hid (∀hk:k < y.length,x[i]≤y[k]):=fun _=>by omega
       have E2:Hid (true=true↔∃hk:k < y.length,y[k]=x[i]):=⟨fun _=>⟨hlt2,by rw [hu,hv]; exact heq⟩,fun _=>rfl⟩
       clear hv hl heq
       have HP:=hid (Pass.out i k hi HL.out HN.out (E1.out) true (E2.out) rfl)
       clear hu
       go_wp2
       go_quiet (fail)
       go_wp2
       go_quiet (fail)
       go_wp2
       exact ⟨⟨k,i+1,by go_num,by go_num,by omega,Ln.out i k hi HL.out,HP.out,below_drewN HB2.out _⟩,by simp [intOf]; omega⟩
      ·have hbe:(v == u)=false:=by simp [heq]
       have hbn:(v != u)=true:=by simp [heq]
       have E1:Hid (∀hk:k < y.length,x[i]≤y[k]):=fun _=>by omega
       have E2:Hid (false=true↔∃hk:k < y.length,y[k]=x[i]):=⟨fun h=>(by cases h),fun ⟨_,h⟩=>by omega⟩
       clear hv hl heq
       have HR:=hid (Hit.out i k hi HL.out HN.out (E1.out) false (E2.out) rfl)
       rw [hu] at HR
       clear hu
       go_wp2
       go_quiet (fail)
       go_wp2
       go_quiet (fail)
       go_wp2
       go_ret
       exact ⟨⟨u,rfl,HR.out⟩,below_drewN HB2.out _⟩
    ·have hkY:((k:Int) == (y.length:Int))=true:=by simp; omega
     have hdy:decide ((k:Int) < (y.length:Int))=false:=by simp; omega
     obtain ⟨u,hu⟩:∃u,x[i]=u:=⟨_,rfl⟩
     rw [hu] at e1
     have E1:Hid (∀hk:k < y.length,x[i]≤y[k]):=fun h=>absurd h hlt2
     have E2:Hid (false=true↔∃hk:k < y.length,y[k]=x[i]):=⟨fun h=>(by cases h),fun ⟨h,_⟩=>absurd h hlt2⟩
     clear hy
     have HR:=hid (Hit.out i k hi HL.out HN.out (E1.out) false (E2.out) rfl)
     rw [hu] at HR
     clear hu
     go_wp2
     go_quiet (fail)
     go_wp2
     go_quiet (fail)
     go_wp2
     go_ret
     exact ⟨⟨u,rfl,HR.out⟩,below_drewN HB2.out _⟩
  ·have HF:=hid (Fin.out i (by omega) HN.out)
   clear hx hy
   go_wp2
   go_ret
   exact ⟨⟨-1,rfl,HF.out⟩,HB.out⟩
theorem lacksW:WantC 24 (fun b c=>b && !c):=fun a b ca cb p q w hx hy=>by
 have r0:∀b,(fun b c=>b && !c) false b=false:=fun b=>rfl
 exact lacks_core a b ca cb (secL p) (secL q) (fun k=>(fun b c=>b && !c) (p k) (q k)) (LkI p q) (fun i=>∀m v,m < i→(secL p)[m]? =some ((v:Nat):Int)→v < 86400→(fun b c=>b && !c) true (q v)=false) w hx hy (secL_len p) (secL_len q)
  (fun m v hm=>absurd hm (Nat.not_lt_zero m)) (LkI.start p q) (fun i k h=>h.ki) (fun i k h hk hi hl=>h.more hk hi hl) (fun i k hi h=>h.next hi)
  (fun i k hi h hn hk b hb hb2=>lk_hit (fun b c=>b && !c) r0 h hi hk hn b hb hb2) (fun i k hi h hn hk b hb hb2=>lk_pass (fun b c=>b && !c) h hi hk hn b hb hb2) (fun i hi hn=>lk_end (fun b c=>b && !c) r0 hi hn)
set_option maxHeartbeats 1600000 in
theorem common_core (a b:Option Addr) (ca cb:Nat) (x y:List Int) (R:Nat→Bool) (LK:Nat→Nat→Prop) (NO:Nat→Prop) (w:World) (hx:Sl w a (ints x)) (hy:Sl w b (ints y)) (lx:x.length≤86400) (ly:y.length≤86400)
  (n0:NO 0) (l0:LK 0 0) (lle:∀i k,LK i k→k≤y.length) (lm:∀i k,LK i k→∀(hk:k < y.length) (hi:i < x.length),y[k] < x[i]→LK i (k+1)) (ln:∀i k,i < x.length→LK i k→LK (i+1) k)
  (hit:∀i k (hi:i < x.length),LK i k→NO i→(∀hk:k < y.length,x[i]≤y[k])→∀b:Bool,(b=true↔∃hk:k < y.length,y[k]=x[i])→(b)=true→WantN R x[i])
  (pass:∀i k (hi:i < x.length),LK i k→NO i→(∀hk:k < y.length,x[i]≤y[k])→∀b:Bool,(b=true↔∃hk:k < y.length,y[k]=x[i])→(b)=false→NO (i+1)) (fin:∀i,x.length≤i→NO i→WantN R (-1)) :
  Calls Tryz.prog 25 #[.slice a x.length ca, .slice b y.length cb] w fun e w'=>(∃n,e= .returned (.int .i64 n)∧WantN R n)∧Below w.heap.size w w':=by
 have N0:=hid n0
 have L0:=hid l0
 have Lle:=hid lle
 have Lm:=hid lm
 have Ln:=hid ln
 have Hit:=hid hit
 have Pass:=hid pass
 have Fin:=hid fin
 clear n0 l0 lle lm ln hit pass fin
 go_enter Tryz.func25,Tryz.ntmps25
 go_wp2_with fail
 go_loopw [5,6] (fun kv iv wr=>∃k i:Nat,kv= .int .i64 k∧iv= .int .i64 i∧i≤x.length∧LK i k∧NO i∧Below w.heap.size w wr) (fun kv iv _=>x.length - (intOf iv).toNat)
 case atStart=>exact ⟨0,0,rfl,rfl,by omega,L0.out,N0.out,Below.refl _ _⟩
 case round=>
  obtain ⟨k0,i,rfl,rfl,hil,hL,hN,hB⟩:=hrel
  have HL:=hid hL
  have HN:=hid hN
  have HB:=hid hB
  clear hL hN
  by_cases hi:i < x.length
  ·obtain ⟨b1,o1,rfl,hb1,hc1⟩:=hx.atInt hi
   have HC1:=hid (hc1 i hi)
   have Hb1:=hid hb1
   clear hx hc1 hB hb1
   go_wp2_with fail
   go_loopw [5] (fun kv wr=>∃k:Nat,kv= .int .i64 k∧LK i k∧Below w.heap.size w wr) (fun kv _=>y.length - (intOf kv).toNat)
   case atStart=>exact ⟨k0,rfl,HL.out,HB.out⟩
   case round=>
    clear HL
    obtain ⟨k,rfl,hL,hB2⟩:=hrel
    have HL:=hid hL
    have HB2:=hid hB2
    have hky:=Lle.out i k hL
    have e1:=(hB2.cell (p:=⟨b1,o1+i,none⟩) Hb1.out).trans HC1.out
    have hil2:decide ((i:Int) < (x.length:Int))=true:=by simp; omega
    clear hL
    by_cases hlt2:k < y.length
    ·obtain ⟨b2,o2,rfl,hb2,hc2⟩:=hy.atInt hlt2
     have e2:=(hB2.cell (p:=⟨b2,o2+k,none⟩) hb2).trans (hc2 k hlt2)
     have hkY:((k:Int) == (y.length:Int))=false:=by simp; omega
     have hdy:decide ((k:Int) < (y.length:Int))=true:=by simp; omega
     clear hc2 hb2
     obtain ⟨u,hu⟩:∃u,x[i]=u:=⟨_,rfl⟩
     obtain ⟨v,hv⟩:∃v,y[k]=v:=⟨_,rfl⟩
     rw [hu] at e1
     rw [hv] at e2
     by_cases hl:v < u
     ·have HM:=hid (Lm.out i k HL.out hlt2 hi (by rw [hu,hv]; exact hl))
      have hbl:decide (v < u)=true:=by simp [hl]
      clear hu hv hl
      go_wp2
      go_quiet (fail)
      go_wp2
      exact ⟨⟨k+1,by go_num,HM.out,below_drewN HB2.out _⟩,by simp [intOf]; omega⟩
     ·have hbl:decide (v < u)=false:=by simp [hl]
      by_cases heq:v=u
      ·have hbe:(v == u)=true:=by simp [heq]
       have hbn:(v != u)=false:=by simp [heq]
       have E1:Hid (∀hk:k < y.length,x[i]≤y[k]):=fun _=>by omega
       have E2:Hid (true=true↔∃hk:k < y.length,y[k]=x[i]):=⟨fun _=>⟨hlt2,by rw [hu,hv]; exact heq⟩,fun _=>rfl⟩
       clear hv hl heq
       have HR:=hid (Hit.out i k hi HL.out HN.out (E1.out) true (E2.out) rfl)
       rw [hu] at HR
       clear hu
       go_wp2
       go_quiet (fail)
       go_wp2
       go_quiet (fail)
       go_wp2
       go_ret
       exact ⟨⟨u,rfl,HR.out⟩,below_drewN HB2.out _⟩
      ·have hbe:(v == u)=false:=by simp [heq]
       have hbn:(v != u)=true:=by simp [heq]
       have E1:Hid (∀hk:k < y.length,x[i]≤y[k]):=fun _=>by omega
       have E2:Hid (false=true↔∃hk:k < y.length,y[k]=x[i]):=⟨fun h=>(by cases h),fun ⟨_,h⟩=>by omega⟩
       clear hv hl heq
       have HP:=hid (Pass.out i k hi HL.out HN.out (E1.out) false (E2.out) rfl)
       clear hu
       go_wp2
       go_quiet (fail)
       go_wp2
       go_quiet (fail)
       go_wp2
       exact ⟨⟨k,i+1,by go_num,by go_num,by omega,Ln.out i k hi HL.out,HP.out,below_drewN HB2.out _⟩,by simp [intOf]; omega⟩
    ·have hkY:((k:Int) == (y.length:Int))=true:=by simp; omega
     have hdy:decide ((k:Int) < (y.length:Int))=false:=by simp; omega
     obtain ⟨u,hu⟩:∃u,x[i]=u:=⟨_,rfl⟩
     rw [hu] at e1
     have E1:Hid (∀hk:k < y.length,x[i]≤y[k]):=fun h=>absurd h hlt2
     have E2:Hid (false=true↔∃hk:k < y.length,y[k]=x[i]):=⟨fun h=>(by cases h),fun ⟨h,_⟩=>absurd h hlt2⟩
     clear hy
     have HP:=hid (Pass.out i k hi HL.out HN.out (E1.out) false (E2.out) rfl)
     clear hu
     go_wp2
     go_quiet (fail)
     go_wp2
     go_quiet (fail)
     go_wp2
     exact ⟨⟨k,i+1,by go_num,by go_num,by omega,Ln.out i k hi HL.out,HP.out,below_drewN HB2.out _⟩,by simp [intOf]; omega⟩
  ·have HF:=hid (Fin.out i (by omega) HN.out)
   clear hx hy
   go_wp2
   go_ret
   exact ⟨⟨-1,rfl,HF.out⟩,HB.out⟩
theorem commonW:WantC 25 (fun b c=>b && c):=fun a b ca cb p q w hx hy=>by
 have r0:∀b,(fun b c=>b && c) false b=false:=fun b=>rfl
 exact common_core a b ca cb (secL p) (secL q) (fun k=>(fun b c=>b && c) (p k) (q k)) (LkI p q) (fun i=>∀m v,m < i→(secL p)[m]? =some ((v:Nat):Int)→v < 86400→(fun b c=>b && c) true (q v)=false) w hx hy (secL_len p) (secL_len q)
  (fun m v hm=>absurd hm (Nat.not_lt_zero m)) (LkI.start p q) (fun i k h=>h.ki) (fun i k h hk hi hl=>h.more hk hi hl) (fun i k hi h=>h.next hi)
  (fun i k hi h hn hk b hb hb2=>lk_hit (fun b c=>b && c) r0 h hi hk hn b hb hb2) (fun i k hi h hn hk b hb hb2=>lk_pass (fun b c=>b && c) h hi hk hn b hb hb2) (fun i hi hn=>lk_end (fun b c=>b && c) r0 hi hn)
end
section
open Go.RowKit Go.Maps
attribute [local go_sem] Oper.semAt_some
structure BxF (M:Blk) (xf xu:Nat) (f u:Int) (F:Blk) (W:World):Prop where
 inf:F xf∧¬M xf
 inu:F xu∧¬M xu
 cf:W.cell? ⟨xf,0,none⟩=some (.int .i64 f)
 cu:W.cell? ⟨xu,0,none⟩=some (.int .i64 u)
theorem BxF.keep {M:Blk} {xf xu:Nat} {f u:Int} {F F':Blk} {W W':World} (h:BxF M xf xu f u F W) (hF:∀b,F b→F' b) (hb:∀b,F b∧¬M b→W'.heap[b]? =W.heap[b]?):BxF M xf xu f u F' W':=
 ⟨⟨hF _ h.inf.1,h.inf.2⟩,⟨hF _ h.inu.1,h.inu.2⟩,(World.cell?_of_block (w:=W) (a:=⟨xf,0,none⟩) (hb _ h.inf)).trans h.cf,(World.cell?_of_block (w:=W) (a:=⟨xu,0,none⟩) (hb _ h.inu)).trans h.cu⟩
structure HSk (cs:List Cl) (br bk:Nat) (bps:List Nat) (xe xf xu xr:Nat) (f u:Int) (Inv:(Nat→Bool)→Nat→Prop) (F:Blk) (W:World):Prop where
 roll:∃ws m,RollS W cs br bk bps F ws m∧Inv ws m
 bx:BxF (RM br bk bps) xf xu f u F W
 ine:F xe∧¬RM br bk bps xe
 inr:F xr∧¬RM br bk bps xr
 ce:W.cell? ⟨xe,0,none⟩=some (.int .i64 0)
 cr:W.cell? ⟨xr,0,none⟩=some (.pointer (some ⟨br,0,none⟩))
section
variable {cs:List Cl} {br bk:Nat} {bps:List Nat} {xe xf xu xr:Nat} {f u:Int} {Inv Inv':(Nat→Bool)→Nat→Prop} {F F':Blk} {W W':World}
theorem HSk.keep (h:HSk cs br bk bps xe xf xu xr f u Inv F W) (hs:W.heap.size≤W'.heap.size) (hb:∀b,F b→W'.heap[b]? =W.heap[b]?):HSk cs br bk bps xe xf xu xr f u Inv F W':=by
 obtain ⟨ws,m,h1,h2⟩:=h.roll
 exact ⟨⟨ws,m,h1.keep hs hb,h2⟩,h.bx.keep (fun _ h=>h) (fun b hF=>hb b hF.1),h.ine,h.inr,(World.cell?_of_block (w:=W) (a:=⟨xe,0,none⟩) (hb _ h.ine.1)).trans h.ce,(World.cell?_of_block (w:=W) (a:=⟨xr,0,none⟩) (hb _ h.inr.1)).trans h.cr⟩
theorem HSk.lt (h:HSk cs br bk bps xe xf xu xr f u Inv F W):∀b,F b→b < W.heap.size:=by
 obtain ⟨ws,m,h1,h2⟩:=h.roll; exact h1.x.lt
theorem HSk.sub (h:HSk cs br bk bps xe xf xu xr f u Inv F W):∀b,RM br bk bps b→F b:=by
 obtain ⟨ws,m,h1,h2⟩:=h.roll; exact h1.x.sub
theorem HSk.step (h:HSk cs br bk bps xe xf xu xr f u Inv F W) {ws:Nat→Bool} {m:Nat} (hR:RollS W' cs br bk bps F' ws m) (hI:Inv' ws m) (hF:∀b,F b→F' b) (hb:∀b,F b→¬RM br bk bps b→W'.heap[b]? =W.heap[b]?):HSk cs br bk bps xe xf xu xr f u Inv' F' W':=
 ⟨⟨ws,m,hR,hI⟩,h.bx.keep hF (fun b hF=>hb b hF.1 hF.2),⟨hF _ h.ine.1,h.ine.2⟩,⟨hF _ h.inr.1,h.inr.2⟩,(World.cell?_of_block (w:=W) (a:=⟨xe,0,none⟩) (hb _ h.ine.1 h.ine.2)).trans h.ce,(World.cell?_of_block (w:=W) (a:=⟨xr,0,none⟩) (hb _ h.inr.1 h.inr.2)).trans h.cr⟩
end
structure SkD (cs:List Cl) (M:Blk) (n:Int) (d bx:Nat) (O F:Blk) (W:World):Prop where
 dj:∀b,F b→¬O b
 di:DiF W F M d (dayQ cs n)
 tab:Tab W∧F 0
 lt:∀b,F b→b < W.heap.size
 lx:bx < W.heap.size
 nx:¬O bx∧¬F bx
 sh:ShS W bx (shF n)
theorem SkD.put {cs:List Cl} {M:Blk} {n:Int} {d bx l:Nat} {O F:Blk} {W:World} {o:Obj} (h:SkD cs M n d bx O F W) (hr:∃r,W.heap[l]? =some (.loop r)) (hF:¬F l):SkD cs M n d bx O F (W.putObj l o):=by
 have ps:(W.putObj l o).heap.size=W.heap.size:=World.putObj_size
 have ko:∀b,F b→(W.putObj l o).heap[b]? =W.heap[b]?:=fun b hb=>World.putObj_heap_other (fun e=>hF (e ▸ hb))
 exact ⟨h.dj,⟨h.di.1,h.di.2.1,h.di.2.2.block (by rw [ps]; exact zG _) (ko _ h.di.1)⟩,⟨⟨by rw [ps]; exact h.tab.1.1,fun i hi=>(World.cell?_of_block (w:=W) (a:=⟨0,i,none⟩) (ko _ h.tab.2)).trans (h.tab.1.2 i hi)⟩,h.tab.2⟩,by rw [ps]; exact h.lt,by rw [ps]; exact h.lx,h.nx,shS_put h.sh hr⟩
def SkT (h0 h1 h2 h3 h4 h5 h6 h7:Value) (ds:List Deferred) (a:Act):Prop:=∃V:Nat→Value,a= {tmps:=#[h0,h1,h2,h3,h4,h5,h6,h7,V 8,V 9,V 10,V 11,V 12,V 13,V 14,V 15,V 16,V 17,V 18,V 19,V 20,V 21,V 22,V 23,V 24,V 25,V 26,V 27,V 28,V 29,V 30,V 31,V 32,V 33,V 34,V 35,V 36,V 37,V 38,V 39,V 40,V 41,V 42,V 43,V 44,V 45,V 46,V 47,V 48,V 49,V 50,V 51,V 52,V 53,V 54,V 55,V 56,V 57,V 58],defers:=ds}
theorem SkT.of {h0 h1 h2 h3 h4 h5 h6 h7 u8 u9 u10 u11 u12 u13 u14 u15 u16 u17 u18 u19 u20 u21 u22 u23 u24 u25 u26 u27 u28 u29 u30 u31 u32 u33 u34 u35 u36 u37 u38 u39 u40 u41 u42 u43 u44 u45 u46 u47 u48 u49 u50 u51 u52 u53 u54 u55 u56 u57 u58:Value} {ds:List Deferred}:SkT h0 h1 h2 h3 h4 h5 h6 h7 ds {tmps:=#[h0,h1,h2,h3,h4,h5,h6,h7,u8,u9,u10,u11,u12,u13,u14,u15,u16,u17,u18,u19,u20,u21,u22,u23,u24,u25,u26,u27,u28,u29,u30,u31,u32,u33,u34,u35,u36,u37,u38,u39,u40,u41,u42,u43,u44,u45,u46,u47,u48,u49,u50,u51,u52,u53,u54,u55,u56,u57,u58],defers:=ds}:=⟨fun i=>(#[u8,u9,u10,u11,u12,u13,u14,u15,u16,u17,u18,u19,u20,u21,u22,u23,u24,u25,u26,u27,u28,u29,u30,u31,u32,u33,u34,u35,u36,u37,u38,u39,u40,u41,u42,u43,u44,u45,u46,u47,u48,u49,u50,u51,u52,u53,u54,u55,u56,u57,u58]:Array Value).getD (#[0,0,0,0,0,0,0,0,0,1,2,3,4,5,6,7,8,9,10,11,12,13,14,15,16,17,18,19,20,21,22,23,24,25,26,27,28,29,30,31,32,33,34,35,36,37,38,39,40,41,42,43,44,45,46,47,48,49,50].getD i 0) undef,rfl⟩
end
section
open Go.RowKit Go.Maps
attribute [local go_sem] Oper.semAt_some
structure TwoC (b:Nat) (x y:Int) (O:Blk) (W:World):Prop where
 c4:W.cell? ⟨b,0,none⟩=some (.int .i64 x)
 c5:W.cell? ⟨b+1,0,none⟩=some (.int .i64 y)
 f4:W.frozen? ⟨b,0,none⟩=false
 f5:W.frozen? ⟨b+1,0,none⟩=false
 o4:O b
 o5:O (b+1)
 lt:∀c,O c→c < W.heap.size
theorem TwoC.keep {b:Nat} {x y:Int} {O:Blk} {W W':World} (h:TwoC b x y O W) (hs:W.heap.size≤W'.heap.size) (hb:∀c,O c→W'.heap[c]? =W.heap[c]?):TwoC b x y O W':=
 ⟨(World.cell?_of_block (w:=W) (a:=⟨b,0,none⟩) (hb _ h.o4)).trans h.c4,(World.cell?_of_block (w:=W) (a:=⟨b+1,0,none⟩) (hb _ h.o5)).trans h.c5,
  (World.frozen?_of_block (w:=W) (a:=⟨b,0,none⟩) (hb _ h.o4)).trans h.f4,(World.frozen?_of_block (w:=W) (a:=⟨b+1,0,none⟩) (hb _ h.o5)).trans h.f5,h.o4,h.o5,fun c hc=>zH (h.lt c hc) hs⟩
theorem TwoC.set {b:Nat} {x y x' y':Int} {O:Blk} {W:World} (h:TwoC b x y O W):TwoC b x' y' O ((W.setCell ⟨b,0,none⟩ (.int .i64 x')).setCell ⟨b+1,0,none⟩ (.int .i64 y')):=by
 obtain ⟨h1,h2,h3,h4,h5,h6,h7⟩:=h
 refine ⟨?_,?_,?_,?_,h5,h6,fun c hc=>by simpa using h7 c hc⟩ <;> simp [go_sem,h1,h2,h3,h4]
end
section
open Go.RowKit Go.Maps
theorem run_same_diff {P:Program} {w:World} {d x:Nat} (cd:(w.cell? ⟨d,0,none⟩).isSome=true) (cx:(w.cell? ⟨x,0,none⟩).isSome=true) (hd:∀i,w.frozen? ⟨d,i,none⟩=false) (hx:∀i,w.frozen? ⟨x,i,none⟩=false) (hne:d≠x) :
  (sameAddr ⟨d,0,none⟩ ⟨x,0,none⟩).run P w= .ok false w:=by
 have key:∀b,(w.cell? ⟨b,0,none⟩).isSome=true→∃c t s,w.heap[b]? =some (.cells c t s):=fun b h=>by
  unfold World.cell? at h
  split at h
  ·exact ⟨_,_,_,by assumption⟩
  ·cases h
 obtain ⟨c1,t1,s1,e1⟩:=key d cd
 obtain ⟨c2,t2,s2,e2⟩:=key x cx
 have sd:w.shape? d=some (t1,c1.size):=by unfold World.shape?; rw [e1]
 have sx:w.shape? x=some (t2,c2.size):=by unfold World.shape?; rw [e2]
 simp [sameAddr,hne,noView,viewAt,mayBeOne,stringish,hd,hx,sd,sx]
structure CntC (bl:Nat) (c:Option Nat) (m:Int) (W:World):Prop where
 cl:W.cell? ⟨bl,0,none⟩=some (dptr c)
 cm:W.cell? ⟨bl+1,0,none⟩=some (.int .i64 m)
 fl:W.frozen? ⟨bl,0,none⟩=false
 fm:W.frozen? ⟨bl+1,0,none⟩=false
 lt:bl+1 < W.heap.size
theorem CntC.block {bl:Nat} {c:Option Nat} {m:Int} {W W':World} (h:CntC bl c m W) (hs:W.heap.size≤W'.heap.size) (h0:W'.heap[bl]? =W.heap[bl]?) (h1:W'.heap[bl+1]? =W.heap[bl+1]?):CntC bl c m W':=
 ⟨(World.cell?_of_block (w:=W) (a:=⟨bl,0,none⟩) h0).trans h.cl,(World.cell?_of_block (w:=W) (a:=⟨bl+1,0,none⟩) h1).trans h.cm,
  (World.frozen?_of_block (w:=W) (a:=⟨bl,0,none⟩) h0).trans h.fl,(World.frozen?_of_block (w:=W) (a:=⟨bl+1,0,none⟩) h1).trans h.fm,zH h.lt hs⟩
theorem CntC.set {bl:Nat} {c c':Option Nat} {m m':Int} {W:World} (h:CntC bl c m W):CntC bl c' m' ((W.setCell ⟨bl,0,none⟩ (dptr c')).setCell ⟨bl+1,0,none⟩ (.int .i64 m')):=by
 obtain ⟨h1,h2,h3,h4,h5⟩:=h
 refine ⟨?_,?_,?_,?_,by simpa using h5⟩ <;> simp [go_sem,h1,h2,h3,h4]
def Knows (c:Option Nat) (m:Int) (M F:Blk) (W:World):Prop:=∀x,c=some x→F x∧¬M x∧∃q,DiscAt W x q∧m= ((secL q).length:Nat)
theorem Knows.none {m:Int} {M F:Blk} {W:World}:Knows none m M F W:=fun x h=>by cases h
theorem Knows.keep {c:Option Nat} {m:Int} {M F F':Blk} {W W':World} (h:Knows c m M F W) (hs:W.heap.size≤W'.heap.size) (hF:∀b,F b→F' b) (hb:∀b,F b∧¬M b→W'.heap[b]? =W.heap[b]?):Knows c m M F' W':=fun x hx=>by
 obtain ⟨h1,h2,q,h3,h4⟩:=h x hx
 exact ⟨hF x h1,h2,q,h3.block hs (hb x ⟨h1,h2⟩),h4⟩
end
section
open Go.RowKit Go.Maps
def PtrOk (w:World) (d:Option Nat):Prop:=∀x,d=some x→(w.cell? ⟨x,0,none⟩).isSome=true∧∀i,w.frozen? ⟨x,i,none⟩=false
theorem PtrOk.disc {w:World} {d:Option Nat} {q:Nat→Bool} (h:DiscO w d q):PtrOk w d:=fun x hx=>by
 subst hx
 obtain ⟨f,h1,h2,-⟩:=h
 exact ⟨by rw [h1 0 (by omega)]; rfl,h2⟩
theorem PtrOk.block {w w':World} {d:Option Nat} (h:PtrOk w d) (hb:∀x,d=some x→w'.heap[x]? =w.heap[x]?):PtrOk w' d:=fun x hx=>by
 obtain ⟨h1,h2⟩:=h x hx
 exact ⟨by rw [World.cell?_of_block (w:=w) (a:=⟨x,0,none⟩) (hb x hx)]; exact h1,fun i=>(World.frozen?_of_block (w:=w) (a:=⟨x,i,none⟩) (hb x hx)).trans (h2 i)⟩
def PairK (w:World) (v:Value):Prop:=∃d e,v= .agg #[dptr d,dptr e]∧PtrOk w d∧PtrOk w e
theorem ptrEq_run {w:World} {d e:Option Nat} (hd:PtrOk w d) (he:PtrOk w e) (n:Nat):(Op.equalIn (n+1) 106 (dptr d) (dptr e)).run Tryz.prog w= .ok (decide (d=e)) w:=by
 have hp:=Tryz.underlying106
 cases d with
 | none=>
   cases e with
   | none=>simp [Op.equalIn,run_underlying hp,dptr]
   | some y=>simp [Op.equalIn,run_underlying hp,dptr]
 | some x=>
   cases e with
   | none=>simp [Op.equalIn,run_underlying hp,dptr]
   | some y=>
     have hi:((Tryz.prog.info? 185).map fun i=>decide (i.size≠0))=some true:=by kernel_rfl
     cases hj:Tryz.prog.info? 185 with
     | none=>rw [hj] at hi; cases hi
     | some j=>
       rw [hj] at hi
       have hsz:j.size≠0:=by simpa using hi
       have hs:(sameAddr ⟨x,0,none⟩ ⟨y,0,none⟩).run Tryz.prog w= .ok (decide (x=y)) w:=by
        by_cases hne:x=y
        ·subst hne; rw [run_sameAddr_same]; simp
        ·rw [run_same_diff (hd x rfl).1 (he y rfl).1 (hd x rfl).2 (he y rfl).2 hne]; simp [hne]
       simp [Op.equalIn,run_underlying hp,sizeOf,typeInfo,hj,hsz,hs,dptr]
theorem part0 (w:World) (x y:Value):(part 106 #[x,y] 0).run Tryz.prog w= .ok x w:=by kernel_rfl
theorem part1 (w:World) (x y:Value):(part 106 #[x,y] 1).run Tryz.prog w= .ok y w:=by kernel_rfl
theorem pairEq_run {w:World} {d e d' e':Option Nat} (h1:PtrOk w d) (h2:PtrOk w e) (h3:PtrOk w d') (h4:PtrOk w e') :
  (Op.equal 246 (.agg #[dptr d,dptr e]) (.agg #[dptr d',dptr e'])).run Tryz.prog w= .ok (decide (d=d') && decide (e=e')) w:=by
 have g1:=ptrEq_run h1 h3 9998
 have g2:=ptrEq_run h2 h4 9998
 have hp:=Tryz.underlying246
 have hi:((Tryz.prog.info? 106).map fun i=>i.size)=some 1:=by kernel_rfl
 cases hj:Tryz.prog.info? 106 with
 | none=>rw [hj] at hi; cases hi
 | some j=>
   rw [hj] at hi
   have hsz:j.size=1:=by simpa using hi
   unfold Op.equal Op.maxDepth
   rw [Op.equalIn]
   simp only [Sem.run_bind,run_underlying hp,Result.andThen_ok,sizeOf,typeInfo]
   have g1':(Op.equalIn 9999 106 (dptr d) (dptr d')).run Tryz.prog w= .ok (decide (d=d')) w:=g1
   have g2':(Op.equalIn 9999 106 (dptr e) (dptr e')).run Tryz.prog w= .ok (decide (e=e')) w:=g2
   simp [hj,hsz]
   rw [show List.range' 0 2= [0,1] from rfl]
   obtain ⟨b1,hb1⟩:∃b,decide (d=d')=b:=⟨_,rfl⟩
   obtain ⟨b2,hb2⟩:∃b,decide (e=e')=b:=⟨_,rfl⟩
   rw [hb1] at g1'⊢
   rw [hb2] at g2'⊢
   cases b1 <;> cases b2 <;> simp [part0,part1,g1',g2',List.forIn_cons]
theorem pairT (w:World):KeyT Tryz.prog 246 (PairK w) w:=by
 refine KeyT.ask Tryz.underlying246 ?_ ?_ ?_ ?_
 ·rintro _ _ ⟨d,e,rfl,-,-⟩ ⟨d',e',rfl,-,-⟩; rfl
 ·rintro em _ ⟨d,e,rfl,-,-⟩
  cases d <;> cases e <;> kernel_rfl
 ·rintro _ _ ⟨d,e,rfl,h1,h2⟩ ⟨d',e',rfl,h3,h4⟩
  refine ⟨_,pairEq_run h1 h2 h3 h4,fun h=>?_⟩
  simp only [Bool.and_eq_true,decide_eq_true_eq] at h
  rw [h.1,h.2]
 ·rintro _ ⟨d,e,rfl,-,-⟩
  cases d <;> cases e <;> simp [Instr.sameBits,dptr]
end
end Go.Proofs.YtmjljpdeohbfbaaGreatDoor
