/-
  feriaref16.Of and All: the seconds of a day that have a clause, and those that have one of clauses.
  ferialaw18.RollDays answers true for every clauses and days.
  The instants of a set between two instants, day by day.
  Beats: the first of numbers, and what divides all their differences (plain).
  pulse.beat: take and join.
  Arrays of beats.
  A region that draws its order, in a round of a range over a function: walked as one outside of it.
  pulse.inner: the beats of a disc's seconds, minutes and hours.
-/
import Derived.Test.YtkpgfmonhfnhdaaGreatDoorQde6818
import Derived.Test.YtkpgfmonhfnhdaaGreatDoorQfb4f3d
import Derived.Test.YtkpgfmonhfnhdaaGreatDoorQc54c6b
import Derived.Test.YtkpgfmonhfnhdaaGreatDoorQ6d5c78
import Derived.Test.YtkpgfmonhfnhdaaGreatDoorQ943d0c
import Derived.Deep.CutRange
import Derived.Test.YtkpgfmonhfnhdaaGreatDoorQ3e71e3
import Derived.OrdersIn
import Derived.OrdersHeld
import Derived.Deep.RegionHeld3
import Derived.Sort.CutIn
import Derived.BigRegion
namespace Go.Proofs.YtkpgfmonhfnhdaaGreatDoor
set_option linter.unusedVariables false
section
open Go.RowKit
def rofB (c:Cl) (n x:Int):Bool:=betB c.fr c.un (86400 * n+x) && (decide (yam c.unit=0) || onB c.unit c.step c.anchor (86400 * n+x))
def rofL (c:Cl) (n:Int):List Int:=if dayC c n then (yau (c.m 2) (c.m 1) (c.m 0)).filter (rofB c n) else []
theorem ydq (hs ms ss:Nat):(yau hs ms ss).length≤86400:=by
 have key:∀(L:List Int),L.Pairwise (·< ·)→(∀y∈L,0≤y)→∀i (hi:i < L.length),(i:Int)≤L[i]:=fun L hr h0 i=>by
  induction i with
  | zero=>exact fun hi=>h0 _ (List.getElem_mem hi)
  | succ i ih=>
    intro hi
    have h1:=ih (by omega)
    have h2:=List.pairwise_iff_getElem.mp hr i (i+1) (by omega) hi (by omega)
    omega
 rcases Nat.eq_zero_or_pos (yau hs ms ss).length with h | h
 ·omega
 ·have h1:=key _ (ycr hs ms ss) (fun y hy=>(ydr hs ms ss hy).1) ((yau hs ms ss).length - 1) (by omega)
  have h2:=ydr hs ms ss (List.getElem_mem (l:=yau hs ms ss) (n:=(yau hs ms ss).length - 1) (by omega))
  omega
theorem yid (c:Cl) (n:Int):(rofL c n).length≤86400:=by
 rw [rofL]; split
 ·exact zI (List.length_filter_le _ _) (ydq _ _ _)
 ·simp
theorem yic {c:Cl} (hc:c.Ok) {n:Int} (h0:0≤n) (h1:n < 146097) {k:Nat} (hk:k < 86400):(k:Int)∈rofL c n↔hasC c (86400 * n+k)=true:=by
 have hw:winB (86400 * n+k)=true:=by rw [winB,decide_eq_true_eq]; omega
 have e1:(86400 * n+(k:Int)) % 86400=k:=by omega
 have e2:(86400 * n+(k:Int)) / 86400=n:=by omega
 have hs:=ybL (hc.m 2 (by omega)) (hc.m 1 (by omega)) (hc.m 0 (by omega)) (k:=(k:Int)) (by omega) (by omega)
 rw [rofL,hasC,hw,e1,e2,Bool.true_and]
 cases hd:dayC c n
 ·simp
 ·have hd':=hd
  rw [dayC,Bool.and_eq_true,Bool.and_eq_true] at hd'
  obtain ⟨hm,-,hon⟩:=hd'
  obtain ⟨ho,hst,hu,ha⟩:=ybR hm
  rw [if_pos rfl,List.mem_filter,hs,hm,rofB,Bool.true_and,Bool.and_true,Bool.and_eq_true,Bool.and_eq_true,Bool.and_eq_true,Bool.or_eq_true,decide_eq_true_eq]
  constructor
  ·rintro ⟨g1,g2,g3⟩
   refine ⟨g2,g1,?_⟩
   rcases g3 with g3 | g3
   ·have:=yf3 hu ha hst (t:=86400 * n+k) (by omega) (by omega) g3
    rw [e2] at this
    rw [←this]; exact hon
   ·exact g3
  ·rintro ⟨g1,g2,g3⟩
   exact ⟨g2,g1, .inr g3⟩
attribute [local go_sem ↓] yap
abbrev LrS (w:World) (c:Cl) (W:World):Prop:=(ycv (.pointer (some ⟨w.heap.size,0,none⟩))).run Tryz.prog W= .ok (clv c) W∧ClB W w.heap.size c∧Below w.heap.size w W∧w.heap.size < W.heap.size
theorem LrS.of {w W:World} {c:Cl} (h:ClB W w.heap.size c) (hb:Below w.heap.size w W) (hs:w.heap.size < W.heap.size):LrS w c W:=⟨h.ld,h,hb,hs⟩
theorem LrS.keep {w W W':World} {c:Cl} (h:LrS w c W) (hb:Below W.heap.size W W'):LrS w c W':=
 LrS.of (h.2.1.below hb h.2.2.2) (h.2.2.1.trans (hb.mono (Nat.le_of_lt h.2.2.2))) (zH h.2.2.2 hb.size)
theorem yeT {p:Int→Bool} {l:List Int} {k:Nat} (hk:k < l.length):(l.take (k+1)).filter p= (l.take k).filter p ++ if p l[k] then [l[k]] else []:=by
 rw [yai l k hk,List.filter_append]
 cases h:p l[k] <;> simp [h]
set_option maxRecDepth 100000 in
set_option maxHeartbeats 3200000 in
theorem yjJ (c:Cl) (n:Int) (w:World) (hc:c.Ok) (h0:0≤n) (h1:n < 146097) :
  Calls Tryz.prog 71 #[clv c, .int .i64 n] w fun e w'=>∃v,e= .returned v∧w'.ownsRow w.heap.size 3 1 v (rofL c n).length (ints (rofL c n))∧Below w.heap.size w w':=by
 have HS0:Hid (LrS w c (w.alloc (.cells (yad c).toArray 36)).drew):=(LrS.of (yb8 w c _) (yaa (Below.refl _ _) (zG _)) (by simp)).keep (Below.refl _ _).drew
 have cS:=hid (fun W (h:LrS w c W)=>ybg (yft n W h0 h1) (fun _=>h.keep))
 have cD:=hid (fun W (h:LrS w c W)=>ybg (yjL c n W hc h0 h1) (fun _=>h.keep))
 have cA:=hid (fun W=>ybC (yiS (c.m 2) (c.m 1) (c.m 0) W (hc.m 2 (by omega)) (hc.m 1 (by omega)) (hc.m 0 (by omega))))
 have cZ:=hid (fun W=>yg0 c.unit W)
 have cO:=hid (fun t W=>yiO c.unit c.step c.anchor t W hc.step)
 have hz:=ybm c.unit
 have hlen:=ydq (c.m 2) (c.m 1) (c.m 0)
 have hbd:=hid (fun x hx=>ydr (c.m 2) (c.m 1) (c.m 0) (x:=x) hx)
 have hR:Hid (rofL c n=if dayC c n then (yau (c.m 2) (c.m 1) (c.m 0)).filter (rofB c n) else []):=rfl
 have hB:Hid (∀x,rofB c n x= (betB c.fr c.un (86400 * n+x) && (decide (yam c.unit=0) || onB c.unit c.step c.anchor (86400 * n+x)))):=fun x=>rfl
 rw [←yau] at cA
 obtain ⟨L,hL⟩:∃L,yau (c.m 2) (c.m 1) (c.m 0)=L:=⟨_,rfl⟩
 rw [hL] at cA hlen hbd hR
 obtain ⟨z,hzz⟩:∃z,yam c.unit=z:=⟨_,rfl⟩
 rw [hzz] at cZ hB hz
 obtain ⟨dv,hdv⟩:∃d,dayC c n=d:=⟨_,rfl⟩
 rw [hdv] at cD hR
 rw [←yaZ,shq] at cS cD
 clear hL hzz hdv
 go_enter Tryz.func71,Tryz.ntmps71
 go_wp2_with fail
 go_region_held3 (fun w'=>LrS w c w') (first | with_reducible exact HS0.out | with_reducible assumption)
  (first
    | (go_at_call 32; refine (cS.out _ (by assumption)).mono ?_; rintro e w' ⟨rfl,hS⟩)
    | (go_at_call 119; refine (cD.out _ (by assumption)).mono ?_; rintro e w' ⟨rfl,hS⟩))
 cases dv
 ·have hfin:Hid (∃v,(Value.slice none 0 0)=v∧w'.ownsRow w.heap.size 3 1 v (rofL c n).length (ints (rofL c n))∧Below w.heap.size w w'):=⟨_,rfl,by rw [hR.out,if_neg (by simp)]; exact World.ownsRow_nil _ _ _ _,hS.2.2.1⟩
  clear hS
  go_wp2
  go_ret
  obtain ⟨v,rfl,h⟩:=hfin.out
  exact ⟨_,rfl,h⟩
 ·have HS:Hid (LrS w c w'):=by show LrS w c w'; assumption
  have s2:w'.cell? ⟨w.heap.size,2,none⟩=some (.int .u64 (c.m 2:Nat)):=HS.out.2.1.at 2 rfl
  have s1:w'.cell? ⟨w.heap.size,1,none⟩=some (.int .u64 (c.m 1:Nat)):=HS.out.2.1.at 1 rfl
  have s0:w'.cell? ⟨w.heap.size,0,none⟩=some (.int .u64 (c.m 0:Nat)):=HS.out.2.1.at 0 rfl
  rw [if_pos rfl] at hR
  clear cS cD hc
  rename_i hSa hSb hSc
  clear hSc hS hSb
  go_wp2_with fail
  refine (cA.out _).mono ?_
  rintro e w2 ⟨a,m,cap,rfl,hm,hsl,-,hB2⟩
  obtain rfl:=hm.out
  have HS2:=hid (HS.out.keep hB2)
  have Hsl:=hid hsl
  have hB02:Hid (Below w.heap.size w w2):=HS.out.2.2.1.trans (hB2.mono (Nat.le_of_lt HS.out.2.2.2))
  clear hsl hm hB2 s0 s1 s2
  go_wp2_with fail
  go_loopw [6,7,8] (fun v i _ wr=>∃(k q cq:Nat) (aq:Option Addr),i= .int .i64 k∧k≤L.length∧v= .slice aq q cq∧q≤k∧Hid (q= ((L.take k).filter (rofB c n)).length)∧wr.ownsRow w2.heap.size 3 1 (.slice aq q cq) q (ints ((L.take k).filter (rofB c n)))∧Below w2.heap.size w2 wr) (fun _ i _ _=>L.length - (intOf i).toNat)
  case atStart=>exact ⟨0,0,0,none,rfl,by omega,rfl,by omega,(rfl:(0:Nat)=0),World.ownsRow_nil _ _ _ _,Below.refl _ _⟩
  case round=>
   obtain ⟨k,q,cq,aq,rfl,hk,rfl,hqk,Hq,hown,hB9⟩:=hrel
   by_cases hlt:k < L.length
   ·obtain ⟨bL,oL,rfl,hbL,hcL⟩:=Hsl.out.atInt hlt
    have es:=(hB9.cell (p:=⟨bL,oL+k,none⟩) hbL).trans (hcL k hlt)
    have fx:=hbd.out _ (List.getElem_mem hlt)
    have Hsn:=hid (yeT (p:=rofB c n) hlt)
    obtain ⟨x,hx⟩:∃x,L[k]=x:=⟨_,rfl⟩
    rw [hx] at es fx Hsn
    obtain ⟨fx1,fx2⟩:=fx
    have hp:=hB.out x
    obtain ⟨-,-,-,t3,t4⟩:=(HS2.out.2.1.below hB9 HS2.out.2.2.2).tail
    have t0:=(HS2.out.2.1.below hB9 HS2.out.2.2.2).tail.1
    have t1:=(HS2.out.2.1.below hB9 HS2.out.2.2.2).tail.2.1
    have t2:=(HS2.out.2.1.below hB9 HS2.out.2.2.2).tail.2.2.1
    have Hown:=hid hown
    have HB:=hid hB9
    have hbs:w2.heap.size≤wr.heap.size:=hB9.size
    rw [betB] at hp
    have Hp:=hid hp
    clear hcL hx hown hB9 hp
    by_cases c1:c.fr≤86400 * n+x
    ·by_cases c2:86400 * n+x≤c.un
     ·have Hp2:Hid (rofB c n x= (decide (z=0) || onB c.unit c.step c.anchor (86400 * n+x))):=by show _ = _; rw [Hp.out,decide_eq_true c1,decide_eq_true c2]; rfl
      go_wp2_with fail
      refine (cZ.out _).mono ?_
      rintro e w3 ⟨rfl,rfl⟩
      rcases hz with hz | hz
      ·have hz0:(z == 0)=false:=by rw [beq_eq_false_iff_ne]; omega
       have cO1:=hid (cO.out (86400 * n+x) wr)
       obtain ⟨on,hon⟩:∃on,onB c.unit c.step c.anchor (86400 * n+x)=on:=⟨_,rfl⟩
       have Hpx:Hid (rofB c n x=on):=by show _ = _; rw [Hp2.out,decide_eq_false (by omega),hon]; rfl
       rw [hon] at cO1
       clear hon
       go_wp2_with fail
       refine cO1.out.mono ?_
       rintro e w3 ⟨rfl,rfl⟩
       cases on
       ·have hq1:Hid (q= ((L.take (k+1)).filter (rofB c n)).length):=by show q= _; rw [Hsn.out,Hpx.out]; simpa using Hq.out
        have ho1:Hid (wr.ownsRow w2.heap.size 3 1 (.slice aq q cq) q (ints ((L.take (k+1)).filter (rofB c n)))):=by show World.ownsRow _ _ _ _ _ _ _; rw [Hsn.out,Hpx.out]; simpa using Hown.out
        go_wp2
        exact ⟨⟨k+1,q,cq,aq,by go_num,by omega,rfl,by omega,hq1,ho1.out,HB.out⟩,by simp [intOf]; omega⟩
       ·go_wp2_with (at_builtin; refine app1 eInt (.tmp 60) (.tmp 65) rfl rfl rfl rfl rfl Hown.out rfl (by omega) (by omega) hbs ?_)
        intro a' cap' w4 hown2 hg2 hb2 hf2
        have hq1:Hid (q+1= ((L.take (k+1)).filter (rofB c n)).length):=by show q+1= _; rw [Hsn.out,Hpx.out,List.length_append,←Hq.out]; rfl
        have ho1:Hid (w4.ownsRow w2.heap.size 3 1 (.slice a' (q+1) cap') (q+1) (ints ((L.take (k+1)).filter (rofB c n)))):=by
         show World.ownsRow _ _ _ _ _ _ _
         rw [Hsn.out,Hpx.out,if_pos rfl,yaJ,yb1]; exact hown2
        have HB4:Hid (Below w2.heap.size w2 w4):=HB.out.trans hb2
        clear hown2 hg2 hb2 hf2
        go_wp2
        exact ⟨⟨k+1,q+1,cap',a',by go_num,by omega,rfl,by omega,hq1,ho1.out,HB4.out⟩,by simp [intOf]; omega⟩
      ·have hz0:(z == 0)=true:=by rw [hz]; rfl
       have Hpx:Hid (rofB c n x=true):=by show _ = _; rw [Hp2.out,decide_eq_true hz]; rfl
       clear hz
       go_wp2_with (at_builtin; refine app1 eInt (.tmp 60) (.tmp 65) rfl rfl rfl rfl rfl Hown.out rfl (by omega) (by omega) hbs ?_)
       intro a' cap' w4 hown2 hg2 hb2 hf2
       have hq1:Hid (q+1= ((L.take (k+1)).filter (rofB c n)).length):=by show q+1= _; rw [Hsn.out,Hpx.out,List.length_append,←Hq.out]; rfl
       have ho1:Hid (w4.ownsRow w2.heap.size 3 1 (.slice a' (q+1) cap') (q+1) (ints ((L.take (k+1)).filter (rofB c n)))):=by
        show World.ownsRow _ _ _ _ _ _ _
        rw [Hsn.out,Hpx.out,if_pos rfl,yaJ,yb1]; exact hown2
       have HB4:Hid (Below w2.heap.size w2 w4):=HB.out.trans hb2
       clear hown2 hg2 hb2 hf2
       go_wp2
       exact ⟨⟨k+1,q+1,cap',a',by go_num,by omega,rfl,by omega,hq1,ho1.out,HB4.out⟩,by simp [intOf]; omega⟩
     ·have Hpx:Hid (rofB c n x=false):=by show _ = _; rw [Hp.out,decide_eq_false c2]; simp
      have hq1:Hid (q= ((L.take (k+1)).filter (rofB c n)).length):=by show q= _; rw [Hsn.out,Hpx.out]; simpa using Hq.out
      have ho1:Hid (wr.ownsRow w2.heap.size 3 1 (.slice aq q cq) q (ints ((L.take (k+1)).filter (rofB c n)))):=by show World.ownsRow _ _ _ _ _ _ _; rw [Hsn.out,Hpx.out]; simpa using Hown.out
      go_wp2
      exact ⟨⟨k+1,q,cq,aq,by go_num,by omega,rfl,by omega,hq1,ho1.out,HB.out⟩,by simp [intOf]; omega⟩
    ·have Hpx:Hid (rofB c n x=false):=by show _ = _; rw [Hp.out,decide_eq_false c1]; simp
     have hq1:Hid (q= ((L.take (k+1)).filter (rofB c n)).length):=by show q= _; rw [Hsn.out,Hpx.out]; simpa using Hq.out
     have ho1:Hid (wr.ownsRow w2.heap.size 3 1 (.slice aq q cq) q (ints ((L.take (k+1)).filter (rofB c n)))):=by show World.ownsRow _ _ _ _ _ _ _; rw [Hsn.out,Hpx.out]; simpa using Hown.out
     go_wp2
     exact ⟨⟨k+1,q,cq,aq,by go_num,by omega,rfl,by omega,hq1,ho1.out,HB.out⟩,by simp [intOf]; omega⟩
   ·obtain rfl:k=L.length:=by omega
    rw [List.take_length] at Hq hown
    rw [←hR.out] at Hq hown
    have ho1:=hid hown
    clear hown
    go_wp2
    go_ret
    exact ⟨_,rfl,by rw [←Hq.out]; exact ybx ho1.out hB02.out.size,hB02.out.trans (hB9.mono hB02.out.size)⟩
def rofA (l:List Cl) (n:Int):List Int:=l.flatMap fun c=>rofL c n
theorem rofA_snoc (l:List Cl) (n:Int) {k:Nat} (h:k < l.length):rofA (l.take (k+1)) n=rofA (l.take k) n ++ rofL l[k] n:=by
 rw [rofA,yai l k h,List.flatMap_append,rofA]; simp
theorem rofA_len (l:List Cl) (n:Int):(rofA l n).length≤86400 * l.length:=by
 induction l with
 | nil=>simp [rofA]
 | cons c l ih=>
   have e:rofA (c :: l) n=rofL c n ++ rofA l n:=by simp [rofA]
   rw [e,List.length_append,List.length_cons]
   have:=yid c n
   omega
theorem rofA_day {l:List Cl} (hok:∀c∈l,c.Ok) {n:Int} (h0:0≤n) (h1:n < 146097):secL (memD (rofA l n))=secL (dayQ l n):=by
 rw [secL,secL]
 refine ydp fun k hk=>?_
 rw [memD,dayQ,Bool.eq_iff_iff,decide_eq_true_eq,List.any_eq_true,rofA,List.mem_flatMap]
 constructor
 ·rintro ⟨c,hc,h⟩
  exact ⟨c,hc,(yic (hok c hc) h0 h1 hk).1 h⟩
 ·rintro ⟨c,hc,h⟩
  exact ⟨c,hc,(yic (hok c hc) h0 h1 hk).2 h⟩
theorem ints_one1 (l:List Int):∀u∈ints l,u.oneCell' =true:=by
 intro u hu
 simp only [ints,List.mem_map] at hu
 obtain ⟨_,_,rfl⟩:=hu; rfl
set_option maxRecDepth 100000 in
set_option maxHeartbeats 3200000 in
theorem ygd (a:Option Addr) (cap:Nat) (l:List Cl) (n:Int) (w:World) (hl:l.length≤1000) (hs:Sl w a (cls l)) (hok:∀c∈l,c.Ok) (h0:0≤n) (h1:n < 146097) :
  Calls Tryz.prog 31 #[.slice a l.length cap, .int .i64 n] w fun e w'=>∃v,e= .returned v∧w'.ownsRow w.heap.size 3 1 v (secL (dayQ l n)).length (ints (secL (dayQ l n)))∧Below w.heap.size w w':=by
 have cR:=hid (fun (c:Cl) (hc:c.Ok) W=>ybC (yjJ c n W hc h0 h1))
 have cF:=hid (fun a cap (L:List Int) W hl hs=>ROf15_any a cap L W hl hs)
 have hE:=hid (rofA_day hok h0 h1)
 have hlen:=rofA_len l n
 have Hok:=hid hok
 have Hs:=hid hs
 clear hok hs
 go_enter Tryz.func31,Tryz.ntmps31
 go_wp2_with fail
 go_loopw [5,6] (fun v i wr=>∃(k q cq:Nat) (aq:Option Addr),i= .int .i64 k∧k≤l.length∧v= .slice aq q cq∧q≤86400 * k∧Hid (q= (rofA (l.take k) n).length)∧wr.ownsRow w.heap.size 3 1 (.slice aq q cq) q (ints (rofA (l.take k) n))∧Below w.heap.size w wr) (fun _ i _=>l.length - (intOf i).toNat)
 case atStart=>exact ⟨0,0,0,none,rfl,by omega,rfl,by omega,(rfl:(0:Nat)=0),World.ownsRow_nil _ _ _ _,Below.refl _ _⟩
 case round=>
  obtain ⟨k,q,cq,aq,rfl,hk,rfl,hqk,Hq,hown,hB9⟩:=hrel
  by_cases hlt:k < l.length
  ·obtain ⟨b,off,rfl,hbk,hr⟩:=Hs.out.atCl hlt
   have hr':=yaA hr hB9 hbk
   have Hsn:=hid (rofA_snoc l n hlt)
   have hck:=Hok.out _ (List.getElem_mem hlt)
   have hlk:=yid l[k] n
   obtain ⟨c,hc⟩:∃c,l[k]=c:=⟨_,rfl⟩
   rw [hc] at hr' Hsn hck hlk
   have le:=yfT hr'
   have c1:=hid (cR.out c hck wr)
   have Hown:=hid hown
   have HB:=hid hB9
   have hbs:w.heap.size≤wr.heap.size:=hB9.size
   obtain ⟨R,hR⟩:∃R,rofL c n=R:=⟨_,rfl⟩
   rw [hR] at c1 Hsn hlk
   clear hr hr' hc hck hown hB9 hR
   go_wp2_with fail
   refine c1.out.mono ?_
   rintro e w2 ⟨a2,m,cap2,rfl,hm,hsl,ho2,hB2⟩
   obtain rfl:=hm.out
   have Hl1:Hid ((ints R).length=R.length * 1):=by show _ = _; rw [ya8,Nat.mul_one]
   have Hsl:=hid hsl
   have Hnone:=hid (ycf ho2)
   have Hown2:=hid (ycg Hown.out hB2 (zG _))
   have HB2:=hid (HB.out.trans (hB2.mono hbs))
   have hbs2:w.heap.size≤w2.heap.size:=zI hbs hB2.size
   clear hsl ho2 hB2 hm le
   go_wp2_with (at_builtin; refine appN eInt (.tmp 13) (.tmp 19) rfl rfl rfl rfl Hown2.out Hl1.out Hsl.out Hnone.out (ints_one1 _) (by omega) (by omega) hbs2 ?_)
   intro a' cap' w4 hown2 hg2 hb2 hf2
   have hq1:Hid (q+R.length= (rofA (l.take (k+1)) n).length):=by show _ = _; rw [Hsn.out,List.length_append,←Hq.out]
   have ho1:Hid (w4.ownsRow w.heap.size 3 1 (.slice a' (q+R.length) cap') (q+R.length) (ints (rofA (l.take (k+1)) n))):=by
    show World.ownsRow _ _ _ _ _ _ _
    rw [Hsn.out,yaJ]; exact hown2
   have HB4:Hid (Below w.heap.size w w4):=HB2.out.trans hb2
   clear hown2 hg2 hb2 hf2
   go_wp2
   exact ⟨⟨k+1,q+R.length,cap',a',by go_num,by omega,rfl,by omega,hq1,ho1.out,HB4.out⟩,by simp [intOf]; omega⟩
  ·obtain rfl:k=l.length:=by omega
   rw [List.take_length] at Hq hown
   have c2:=hid (cF.out aq cq (rofA l n) wr (by omega) (yeC hown))
   rw [hE.out,←Hq.out] at c2
   have HB:=hid hB9
   clear hown hB9
   go_wp2_with fail
   refine c2.out.mono ?_
   rintro e w4 ⟨v,rfl,ho,hB4⟩
   have ho1:=hid (ybx ho HB.out.size)
   have HB4:=hid (HB.out.trans (hB4.mono HB.out.size))
   clear ho hB4
   go_wp2
   go_ret
   exact ⟨_,rfl,ho1.out,HB4.out⟩
end
section
open Go.RowKit Go.Maps
theorem at_more {cs:List Cl} {n:Int} {ws ws2:Nat→Bool} {m m2:Nat} (h1:yhe cs n ws m ws2 m2):m2≤m+1∧m≤m2:=by
 rcases h1 with ⟨-,-,e⟩ | ⟨-,-,-,e⟩ | ⟨-,-,-,e | e⟩
 ·omega
 ·rw [e]; split <;> omega
 ·omega
 ·omega
def RdS (w:World) (l:List Cl) (br bk:Nat) (bps:List Nat) (k:Nat) (wr:World):Prop:=∃F ws m,RollS wr l br bk bps F ws m∧m≤k∧Below w.heap.size w wr
theorem RdS.below {w wr w':World} {l:List Cl} {br bk:Nat} {bps:List Nat} {k:Nat} (h:RdS w l br bk bps k wr) (hB:Below wr.heap.size wr w'):RdS w l br bk bps k w':=by
 obtain ⟨F,ws,m,h1,h2,h3⟩:=h
 exact ⟨F,ws,m,h1.below hB,h2,h3.trans (hB.mono h3.size)⟩
end
section
open Go.RowKit Go.Maps
theorem ydM:∀{l m:List Int},l.Pairwise (·< ·)→m.Pairwise (·< ·)→(∀x,x∈l↔x∈m)→l=m
 | [],[],_,_,_=>rfl
 | [],y :: m,_,_,h=>by have:=(h y).2 (by simp); simp at this
 | x :: l,[],_,_,h=>by have:=(h x).1 (by simp); simp at this
 | x :: l,y :: m,hl,hm,h=>by
   rw [List.pairwise_cons] at hl hm
   have e:x=y:=by
    rcases List.mem_cons.1 ((h x).1 (by simp)) with e | h1
    ·exact e
    ·rcases List.mem_cons.1 ((h y).2 (by simp)) with e | h2
     ·exact e.symm
     ·have a:=hm.1 x h1; have b:=hl.1 y h2; omega
   subst e
   congr 1
   refine ydM hl.2 hm.2 (fun z=>⟨fun hz=>?_,fun hz=>?_⟩)
   ·rcases List.mem_cons.1 ((h z).1 (by simp [hz])) with e | h1
    ·subst e; have:=hl.1 z hz; omega
    ·exact h1
   ·rcases List.mem_cons.1 ((h z).2 (by simp [hz])) with e | h1
    ·subst e; have:=hm.1 z hz; omega
    ·exact h1
end
section
open Go.RowKit
def PairD (S:Int→Prop) (d:Int):Prop:=∀x y,S x→S y→d ∣ x - y
theorem PairD.congr {S T:Int→Prop} (d:Int) (e:∀x,S x↔T x):PairD S d↔PairD T d:=
 ⟨fun h x y hx hy=>h x y ((e x).2 hx) ((e y).2 hy),fun h x y hx hy=>h x y ((e x).1 hx) ((e y).1 hy)⟩
theorem ygA {S:Int→Prop} {a d:Int} (h:∀x,S x→d ∣ x - a):PairD S d:=fun x y hx hy=>by
 have:=Int.dvd_sub (h x hx) (h y hy)
 rwa [show x - a - (y - a)=x - y by omega] at this
theorem ygB {S T:Int→Prop} {a b d:Int} (ha:S a) (hb:T b):PairD (fun x=>S x∨T x) d↔PairD S d∧d ∣ b - a∧PairD T d:=by
 constructor
 ·intro h
  exact ⟨fun x y hx hy=>h x y (.inl hx) (.inl hy),h b a (.inr hb) (.inl ha),fun x y hx hy=>h x y (.inr hx) (.inr hy)⟩
 ·rintro ⟨h1,h2,h3⟩
  refine ygA (a:=a) fun x hx=>?_
  rcases hx with hx | hx
  ·exact h1 x a hx ha
  ·have:=Int.dvd_add (h3 x b hx hb) h2
   rwa [show x - b+(b - a)=x - a by omega] at this
structure BeatP (S:Int→Prop) (y:Bool) (f g:Int):Prop where
 no:y=false→f=0∧g=0∧∀x,¬S x
 yes:y=true→S f
 ge:0≤g
 dvd:∀d,d ∣ g↔PairD S d
theorem BeatP.congr {S T:Int→Prop} {y:Bool} {f g:Int} (h:BeatP S y f g) (e:∀x,S x↔T x):BeatP T y f g:=
 ⟨fun hy=>⟨(h.no hy).1,(h.no hy).2.1,fun x hx=>(h.no hy).2.2 x ((e x).2 hx)⟩,fun hy=>(e f).1 (h.yes hy),h.ge,fun d=>(h.dvd d).trans (PairD.congr d e)⟩
theorem BeatP.empty:BeatP (fun _=>False) false 0 0:=
 ⟨fun _=>⟨rfl,rfl,fun _ h=>h⟩,fun h=>(by cases h),by omega,fun d=>⟨fun _ x y h _=>h.elim,fun _=>Int.dvd_zero d⟩⟩
theorem BeatP.first {S:Int→Prop} {f g:Int} (h:BeatP S false f g) (n:Int):BeatP (fun x=>S x∨x=n) true n 0:=by
 have hn:=(h.no rfl).2.2
 refine ⟨fun h=>(by cases h),fun _=> .inr rfl,(by omega),fun d=>⟨fun _=>ygA (a:=n) fun x hx=>?_,fun _=>Int.dvd_zero d⟩⟩
 rcases hx with hx | rfl
 ·exact (hn x hx).elim
 ·rw [Int.sub_self]; exact Int.dvd_zero d
theorem dvd_gcd2 {d a b:Int}:d ∣ ((gcdL [a,b]:Nat):Int)↔d ∣ a∧d ∣ b:=by
 have e:gcdL [a,b]=Int.gcd a b:=by simp [gcdL,Int.gcd]
 rw [e,Int.dvd_coe_gcd_iff]
theorem pair_n {d n:Int}:PairD (fun x=>x=n) d:=fun x y hx hy=>by
 subst hx; subst hy; rw [Int.sub_self]; exact Int.dvd_zero d
theorem BeatP.more {S:Int→Prop} {f g:Int} (h:BeatP S true f g) (n:Int):BeatP (fun x=>S x∨x=n) true f (gcdL [g,n - f]:Nat):=by
 refine ⟨fun h=>(by cases h),fun _=> .inl (h.yes rfl),by omega,fun d=>?_⟩
 rw [dvd_gcd2,h.dvd,ygB (T:=fun x=>x=n) (b:=n) (h.yes rfl) rfl]
 exact ⟨fun ⟨h1,h2⟩=>⟨h1,h2,pair_n⟩,fun ⟨h1,h2,_⟩=>⟨h1,h2⟩⟩
theorem BeatP.one {S:Int→Prop} {f:Int} (h:BeatP S true f 1) (n:Int):BeatP (fun x=>S x∨x=n) true f 1:=by
 refine ⟨fun h=>(by cases h),fun _=> .inl (h.yes rfl),by omega,fun d=>?_⟩
 rw [ygB (T:=fun x=>x=n) (b:=n) (h.yes rfl) rfl,←h.dvd]
 exact ⟨fun h1=>⟨h1,Int.dvd_trans h1 (Int.one_dvd _),pair_n⟩,fun h1=>h1.1⟩
abbrev Bt:=Bool × Int × Int
def takeB (b:Bt) (n:Int):Bt:=if b.1 then (true,b.2.1,if b.2.2=1 then 1 else (gcdL [b.2.2,n - b.2.1]:Nat)) else (true,n,b.2.2)
def BeatQ (S:Int→Prop) (b:Bt):Prop:=BeatP S b.1 b.2.1 b.2.2
theorem BeatQ.take {S:Int→Prop} {b:Bt} (h:BeatQ S b) (n:Int):BeatQ (fun x=>S x∨x=n) (takeB b n):=by
 obtain ⟨y,f,g⟩:=b
 rw [BeatQ] at h⊢
 cases y
 ·have:=h.first n
  have e:=(h.no rfl).2.1
  simp only at e
  rw [takeB,if_neg (by simp)]
  simp only
  rw [e]; exact this
 ·rw [takeB,if_pos rfl]
  simp only
  by_cases h1:g=1
  ·subst h1
   rw [if_pos rfl]
   exact h.one n
  ·rw [if_neg h1]
   exact h.more n
theorem BeatP.bd {S:Int→Prop} {y:Bool} {f g M:Int} (h:BeatP S y f g) (hM:0≤M) (hS:∀x,S x→0≤x∧x≤M):0≤f∧f≤M∧0≤g∧g≤M:=by
 have hg:=h.ge
 have h1:0≤f∧f≤M:=by
  cases y
  ·obtain ⟨rfl,-,-⟩:=h.no rfl; omega
  ·exact hS f (h.yes rfl)
 refine ⟨h1.1,h1.2,hg,?_⟩
 rcases Int.lt_or_le M g with h2 | h2
 ·exfalso
  have h3:=(h.dvd g).1 (Int.dvd_refl g)
  have h4:PairD S 0:=fun x y hx hy=>by
   have hd:=h3 x y hx hy
   have b1:=hS x hx
   have b2:=hS y hy
   have:x - y=0:=by
    rcases Int.lt_trichotomy (x - y) 0 with e | e | e
    ·have:=Int.le_of_dvd (by omega) (Int.dvd_neg.2 hd); omega
    ·exact e
    ·have:=Int.le_of_dvd e hd; omega
   rw [this]; exact Int.dvd_refl 0
  have:=(h.dvd 0).2 h4
  rw [Int.zero_dvd] at this
  omega
 ·exact h2
theorem BeatP.unique {S T:Int→Prop} {y y':Bool} {f f' g g':Int} (h:BeatP S y f g) (h':BeatP T y' f' g') (e:∀d,PairD S d↔PairD T d):g=g':=by
 have h1:g ∣ g':=(h'.dvd g).2 ((e g).1 ((h.dvd g).1 (Int.dvd_refl g)))
 have h2:g' ∣ g:=(h.dvd g').2 ((e g').2 ((h'.dvd g').1 (Int.dvd_refl g')))
 have g0:=h.ge
 have g1:=h'.ge
 exact Int.dvd_antisymm g0 g1 h1 h2
end
section
open Go.RowKit Go.Maps
structure Bt1 (b o:Nat) (x:Bt) (W:World):Prop where
 y:W.cell? ⟨b,o,none⟩=some (.bool x.1)
 f:W.cell? ⟨b,o+1,none⟩=some (.int .i64 x.2.1)
 g:W.cell? ⟨b,o+2,none⟩=some (.int .i64 x.2.2)
 z:∀i,W.frozen? ⟨b,i,none⟩=false
 lt:b < W.heap.size
theorem Eff.set1 (W:World) (b j:Nat) (v:Value):Eff (fun c=>c=b) W (W.setCell ⟨b,j,none⟩ v):=(Eff.refl (fun c=>c=b) W).set (b:=b) rfl j v
structure OnlyB (b o:Nat) (W W':World):Prop where
 eff:Eff (fun c=>c=b) W W'
 c:∀i,i≠o→i≠o+1→i≠o+2→W'.cell? ⟨b,i,none⟩=W.cell? ⟨b,i,none⟩
 z:∀i,W'.frozen? ⟨b,i,none⟩=W.frozen? ⟨b,i,none⟩
theorem OnlyB.of_below {b o:Nat} {W W':World} (h:Below W.heap.size W W') (hb:b < W.heap.size):OnlyB b o W W':=⟨Eff.of_below h,fun i _ _ _=>h.cell (p:=⟨b,i,none⟩) hb,fun i=>h.frozen (p:=⟨b,i,none⟩) hb⟩
theorem OnlyB.trans {b o:Nat} {W W' W2:World} (h:OnlyB b o W W') (k:OnlyB b o W' W2):OnlyB b o W W2:=
 ⟨h.eff.trans k.eff (fun _ h=> .inl h),fun i a1 a2 a3=>(k.c i a1 a2 a3).trans (h.c i a1 a2 a3),fun i=>(k.z i).trans (h.z i)⟩
theorem OnlyB.set {b o:Nat} {W:World} (j:Nat) (hj:j=o∨j=o+1∨j=o+2) (v:Value):OnlyB b o W (W.setCell ⟨b,j,none⟩ v):=
 ⟨Eff.set1 W b j v,fun i a1 a2 a3=>World.cell?_setCell_other _ _ _ _ (fun e=>by injection e with _ e2; omega),fun i=>by simp [go_sem]⟩
theorem Bt1.below {b o:Nat} {x:Bt} {W W':World} (h:Bt1 b o x W) (hB:Below W.heap.size W W'):Bt1 b o x W':=
 ⟨(hB.cell (p:=⟨b,o,none⟩) h.lt).trans h.y,(hB.cell (p:=⟨b,o+1,none⟩) h.lt).trans h.f,(hB.cell (p:=⟨b,o+2,none⟩) h.lt).trans h.g,fun i=>(hB.frozen (p:=⟨b,i,none⟩) h.lt).trans (h.z i),zH h.lt hB.size⟩
def M62 (n:Int):Prop:=0≤n∧n≤4611686018427387903
end
section
open Go.RowKit Go.Maps
def btL (n:Nat) (B:Nat→Bt):List Value:=(List.range n).flatMap fun u=> [.bool (B u).1, .int .i64 (B u).2.1, .int .i64 (B u).2.2]
theorem yiJ (n:Nat) (B:Nat→Bt):btL (n+1) B=btL n B ++ [.bool (B n).1, .int .i64 (B n).2.1, .int .i64 (B n).2.2]:=by
 rw [btL,btL,List.range_succ,List.flatMap_append]; simp
theorem ycN (n:Nat) (B:Nat→Bt):(btL n B).length=3 * n:=by
 induction n with
 | zero=>rfl
 | succ n ih=>rw [yiJ,List.length_append,ih]; simp; omega
def btC (B:Nat→Bt) (j:Nat):Value:=if j % 3=0 then .bool (B (j / 3)).1 else if j % 3=1 then .int .i64 (B (j / 3)).2.1 else .int .i64 (B (j / 3)).2.2
theorem btL_get (n:Nat) (B:Nat→Bt) (j:Nat) (hj:j < 3 * n):(btL n B)[j]? =some (btC B j):=by
 induction n with
 | zero=>omega
 | succ n ih=>
   rw [yiJ]
   rcases Nat.lt_or_ge j (3 * n) with h | h
   ·rw [List.getElem?_append_left (by rw [ycN]; exact h)]; exact ih h
   ·rw [List.getElem?_append_right (by rw [ycN]; exact h),ycN]
    have h3:j=3 * n∨j=3 * n+1∨j=3 * n+2:=by omega
    rcases h3 with rfl | rfl | rfl
    ·rw [btC,if_pos (by omega),show 3 * n / 3=n by omega,Nat.sub_self]; rfl
    ·rw [btC,if_neg (by omega),if_pos (by omega),show (3 * n+1) / 3=n by omega,show 3 * n+1 - 3 * n=1 by omega]; rfl
    ·rw [btC,if_neg (by omega),if_neg (by omega),show (3 * n+2) / 3=n by omega,show 3 * n+2 - 3 * n=2 by omega]; rfl
structure BtS (b n:Nat) (B:Nat→Bt) (W:World):Prop where
 at':∀u,u < n→Bt1 b (u * 3) (B u) W
 z:∀i,W.frozen? ⟨b,i,none⟩=false
 lt:b < W.heap.size
section
variable {b n:Nat} {B:Nat→Bt} {W W':World}
theorem BtS.cell (h:BtS b n B W) {j:Nat} (hj:j < 3 * n):W.cell? ⟨b,j,none⟩=some (btC B j):=by
 have hu:j / 3 < n:=by omega
 have hb:=h.at' (j / 3) hu
 have h3:j % 3=0∨j % 3=1∨j % 3=2:=by omega
 rcases h3 with e | e | e
 ·rw [btC,if_pos e]; have:=hb.y; rwa [show j / 3 * 3=j by omega] at this
 ·rw [btC,if_neg (by omega),if_pos e]; have:=hb.f; rwa [show j / 3 * 3+1=j by omega] at this
 ·rw [btC,if_neg (by omega),if_neg (by omega)]; have:=hb.g; rwa [show j / 3 * 3+2=j by omega] at this
theorem BtS.of (hc:∀j,j < 3 * n→W.cell? ⟨b,j,none⟩=some (btC B j)) (hz:∀i,W.frozen? ⟨b,i,none⟩=false) (hl:b < W.heap.size):BtS b n B W:=
 ⟨fun u hu=>by
  have c0:=hc (u * 3) (by omega)
  have c1:=hc (u * 3+1) (by omega)
  have c2:=hc (u * 3+2) (by omega)
  rw [btC,if_pos (by omega),show u * 3 / 3=u by omega] at c0
  rw [btC,if_neg (by omega),if_pos (by omega),show (u * 3+1) / 3=u by omega] at c1
  rw [btC,if_neg (by omega),if_neg (by omega),show (u * 3+2) / 3=u by omega] at c2
  exact ⟨c0,c1,c2,hz,hl⟩,hz,hl⟩
theorem BtS.block (h:BtS b n B W) (hs:W.heap.size≤W'.heap.size) (hb:W'.heap[b]? =W.heap[b]?):BtS b n B W':=
 BtS.of (fun j hj=>(World.cell?_of_block (w:=W) (a:=⟨b,j,none⟩) hb).trans (h.cell hj)) (fun i=>(World.frozen?_of_block (w:=W) (a:=⟨b,i,none⟩) hb).trans (h.z i)) (zH h.lt hs)
theorem BtS.congr {C:Nat→Bt} (h:BtS b n B W) (e:∀u,u < n→C u=B u):BtS b n C W:=⟨fun u hu=>by rw [e u hu]; exact h.at' u hu,h.z,h.lt⟩
theorem BtS.step {x:Bt} {u:Nat} (h:BtS b n B W) (h1:Bt1 b (u * 3) x W') (ho:OnlyB b (u * 3) W W'):BtS b n (fun i=>if i=u then x else B i) W':=
 ⟨fun i hi=>by
  by_cases e:i=u
  ·subst e; rw [if_pos rfl]; exact h1
  ·rw [if_neg e]
   have g:=h.at' i hi
   exact ⟨(ho.c _ (by omega) (by omega) (by omega)).trans g.y,(ho.c _ (by omega) (by omega) (by omega)).trans g.f,(ho.c _ (by omega) (by omega) (by omega)).trans g.g,fun j=>(ho.z j).trans (g.z j),h1.lt⟩,fun i=>(ho.z i).trans (h.z i),h1.lt⟩
theorem BtS.range (h:BtS b n B W):W.rangeAt b 0 (btL n B):=fun j v hv=>by
 have hj:j < 3 * n:=by have:=(List.getElem?_eq_some_iff.1 hv).1; rwa [ycN] at this
 rw [btL_get n B j hj] at hv
 rw [Nat.zero_add,h.cell hj]; exact hv
theorem BtS.there (h:BtS b n B W) (C:Nat→Bt):W.there b 0 (btL n C).toArray.size:=fun j hj=>by
 rw [List.size_toArray,ycN] at hj
 rw [Nat.zero_add]
 exact ⟨by rw [h.cell hj]; rfl,h.z j⟩
theorem BtS.put (h:BtS b n B W) (C:Nat→Bt):BtS b n C (W.setCells b 0 (btL n C)):=by
 have hs:=(Eff.setCells (O:=fun x=>x=b) rfl (btL n C) 0 W (Eff.refl _ W)).size
 refine BtS.of (fun j hj=>?_) (fun i=>by rw [World.frozen?_setCells]; exact h.z i) (zH h.lt hs)
 have:=World.cell?_setCells_in b (btL n C) 0 W (fun i hi=>by rw [ycN] at hi; rw [Nat.zero_add,h.cell hi]; rfl) j (by rw [ycN]; exact hj)
 rw [Nat.zero_add] at this
 rw [this]
 have h2:=btL_get n C j hj
 rw [List.getElem?_eq_getElem (by rw [ycN]; exact hj)] at h2
 exact h2
end
def bv3 (B:Nat→Bt):Value:= .agg (btL 3 B).toArray
section
variable {b:Nat} {B:Nat→Bt} {W:World}
end
end
section
open Go.RowKit
def ydf (o:Oper):Bool:=match o.op with | .defer _=>false | _=>true
theorem yjd {o:Oper} (h:ydf o=true):∀c,o.op≠ .defer c:=by
 intro c e; rw [ydf,e] at h; cases h
theorem operW {l n:Nat} {P:Program} {o:Oper} {a:Act} {w:World} {K:Act→World→Prop} {Q:Exit→Act→World→Prop} (hd:ydf o=true) (hL:¬LetsOut Q) (h:o.wp P a w K Q):o.wpIn (WF (some l)) n P a w K Q:=by
 refine ⟨fun _ _=>trivial,?_⟩
 have e2:o.semAt (WF (some l)).round a.eval=execOp a.eval o:=Oper.semAt_eq _ _ _ (yjd hd)
 rw [e2]
 unfold Oper.wp at h
 generalize (execOp a.eval o).run P w=r at *
 cases r with
 | ok x w'=>
   cases x <;> simp only [Oper.uponIn,Oper.upon] at h⊢<;>
    first
     | exact h
     | exact ⟨fun h=>(by cases h),wf_calls.mpr h⟩
     | exact ⟨fun h=>(by cases h),fun c cs _=>let ⟨v,w'',r,s⟩:=h c cs; ⟨v,w'',r,stepsIn_wide.mpr s⟩⟩
 | halt x w'=>cases x <;> simp only [Oper.uponIn,Oper.upon] at h⊢<;> exact h
theorem opW {l n i:Nat} {P:Program} {ops:Array Oper} {K K':Act→World→Prop} {Q:Exit→Act→World→Prop} (hd:ops.all ydf=true) (hL:¬LetsOut Q) (hK:∀a w,K a w→K' a w) {a:Act} {w:World} (h:wpOp P ops Q i K a w):wpOpIn (WF (some l)) n P ops Q i K' a w:=by
 unfold wpOp at h
 unfold wpOpIn
 cases ho:ops[i]? with
 | none=>simp only [ho] at h⊢; exact hK _ _ h
 | some o=>
   simp only [ho] at h⊢
   have hdo:ydf o=true:=by
    rw [Array.all_eq_true] at hd
    obtain ⟨hi,rfl⟩:=Array.getElem?_eq_some_iff.1 ho
    exact hd i hi
   split
   ·rename_i hw
    rw [if_pos hw] at h
    rcases h with h | h
    ·exact operW hdo hL (Oper.wp_mono hK h)
    ·exact absurd h.2 hL
   ·rename_i hw
    rw [if_neg hw] at h
    exact ⟨fun _ _=>trivial,hK _ _ h⟩
theorem anyW {l n:Nat} {P:Program} {md:Region.Mode} {ops:Array Oper} {Q:Exit→Act→World→Prop} (hd:ops.all ydf=true) (hL:¬LetsOut Q):∀(fuel:Nat) (listed:Array Bool) (a:Act) (w:World),wpAny P md ops Q fuel listed a w→wpAnyIn (WF (some l)) n P md ops Q fuel listed a w
 | 0,_,_,_,h=>h
 | fuel+1,listed,a,w,h=>⟨h.1,fun i hi=>opW hd hL (fun a w=>anyW hd hL fuel _ a w) (h.2 i hi)⟩
end
section
open Go.RowKit Go.Maps
attribute [local go_sem] Oper.semAt_some
theorem yhD (args:Array Value) (w:World):(callFunc 148 args).run Tryz.prog w= .ok (.enter 148 args) w:=by simp [go_sem]
def szI (u:Nat):Int:=if u=0 then 1 else if u=1 then 60 else 3600
theorem szI_pos (u:Nat):1≤szI u∧szI u≤3600:=by rw [szI]; split; omega; split <;> omega
def nrB (xs:List Int) (u:Nat):Bt:=xs.foldl (fun b x=>takeB b (x / szI u)) (false,0,0)
theorem yfO (q:Nat→Bool):∀x∈secL q,0≤x∧x < 86400:=fun x hx=>by
 rw [secL,sel_mem] at hx
 obtain ⟨k,h1,_,h2⟩:=hx
 omega
end
end Go.Proofs.YtkpgfmonhfnhdaaGreatDoor
