/-
  feriaref16.Of and All: the seconds of a day that have a clause, and those that have one of clauses.
  ferialaw18.RollDays answers true for every clauses and days.
  The instants of a set between two instants, day by day.
  Beats: the first of numbers, and what divides all their differences (plain).
-/
import Derived.Test.YthimhfmnikfgaaaGreatDoorQ9b22a1
import Derived.Test.YthimhfmnikfgaaaGreatDoorQ4bf0e9
import Derived.Test.YthimhfmnikfgaaaGreatDoorQ1ec8e9
import Derived.Test.YthimhfmnikfgaaaGreatDoorQ2c5ed6
namespace Go.Proofs.YthimhfmnikfgaaaGreatDoor
set_option linter.unusedVariables false
section
open Go.RowKit
def rofB (c:Cl) (n x:Int):Bool:=betB c.fr c.un (86400 * n+x) && (decide (sizeU c.unit=0) || onB c.unit c.step c.anchor (86400 * n+x))
def rofL (c:Cl) (n:Int):List Int:=if dayC c n then (secsOf (c.m 2) (c.m 1) (c.m 0)).filter (rofB c n) else []
theorem secsOf_count' (hs ms ss:Nat):(secsOf hs ms ss).length≤86400:=by
 have key:∀(L:List Int),L.Pairwise (·< ·)→(∀y∈L,0≤y)→∀i (hi:i < L.length),(i:Int)≤L[i]:=fun L hr h0 i=>by
  induction i with
  | zero=>exact fun hi=>h0 _ (List.getElem_mem hi)
  | succ i ih=>
    intro hi
    have h1:=ih (by omega)
    have h2:=List.pairwise_iff_getElem.mp hr i (i+1) (by omega) hi (by omega)
    omega
 rcases Nat.eq_zero_or_pos (secsOf hs ms ss).length with h | h
 ·omega
 ·have h1:=key _ (secsOf_rising hs ms ss) (fun y hy=>(secsOf_bd hs ms ss hy).1) ((secsOf hs ms ss).length - 1) (by omega)
  have h2:=secsOf_bd hs ms ss (List.getElem_mem (l:=secsOf hs ms ss) (n:=(secsOf hs ms ss).length - 1) (by omega))
  omega
theorem rofL_len (c:Cl) (n:Int):(rofL c n).length≤86400:=by
 rw [rofL]; split
 ·exact zI (List.length_filter_le _ _) (secsOf_count' _ _ _)
 ·simp
theorem rofL_mem {c:Cl} (hc:c.Ok) {n:Int} (h0:0≤n) (h1:n < 146097) {k:Nat} (hk:k < 86400):(k:Int)∈rofL c n↔hasC c (86400 * n+k)=true:=by
 have hw:winB (86400 * n+k)=true:=by rw [winB,decide_eq_true_eq]; omega
 have e1:(86400 * n+(k:Int)) % 86400=k:=by omega
 have e2:(86400 * n+(k:Int)) / 86400=n:=by omega
 have hs:=secsOf_mem (hc.m 2 (by omega)) (hc.m 1 (by omega)) (hc.m 0 (by omega)) (k:=(k:Int)) (by omega) (by omega)
 rw [rofL,hasC,hw,e1,e2,Bool.true_and]
 cases hd:dayC c n
 ·simp
 ·have hd':=hd
  rw [dayC,Bool.and_eq_true,Bool.and_eq_true] at hd'
  obtain ⟨hm,-,hon⟩:=hd'
  obtain ⟨ho,hst,hu,ha⟩:=may_ord hm
  rw [if_pos rfl,List.mem_filter,hs,hm,rofB,Bool.true_and,Bool.and_true,Bool.and_eq_true,Bool.and_eq_true,Bool.and_eq_true,Bool.or_eq_true,decide_eq_true_eq]
  constructor
  ·rintro ⟨g1,g2,g3⟩
   refine ⟨g2,g1,?_⟩
   rcases g3 with g3 | g3
   ·have:=dayOn_on hu ha hst (t:=86400 * n+k) (by omega) (by omega) g3
    rw [e2] at this
    rw [←this]; exact hon
   ·exact g3
  ·rintro ⟨g1,g2,g3⟩
   exact ⟨g2,g1, .inr g3⟩
attribute [local go_sem ↓] loadAt_cl
abbrev LrS (w:World) (c:Cl) (W:World):Prop:=(loadClS (.pointer (some ⟨w.heap.size,0,none⟩))).run Tryz.prog W= .ok (clv c) W∧ClB W w.heap.size c∧Below w.heap.size w W∧w.heap.size < W.heap.size
theorem LrS.of {w W:World} {c:Cl} (h:ClB W w.heap.size c) (hb:Below w.heap.size w W) (hs:w.heap.size < W.heap.size):LrS w c W:=⟨h.ld,h,hb,hs⟩
theorem LrS.keep {w W W':World} {c:Cl} (h:LrS w c W) (hb:Below W.heap.size W W'):LrS w c W':=
 LrS.of (h.2.1.below hb h.2.2.2) (h.2.2.1.trans (hb.mono (Nat.le_of_lt h.2.2.2))) (zH h.2.2.2 hb.size)
theorem filter_snoc {p:Int→Bool} {l:List Int} {k:Nat} (hk:k < l.length):(l.take (k+1)).filter p= (l.take k).filter p ++ if p l[k] then [l[k]] else []:=by
 rw [take_snoc l k hk,List.filter_append]
 cases h:p l[k] <;> simp [h]
set_option maxRecDepth 100000 in
set_option maxHeartbeats 3200000 in
theorem RLap16_any (c:Cl) (n:Int) (w:World) (hc:c.Ok) (h0:0≤n) (h1:n < 146097) :
  Calls Tryz.prog 40 #[clv c, .int .i64 n] w fun e w'=>∃v,e= .returned v∧w'.ownsRow w.heap.size 3 1 v (rofL c n).length (ints (rofL c n))∧Below w.heap.size w w':=by
 have HS0:Hid (LrS w c (w.alloc (.cells (clList c).toArray 35)).drew):=(LrS.of (clB_new w c _) (below_new (Below.refl _ _) (zG _)) (by simp)).keep (Below.refl _ _).drew
 have cS:=hid (fun W (h:LrS w c W)=>keep_of' (RShape_any n W h0 h1) (fun _=>h.keep))
 have cD:=hid (fun W (h:LrS w c W)=>keep_of' (RDay13_any c n W hc h0 h1) (fun _=>h.keep))
 have cA:=hid (fun W=>own_ret (RAll_any (c.m 2) (c.m 1) (c.m 0) W (hc.m 2 (by omega)) (hc.m 1 (by omega)) (hc.m 0 (by omega))))
 have cZ:=hid (fun W=>RSize_any c.unit W)
 have cO:=hid (fun t W=>RUOn_any c.unit c.step c.anchor t W hc.step)
 have hz:=sizeU_cases c.unit
 have hlen:=secsOf_count' (c.m 2) (c.m 1) (c.m 0)
 have hbd:=hid (fun x hx=>secsOf_bd (c.m 2) (c.m 1) (c.m 0) (x:=x) hx)
 have hR:Hid (rofL c n=if dayC c n then (secsOf (c.m 2) (c.m 1) (c.m 0)).filter (rofB c n) else []):=rfl
 have hB:Hid (∀x,rofB c n x= (betB c.fr c.un (86400 * n+x) && (decide (sizeU c.unit=0) || onB c.unit c.step c.anchor (86400 * n+x)))):=fun x=>rfl
 rw [←secsOf] at cA
 obtain ⟨L,hL⟩:∃L,secsOf (c.m 2) (c.m 1) (c.m 0)=L:=⟨_,rfl⟩
 rw [hL] at cA hlen hbd hR
 obtain ⟨z,hzz⟩:∃z,sizeU c.unit=z:=⟨_,rfl⟩
 rw [hzz] at cZ hB hz
 obtain ⟨dv,hdv⟩:∃d,dayC c n=d:=⟨_,rfl⟩
 rw [hdv] at cD hR
 rw [←shq_shF,shq] at cS cD
 clear hL hzz hdv
 go_enter Tryz.func40,Tryz.ntmps40
 go_wp2_with fail
 go_region_held3 (fun w'=>LrS w c w') (first | with_reducible exact HS0.out | with_reducible assumption)
  (first
    | (go_at_call 67; refine (cS.out _ (by assumption)).mono ?_; rintro e w' ⟨rfl,hS⟩)
    | (go_at_call 96; refine (cD.out _ (by assumption)).mono ?_; rintro e w' ⟨rfl,hS⟩))
 cases dv
 ·have hfin:Hid (∃v,(Value.slice none 0 0)=v∧w'.ownsRow w.heap.size 3 1 v (rofL c n).length (ints (rofL c n))∧Below w.heap.size w w'):=⟨_,rfl,by rw [hR.out,if_neg (by simp)]; exact World.ownsRow_nil _ _ _ _,hS.2.2.1⟩
  clear hS
  go_wp2
  go_ret
  obtain ⟨v,rfl,h⟩:=hfin.out
  exact ⟨_,rfl,h⟩
 ·have HS:Hid (LrS w c w'):=by show LrS w c w'; assumption
  have s2:w'.cell? ⟨w.heap.size,2,none⟩=some (.int .u64 (c.m 2:Nat)):=HS.out.2.1.at 2 rfl
  have s1:w'.cell? ⟨w.heap.size,1,none⟩=some (.int .u64 (c.m 1:Nat)):=HS.out.2.1.at 1 rfl
  have s0:w'.cell? ⟨w.heap.size,0,none⟩=some (.int .u64 (c.m 0:Nat)):=HS.out.2.1.at 0 rfl
  rw [if_pos rfl] at hR
  clear cS cD hc
  rename_i hSa hSb hSc
  clear hSc hS hSb
  go_wp2_with fail
  refine (cA.out _).mono ?_
  rintro e w2 ⟨a,m,cap,rfl,hm,hsl,-,hB2⟩
  obtain rfl:=hm.out
  have HS2:=hid (HS.out.keep hB2)
  have Hsl:=hid hsl
  have hB02:Hid (Below w.heap.size w w2):=HS.out.2.2.1.trans (hB2.mono (Nat.le_of_lt HS.out.2.2.2))
  clear hsl hm hB2 s0 s1 s2
  go_wp2_with fail
  go_loopw [6,7,8] (fun v i _ wr=>∃(k q cq:Nat) (aq:Option Addr),i= .int .i64 k∧k≤L.length∧v= .slice aq q cq∧q≤k∧Hid (q= ((L.take k).filter (rofB c n)).length)∧wr.ownsRow w2.heap.size 3 1 (.slice aq q cq) q (ints ((L.take k).filter (rofB c n)))∧Below w2.heap.size w2 wr) (fun _ i _ _=>L.length - (intOf i).toNat)
  case atStart=>exact ⟨0,0,0,none,rfl,by omega,rfl,by omega,(rfl:(0:Nat)=0),World.ownsRow_nil _ _ _ _,Below.refl _ _⟩
  case round=>
   obtain ⟨k,q,cq,aq,rfl,hk,rfl,hqk,Hq,hown,hB9⟩:=hrel
   by_cases hlt:k < L.length
   ·obtain ⟨bL,oL,rfl,hbL,hcL⟩:=Hsl.out.atInt hlt
    have es:=(hB9.cell (p:=⟨bL,oL+k,none⟩) hbL).trans (hcL k hlt)
    have fx:=hbd.out _ (List.getElem_mem hlt)
    have Hsn:=hid (filter_snoc (p:=rofB c n) hlt)
    obtain ⟨x,hx⟩:∃x,L[k]=x:=⟨_,rfl⟩
    rw [hx] at es fx Hsn
    obtain ⟨fx1,fx2⟩:=fx
    have hp:=hB.out x
    obtain ⟨-,-,-,t3,t4⟩:=(HS2.out.2.1.below hB9 HS2.out.2.2.2).tail
    have t0:=(HS2.out.2.1.below hB9 HS2.out.2.2.2).tail.1
    have t1:=(HS2.out.2.1.below hB9 HS2.out.2.2.2).tail.2.1
    have t2:=(HS2.out.2.1.below hB9 HS2.out.2.2.2).tail.2.2.1
    have Hown:=hid hown
    have HB:=hid hB9
    have hbs:w2.heap.size≤wr.heap.size:=hB9.size
    rw [betB] at hp
    have Hp:=hid hp
    clear hcL hx hown hB9 hp
    by_cases c1:c.fr≤86400 * n+x
    ·by_cases c2:86400 * n+x≤c.un
     ·have Hp2:Hid (rofB c n x= (decide (z=0) || onB c.unit c.step c.anchor (86400 * n+x))):=by show _ = _; rw [Hp.out,decide_eq_true c1,decide_eq_true c2]; rfl
      go_wp2_with fail
      refine (cZ.out _).mono ?_
      rintro e w3 ⟨rfl,rfl⟩
      rcases hz with hz | hz
      ·have hz0:(z == 0)=false:=by rw [beq_eq_false_iff_ne]; omega
       have cO1:=hid (cO.out (86400 * n+x) wr)
       obtain ⟨on,hon⟩:∃on,onB c.unit c.step c.anchor (86400 * n+x)=on:=⟨_,rfl⟩
       have Hpx:Hid (rofB c n x=on):=by show _ = _; rw [Hp2.out,decide_eq_false (by omega),hon]; rfl
       rw [hon] at cO1
       clear hon
       go_wp2_with fail
       refine cO1.out.mono ?_
       rintro e w3 ⟨rfl,rfl⟩
       cases on
       ·have hq1:Hid (q= ((L.take (k+1)).filter (rofB c n)).length):=by show q= _; rw [Hsn.out,Hpx.out]; simpa using Hq.out
        have ho1:Hid (wr.ownsRow w2.heap.size 3 1 (.slice aq q cq) q (ints ((L.take (k+1)).filter (rofB c n)))):=by show World.ownsRow _ _ _ _ _ _ _; rw [Hsn.out,Hpx.out]; simpa using Hown.out
        go_wp2
        exact ⟨⟨k+1,q,cq,aq,by go_num,by omega,rfl,by omega,hq1,ho1.out,HB.out⟩,by simp [intOf]; omega⟩
       ·go_wp2_with (at_builtin; refine app1 eInt (.tmp 60) (.tmp 65) rfl rfl rfl rfl rfl Hown.out rfl (by omega) (by omega) hbs ?_)
        intro a' cap' w4 hown2 hg2 hb2 hf2
        have hq1:Hid (q+1= ((L.take (k+1)).filter (rofB c n)).length):=by show q+1= _; rw [Hsn.out,Hpx.out,List.length_append,←Hq.out]; rfl
        have ho1:Hid (w4.ownsRow w2.heap.size 3 1 (.slice a' (q+1) cap') (q+1) (ints ((L.take (k+1)).filter (rofB c n)))):=by
         show World.ownsRow _ _ _ _ _ _ _
         rw [Hsn.out,Hpx.out,if_pos rfl,ints_append,ints_one]; exact hown2
        have HB4:Hid (Below w2.heap.size w2 w4):=HB.out.trans hb2
        clear hown2 hg2 hb2 hf2
        go_wp2
        exact ⟨⟨k+1,q+1,cap',a',by go_num,by omega,rfl,by omega,hq1,ho1.out,HB4.out⟩,by simp [intOf]; omega⟩
      ·have hz0:(z == 0)=true:=by rw [hz]; rfl
       have Hpx:Hid (rofB c n x=true):=by show _ = _; rw [Hp2.out,decide_eq_true hz]; rfl
       clear hz
       go_wp2_with (at_builtin; refine app1 eInt (.tmp 60) (.tmp 65) rfl rfl rfl rfl rfl Hown.out rfl (by omega) (by omega) hbs ?_)
       intro a' cap' w4 hown2 hg2 hb2 hf2
       have hq1:Hid (q+1= ((L.take (k+1)).filter (rofB c n)).length):=by show q+1= _; rw [Hsn.out,Hpx.out,List.length_append,←Hq.out]; rfl
       have ho1:Hid (w4.ownsRow w2.heap.size 3 1 (.slice a' (q+1) cap') (q+1) (ints ((L.take (k+1)).filter (rofB c n)))):=by
        show World.ownsRow _ _ _ _ _ _ _
        rw [Hsn.out,Hpx.out,if_pos rfl,ints_append,ints_one]; exact hown2
       have HB4:Hid (Below w2.heap.size w2 w4):=HB.out.trans hb2
       clear hown2 hg2 hb2 hf2
       go_wp2
       exact ⟨⟨k+1,q+1,cap',a',by go_num,by omega,rfl,by omega,hq1,ho1.out,HB4.out⟩,by simp [intOf]; omega⟩
     ·have Hpx:Hid (rofB c n x=false):=by show _ = _; rw [Hp.out,decide_eq_false c2]; simp
      have hq1:Hid (q= ((L.take (k+1)).filter (rofB c n)).length):=by show q= _; rw [Hsn.out,Hpx.out]; simpa using Hq.out
      have ho1:Hid (wr.ownsRow w2.heap.size 3 1 (.slice aq q cq) q (ints ((L.take (k+1)).filter (rofB c n)))):=by show World.ownsRow _ _ _ _ _ _ _; rw [Hsn.out,Hpx.out]; simpa using Hown.out
      go_wp2
      exact ⟨⟨k+1,q,cq,aq,by go_num,by omega,rfl,by omega,hq1,ho1.out,HB.out⟩,by simp [intOf]; omega⟩
    ·have Hpx:Hid (rofB c n x=false):=by show _ = _; rw [Hp.out,decide_eq_false c1]; simp
     have hq1:Hid (q= ((L.take (k+1)).filter (rofB c n)).length):=by show q= _; rw [Hsn.out,Hpx.out]; simpa using Hq.out
     have ho1:Hid (wr.ownsRow w2.heap.size 3 1 (.slice aq q cq) q (ints ((L.take (k+1)).filter (rofB c n)))):=by show World.ownsRow _ _ _ _ _ _ _; rw [Hsn.out,Hpx.out]; simpa using Hown.out
     go_wp2
     exact ⟨⟨k+1,q,cq,aq,by go_num,by omega,rfl,by omega,hq1,ho1.out,HB.out⟩,by simp [intOf]; omega⟩
   ·obtain rfl:k=L.length:=by omega
    rw [List.take_length] at Hq hown
    rw [←hR.out] at Hq hown
    have ho1:=hid hown
    clear hown
    go_wp2
    go_ret
    exact ⟨_,rfl,by rw [←Hq.out]; exact owns_base ho1.out hB02.out.size,hB02.out.trans (hB9.mono hB02.out.size)⟩
def rofA (l:List Cl) (n:Int):List Int:=l.flatMap fun c=>rofL c n
theorem rofA_snoc (l:List Cl) (n:Int) {k:Nat} (h:k < l.length):rofA (l.take (k+1)) n=rofA (l.take k) n ++ rofL l[k] n:=by
 rw [rofA,take_snoc l k h,List.flatMap_append,rofA]; simp
theorem rofA_len (l:List Cl) (n:Int):(rofA l n).length≤86400 * l.length:=by
 induction l with
 | nil=>simp [rofA]
 | cons c l ih=>
   have e:rofA (c :: l) n=rofL c n ++ rofA l n:=by simp [rofA]
   rw [e,List.length_append,List.length_cons]
   have:=rofL_len c n
   omega
theorem rofA_day {l:List Cl} (hok:∀c∈l,c.Ok) {n:Int} (h0:0≤n) (h1:n < 146097):secL (memD (rofA l n))=secL (dayQ l n):=by
 rw [secL,secL]
 refine sel_congr fun k hk=>?_
 rw [memD,dayQ,Bool.eq_iff_iff,decide_eq_true_eq,List.any_eq_true,rofA,List.mem_flatMap]
 constructor
 ·rintro ⟨c,hc,h⟩
  exact ⟨c,hc,(rofL_mem (hok c hc) h0 h1 hk).1 h⟩
 ·rintro ⟨c,hc,h⟩
  exact ⟨c,hc,(rofL_mem (hok c hc) h0 h1 hk).2 h⟩
theorem ints_one1 (l:List Int):∀u∈ints l,u.oneCell' =true:=by
 intro u hu
 simp only [ints,List.mem_map] at hu
 obtain ⟨_,_,rfl⟩:=hu; rfl
set_option maxRecDepth 100000 in
set_option maxHeartbeats 3200000 in
theorem RLapAll16_any (a:Option Addr) (cap:Nat) (l:List Cl) (n:Int) (w:World) (hl:l.length≤1000) (hs:Sl w a (cls l)) (hok:∀c∈l,c.Ok) (h0:0≤n) (h1:n < 146097) :
  Calls Tryz.prog 12 #[.slice a l.length cap, .int .i64 n] w fun e w'=>∃v,e= .returned v∧w'.ownsRow w.heap.size 3 1 v (secL (dayQ l n)).length (ints (secL (dayQ l n)))∧Below w.heap.size w w':=by
 have cR:=hid (fun (c:Cl) (hc:c.Ok) W=>own_ret (RLap16_any c n W hc h0 h1))
 have cF:=hid (fun a cap (L:List Int) W hl hs=>ROf15_any a cap L W hl hs)
 have hE:=hid (rofA_day hok h0 h1)
 have hlen:=rofA_len l n
 have Hok:=hid hok
 have Hs:=hid hs
 clear hok hs
 go_enter Tryz.func12,Tryz.ntmps12
 go_wp2_with fail
 go_loopw [5,6] (fun v i wr=>∃(k q cq:Nat) (aq:Option Addr),i= .int .i64 k∧k≤l.length∧v= .slice aq q cq∧q≤86400 * k∧Hid (q= (rofA (l.take k) n).length)∧wr.ownsRow w.heap.size 3 1 (.slice aq q cq) q (ints (rofA (l.take k) n))∧Below w.heap.size w wr) (fun _ i _=>l.length - (intOf i).toNat)
 case atStart=>exact ⟨0,0,0,none,rfl,by omega,rfl,by omega,(rfl:(0:Nat)=0),World.ownsRow_nil _ _ _ _,Below.refl _ _⟩
 case round=>
  obtain ⟨k,q,cq,aq,rfl,hk,rfl,hqk,Hq,hown,hB9⟩:=hrel
  by_cases hlt:k < l.length
  ·obtain ⟨b,off,rfl,hbk,hr⟩:=Hs.out.atCl hlt
   have hr':=range_below hr hB9 hbk
   have Hsn:=hid (rofA_snoc l n hlt)
   have hck:=Hok.out _ (List.getElem_mem hlt)
   have hlk:=rofL_len l[k] n
   obtain ⟨c,hc⟩:∃c,l[k]=c:=⟨_,rfl⟩
   rw [hc] at hr' Hsn hck hlk
   have le:=ld_at hr'
   have c1:=hid (cR.out c hck wr)
   have Hown:=hid hown
   have HB:=hid hB9
   have hbs:w.heap.size≤wr.heap.size:=hB9.size
   obtain ⟨R,hR⟩:∃R,rofL c n=R:=⟨_,rfl⟩
   rw [hR] at c1 Hsn hlk
   clear hr hr' hc hck hown hB9 hR
   go_wp2_with fail
   refine c1.out.mono ?_
   rintro e w2 ⟨a2,m,cap2,rfl,hm,hsl,ho2,hB2⟩
   obtain rfl:=hm.out
   have Hl1:Hid ((ints R).length=R.length * 1):=by show _ = _; rw [ints_length,Nat.mul_one]
   have Hsl:=hid hsl
   have Hnone:=hid (owns_none ho2)
   have Hown2:=hid (owns_below Hown.out hB2 (zG _))
   have HB2:=hid (HB.out.trans (hB2.mono hbs))
   have hbs2:w.heap.size≤w2.heap.size:=zI hbs hB2.size
   clear hsl ho2 hB2 hm le
   go_wp2_with (at_builtin; refine appN eInt (.tmp 13) (.tmp 19) rfl rfl rfl rfl Hown2.out Hl1.out Hsl.out Hnone.out (ints_one1 _) (by omega) (by omega) hbs2 ?_)
   intro a' cap' w4 hown2 hg2 hb2 hf2
   have hq1:Hid (q+R.length= (rofA (l.take (k+1)) n).length):=by show _ = _; rw [Hsn.out,List.length_append,←Hq.out]
   have ho1:Hid (w4.ownsRow w.heap.size 3 1 (.slice a' (q+R.length) cap') (q+R.length) (ints (rofA (l.take (k+1)) n))):=by
    show World.ownsRow _ _ _ _ _ _ _
    rw [Hsn.out,ints_append]; exact hown2
   have HB4:Hid (Below w.heap.size w w4):=HB2.out.trans hb2
   clear hown2 hg2 hb2 hf2
   go_wp2
   exact ⟨⟨k+1,q+R.length,cap',a',by go_num,by omega,rfl,by omega,hq1,ho1.out,HB4.out⟩,by simp [intOf]; omega⟩
  ·obtain rfl:k=l.length:=by omega
   rw [List.take_length] at Hq hown
   have c2:=hid (cF.out aq cq (rofA l n) wr (by omega) (owns_sl hown))
   rw [hE.out,←Hq.out] at c2
   have HB:=hid hB9
   clear hown hB9
   go_wp2_with fail
   refine c2.out.mono ?_
   rintro e w4 ⟨v,rfl,ho,hB4⟩
   have ho1:=hid (owns_base ho HB.out.size)
   have HB4:=hid (HB.out.trans (hB4.mono HB.out.size))
   clear ho hB4
   go_wp2
   go_ret
   exact ⟨_,rfl,ho1.out,HB4.out⟩
end
section
open Go.RowKit Go.Maps
theorem at_more {cs:List Cl} {n:Int} {ws ws2:Nat→Bool} {m m2:Nat} (h1:AtStep cs n ws m ws2 m2):m2≤m+1∧m≤m2:=by
 rcases h1 with ⟨-,-,e⟩ | ⟨-,-,-,e⟩ | ⟨-,-,-,e | e⟩
 ·omega
 ·rw [e]; split <;> omega
 ·omega
 ·omega
def RdS (w:World) (l:List Cl) (br bk:Nat) (bps:List Nat) (k:Nat) (wr:World):Prop:=∃F ws m,RollS wr l br bk bps F ws m∧m≤k∧Below w.heap.size w wr
theorem RdS.below {w wr w':World} {l:List Cl} {br bk:Nat} {bps:List Nat} {k:Nat} (h:RdS w l br bk bps k wr) (hB:Below wr.heap.size wr w'):RdS w l br bk bps k w':=by
 obtain ⟨F,ws,m,h1,h2,h3⟩:=h
 exact ⟨F,ws,m,h1.below hB,h2,h3.trans (hB.mono h3.size)⟩
end
section
open Go.RowKit Go.Maps
def instB (cs:List Cl) (t:Int):Bool:=cs.any fun c=>hasC c t
theorem dayQ_inst (cs:List Cl) (n:Int) (k:Nat):dayQ cs n k=instB cs (86400 * n+k):=rfl
theorem inst_win {cs:List Cl} {t:Int} (h:instB cs t=true):0≤t∧t < 12622780800:=by
 rw [instB,List.any_eq_true] at h
 obtain ⟨c,-,hc⟩:=h
 obtain ⟨-,-,-,h1,h2⟩:=has_held hc
 exact ⟨h1,h2⟩
end
section
open Go.RowKit
def PairD (S:Int→Prop) (d:Int):Prop:=∀x y,S x→S y→d ∣ x - y
theorem PairD.congr {S T:Int→Prop} (d:Int) (e:∀x,S x↔T x):PairD S d↔PairD T d:=
 ⟨fun h x y hx hy=>h x y ((e x).2 hx) ((e y).2 hy),fun h x y hx hy=>h x y ((e x).1 hx) ((e y).1 hy)⟩
theorem pair_from {S:Int→Prop} {a d:Int} (h:∀x,S x→d ∣ x - a):PairD S d:=fun x y hx hy=>by
 have:=Int.dvd_sub (h x hx) (h y hy)
 rwa [show x - a - (y - a)=x - y by omega] at this
theorem pair_both {S T:Int→Prop} {a b d:Int} (ha:S a) (hb:T b):PairD (fun x=>S x∨T x) d↔PairD S d∧d ∣ b - a∧PairD T d:=by
 constructor
 ·intro h
  exact ⟨fun x y hx hy=>h x y (.inl hx) (.inl hy),h b a (.inr hb) (.inl ha),fun x y hx hy=>h x y (.inr hx) (.inr hy)⟩
 ·rintro ⟨h1,h2,h3⟩
  refine pair_from (a:=a) fun x hx=>?_
  rcases hx with hx | hx
  ·exact h1 x a hx ha
  ·have:=Int.dvd_add (h3 x b hx hb) h2
   rwa [show x - b+(b - a)=x - a by omega] at this
structure BeatP (S:Int→Prop) (y:Bool) (f g:Int):Prop where
 no:y=false→f=0∧g=0∧∀x,¬S x
 yes:y=true→S f
 ge:0≤g
 dvd:∀d,d ∣ g↔PairD S d
theorem BeatP.congr {S T:Int→Prop} {y:Bool} {f g:Int} (h:BeatP S y f g) (e:∀x,S x↔T x):BeatP T y f g:=
 ⟨fun hy=>⟨(h.no hy).1,(h.no hy).2.1,fun x hx=>(h.no hy).2.2 x ((e x).2 hx)⟩,fun hy=>(e f).1 (h.yes hy),h.ge,fun d=>(h.dvd d).trans (PairD.congr d e)⟩
theorem BeatP.empty:BeatP (fun _=>False) false 0 0:=
 ⟨fun _=>⟨rfl,rfl,fun _ h=>h⟩,fun h=>(by cases h),by omega,fun d=>⟨fun _ x y h _=>h.elim,fun _=>Int.dvd_zero d⟩⟩
theorem BeatP.first {S:Int→Prop} {f g:Int} (h:BeatP S false f g) (n:Int):BeatP (fun x=>S x∨x=n) true n 0:=by
 have hn:=(h.no rfl).2.2
 refine ⟨fun h=>(by cases h),fun _=> .inr rfl,(by omega),fun d=>⟨fun _=>pair_from (a:=n) fun x hx=>?_,fun _=>Int.dvd_zero d⟩⟩
 rcases hx with hx | rfl
 ·exact (hn x hx).elim
 ·rw [Int.sub_self]; exact Int.dvd_zero d
theorem dvd_gcd2 {d a b:Int}:d ∣ ((gcdL [a,b]:Nat):Int)↔d ∣ a∧d ∣ b:=by
 have e:gcdL [a,b]=Int.gcd a b:=by simp [gcdL,Int.gcd]
 rw [e,Int.dvd_coe_gcd_iff]
theorem pair_n {d n:Int}:PairD (fun x=>x=n) d:=fun x y hx hy=>by
 subst hx; subst hy; rw [Int.sub_self]; exact Int.dvd_zero d
theorem BeatP.more {S:Int→Prop} {f g:Int} (h:BeatP S true f g) (n:Int):BeatP (fun x=>S x∨x=n) true f (gcdL [g,n - f]:Nat):=by
 refine ⟨fun h=>(by cases h),fun _=> .inl (h.yes rfl),by omega,fun d=>?_⟩
 rw [dvd_gcd2,h.dvd,pair_both (T:=fun x=>x=n) (b:=n) (h.yes rfl) rfl]
 exact ⟨fun ⟨h1,h2⟩=>⟨h1,h2,pair_n⟩,fun ⟨h1,h2,_⟩=>⟨h1,h2⟩⟩
theorem BeatP.one {S:Int→Prop} {f:Int} (h:BeatP S true f 1) (n:Int):BeatP (fun x=>S x∨x=n) true f 1:=by
 refine ⟨fun h=>(by cases h),fun _=> .inl (h.yes rfl),by omega,fun d=>?_⟩
 rw [pair_both (T:=fun x=>x=n) (b:=n) (h.yes rfl) rfl,←h.dvd]
 exact ⟨fun h1=>⟨h1,Int.dvd_trans h1 (Int.one_dvd _),pair_n⟩,fun h1=>h1.1⟩
abbrev Bt:=Bool × Int × Int
def takeB (b:Bt) (n:Int):Bt:=if b.1 then (true,b.2.1,if b.2.2=1 then 1 else (gcdL [b.2.2,n - b.2.1]:Nat)) else (true,n,b.2.2)
def BeatQ (S:Int→Prop) (b:Bt):Prop:=BeatP S b.1 b.2.1 b.2.2
theorem BeatQ.take {S:Int→Prop} {b:Bt} (h:BeatQ S b) (n:Int):BeatQ (fun x=>S x∨x=n) (takeB b n):=by
 obtain ⟨y,f,g⟩:=b
 rw [BeatQ] at h⊢
 cases y
 ·have:=h.first n
  have e:=(h.no rfl).2.1
  simp only at e
  rw [takeB,if_neg (by simp)]
  simp only
  rw [e]; exact this
 ·rw [takeB,if_pos rfl]
  simp only
  by_cases h1:g=1
  ·subst h1
   rw [if_pos rfl]
   exact h.one n
  ·rw [if_neg h1]
   exact h.more n
def gcdB (b:Bt) (g:Int):Bt:=(b.1,b.2.1,(gcdL [b.2.2,g]:Nat))
def joinB (b x:Bt):Bt:=if x.1 then gcdB (takeB b x.2.1) x.2.2 else b
theorem takeB_yes (b:Bt) (n:Int):(takeB b n).1=true:=by rw [takeB]; split <;> rfl
theorem BeatQ.both {S T:Int→Prop} {b:Bt} {f g:Int} (h:BeatQ S b) (k:BeatP T true f g):BeatQ (fun x=>S x∨T x) (gcdB (takeB b f) g):=by
 have h1:=h.take f
 have hy:=takeB_yes b f
 have hf:=k.yes rfl
 rw [BeatQ] at h1⊢
 refine ⟨fun e=>(by rw [gcdB] at e; simp only at e; rw [hy] at e; cases e),fun _=>?_,by rw [gcdB]; simp only; omega,fun d=>?_⟩
 ·rcases h1.yes hy with h2 | h2
  ·exact .inl h2
  ·right; show T (takeB b f).2.1; rw [h2]; exact hf
 ·show d ∣ ((gcdL [(takeB b f).2.2,g]:Nat):Int)↔_
  rw [dvd_gcd2,h1.dvd,k.dvd]
  constructor
  ·rintro ⟨p,q⟩
   refine pair_from (a:=f) fun x hx=>?_
   rcases hx with hx | hx
   ·exact p x f (.inl hx) (.inr rfl)
   ·exact q x f hx hf
  ·intro p
   have im:∀z,(S z∨z=f)→(S z∨T z):=fun z hz=>hz.elim .inl (fun (e:z=f)=> .inr (e ▸ hf))
   exact ⟨fun x y hx hy=>p x y (im x hx) (im y hy),fun x y hx hy=>p x y (.inr hx) (.inr hy)⟩
theorem BeatQ.join {S T:Int→Prop} {b x:Bt} (h:BeatQ S b) (k:BeatQ T x):BeatQ (fun n=>S n∨T n) (joinB b x):=by
 obtain ⟨y,f,g⟩:=x
 rw [BeatQ] at k
 cases y
 ·rw [joinB,if_neg (by simp)]
  have hn:=(k.no rfl).2.2
  exact BeatP.congr h fun n=>⟨.inl,fun h=>h.resolve_right (hn n)⟩
 ·rw [joinB,if_pos rfl]
  exact h.both k
theorem BeatP.bd {S:Int→Prop} {y:Bool} {f g M:Int} (h:BeatP S y f g) (hM:0≤M) (hS:∀x,S x→0≤x∧x≤M):0≤f∧f≤M∧0≤g∧g≤M:=by
 have hg:=h.ge
 have h1:0≤f∧f≤M:=by
  cases y
  ·obtain ⟨rfl,-,-⟩:=h.no rfl; omega
  ·exact hS f (h.yes rfl)
 refine ⟨h1.1,h1.2,hg,?_⟩
 rcases Int.lt_or_le M g with h2 | h2
 ·exfalso
  have h3:=(h.dvd g).1 (Int.dvd_refl g)
  have h4:PairD S 0:=fun x y hx hy=>by
   have hd:=h3 x y hx hy
   have b1:=hS x hx
   have b2:=hS y hy
   have:x - y=0:=by
    rcases Int.lt_trichotomy (x - y) 0 with e | e | e
    ·have:=Int.le_of_dvd (by omega) (Int.dvd_neg.2 hd); omega
    ·exact e
    ·have:=Int.le_of_dvd e hd; omega
   rw [this]; exact Int.dvd_refl 0
  have:=(h.dvd 0).2 h4
  rw [Int.zero_dvd] at this
  omega
 ·exact h2
theorem BeatP.unique {S T:Int→Prop} {y y':Bool} {f f' g g':Int} (h:BeatP S y f g) (h':BeatP T y' f' g') (e:∀d,PairD S d↔PairD T d):g=g':=by
 have h1:g ∣ g':=(h'.dvd g).2 ((e g).1 ((h.dvd g).1 (Int.dvd_refl g)))
 have h2:g' ∣ g:=(h.dvd g').2 ((e g').2 ((h'.dvd g').1 (Int.dvd_refl g')))
 have g0:=h.ge
 have g1:=h'.ge
 exact Int.dvd_antisymm g0 g1 h1 h2
end
end Go.Proofs.YthimhfmnikfgaaaGreatDoor
