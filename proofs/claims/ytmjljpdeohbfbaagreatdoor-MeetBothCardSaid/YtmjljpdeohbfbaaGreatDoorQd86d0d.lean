/-
  feriaref16.Of and All: the seconds of a day that have a clause, and those that have one of clauses.
  ferialaw18.RollDays answers true for every clauses and days.
  The instants of a set between two instants, day by day.
  The least second that two rising lists tell of (plain).
-/
import Derived.Test.YtmjljpdeohbfbaaGreatDoorQcbcfbe
import Derived.Test.YtmjljpdeohbfbaaGreatDoorQ368508
import Derived.Test.YtmjljpdeohbfbaaGreatDoorQc4e361
import Derived.Test.YtmjljpdeohbfbaaGreatDoorQbec8af
namespace Go.Proofs.YtmjljpdeohbfbaaGreatDoor
set_option linter.unusedVariables false
section
open Go.RowKit
def rofB (c:Cl) (n x:Int):Bool:=betB c.fr c.un (86400 * n+x) && (decide (sizeU c.unit=0) || onB c.unit c.step c.anchor (86400 * n+x))
def rofL (c:Cl) (n:Int):List Int:=if dayC c n then (secsOf (c.m 2) (c.m 1) (c.m 0)).filter (rofB c n) else []
theorem secsOf_count' (hs ms ss:Nat):(secsOf hs ms ss).length≤86400:=by
 have key:∀(L:List Int),L.Pairwise (·< ·)→(∀y∈L,0≤y)→∀i (hi:i < L.length),(i:Int)≤L[i]:=fun L hr h0 i=>by
  induction i with
  | zero=>exact fun hi=>h0 _ (List.getElem_mem hi)
  | succ i ih=>
    intro hi
    have h1:=ih (by omega)
    have h2:=List.pairwise_iff_getElem.mp hr i (i+1) (by omega) hi (by omega)
    omega
 rcases Nat.eq_zero_or_pos (secsOf hs ms ss).length with h | h
 ·omega
 ·have h1:=key _ (secsOf_rising hs ms ss) (fun y hy=>(secsOf_bd hs ms ss hy).1) ((secsOf hs ms ss).length - 1) (by omega)
  have h2:=secsOf_bd hs ms ss (List.getElem_mem (l:=secsOf hs ms ss) (n:=(secsOf hs ms ss).length - 1) (by omega))
  omega
theorem rofL_len (c:Cl) (n:Int):(rofL c n).length≤86400:=by
 rw [rofL]; split
 ·exact zI (List.length_filter_le _ _) (secsOf_count' _ _ _)
 ·simp
theorem rofL_mem {c:Cl} (hc:c.Ok) {n:Int} (h0:0≤n) (h1:n < 146097) {k:Nat} (hk:k < 86400):(k:Int)∈rofL c n↔hasC c (86400 * n+k)=true:=by
 have hw:winB (86400 * n+k)=true:=by rw [winB,decide_eq_true_eq]; omega
 have e1:(86400 * n+(k:Int)) % 86400=k:=by omega
 have e2:(86400 * n+(k:Int)) / 86400=n:=by omega
 have hs:=secsOf_mem (hc.m 2 (by omega)) (hc.m 1 (by omega)) (hc.m 0 (by omega)) (k:=(k:Int)) (by omega) (by omega)
 rw [rofL,hasC,hw,e1,e2,Bool.true_and]
 cases hd:dayC c n
 ·simp
 ·have hd':=hd
  rw [dayC,Bool.and_eq_true,Bool.and_eq_true] at hd'
  obtain ⟨hm,-,hon⟩:=hd'
  obtain ⟨ho,hst,hu,ha⟩:=may_ord hm
  rw [if_pos rfl,List.mem_filter,hs,hm,rofB,Bool.true_and,Bool.and_true,Bool.and_eq_true,Bool.and_eq_true,Bool.and_eq_true,Bool.or_eq_true,decide_eq_true_eq]
  constructor
  ·rintro ⟨g1,g2,g3⟩
   refine ⟨g2,g1,?_⟩
   rcases g3 with g3 | g3
   ·have:=dayOn_on hu ha hst (t:=86400 * n+k) (by omega) (by omega) g3
    rw [e2] at this
    rw [←this]; exact hon
   ·exact g3
  ·rintro ⟨g1,g2,g3⟩
   exact ⟨g2,g1, .inr g3⟩
attribute [local go_sem ↓] loadAt_cl
abbrev LrS (w:World) (c:Cl) (W:World):Prop:=(loadClS (.pointer (some ⟨w.heap.size,0,none⟩))).run Tryz.prog W= .ok (clv c) W∧ClB W w.heap.size c∧Below w.heap.size w W∧w.heap.size < W.heap.size
theorem LrS.of {w W:World} {c:Cl} (h:ClB W w.heap.size c) (hb:Below w.heap.size w W) (hs:w.heap.size < W.heap.size):LrS w c W:=⟨h.ld,h,hb,hs⟩
theorem LrS.keep {w W W':World} {c:Cl} (h:LrS w c W) (hb:Below W.heap.size W W'):LrS w c W':=
 LrS.of (h.2.1.below hb h.2.2.2) (h.2.2.1.trans (hb.mono (Nat.le_of_lt h.2.2.2))) (zH h.2.2.2 hb.size)
theorem filter_snoc {p:Int→Bool} {l:List Int} {k:Nat} (hk:k < l.length):(l.take (k+1)).filter p= (l.take k).filter p ++ if p l[k] then [l[k]] else []:=by
 rw [take_snoc l k hk,List.filter_append]
 cases h:p l[k] <;> simp [h]
set_option maxRecDepth 100000 in
set_option maxHeartbeats 3200000 in
theorem RLap16_any (c:Cl) (n:Int) (w:World) (hc:c.Ok) (h0:0≤n) (h1:n < 146097) :
  Calls Tryz.prog 67 #[clv c, .int .i64 n] w fun e w'=>∃v,e= .returned v∧w'.ownsRow w.heap.size 3 1 v (rofL c n).length (ints (rofL c n))∧Below w.heap.size w w':=by
 have HS0:Hid (LrS w c (w.alloc (.cells (clList c).toArray 43)).drew):=(LrS.of (clB_new w c _) (below_new (Below.refl _ _) (zG _)) (by simp)).keep (Below.refl _ _).drew
 have cS:=hid (fun W (h:LrS w c W)=>keep_of' (RShape_any n W h0 h1) (fun _=>h.keep))
 have cD:=hid (fun W (h:LrS w c W)=>keep_of' (RDay13_any c n W hc h0 h1) (fun _=>h.keep))
 have cA:=hid (fun W=>own_ret (RAll_any (c.m 2) (c.m 1) (c.m 0) W (hc.m 2 (by omega)) (hc.m 1 (by omega)) (hc.m 0 (by omega))))
 have cZ:=hid (fun W=>RSize_any c.unit W)
 have cO:=hid (fun t W=>RUOn_any c.unit c.step c.anchor t W hc.step)
 have hz:=sizeU_cases c.unit
 have hlen:=secsOf_count' (c.m 2) (c.m 1) (c.m 0)
 have hbd:=hid (fun x hx=>secsOf_bd (c.m 2) (c.m 1) (c.m 0) (x:=x) hx)
 have hR:Hid (rofL c n=if dayC c n then (secsOf (c.m 2) (c.m 1) (c.m 0)).filter (rofB c n) else []):=rfl
 have hB:Hid (∀x,rofB c n x= (betB c.fr c.un (86400 * n+x) && (decide (sizeU c.unit=0) || onB c.unit c.step c.anchor (86400 * n+x)))):=fun x=>rfl
 rw [←secsOf] at cA
 obtain ⟨L,hL⟩:∃L,secsOf (c.m 2) (c.m 1) (c.m 0)=L:=⟨_,rfl⟩
 rw [hL] at cA hlen hbd hR
 obtain ⟨z,hzz⟩:∃z,sizeU c.unit=z:=⟨_,rfl⟩
 rw [hzz] at cZ hB hz
 obtain ⟨dv,hdv⟩:∃d,dayC c n=d:=⟨_,rfl⟩
 rw [hdv] at cD hR
 rw [←shq_shF,shq] at cS cD
 clear hL hzz hdv
 go_enter Tryz.func67,Tryz.ntmps67
 go_wp2_with fail
 go_region_held3 (fun w'=>LrS w c w') (first | with_reducible exact HS0.out | with_reducible assumption)
  (first
    | (go_at_call 91; refine (cS.out _ (by assumption)).mono ?_; rintro e w' ⟨rfl,hS⟩)
    | (go_at_call 123; refine (cD.out _ (by assumption)).mono ?_; rintro e w' ⟨rfl,hS⟩))
 cases dv
 ·have hfin:Hid (∃v,(Value.slice none 0 0)=v∧w'.ownsRow w.heap.size 3 1 v (rofL c n).length (ints (rofL c n))∧Below w.heap.size w w'):=⟨_,rfl,by rw [hR.out,if_neg (by simp)]; exact World.ownsRow_nil _ _ _ _,hS.2.2.1⟩
  clear hS
  go_wp2
  go_ret
  obtain ⟨v,rfl,h⟩:=hfin.out
  exact ⟨_,rfl,h⟩
 ·have HS:Hid (LrS w c w'):=by show LrS w c w'; assumption
  have s2:w'.cell? ⟨w.heap.size,2,none⟩=some (.int .u64 (c.m 2:Nat)):=HS.out.2.1.at 2 rfl
  have s1:w'.cell? ⟨w.heap.size,1,none⟩=some (.int .u64 (c.m 1:Nat)):=HS.out.2.1.at 1 rfl
  have s0:w'.cell? ⟨w.heap.size,0,none⟩=some (.int .u64 (c.m 0:Nat)):=HS.out.2.1.at 0 rfl
  rw [if_pos rfl] at hR
  clear cS cD hc
  rename_i hSa hSb hSc
  clear hSc hS hSb
  go_wp2_with fail
  refine (cA.out _).mono ?_
  rintro e w2 ⟨a,m,cap,rfl,hm,hsl,-,hB2⟩
  obtain rfl:=hm.out
  have HS2:=hid (HS.out.keep hB2)
  have Hsl:=hid hsl
  have hB02:Hid (Below w.heap.size w w2):=HS.out.2.2.1.trans (hB2.mono (Nat.le_of_lt HS.out.2.2.2))
  clear hsl hm hB2 s0 s1 s2
  go_wp2_with fail
  go_loopw [6,7,8] (fun v i _ wr=>∃(k q cq:Nat) (aq:Option Addr),i= .int .i64 k∧k≤L.length∧v= .slice aq q cq∧q≤k∧Hid (q= ((L.take k).filter (rofB c n)).length)∧wr.ownsRow w2.heap.size 3 1 (.slice aq q cq) q (ints ((L.take k).filter (rofB c n)))∧Below w2.heap.size w2 wr) (fun _ i _ _=>L.length - (intOf i).toNat)
  case atStart=>exact ⟨0,0,0,none,rfl,by omega,rfl,by omega,(rfl:(0:Nat)=0),World.ownsRow_nil _ _ _ _,Below.refl _ _⟩
  case round=>
   obtain ⟨k,q,cq,aq,rfl,hk,rfl,hqk,Hq,hown,hB9⟩:=hrel
   by_cases hlt:k < L.length
   ·obtain ⟨bL,oL,rfl,hbL,hcL⟩:=Hsl.out.atInt hlt
    have es:=(hB9.cell (p:=⟨bL,oL+k,none⟩) hbL).trans (hcL k hlt)
    have fx:=hbd.out _ (List.getElem_mem hlt)
    have Hsn:=hid (filter_snoc (p:=rofB c n) hlt)
    obtain ⟨x,hx⟩:∃x,L[k]=x:=⟨_,rfl⟩
    rw [hx] at es fx Hsn
    obtain ⟨fx1,fx2⟩:=fx
    have hp:=hB.out x
    obtain ⟨-,-,-,t3,t4⟩:=(HS2.out.2.1.below hB9 HS2.out.2.2.2).tail
    have t0:=(HS2.out.2.1.below hB9 HS2.out.2.2.2).tail.1
    have t1:=(HS2.out.2.1.below hB9 HS2.out.2.2.2).tail.2.1
    have t2:=(HS2.out.2.1.below hB9 HS2.out.2.2.2).tail.2.2.1
    have Hown:=hid hown
    have HB:=hid hB9
    have hbs:w2.heap.size≤wr.heap.size:=hB9.size
    rw [betB] at hp
    have Hp:=hid hp
    clear hcL hx hown hB9 hp
    by_cases c1:c.fr≤86400 * n+x
    ·by_cases c2:86400 * n+x≤c.un
     ·have Hp2:Hid (rofB c n x= (decide (z=0) || onB c.unit c.step c.anchor (86400 * n+x))):=by show _ = _; rw [Hp.out,decide_eq_true c1,decide_eq_true c2]; rfl
      go_wp2_with fail
      refine (cZ.out _).mono ?_
      rintro e w3 ⟨rfl,rfl⟩
      rcases hz with hz | hz
      ·have hz0:(z == 0)=false:=by rw [beq_eq_false_iff_ne]; omega
       have cO1:=hid (cO.out (86400 * n+x) wr)
       obtain ⟨on,hon⟩:∃on,onB c.unit c.step c.anchor (86400 * n+x)=on:=⟨_,rfl⟩
       have Hpx:Hid (rofB c n x=on):=by show _ = _; rw [Hp2.out,decide_eq_false (by omega),hon]; rfl
       rw [hon] at cO1
       clear hon
       go_wp2_with fail
       refine cO1.out.mono ?_
       rintro e w3 ⟨rfl,rfl⟩
       cases on
       ·have hq1:Hid (q= ((L.take (k+1)).filter (rofB c n)).length):=by show q= _; rw [Hsn.out,Hpx.out]; simpa using Hq.out
        have ho1:Hid (wr.ownsRow w2.heap.size 3 1 (.slice aq q cq) q (ints ((L.take (k+1)).filter (rofB c n)))):=by show World.ownsRow _ _ _ _ _ _ _; rw [Hsn.out,Hpx.out]; simpa using Hown.out
        go_wp2
        exact ⟨⟨k+1,q,cq,aq,by go_num,by omega,rfl,by omega,hq1,ho1.out,HB.out⟩,by simp [intOf]; omega⟩
       ·go_wp2_with (at_builtin; refine app1 eInt (.tmp 60) (.tmp 65) rfl rfl rfl rfl rfl Hown.out rfl (by omega) (by omega) hbs ?_)
        intro a' cap' w4 hown2 hg2 hb2 hf2
        have hq1:Hid (q+1= ((L.take (k+1)).filter (rofB c n)).length):=by show q+1= _; rw [Hsn.out,Hpx.out,List.length_append,←Hq.out]; rfl
        have ho1:Hid (w4.ownsRow w2.heap.size 3 1 (.slice a' (q+1) cap') (q+1) (ints ((L.take (k+1)).filter (rofB c n)))):=by
         show World.ownsRow _ _ _ _ _ _ _
         rw [Hsn.out,Hpx.out,if_pos rfl,ints_append,ints_one]; exact hown2
        have HB4:Hid (Below w2.heap.size w2 w4):=HB.out.trans hb2
        clear hown2 hg2 hb2 hf2
        go_wp2
        exact ⟨⟨k+1,q+1,cap',a',by go_num,by omega,rfl,by omega,hq1,ho1.out,HB4.out⟩,by simp [intOf]; omega⟩
      ·have hz0:(z == 0)=true:=by rw [hz]; rfl
       have Hpx:Hid (rofB c n x=true):=by show _ = _; rw [Hp2.out,decide_eq_true hz]; rfl
       clear hz
       go_wp2_with (at_builtin; refine app1 eInt (.tmp 60) (.tmp 65) rfl rfl rfl rfl rfl Hown.out rfl (by omega) (by omega) hbs ?_)
       intro a' cap' w4 hown2 hg2 hb2 hf2
       have hq1:Hid (q+1= ((L.take (k+1)).filter (rofB c n)).length):=by show q+1= _; rw [Hsn.out,Hpx.out,List.length_append,←Hq.out]; rfl
       have ho1:Hid (w4.ownsRow w2.heap.size 3 1 (.slice a' (q+1) cap') (q+1) (ints ((L.take (k+1)).filter (rofB c n)))):=by
        show World.ownsRow _ _ _ _ _ _ _
        rw [Hsn.out,Hpx.out,if_pos rfl,ints_append,ints_one]; exact hown2
       have HB4:Hid (Below w2.heap.size w2 w4):=HB.out.trans hb2
       clear hown2 hg2 hb2 hf2
       go_wp2
       exact ⟨⟨k+1,q+1,cap',a',by go_num,by omega,rfl,by omega,hq1,ho1.out,HB4.out⟩,by simp [intOf]; omega⟩
     ·have Hpx:Hid (rofB c n x=false):=by show _ = _; rw [Hp.out,decide_eq_false c2]; simp
      have hq1:Hid (q= ((L.take (k+1)).filter (rofB c n)).length):=by show q= _; rw [Hsn.out,Hpx.out]; simpa using Hq.out
      have ho1:Hid (wr.ownsRow w2.heap.size 3 1 (.slice aq q cq) q (ints ((L.take (k+1)).filter (rofB c n)))):=by show World.ownsRow _ _ _ _ _ _ _; rw [Hsn.out,Hpx.out]; simpa using Hown.out
      go_wp2
      exact ⟨⟨k+1,q,cq,aq,by go_num,by omega,rfl,by omega,hq1,ho1.out,HB.out⟩,by simp [intOf]; omega⟩
    ·have Hpx:Hid (rofB c n x=false):=by show _ = _; rw [Hp.out,decide_eq_false c1]; simp
     have hq1:Hid (q= ((L.take (k+1)).filter (rofB c n)).length):=by show q= _; rw [Hsn.out,Hpx.out]; simpa using Hq.out
     have ho1:Hid (wr.ownsRow w2.heap.size 3 1 (.slice aq q cq) q (ints ((L.take (k+1)).filter (rofB c n)))):=by show World.ownsRow _ _ _ _ _ _ _; rw [Hsn.out,Hpx.out]; simpa using Hown.out
     go_wp2
     exact ⟨⟨k+1,q,cq,aq,by go_num,by omega,rfl,by omega,hq1,ho1.out,HB.out⟩,by simp [intOf]; omega⟩
   ·obtain rfl:k=L.length:=by omega
    rw [List.take_length] at Hq hown
    rw [←hR.out] at Hq hown
    have ho1:=hid hown
    clear hown
    go_wp2
    go_ret
    exact ⟨_,rfl,by rw [←Hq.out]; exact owns_base ho1.out hB02.out.size,hB02.out.trans (hB9.mono hB02.out.size)⟩
def rofA (l:List Cl) (n:Int):List Int:=l.flatMap fun c=>rofL c n
theorem rofA_snoc (l:List Cl) (n:Int) {k:Nat} (h:k < l.length):rofA (l.take (k+1)) n=rofA (l.take k) n ++ rofL l[k] n:=by
 rw [rofA,take_snoc l k h,List.flatMap_append,rofA]; simp
theorem rofA_len (l:List Cl) (n:Int):(rofA l n).length≤86400 * l.length:=by
 induction l with
 | nil=>simp [rofA]
 | cons c l ih=>
   have e:rofA (c :: l) n=rofL c n ++ rofA l n:=by simp [rofA]
   rw [e,List.length_append,List.length_cons]
   have:=rofL_len c n
   omega
theorem rofA_day {l:List Cl} (hok:∀c∈l,c.Ok) {n:Int} (h0:0≤n) (h1:n < 146097):secL (memD (rofA l n))=secL (dayQ l n):=by
 rw [secL,secL]
 refine sel_congr fun k hk=>?_
 rw [memD,dayQ,Bool.eq_iff_iff,decide_eq_true_eq,List.any_eq_true,rofA,List.mem_flatMap]
 constructor
 ·rintro ⟨c,hc,h⟩
  exact ⟨c,hc,(rofL_mem (hok c hc) h0 h1 hk).1 h⟩
 ·rintro ⟨c,hc,h⟩
  exact ⟨c,hc,(rofL_mem (hok c hc) h0 h1 hk).2 h⟩
theorem ints_one1 (l:List Int):∀u∈ints l,u.oneCell' =true:=by
 intro u hu
 simp only [ints,List.mem_map] at hu
 obtain ⟨_,_,rfl⟩:=hu; rfl
set_option maxRecDepth 100000 in
set_option maxHeartbeats 3200000 in
theorem RLapAll16_any (a:Option Addr) (cap:Nat) (l:List Cl) (n:Int) (w:World) (hl:l.length≤1000) (hs:Sl w a (cls l)) (hok:∀c∈l,c.Ok) (h0:0≤n) (h1:n < 146097) :
  Calls Tryz.prog 29 #[.slice a l.length cap, .int .i64 n] w fun e w'=>∃v,e= .returned v∧w'.ownsRow w.heap.size 3 1 v (secL (dayQ l n)).length (ints (secL (dayQ l n)))∧Below w.heap.size w w':=by
 have cR:=hid (fun (c:Cl) (hc:c.Ok) W=>own_ret (RLap16_any c n W hc h0 h1))
 have cF:=hid (fun a cap (L:List Int) W hl hs=>ROf15_any a cap L W hl hs)
 have hE:=hid (rofA_day hok h0 h1)
 have hlen:=rofA_len l n
 have Hok:=hid hok
 have Hs:=hid hs
 clear hok hs
 go_enter Tryz.func29,Tryz.ntmps29
 go_wp2_with fail
 go_loopw [5,6] (fun v i wr=>∃(k q cq:Nat) (aq:Option Addr),i= .int .i64 k∧k≤l.length∧v= .slice aq q cq∧q≤86400 * k∧Hid (q= (rofA (l.take k) n).length)∧wr.ownsRow w.heap.size 3 1 (.slice aq q cq) q (ints (rofA (l.take k) n))∧Below w.heap.size w wr) (fun _ i _=>l.length - (intOf i).toNat)
 case atStart=>exact ⟨0,0,0,none,rfl,by omega,rfl,by omega,(rfl:(0:Nat)=0),World.ownsRow_nil _ _ _ _,Below.refl _ _⟩
 case round=>
  obtain ⟨k,q,cq,aq,rfl,hk,rfl,hqk,Hq,hown,hB9⟩:=hrel
  by_cases hlt:k < l.length
  ·obtain ⟨b,off,rfl,hbk,hr⟩:=Hs.out.atCl hlt
   have hr':=range_below hr hB9 hbk
   have Hsn:=hid (rofA_snoc l n hlt)
   have hck:=Hok.out _ (List.getElem_mem hlt)
   have hlk:=rofL_len l[k] n
   obtain ⟨c,hc⟩:∃c,l[k]=c:=⟨_,rfl⟩
   rw [hc] at hr' Hsn hck hlk
   have le:=ld_at hr'
   have c1:=hid (cR.out c hck wr)
   have Hown:=hid hown
   have HB:=hid hB9
   have hbs:w.heap.size≤wr.heap.size:=hB9.size
   obtain ⟨R,hR⟩:∃R,rofL c n=R:=⟨_,rfl⟩
   rw [hR] at c1 Hsn hlk
   clear hr hr' hc hck hown hB9 hR
   go_wp2_with fail
   refine c1.out.mono ?_
   rintro e w2 ⟨a2,m,cap2,rfl,hm,hsl,ho2,hB2⟩
   obtain rfl:=hm.out
   have Hl1:Hid ((ints R).length=R.length * 1):=by show _ = _; rw [ints_length,Nat.mul_one]
   have Hsl:=hid hsl
   have Hnone:=hid (owns_none ho2)
   have Hown2:=hid (owns_below Hown.out hB2 (zG _))
   have HB2:=hid (HB.out.trans (hB2.mono hbs))
   have hbs2:w.heap.size≤w2.heap.size:=zI hbs hB2.size
   clear hsl ho2 hB2 hm le
   go_wp2_with (at_builtin; refine appN eInt (.tmp 13) (.tmp 19) rfl rfl rfl rfl Hown2.out Hl1.out Hsl.out Hnone.out (ints_one1 _) (by omega) (by omega) hbs2 ?_)
   intro a' cap' w4 hown2 hg2 hb2 hf2
   have hq1:Hid (q+R.length= (rofA (l.take (k+1)) n).length):=by show _ = _; rw [Hsn.out,List.length_append,←Hq.out]
   have ho1:Hid (w4.ownsRow w.heap.size 3 1 (.slice a' (q+R.length) cap') (q+R.length) (ints (rofA (l.take (k+1)) n))):=by
    show World.ownsRow _ _ _ _ _ _ _
    rw [Hsn.out,ints_append]; exact hown2
   have HB4:Hid (Below w.heap.size w w4):=HB2.out.trans hb2
   clear hown2 hg2 hb2 hf2
   go_wp2
   exact ⟨⟨k+1,q+R.length,cap',a',by go_num,by omega,rfl,by omega,hq1,ho1.out,HB4.out⟩,by simp [intOf]; omega⟩
  ·obtain rfl:k=l.length:=by omega
   rw [List.take_length] at Hq hown
   have c2:=hid (cF.out aq cq (rofA l n) wr (by omega) (owns_sl hown))
   rw [hE.out,←Hq.out] at c2
   have HB:=hid hB9
   clear hown hB9
   go_wp2_with fail
   refine c2.out.mono ?_
   rintro e w4 ⟨v,rfl,ho,hB4⟩
   have ho1:=hid (owns_base ho HB.out.size)
   have HB4:=hid (HB.out.trans (hB4.mono HB.out.size))
   clear ho hB4
   go_wp2
   go_ret
   exact ⟨_,rfl,ho1.out,HB4.out⟩
end
section
open Go.RowKit Go.Maps
def RdS (w:World) (l:List Cl) (br bk:Nat) (bps:List Nat) (k:Nat) (wr:World):Prop:=∃F ws m,RollS wr l br bk bps F ws m∧m≤k∧Below w.heap.size w wr
theorem RdS.below {w wr w':World} {l:List Cl} {br bk:Nat} {bps:List Nat} {k:Nat} (h:RdS w l br bk bps k wr) (hB:Below wr.heap.size wr w'):RdS w l br bk bps k w':=by
 obtain ⟨F,ws,m,h1,h2,h3⟩:=h
 exact ⟨F,ws,m,h1.below hB,h2,h3.trans (hB.mono h3.size)⟩
def u32s (l:List Nat):List Value:=l.map fun k=> .int .u32 (k:Nat)
theorem u32s_len (l:List Nat):(u32s l).length=l.length:=by simp [u32s]
theorem Sl.at32 {w:World} {a:Option Addr} {l:List Nat} (h:Sl w a (u32s l)) {k:Nat} (hk:k < l.length) :
  ∃b off,a=some ⟨b,off,none⟩∧b < w.heap.size∧w.cell? ⟨b,off+k,none⟩=some (.int .u32 (l[k]:Nat)):=by
 obtain ⟨b,off,rfl,hlt,hc⟩:=Sl.at h (k:=k) (by rw [u32s_len]; exact hk)
 refine ⟨b,off,rfl,hlt,?_⟩
 rw [hc k (by rw [u32s_len]; exact hk)]
 simp [u32s]
end
section
open Go.RowKit Go.Maps
def instB (cs:List Cl) (t:Int):Bool:=cs.any fun c=>hasC c t
theorem dayQ_inst (cs:List Cl) (n:Int) (k:Nat):dayQ cs n k=instB cs (86400 * n+k):=rfl
theorem inst_win {cs:List Cl} {t:Int} (h:instB cs t=true):0≤t∧t < 12622780800:=by
 rw [instB,List.any_eq_true] at h
 obtain ⟨c,-,hc⟩:=h
 obtain ⟨-,-,-,h1,h2⟩:=has_held hc
 exact ⟨h1,h2⟩
end
section
open Go.RowKit
attribute [local irreducible] secL
def WantN (r:Nat→Bool) (n:Int):Prop:=∃m ok,FirstOf r m ok∧n=if ok then m else -1
theorem WantN.congr {r r':Nat→Bool} {n:Int} (h:WantN r n) (he:∀k,k < 86400→r k=r' k):WantN r' n:=by
 obtain ⟨m,ok,h1,h2⟩:=h
 refine ⟨m,ok,?_,h2⟩
 rcases h1 with ⟨rfl,k,rfl,hk,g1,g2⟩ | ⟨rfl,rfl,g2⟩
 ·exact .inl ⟨rfl,k,rfl,hk,by rw [←he k hk]; exact g1,fun j hj=>by rw [←he j (by omega)]; exact g2 j hj⟩
 ·exact .inr ⟨rfl,rfl,fun j hj=>by rw [←he j hj]; exact g2 j hj⟩
theorem WantN.some {r:Nat→Bool} {k:Nat} (hk:k < 86400) (h:r k=true) (hn:∀j,j < k→r j=false):WantN r (k:Int):=⟨k,true, .inl ⟨rfl,k,rfl,hk,h,hn⟩,rfl⟩
theorem WantN.none {r:Nat→Bool} (h:∀j,j < 86400→r j=false):WantN r (-1):=⟨0,false, .inr ⟨rfl,rfl,h⟩,rfl⟩
theorem WantN.unique {r:Nat→Bool} {n n':Int} (h:WantN r n) (h':WantN r n'):n=n':=by
 obtain ⟨m,ok,h1,rfl⟩:=h
 obtain ⟨m',ok',h1',rfl⟩:=h'
 obtain ⟨rfl,rfl⟩:=h1.unique h1'
 rfl
theorem secL_mem {q:Nat→Bool} {x:Int}:x∈secL q↔∃k:Nat,k < 86400∧q k=true∧x= (k:Int):=by rw [secL]; exact sel_mem
theorem secL_lt {q:Nat→Bool} {i j:Nat} (hi:i < (secL q).length) (hj:j < (secL q).length) (h:i < j):(secL q)[i] < (secL q)[j]:=by
 have hp:(secL q).Pairwise (·< ·):=by rw [secL]; exact sel_rising q _
 exact List.pairwise_iff_getElem.1 hp i j hi hj h
theorem secL_at {q:Nat→Bool} {i:Nat} (hi:i < (secL q).length):∃k:Nat,k < 86400∧q k=true∧(secL q)[i]= (k:Int):=secL_mem.1 (List.getElem_mem hi)
theorem secL_ix {q:Nat→Bool} {k:Nat} (hk:k < 86400) (h:q k=true):∃i,∃hi:i < (secL q).length,(secL q)[i]= (k:Int):=by
 obtain ⟨i,hi,e⟩:=List.getElem_of_mem (secL_mem.2 ⟨k,hk,h,rfl⟩)
 exact ⟨i,hi,e⟩
theorem secL_low {q:Nat→Bool} {i j:Nat} (hi:i < (secL q).length) (hj:j < (secL q).length) (h:(secL q)[i] < (secL q)[j]):i < j:=by
 rcases Nat.lt_trichotomy i j with h1 | h1 | h1
 ·exact h1
 ·subst h1; omega
 ·have:=secL_lt hj hi h1; omega
theorem take_at {x y:List Int} {k m:Nat} (h:x.take k=y.take k) (hm:m < k):x[m]? =y[m]?:=by
 rw [←List.getElem?_take_of_lt hm,h,List.getElem?_take_of_lt hm]
theorem dif_less {p q:Nat→Bool} {k:Nat} (hk:k < (secL p).length) (ht:(secL p).take k= (secL q).take k) (hl:∀h:k < (secL q).length,(secL p)[k] < (secL q)[k]):WantN (fun j=>p j != q j) (secL p)[k]:=by
 obtain ⟨v,hv,hp,e⟩:=secL_at hk
 rw [e]
 have hq:q v=false:=by
  cases hq:q v
  ·rfl
  ·obtain ⟨m,hm,em⟩:=secL_ix hv hq
   exfalso
   rcases Nat.lt_or_ge m k with h1 | h1
   ·have:=take_at ht h1
    rw [List.getElem?_eq_getElem (by omega),List.getElem?_eq_getElem hm] at this
    have h2:=secL_lt (q:=p) (by omega) hk h1
    injection this with this
    omega
   ·have h3:=hl (by omega)
    rcases Nat.lt_or_eq_of_le h1 with h4 | h4
    ·have:=secL_lt (q:=q) (by omega) hm h4
     omega
    ·subst h4; omega
 refine WantN.some hv (by rw [hp,hq]; rfl) fun j hj=>?_
 have key:p j=q j:=by
  rw [Bool.eq_iff_iff]
  constructor
  ·intro h
   obtain ⟨m,hm,em⟩:=secL_ix (by omega) h
   have hmk:=secL_low hm hk (by omega)
   have:=take_at ht hmk
   rw [List.getElem?_eq_getElem hm] at this
   obtain ⟨hm2,e2⟩:=List.getElem?_eq_some_iff.1 this.symm
   obtain ⟨j',hj',hq',ej'⟩:=secL_at hm2
   have:j' =j:=by omega
   subst this; exact hq'
  ·intro h
   obtain ⟨m,hm,em⟩:=secL_ix (by omega) h
   have hmk:m < k:=by
    rcases Nat.lt_or_ge m k with h1 | h1
    ·exact h1
    ·have h3:=hl (by omega)
     rcases Nat.lt_or_eq_of_le h1 with h4 | h4
     ·have:=secL_lt (q:=q) (by omega) hm h4
      omega
     ·subst h4; omega
   have:=take_at ht hmk
   rw [List.getElem?_eq_getElem hm] at this
   obtain ⟨hm2,e2⟩:=List.getElem?_eq_some_iff.1 this
   obtain ⟨j',hj',hq',ej'⟩:=secL_at hm2
   have:j' =j:=by omega
   subst this; exact hq'
 show (p j != q j)=false
 rw [key]; simp
theorem dif_swap {p q:Nat→Bool} {n:Int} (h:WantN (fun j=>q j != p j) n):WantN (fun j=>p j != q j) n:=h.congr fun k _=>by
 cases p k <;> cases q k <;> rfl
theorem secL_eq {p q:Nat→Bool} (h:secL p=secL q):∀j,j < 86400→p j=q j:=fun j hj=>by
 rw [Bool.eq_iff_iff]
 constructor
 ·intro hp
  obtain ⟨k,hk,h1,h2⟩:=secL_mem.1 (h ▸ secL_mem.2 ⟨j,hj,hp,rfl⟩)
  have:k=j:=by omega
  subst this; exact h1
 ·intro hp
  obtain ⟨k,hk,h1,h2⟩:=secL_mem.1 (h ▸ secL_mem.2 ⟨j,hj,hp,rfl⟩)
  have:k=j:=by omega
  subst this; exact h1
theorem dif_same {p q:Nat→Bool} {k:Nat} (h1:(secL p).length≤k) (h2:(secL q).length≤k) (ht:(secL p).take k= (secL q).take k):WantN (fun j=>p j != q j) (-1):=by
 rw [List.take_of_length_le h1,List.take_of_length_le h2] at ht
 exact WantN.none fun j hj=>by rw [secL_eq ht j hj]; simp
structure LkI (p q:Nat→Bool) (i k:Nat):Prop where
 ki:k≤(secL q).length
 low:∀m,(hm:m < (secL q).length)→m < k→∀h:i < (secL p).length,(secL q)[m] < (secL p)[i]
theorem LkI.start (p q:Nat→Bool):LkI p q 0 0:=⟨Nat.zero_le _,fun m hm h=>by omega⟩
theorem LkI.more {p q:Nat→Bool} {i k:Nat} (h:LkI p q i k) (hk:k < (secL q).length) (hi:i < (secL p).length) (hl:(secL q)[k] < (secL p)[i]):LkI p q i (k+1):=
 ⟨hk,fun m hm hmk h'=>by
  rcases Nat.lt_succ_iff_lt_or_eq.1 hmk with h1 | h1
  ·exact h.low m hm h1 h'
  ·subst h1; exact hl⟩
theorem LkI.next {p q:Nat→Bool} {i k:Nat} (h:LkI p q i k) (hi:i < (secL p).length):LkI p q (i+1) k:=
 ⟨h.ki,fun m hm hmk h'=>by have:=h.low m hm hmk hi; have:=secL_lt hi h' (Nat.lt_succ_self i); omega⟩
theorem LkI.has {p q:Nat→Bool} {i k:Nat} (h:LkI p q i k) (hi:i < (secL p).length) (hk:∀hk:k < (secL q).length,(secL p)[i]≤(secL q)[k]) {v:Nat} (hv:v < 86400) (e:(secL p)[i]= (v:Int)):q v=true↔∃hk:k < (secL q).length,(secL q)[k]= (v:Int):=by
 constructor
 ·intro hq
  obtain ⟨m,hm,em⟩:=secL_ix hv hq
  rcases Nat.lt_trichotomy m k with h1 | h1 | h1
  ·have:=h.low m hm h1 hi; omega
  ·subst h1; exact ⟨hm,em⟩
  ·have h2:=hk (by omega); have:=secL_lt (by omega) hm h1; omega
 ·rintro ⟨hk',e2⟩
  obtain ⟨j,hj,hq,ej⟩:=secL_at hk'
  have:j=v:=by omega
  subst this; exact hq
theorem lk_hit {p q:Nat→Bool} {i k:Nat} (r:Bool→Bool→Bool) (hr:∀b,r false b=false) (h:LkI p q i k) (hi:i < (secL p).length) (hk:∀hk:k < (secL q).length,(secL p)[i]≤(secL q)[k])
  (hno:∀m v,m < i→(secL p)[m]? =some ((v:Nat):Int)→v < 86400→r true (q v)=false) (b:Bool) (hb:b=true↔∃hk:k < (secL q).length,(secL q)[k]= (secL p)[i]) (hb2:r true b=true):WantN (fun j=>r (p j) (q j)) (secL p)[i]:=by
 obtain ⟨v,hv,hp,e⟩:=secL_at hi
 have hh:=h.has hi hk hv e
 rw [e]
 have hqb:q v=b:=by
  rw [Bool.eq_iff_iff,hh,hb,e]
 refine WantN.some hv (by rw [hp,hqb]; exact hb2) fun j hj=>?_
 cases hpj:p j
 ·exact hr _
 ·obtain ⟨m,hm,em⟩:=secL_ix (by omega) hpj
  have hmi:=secL_low hm hi (by omega)
  have:=hno m j hmi (by rw [List.getElem?_eq_getElem hm,em]) (by omega)
  exact this
theorem lk_pass {p q:Nat→Bool} {i k:Nat} (r:Bool→Bool→Bool) (h:LkI p q i k) (hi:i < (secL p).length) (hk:∀hk:k < (secL q).length,(secL p)[i]≤(secL q)[k])
  (hno:∀m v,m < i→(secL p)[m]? =some ((v:Nat):Int)→v < 86400→r true (q v)=false) (b:Bool) (hb:b=true↔∃hk:k < (secL q).length,(secL q)[k]= (secL p)[i]) (hb2:r true b=false):∀m v,m < i+1→(secL p)[m]? =some ((v:Nat):Int)→v < 86400→r true (q v)=false:=by
 intro m v hm hv hv8
 rcases Nat.lt_succ_iff_lt_or_eq.1 hm with h1 | h1
 ·exact hno m v h1 hv hv8
 ·subst h1
  have e:(secL p)[m]= (v:Int):=by rw [List.getElem?_eq_getElem hi] at hv; injection hv
  have hqb:q v=b:=by rw [Bool.eq_iff_iff,h.has hi hk hv8 e,hb,e]
  rw [hqb]; exact hb2
theorem lk_end {p q:Nat→Bool} {i:Nat} (r:Bool→Bool→Bool) (hr:∀b,r false b=false) (hi:(secL p).length≤i) (hno:∀m v,m < i→(secL p)[m]? =some ((v:Nat):Int)→v < 86400→r true (q v)=false):WantN (fun j=>r (p j) (q j)) (-1):=
 WantN.none fun j hj=>by
  cases hpj:p j
  ·exact hr _
  ·obtain ⟨m,hm,em⟩:=secL_ix hj hpj
   exact hno m j (by omega) (by rw [List.getElem?_eq_getElem hm,em]) hj
end
end Go.Proofs.YtmjljpdeohbfbaaGreatDoor
