/-
  bound.Period: a clause's period, in days; bound.Lcm of two clauses of 7 and 14 days; ferialaw45.lives.
-/
import Derived.Test.YthimhfmnikfgaaaGreatDoorQa2f158
import Derived.Test.YthimhfmnikfgaaaGreatDoorQ20334b
import Derived.Deep.RegionHeld3
import Derived.Test.YthimhfmnikfgaaaGreatDoorQ0301eb
namespace Go.Proofs.YthimhfmnikfgaaaGreatDoor
set_option linter.unusedVariables false
section
open Go.RowKit
attribute [local go_sem ↓] loadAt_cl
theorem unit_range' {u:Int} (h:unB u=true):0≤u∧u≤6:=by simpa only [unB,decide_eq_true_eq] using h
def perB (c:Cl):Bool:=mayC c && (decide (c.step=1) || (decide (0 < sizeU c.unit) || (!decide (c.unit=4) || decide (c.step * 7 < 9223372036854775808))))
def perI (c:Cl):Int:=if perB c then (if c.step=1 then 1 else if 0 < sizeU c.unit then c.step / (Nat.gcd c.step.natAbs (86400 / sizeU c.unit).natAbs:Nat) else if c.unit=3 then c.step else if c.unit=4 then c.step * 7 else 1) else 0
abbrev PeS (w:World) (c:Cl) (W:World):Prop:=
 (W.cell? ⟨w.heap.size,25,none⟩=some (.int .i64 c.unit)∧W.cell? ⟨w.heap.size,26,none⟩=some (.int .i64 c.step))∧ClB W w.heap.size c∧Below w.heap.size w W∧w.heap.size < W.heap.size
theorem PeS.of {w W:World} {c:Cl} (h:ClB W w.heap.size c) (hb:Below w.heap.size w W) (hs:w.heap.size < W.heap.size):PeS w c W:=⟨⟨h.tail.1,h.tail.2.1⟩,h,hb,hs⟩
theorem PeS.keep {w W W':World} {c:Cl} (h:PeS w c W) (hb:Below W.heap.size W W'):PeS w c W':=PeS.of (h.2.1.below hb h.2.2.2) (h.2.2.1.trans (hb.mono (Nat.le_of_lt h.2.2.2))) (zH h.2.2.2 hb.size)
set_option maxRecDepth 100000 in
set_option maxHeartbeats 3200000 in
theorem CPeriod_any (c:Cl) (w:World) (hc:c.Ok):Calls Tryz.prog 47 #[clv c] w fun e w'=>e= .returned (.tuple #[.int .i64 (perI c), .bool (perB c)])∧Below w.heap.size w w':=by
 have hP0:PeS w c (w.alloc (.cells (clList c).toArray 35)):=PeS.of (clB_new w c _) (below_new (Below.refl _ _) (zG _)) (by simp)
 have HP0:=hid hP0
 have cZ:=hid (fun W=>Size_any c.unit W)
 have cM:=hid (fun W=>CMayCl_any c W hc)
 obtain ⟨t0,-,-,-,-⟩:=hP0.2.1.tail
 clear hP0
 cases hm:mayC c
 ·have hr:perI c=0∧perB c=false:=by
   have h:perB c=false:=by rw [perB,hm,Bool.false_and]
   exact ⟨by rw [perI,h]; rfl,h⟩
  rw [hr.1,hr.2]
  rw [hm] at cM
  obtain ⟨z,hzz⟩:∃z,sizeU c.unit=z:=⟨_,rfl⟩
  rw [hzz] at cZ
  clear hr hm hzz hc
  go_enter Tryz.func47,Tryz.ntmps47
  go_wp2_with fail
  refine (cZ.out _).mono ?_
  rintro e w1 ⟨rfl,hB⟩
  have HP1:=hid (HP0.out.keep hB)
  clear hB t0
  have l1:=HP1.out.2.1.ld
  go_wp2_with fail
  refine (cM.out _).mono ?_
  rintro e w2 ⟨rfl,hB⟩
  have HP2:=hid (HP1.out.keep hB)
  clear hB l1
  go_wp2
  go_ret2
  exact ⟨rfl,HP2.out.2.2.1⟩
 obtain ⟨-,hst,hu,-⟩:=may_ord hm
 have hun:=unit_range' hu
 rw [hm] at cM
 have hpb:perB c= (decide (c.step=1) || (decide (0 < sizeU c.unit) || (!decide (c.unit=4) || decide (c.step * 7 < 9223372036854775808)))):=by rw [perB,hm,Bool.true_and]
 have hsb:=hc.step
 obtain ⟨q,hq⟩:∃q:Nat,c.step=q:=⟨c.step.toNat,by omega⟩
 have cT:=hid (fun W=>Times_any q 7 W (by unfold i64B at hsb; omega) (by omega))
 rw [show ((7:Nat):Int)=7 from rfl] at cT
 by_cases hs1:c.step=1
 ·have hr:perI c=1∧perB c=true:=by
   have h:perB c=true:=by rw [hpb,decide_eq_true hs1]; rfl
   exact ⟨by rw [perI,h,if_pos rfl,if_pos hs1],h⟩
  rw [hr.1,hr.2]
  have hsq:(c.step == 1)=true:=by simp [hs1]
  obtain ⟨z,hzz⟩:∃z,sizeU c.unit=z:=⟨_,rfl⟩
  rw [hzz] at cZ
  clear hr hm hzz hc hpb hs1 hq hst hu hun hsb
  go_enter Tryz.func47,Tryz.ntmps47
  go_wp2_with fail
  refine (cZ.out _).mono ?_
  rintro e w1 ⟨rfl,hB⟩
  have HP1:=hid (HP0.out.keep hB)
  clear hB t0
  have l1:=HP1.out.2.1.ld
  go_wp2_with fail
  refine (cM.out _).mono ?_
  rintro e w2 ⟨rfl,hB⟩
  have HP2:=hid (HP1.out.keep hB)
  clear hB l1
  obtain ⟨k5,k6⟩:=HP2.out.1
  go_wp2
  go_ret2
  exact ⟨rfl,HP2.out.2.2.1⟩
 have hsq:(c.step == 1)=false:=by simp [hs1]
 rcases sizeU_cases c.unit with hz | hz
 ·have hz3:sizeU c.unit=1∨sizeU c.unit=60∨sizeU c.unit=3600:=by
   have hz':=hz
   unfold sizeU at hz'⊢
   split
   ·exact .inl rfl
   ·split
    ·exact .inr (.inl rfl)
    ·split
     ·exact .inr (.inr rfl)
     ·rename_i a1 a2 a3; rw [if_neg a1,if_neg a2,if_neg a3] at hz'; omega
  have hr:perI c=c.step / (Nat.gcd c.step.natAbs (86400 / sizeU c.unit).natAbs:Nat)∧perB c=true:=by
   have h:perB c=true:=by rw [hpb,decide_eq_true hz,Bool.true_or,Bool.or_true]
   exact ⟨by rw [perI,h,if_pos rfl,if_neg hs1,if_pos hz],h⟩
  rw [hr.1,hr.2]
  clear hr hpb hm hs1 hc
  rcases hz3 with hz | hz | hz
  ·rw [hz] at cZ⊢
   clear hz
   have eg:gcdL [c.step,86400]=Nat.gcd c.step.natAbs 86400:=by simp [gcdL]
   have cG:=hid (fun a W hs=>NGcd_any a 2 [c.step,86400] W (by simp) hs (by simp only [List.mem_cons,List.not_mem_nil,or_false]; rintro n (rfl | rfl); exact hsb; exact ⟨by decide,by decide⟩))
   rw [eg] at cG
   rw [show ((86400:Int) / 1).natAbs=86400 from rfl]
   have hg0:0 < Nat.gcd c.step.natAbs 86400:=Nat.gcd_pos_of_pos_right _ (by omega)
   have hg1:Nat.gcd c.step.natAbs 86400≤86400:=Nat.gcd_le_right _ (by omega)
   obtain ⟨g,hg⟩:∃g,Nat.gcd c.step.natAbs 86400=g:=⟨_,rfl⟩
   rw [hg] at cG hg0 hg1⊢
   clear hg eg
   have hgn:¬g=0:=by omega
   have hcv:Hid (IntKind.i64.wrap (g:Int)= (g:Int)):=IntWalk.i64_in (g:Int) (by omega)
   have hqd:Hid (IntKind.i64.wrap (c.step.tdiv (g:Int))=c.step / (g:Int)):=by
    show _ = _
    rw [Int.tdiv_eq_ediv_of_nonneg (by omega)]
    have h1:=Int.ediv_nonneg (show 0≤c.step by omega) (show 0≤(g:Int) by omega)
    have h2:=Int.ediv_le_self (g:Int) (show 0≤c.step by omega)
    exact IntWalk.i64_in _ (by unfold i64B at hsb; omega)
   clear hq hst hu hun hsb hg0 hg1
   go_enter Tryz.func47,Tryz.ntmps47
   go_wp2_with fail
   refine (cZ.out _).mono ?_
   rintro e w1 ⟨rfl,hB⟩
   have HP1:=hid (HP0.out.keep hB)
   clear hB t0
   have l1:=HP1.out.2.1.ld
   go_wp2_with fail
   refine (cM.out _).mono ?_
   rintro e w2 ⟨rfl,hB⟩
   have HP2:=hid (HP1.out.keep hB)
   clear hB l1
   obtain ⟨k5,k6⟩:=HP2.out.1
   go_wp2_with fail
   clear k5 k6
   refine wp_region_held_drew (S:=fun w'=>PeS w c w') (by kernel_rfl) (HP2.out.keep (Below.refl _ _).drew) (fun hHeld=>?_)
   refine zT 0 (v:=?_) ?_ ?_
   rotate_left
   ·intro w hSw; go_simp; (try with_reducible rfl)
   try simp only [zP]
   refine zT 1 (v:=?_) ?_ ?_
   rotate_left
   ·intro w hSw; go_simp; (try with_reducible rfl)
   try simp only [zP]
   refine zT 2 (v:=?_) ?_ ?_
   rotate_left
   ·intro w hSw; go_simp; (try with_reducible rfl)
   try simp only [zP]
   refine zT 3 (v:=?_) ?_ ?_
   rotate_left
   ·intro w hSw; go_simp; (try with_reducible rfl)
   try simp only [zP]
   refine zT 4 (v:=?_) ?_ ?_
   rotate_left
   ·intro w hSw; go_simp; (try with_reducible rfl)
   try simp only [zP]
   refine zT 5 (v:=?_) ?_ ?_
   rotate_left
   ·intro w hSw; go_simp; (try with_reducible rfl)
   try simp only [zP]
   refine wpAnyH_ready (rs:= [6]) (by kernel_rfl) (by simp) ?_
   refine AllReadyH.cons rfl (fun K hK=>?_) AllReadyH.nil
   go_simp
   (try go_wp2_with fail)
   have hsl:Sl (w2.drew.alloc (.cells #[.int .i64 c.step, .int .i64 86400] 2)) (some ⟨w2.drew.heap.size,0,none⟩) (ints [c.step,86400]):=sl_range (range_new w2.drew [.int .i64 c.step, .int .i64 86400] _) (by simp)
   have cG2:=hid (cG.out _ _ hsl)
   refine hK.out _ _ (hHeld.keep (below_new (Below.refl _ _) (zG _))) (fun hHeld=>?_)
   clear hK K
   try simp only [zP]
   refine wpAnyH_ready (rs:= [7]) (by kernel_rfl) (by simp) ?_
   refine AllReadyH.cons rfl (fun K hK=>?_) AllReadyH.nil
   go_simp
   refine cG2.out.mono ?_
   rintro e w3 ⟨rfl,hB⟩
   have hS3:=PeS.keep hHeld hB
   (try go_wp2_with fail)
   refine hK.out _ _ hS3 (fun hHeld=>?_)
   clear hK K
   try simp only [zP]
   refine zT 8 (v:=?_) ?_ ?_
   rotate_left
   ·intro w hSw; go_simp; (try rw [hcv.out]); (try with_reducible rfl)
   try simp only [zP]
   refine zT 9 (v:=?_) ?_ ?_
   rotate_left
   ·intro w hSw; go_simp; (try rw [hqd.out]); (try with_reducible rfl)
   try simp only [zP]
   refine zT 10 (v:=?_) ?_ ?_
   rotate_left
   ·intro w hSw; go_simp; (try with_reducible rfl)
   try simp only [zP]
   refine zT 11 (v:=?_) ?_ ?_
   rotate_left
   ·intro w hSw; go_simp; (try with_reducible rfl)
   try simp only [zP]
   refine wpAnyH_done (by kernel_rfl) ?_ _
   go_wp2
   go_ret2
   exact ⟨rfl,hS3.2.2.1⟩
  ·rw [hz] at cZ⊢
   clear hz
   have eg:gcdL [c.step,1440]=Nat.gcd c.step.natAbs 1440:=by simp [gcdL]
   have cG:=hid (fun a W hs=>NGcd_any a 2 [c.step,1440] W (by simp) hs (by simp only [List.mem_cons,List.not_mem_nil,or_false]; rintro n (rfl | rfl); exact hsb; exact ⟨by decide,by decide⟩))
   rw [eg] at cG
   rw [show ((86400:Int) / 60).natAbs=1440 from rfl]
   have hg0:0 < Nat.gcd c.step.natAbs 1440:=Nat.gcd_pos_of_pos_right _ (by omega)
   have hg1:Nat.gcd c.step.natAbs 1440≤1440:=Nat.gcd_le_right _ (by omega)
   obtain ⟨g,hg⟩:∃g,Nat.gcd c.step.natAbs 1440=g:=⟨_,rfl⟩
   rw [hg] at cG hg0 hg1⊢
   clear hg eg
   have hgn:¬g=0:=by omega
   have hcv:Hid (IntKind.i64.wrap (g:Int)= (g:Int)):=IntWalk.i64_in (g:Int) (by omega)
   have hqd:Hid (IntKind.i64.wrap (c.step.tdiv (g:Int))=c.step / (g:Int)):=by
    show _ = _
    rw [Int.tdiv_eq_ediv_of_nonneg (by omega)]
    have h1:=Int.ediv_nonneg (show 0≤c.step by omega) (show 0≤(g:Int) by omega)
    have h2:=Int.ediv_le_self (g:Int) (show 0≤c.step by omega)
    exact IntWalk.i64_in _ (by unfold i64B at hsb; omega)
   clear hq hst hu hun hsb hg0 hg1
   go_enter Tryz.func47,Tryz.ntmps47
   go_wp2_with fail
   refine (cZ.out _).mono ?_
   rintro e w1 ⟨rfl,hB⟩
   have HP1:=hid (HP0.out.keep hB)
   clear hB t0
   have l1:=HP1.out.2.1.ld
   go_wp2_with fail
   refine (cM.out _).mono ?_
   rintro e w2 ⟨rfl,hB⟩
   have HP2:=hid (HP1.out.keep hB)
   clear hB l1
   obtain ⟨k5,k6⟩:=HP2.out.1
   go_wp2_with fail
   clear k5 k6
   refine wp_region_held_drew (S:=fun w'=>PeS w c w') (by kernel_rfl) (HP2.out.keep (Below.refl _ _).drew) (fun hHeld=>?_)
   refine zT 0 (v:=?_) ?_ ?_
   rotate_left
   ·intro w hSw; go_simp; (try with_reducible rfl)
   try simp only [zP]
   refine zT 1 (v:=?_) ?_ ?_
   rotate_left
   ·intro w hSw; go_simp; (try with_reducible rfl)
   try simp only [zP]
   refine zT 2 (v:=?_) ?_ ?_
   rotate_left
   ·intro w hSw; go_simp; (try with_reducible rfl)
   try simp only [zP]
   refine zT 3 (v:=?_) ?_ ?_
   rotate_left
   ·intro w hSw; go_simp; (try with_reducible rfl)
   try simp only [zP]
   refine zT 4 (v:=?_) ?_ ?_
   rotate_left
   ·intro w hSw; go_simp; (try with_reducible rfl)
   try simp only [zP]
   refine zT 5 (v:=?_) ?_ ?_
   rotate_left
   ·intro w hSw; go_simp; (try with_reducible rfl)
   try simp only [zP]
   refine wpAnyH_ready (rs:= [6]) (by kernel_rfl) (by simp) ?_
   refine AllReadyH.cons rfl (fun K hK=>?_) AllReadyH.nil
   go_simp
   (try go_wp2_with fail)
   have hsl:Sl (w2.drew.alloc (.cells #[.int .i64 c.step, .int .i64 1440] 2)) (some ⟨w2.drew.heap.size,0,none⟩) (ints [c.step,1440]):=sl_range (range_new w2.drew [.int .i64 c.step, .int .i64 1440] _) (by simp)
   have cG2:=hid (cG.out _ _ hsl)
   refine hK.out _ _ (hHeld.keep (below_new (Below.refl _ _) (zG _))) (fun hHeld=>?_)
   clear hK K
   try simp only [zP]
   refine wpAnyH_ready (rs:= [7]) (by kernel_rfl) (by simp) ?_
   refine AllReadyH.cons rfl (fun K hK=>?_) AllReadyH.nil
   go_simp
   refine cG2.out.mono ?_
   rintro e w3 ⟨rfl,hB⟩
   have hS3:=PeS.keep hHeld hB
   (try go_wp2_with fail)
   refine hK.out _ _ hS3 (fun hHeld=>?_)
   clear hK K
   try simp only [zP]
   refine zT 8 (v:=?_) ?_ ?_
   rotate_left
   ·intro w hSw; go_simp; (try rw [hcv.out]); (try with_reducible rfl)
   try simp only [zP]
   refine zT 9 (v:=?_) ?_ ?_
   rotate_left
   ·intro w hSw; go_simp; (try rw [hqd.out]); (try with_reducible rfl)
   try simp only [zP]
   refine zT 10 (v:=?_) ?_ ?_
   rotate_left
   ·intro w hSw; go_simp; (try with_reducible rfl)
   try simp only [zP]
   refine zT 11 (v:=?_) ?_ ?_
   rotate_left
   ·intro w hSw; go_simp; (try with_reducible rfl)
   try simp only [zP]
   refine wpAnyH_done (by kernel_rfl) ?_ _
   go_wp2
   go_ret2
   exact ⟨rfl,hS3.2.2.1⟩
  ·rw [hz] at cZ⊢
   clear hz
   have eg:gcdL [c.step,24]=Nat.gcd c.step.natAbs 24:=by simp [gcdL]
   have cG:=hid (fun a W hs=>NGcd_any a 2 [c.step,24] W (by simp) hs (by simp only [List.mem_cons,List.not_mem_nil,or_false]; rintro n (rfl | rfl); exact hsb; exact ⟨by decide,by decide⟩))
   rw [eg] at cG
   rw [show ((86400:Int) / 3600).natAbs=24 from rfl]
   have hg0:0 < Nat.gcd c.step.natAbs 24:=Nat.gcd_pos_of_pos_right _ (by omega)
   have hg1:Nat.gcd c.step.natAbs 24≤24:=Nat.gcd_le_right _ (by omega)
   obtain ⟨g,hg⟩:∃g,Nat.gcd c.step.natAbs 24=g:=⟨_,rfl⟩
   rw [hg] at cG hg0 hg1⊢
   clear hg eg
   have hgn:¬g=0:=by omega
   have hcv:Hid (IntKind.i64.wrap (g:Int)= (g:Int)):=IntWalk.i64_in (g:Int) (by omega)
   have hqd:Hid (IntKind.i64.wrap (c.step.tdiv (g:Int))=c.step / (g:Int)):=by
    show _ = _
    rw [Int.tdiv_eq_ediv_of_nonneg (by omega)]
    have h1:=Int.ediv_nonneg (show 0≤c.step by omega) (show 0≤(g:Int) by omega)
    have h2:=Int.ediv_le_self (g:Int) (show 0≤c.step by omega)
    exact IntWalk.i64_in _ (by unfold i64B at hsb; omega)
   clear hq hst hu hun hsb hg0 hg1
   go_enter Tryz.func47,Tryz.ntmps47
   go_wp2_with fail
   refine (cZ.out _).mono ?_
   rintro e w1 ⟨rfl,hB⟩
   have HP1:=hid (HP0.out.keep hB)
   clear hB t0
   have l1:=HP1.out.2.1.ld
   go_wp2_with fail
   refine (cM.out _).mono ?_
   rintro e w2 ⟨rfl,hB⟩
   have HP2:=hid (HP1.out.keep hB)
   clear hB l1
   obtain ⟨k5,k6⟩:=HP2.out.1
   go_wp2_with fail
   clear k5 k6
   refine wp_region_held_drew (S:=fun w'=>PeS w c w') (by kernel_rfl) (HP2.out.keep (Below.refl _ _).drew) (fun hHeld=>?_)
   refine zT 0 (v:=?_) ?_ ?_
   rotate_left
   ·intro w hSw; go_simp; (try with_reducible rfl)
   try simp only [zP]
   refine zT 1 (v:=?_) ?_ ?_
   rotate_left
   ·intro w hSw; go_simp; (try with_reducible rfl)
   try simp only [zP]
   refine zT 2 (v:=?_) ?_ ?_
   rotate_left
   ·intro w hSw; go_simp; (try with_reducible rfl)
   try simp only [zP]
   refine zT 3 (v:=?_) ?_ ?_
   rotate_left
   ·intro w hSw; go_simp; (try with_reducible rfl)
   try simp only [zP]
   refine zT 4 (v:=?_) ?_ ?_
   rotate_left
   ·intro w hSw; go_simp; (try with_reducible rfl)
   try simp only [zP]
   refine zT 5 (v:=?_) ?_ ?_
   rotate_left
   ·intro w hSw; go_simp; (try with_reducible rfl)
   try simp only [zP]
   refine wpAnyH_ready (rs:= [6]) (by kernel_rfl) (by simp) ?_
   refine AllReadyH.cons rfl (fun K hK=>?_) AllReadyH.nil
   go_simp
   (try go_wp2_with fail)
   have hsl:Sl (w2.drew.alloc (.cells #[.int .i64 c.step, .int .i64 24] 2)) (some ⟨w2.drew.heap.size,0,none⟩) (ints [c.step,24]):=sl_range (range_new w2.drew [.int .i64 c.step, .int .i64 24] _) (by simp)
   have cG2:=hid (cG.out _ _ hsl)
   refine hK.out _ _ (hHeld.keep (below_new (Below.refl _ _) (zG _))) (fun hHeld=>?_)
   clear hK K
   try simp only [zP]
   refine wpAnyH_ready (rs:= [7]) (by kernel_rfl) (by simp) ?_
   refine AllReadyH.cons rfl (fun K hK=>?_) AllReadyH.nil
   go_simp
   refine cG2.out.mono ?_
   rintro e w3 ⟨rfl,hB⟩
   have hS3:=PeS.keep hHeld hB
   (try go_wp2_with fail)
   refine hK.out _ _ hS3 (fun hHeld=>?_)
   clear hK K
   try simp only [zP]
   refine zT 8 (v:=?_) ?_ ?_
   rotate_left
   ·intro w hSw; go_simp; (try rw [hcv.out]); (try with_reducible rfl)
   try simp only [zP]
   refine zT 9 (v:=?_) ?_ ?_
   rotate_left
   ·intro w hSw; go_simp; (try rw [hqd.out]); (try with_reducible rfl)
   try simp only [zP]
   refine zT 10 (v:=?_) ?_ ?_
   rotate_left
   ·intro w hSw; go_simp; (try with_reducible rfl)
   try simp only [zP]
   refine zT 11 (v:=?_) ?_ ?_
   rotate_left
   ·intro w hSw; go_simp; (try with_reducible rfl)
   try simp only [zP]
   refine wpAnyH_done (by kernel_rfl) ?_ _
   go_wp2
   go_ret2
   exact ⟨rfl,hS3.2.2.1⟩
 ·have hu3:c.unit=3∨c.unit=4∨4 < c.unit:=by have:=sizeU_day hz hun.1; omega
  have hzn:¬0 < sizeU c.unit:=by omega
  rw [hz] at cZ
  rcases hu3 with h3 | h3 | h3
  ·have hr:perI c=c.step∧perB c=true:=by
    have h:perB c=true:=by rw [hpb,decide_eq_false (show¬c.unit=4 by omega)]; simp
    exact ⟨by rw [perI,h,if_pos rfl,if_neg hs1,if_neg hzn,if_pos h3],h⟩
   rw [hr.1,hr.2]
   have hb3:(c.unit == 3)=true:=by simp [h3]
   clear hr hpb hm hs1 hc hq hst hu hun hsb hzn h3 hz
   go_enter Tryz.func47,Tryz.ntmps47
   go_wp2_with fail
   refine (cZ.out _).mono ?_
   rintro e w1 ⟨rfl,hB⟩
   have HP1:=hid (HP0.out.keep hB)
   clear hB t0
   have l1:=HP1.out.2.1.ld
   go_wp2_with fail
   refine (cM.out _).mono ?_
   rintro e w2 ⟨rfl,hB⟩
   have HP2:=hid (HP1.out.keep hB)
   clear hB l1
   obtain ⟨k5,k6⟩:=HP2.out.1
   go_wp2
   go_ret2
   exact ⟨rfl,HP2.out.2.2.1⟩
  ·have hb3:(c.unit == 3)=false:=by simp; omega
   have hb4:(c.unit == 4)=true:=by simp [h3]
   by_cases hlt:q * 7 < 9223372036854775808
   ·have hr:perI c= ((q * 7:Nat):Int)∧perB c=true:=by
     have h:perB c=true:=by rw [hpb,decide_eq_true (show c.step * 7 < 9223372036854775808 by omega)]; simp
     exact ⟨by rw [perI,h,if_pos rfl,if_neg hs1,if_neg hzn,if_neg (by omega),if_pos h3]; omega,h⟩
    rw [hr.1,hr.2]
    rw [if_pos hlt,←hq] at cT
    obtain ⟨r,hrr⟩:∃r,q * 7=r:=⟨_,rfl⟩
    rw [hrr] at cT⊢
    clear hr hpb hm hs1 hc hq hst hu hun hsb hzn h3 hz hlt hrr
    go_enter Tryz.func47,Tryz.ntmps47
    go_wp2_with fail
    refine (cZ.out _).mono ?_
    rintro e w1 ⟨rfl,hB⟩
    have HP1:=hid (HP0.out.keep hB)
    clear hB t0
    have l1:=HP1.out.2.1.ld
    go_wp2_with fail
    refine (cM.out _).mono ?_
    rintro e w2 ⟨rfl,hB⟩
    have HP2:=hid (HP1.out.keep hB)
    clear hB l1
    obtain ⟨k5,k6⟩:=HP2.out.1
    go_wp2_with fail
    refine (cT.out _).mono ?_
    rintro e w' ⟨rfl,rfl⟩
    go_wp2
    go_ret2
    exact ⟨rfl,HP2.out.2.2.1⟩
   ·have hr:perI c=0∧perB c=false:=by
     have h:perB c=false:=by
      rw [hpb,decide_eq_false hs1,decide_eq_false hzn,decide_eq_true h3,decide_eq_false (show¬c.step * 7 < 9223372036854775808 by omega)]; rfl
     exact ⟨by rw [perI,h]; rfl,h⟩
    rw [hr.1,hr.2]
    rw [if_neg hlt,←hq] at cT
    clear hr hpb hm hs1 hc hq hst hu hun hsb hzn h3 hz hlt
    go_enter Tryz.func47,Tryz.ntmps47
    go_wp2_with fail
    refine (cZ.out _).mono ?_
    rintro e w1 ⟨rfl,hB⟩
    have HP1:=hid (HP0.out.keep hB)
    clear hB t0
    have l1:=HP1.out.2.1.ld
    go_wp2_with fail
    refine (cM.out _).mono ?_
    rintro e w2 ⟨rfl,hB⟩
    have HP2:=hid (HP1.out.keep hB)
    clear hB l1
    obtain ⟨k5,k6⟩:=HP2.out.1
    go_wp2_with fail
    refine (cT.out _).mono ?_
    rintro e w' ⟨rfl,rfl⟩
    go_wp2
    go_ret2
    exact ⟨rfl,HP2.out.2.2.1⟩
  ·have hr:perI c=1∧perB c=true:=by
    have h:perB c=true:=by rw [hpb,decide_eq_false (show¬c.unit=4 by omega)]; simp
    exact ⟨by rw [perI,h,if_pos rfl,if_neg hs1,if_neg hzn,if_neg (by omega),if_neg (by omega)],h⟩
   rw [hr.1,hr.2]
   have hb3:(c.unit == 3)=false:=by simp; omega
   have hb4:(c.unit == 4)=false:=by simp; omega
   clear hr hpb hm hs1 hc hq hst hu hun hsb hzn h3 hz
   go_enter Tryz.func47,Tryz.ntmps47
   go_wp2_with fail
   refine (cZ.out _).mono ?_
   rintro e w1 ⟨rfl,hB⟩
   have HP1:=hid (HP0.out.keep hB)
   clear hB t0
   have l1:=HP1.out.2.1.ld
   go_wp2_with fail
   refine (cM.out _).mono ?_
   rintro e w2 ⟨rfl,hB⟩
   have HP2:=hid (HP1.out.keep hB)
   clear hB l1
   obtain ⟨k5,k6⟩:=HP2.out.1
   go_wp2
   go_ret2
   exact ⟨rfl,HP2.out.2.2.1⟩
end
section
open Go.RowKit
attribute [local go_sem ↓] loadAt_cl storeAt_cl
attribute [local go_sem] run_storeClS
set_option maxRecDepth 100000 in
set_option maxHeartbeats 6400000 in
theorem Lcm2_any (a:Option Addr) (cap:Nat) (c d:Cl) (w:World) (hs:Sl w a (cls [c,d])) (hc:c.Ok) (hd:d.Ok) (pc:perI c=7∧perB c=true) (pd:perI d=14∧perB d=true) :
  Calls Tryz.prog 48 #[.slice a 2 cap] w fun e w'=>e= .returned (.tuple #[.int .i64 14, .bool true])∧Below w.heap.size w w':=by
 have Hs:=hid hs
 have cC:=hid (fun W=>CPeriod_any c W hc)
 have cD:=hid (fun W=>CPeriod_any d W hd)
 rw [pc.1,pc.2] at cC
 rw [pd.1,pd.2] at cD
 have cG1:=hid (fun x W hs=>NGcd_any x 2 [1,7] W (by simp) hs (by simp only [List.mem_cons,List.not_mem_nil,or_false]; rintro n (rfl | rfl) <;> exact ⟨by decide,by decide⟩))
 have cG2:=hid (fun x W hs=>NGcd_any x 2 [7,14] W (by simp) hs (by simp only [List.mem_cons,List.not_mem_nil,or_false]; rintro n (rfl | rfl) <;> exact ⟨by decide,by decide⟩))
 rw [show gcdL [1,7]=1 from rfl] at cG1
 rw [show gcdL [7,14]=7 from rfl] at cG2
 have cT1:Hid (∀W,Calls Tryz.prog 103 #[.int .i64 1, .int .i64 7] W fun e w'=>e= .returned (.tuple #[.int .i64 7, .bool true])∧W=w'):=fun W=>Times_any 1 7 W (by omega) (by omega)
 have cT2:Hid (∀W,Calls Tryz.prog 103 #[.int .i64 1, .int .i64 14] W fun e w'=>e= .returned (.tuple #[.int .i64 14, .bool true])∧W=w'):=fun W=>Times_any 1 14 W (by omega) (by omega)
 clear hs hc hd pc pd
 go_enter Tryz.func48,Tryz.ntmps48
 go_wp2
 go_loopw [4,11] (fun x i wr=>∃k:Nat,i= .int .i64 k∧(k=0∧x= .int .i64 1∨k=1∧x= .int .i64 7∨k=2∧x= .int .i64 14)∧Hid (Below w.heap.size w wr)) (fun _ i _=>2 - (intOf i).toNat)
 case atStart=>exact ⟨0,rfl, .inl ⟨rfl,rfl⟩,Below.refl _ _⟩
 case round=>
  obtain ⟨k,rfl,hk,HB⟩:=hrel
  rcases hk with ⟨rfl,rfl⟩ | ⟨rfl,rfl⟩ | ⟨rfl,rfl⟩
  ·obtain ⟨b,off,rfl,hbk,hr⟩:=Hs.out.atCl (k:=0) (by simp)
   rw [Nat.zero_mul,Nat.add_zero] at hr
   have hr':wr.rangeAt b (off) (clList c):=range_below hr HB.out hbk
   have le:=ld_at hr'
   have hth2:(wr.alloc (.cells zL.toArray 35)).there wr.heap.size 0 30:=there_new wr _ _
   have hn2:=below_new (o:= .cells zL.toArray 35) (Below.refl wr.heap.size wr) (zG _)
   have hC1:ClB (putCl (wr.alloc (.cells zL.toArray 35)) wr.heap.size (clList c)) wr.heap.size c:=putCl_range _ rfl hth2
   have hb1:Below wr.heap.size wr (putCl (wr.alloc (.cells zL.toArray 35)) wr.heap.size (clList c)):=putCl_below hn2 (zG _) _
   have HB1:=hid (HB.out.trans (hb1.mono HB.out.size))
   have l1:=hC1.ld
   clear hr hr' hn2 hC1 hb1
   go_wp2_with fail
   with_reducible refine (cC.out _).mono ?_
   rintro e w2 ⟨rfl,hB⟩
   have HB2:=hid (HB1.out.trans (hB.mono HB1.out.size))
   clear hB l1 le hth2
   have hsl:Sl (w2.alloc (.cells #[.int .i64 1, .int .i64 7] 2)) (some ⟨w2.heap.size,0,none⟩) (ints [1,7]):=sl_range (range_new w2 [.int .i64 1, .int .i64 7] _) (by simp)
   have cX:=hid (cG1.out _ _ hsl)
   clear hsl
   go_wp2_with fail
   refine cX.out.mono ?_
   rintro e w3 ⟨rfl,hB⟩
   have HB3:=hid (HB2.out.trans ((below_new (Below.refl _ _) (zG _)).trans (hB.mono (by simp)) |>.mono HB2.out.size))
   clear hB cX
   go_wp2_with fail
   with_reducible refine (cT1.out _).mono ?_
   rintro e w' ⟨rfl,rfl⟩
   go_wp2
   exact ⟨⟨1,by go_num, .inr (.inl ⟨rfl,rfl⟩),HB3.out⟩,by simp [intOf]⟩
  ·obtain ⟨b,off,rfl,hbk,hr⟩:=Hs.out.atCl (k:=1) (by simp)
   rw [Nat.one_mul] at hr
   have hr':wr.rangeAt b (off+30) (clList d):=range_below hr HB.out hbk
   have le:=ld_at hr'
   have hth2:(wr.alloc (.cells zL.toArray 35)).there wr.heap.size 0 30:=there_new wr _ _
   have hn2:=below_new (o:= .cells zL.toArray 35) (Below.refl wr.heap.size wr) (zG _)
   have hC1:ClB (putCl (wr.alloc (.cells zL.toArray 35)) wr.heap.size (clList d)) wr.heap.size d:=putCl_range _ rfl hth2
   have hb1:Below wr.heap.size wr (putCl (wr.alloc (.cells zL.toArray 35)) wr.heap.size (clList d)):=putCl_below hn2 (zG _) _
   have HB1:=hid (HB.out.trans (hb1.mono HB.out.size))
   have l1:=hC1.ld
   clear hr hr' hn2 hC1 hb1
   go_wp2_with fail
   with_reducible refine (cD.out _).mono ?_
   rintro e w2 ⟨rfl,hB⟩
   have HB2:=hid (HB1.out.trans (hB.mono HB1.out.size))
   clear hB l1 le hth2
   have hsl:Sl (w2.alloc (.cells #[.int .i64 7, .int .i64 14] 2)) (some ⟨w2.heap.size,0,none⟩) (ints [7,14]):=sl_range (range_new w2 [.int .i64 7, .int .i64 14] _) (by simp)
   have cX:=hid (cG2.out _ _ hsl)
   clear hsl
   go_wp2_with fail
   refine cX.out.mono ?_
   rintro e w3 ⟨rfl,hB⟩
   have HB3:=hid (HB2.out.trans ((below_new (Below.refl _ _) (zG _)).trans (hB.mono (by simp)) |>.mono HB2.out.size))
   clear hB cX
   go_wp2_with fail
   with_reducible refine (cT2.out _).mono ?_
   rintro e w' ⟨rfl,rfl⟩
   go_wp2
   exact ⟨⟨2,by go_num, .inr (.inr ⟨rfl,rfl⟩),HB3.out⟩,by simp [intOf]⟩
  ·go_wp2
   go_ret2
   exact ⟨rfl,HB.out⟩
end
section
open Go.RowKit
attribute [local go_sem ↓] loadAt_cl storeAt_cl
attribute [local go_sem] run_storeClS
theorem there_fzP {W:World} {b:Nat} (h:W.there b 0 30) (j:Nat) (hj:j < 30):W.frozen? ⟨b,j,none⟩=false:=by
 have:=(h j hj).2
 rwa [Nat.zero_add] at this
theorem clB_otherP {W:World} {b b4 k:Nat} {c:Cl} {vs:List Value} (h:ClB W b c) (hne:b≠b4):ClB (W.setCells b4 k vs) b c:=fun j v hv=>by
 rw [World.cell?_setCells_out _ _ _ _ _ (fun e=>absurd e hne)]
 exact h j v hv
theorem ClB.setOne {W:World} {b i:Nat} {c c':Cl} {v:Value} (h:ClB W b c) (hi:i < 30) (e:clList c' = (clList c).set i v):ClB (W.setCell ⟨b,i,none⟩ v) b c':=by
 intro j x hx
 rw [e] at hx
 by_cases hj:j=i
 ·subst hj
  have hl:j < (clList c).length:=hi
  rw [List.getElem?_set_self hl] at hx
  obtain rfl:=Option.some.inj hx
  rw [Nat.zero_add]
  exact World.cell?_setCell_same _ _ _ (h.at j (List.getElem?_eq_getElem hl))
 ·rw [List.getElem?_set_ne (Ne.symm hj)] at hx
  rw [Nat.zero_add,World.cell?_setCell_other _ _ _ _ (by intro e; injection e with _ e2 _; exact hj e2.symm)]
  have:=h j x hx
  rwa [Nat.zero_add] at this
theorem clB_far {W:World} {b b' i:Nat} {c:Cl} {v:Value} (h:ClB W b c) (hne:b'≠b):ClB (W.setCell ⟨b',i,none⟩ v) b c:=fun j x hx=>by
 rw [World.cell?_setCell_other _ _ _ _ (by intro e; injection e with e _ _; exact hne e)]
 exact h j x hx
def ex7 (F:Cl):Cl:={F with step:=7}
def ex4 (F:Cl):Cl:={F with unit:=4}
def ex14 (F:Cl):Cl:={F with unit:=4,step:=2}
theorem per7:perI (ex7 fullCl)=7∧perB (ex7 fullCl)=true:=⟨by kernel_rfl,by kernel_rfl⟩
theorem per14:perI (ex14 fullCl)=14∧perB (ex14 fullCl)=true:=⟨by kernel_rfl,by kernel_rfl⟩
theorem ex7_ok:(ex7 fullCl).Ok:=⟨full_ok.m,full_ok.od,full_ok.ys,full_ok.oin,full_ok.unit,⟨by decide,by decide⟩,full_ok.anchor,full_ok.fr,full_ok.un⟩
theorem ex14_ok:(ex14 fullCl).Ok:=⟨full_ok.m,full_ok.od,full_ok.ys,full_ok.oin,⟨by decide,by decide⟩,⟨by decide,by decide⟩,full_ok.anchor,full_ok.fr,full_ok.un⟩
set_option maxRecDepth 100000 in
set_option maxHeartbeats 6400000 in
theorem Lives45_any (w:World):Calls Tryz.prog 15 #[] w fun e w'=>e= .returned (.bool true)∧Below w.heap.size w w':=by
 have cF:=hid (fun W=>RFull_any W)
 have cP:=hid (fun W=>CPeriod_any (ex7 fullCl) W ex7_ok)
 rw [per7.1,per7.2] at cP
 have cL:=hid (fun a cap W hs=>Lcm2_any a cap (ex7 fullCl) (ex14 fullCl) W hs ex7_ok ex14_ok per7 per14)
 obtain ⟨F,hF⟩:∃F,fullCl=F:=⟨_,rfl⟩
 rw [hF] at cF cP cL
 clear hF
 go_enter Tryz.func15,Tryz.ntmps15
 go_wp2_with fail
 refine (cF.out _).mono ?_
 rintro e w1 ⟨rfl,hB1⟩
 have HB1:=hid hB1
 clear hB1
 go_wp2_with fail
 refine (cF.out _).mono ?_
 rintro e w2 ⟨rfl,hB2⟩
 have HB2:Hid (Below w.heap.size w w2):=HB1.out.trans (hB2.mono HB1.out.size)
 clear hB2
 obtain ⟨W0,hW0⟩:∃W0,(w2.alloc (.cells zL.toArray 35)).alloc (.cells zL.toArray 35)=W0:=⟨_,rfl⟩
 have h1:W0.there w2.heap.size 0 30:=by
  rw [←hW0]
  have h:=there_new w2 zL.toArray 35
  exact there_below h (below_new (Below.refl _ _) (zG _)) (by simp)
 have h2:W0.there (w2.heap.size+1) 0 30:=by
  rw [←hW0]
  have h:=there_new (w2.alloc (.cells zL.toArray 35)) zL.toArray 35
  rw [World.size_alloc] at h
  exact h
 have b0:Below w.heap.size w W0:=by rw [←hW0]; exact below_new (below_new HB2.out HB2.out.size) (by have:=HB2.out.size; simp only [World.size_alloc]; omega)
 have s0:W0.heap.size=w2.heap.size+1+1:=by rw [←hW0]; simp only [World.size_alloc]
 have h2':(putCl W0 w2.heap.size (clList F)).there (w2.heap.size+1) 0 30:=World.there_setCells h2 _ _ _
 have c1:ClB (putCl (putCl W0 w2.heap.size (clList F)) (w2.heap.size+1) (clList F)) w2.heap.size F:=clB_otherP (k:=0) (putCl_range _ rfl h1) (by omega)
 have c2:ClB (putCl (putCl W0 w2.heap.size (clList F)) (w2.heap.size+1) (clList F)) (w2.heap.size+1) F:=putCl_range _ rfl h2'
 have t1:(putCl (putCl W0 w2.heap.size (clList F)) (w2.heap.size+1) (clList F)).there w2.heap.size 0 30:=World.there_setCells (World.there_setCells h1 _ _ _) _ _ _
 have t2:(putCl (putCl W0 w2.heap.size (clList F)) (w2.heap.size+1) (clList F)).there (w2.heap.size+1) 0 30:=World.there_setCells h2' _ _ _
 have hw:=HB2.out.size
 have bP:Below w.heap.size w (putCl (putCl W0 w2.heap.size (clList F)) (w2.heap.size+1) (clList F)):=putCl_below (putCl_below b0 hw _) (by omega) _
 have sP:(putCl (putCl W0 w2.heap.size (clList F)) (w2.heap.size+1) (clList F)).heap.size=w2.heap.size+1+1:=by rw [putCl_eq,putCl_eq,size_setCells,size_setCells]; exact s0
 have c1X:ClB ((((putCl (putCl W0 w2.heap.size (clList F)) (w2.heap.size+1) (clList F)).setCell ⟨w2.heap.size,26,none⟩ (.int .i64 7)).setCell ⟨w2.heap.size+1,25,none⟩ (.int .i64 4)).setCell ⟨w2.heap.size+1,26,none⟩ (.int .i64 2)) w2.heap.size (ex7 F):=clB_far (clB_far (c1.setOne (i:=26) (by omega) rfl) (by omega)) (by omega)
 have c2X:ClB ((((putCl (putCl W0 w2.heap.size (clList F)) (w2.heap.size+1) (clList F)).setCell ⟨w2.heap.size,26,none⟩ (.int .i64 7)).setCell ⟨w2.heap.size+1,25,none⟩ (.int .i64 4)).setCell ⟨w2.heap.size+1,26,none⟩ (.int .i64 2)) (w2.heap.size+1) (ex14 F):=((clB_far c2 (by omega)).setOne (i:=25) (c':=ex4 F) (by omega) rfl).setOne (i:=26) (by omega) rfl
 have bX:Below w.heap.size w ((((putCl (putCl W0 w2.heap.size (clList F)) (w2.heap.size+1) (clList F)).setCell ⟨w2.heap.size,26,none⟩ (.int .i64 7)).setCell ⟨w2.heap.size+1,25,none⟩ (.int .i64 4)).setCell ⟨w2.heap.size+1,26,none⟩ (.int .i64 2)):=below_set (below_set (below_set bP hw) (by omega)) (by omega)
 have sX:((((putCl (putCl W0 w2.heap.size (clList F)) (w2.heap.size+1) (clList F)).setCell ⟨w2.heap.size,26,none⟩ (.int .i64 7)).setCell ⟨w2.heap.size+1,25,none⟩ (.int .i64 4)).setCell ⟨w2.heap.size+1,26,none⟩ (.int .i64 2)).heap.size=w2.heap.size+1+1:=by rw [World.size_setCell,World.size_setCell,World.size_setCell]; exact sP
 have q1:=c1.at 26 rfl
 have q2:=c2.at 25 rfl
 have q3:=c2.at 26 rfl
 have f1:=there_fzP t1 26 (by omega)
 have f2:=there_fzP t2 25 (by omega)
 have f3:=there_fzP t2 26 (by omega)
 have l1:=c1X.ld
 have C1X:=hid c1X
 have C2X:=hid c2X
 have BX:=hid bX
 have SX:=hid sX
 clear c1 c2 t1 t2 bP sP b0 s0 h2 c1X c2X bX sX
 subst hW0
 go_wp2_with fail
 refine (cP.out _).mono ?_
 rintro e w3 ⟨rfl,hB3⟩
 have HB3:=hid (BX.out.trans (hB3.mono (by have:=SX.out; omega)))
 have C13:=hid (C1X.out.below hB3 (by have:=SX.out; omega))
 have C23:=hid (C2X.out.below hB3 (by have:=SX.out; omega))
 clear hB3 l1 q1 q2 q3 f1 f2 f3 h1 h2'
 have l1:=C13.out.ld
 have l2:=C23.out.ld
 go_wp2_with fail
 have hsl:Sl (w3.alloc (.cells (cls [ex7 F,ex14 F]).toArray 35)) (some ⟨w3.heap.size,0,none⟩) (cls [ex7 F,ex14 F]):=sl_range (range_new w3 (cls [ex7 F,ex14 F]) _) (by simp)
 refine (cL.out _ _ _ hsl).mono ?_
 rintro e w4 ⟨rfl,hB4⟩
 have HB4:=hid (HB3.out.trans ((below_new (Below.refl _ _) (zG _)).trans (hB4.mono (by simp)) |>.mono HB3.out.size))
 clear hB4 l1 l2 hsl
 go_wp2
 go_ret
 exact ⟨rfl,HB4.out⟩
end
end Go.Proofs.YthimhfmnikfgaaaGreatDoor
