/-
  clause.ordinal, feriaref13.Bits, feriaref13.ord: whether an Ord may be.
  clause.Full, feriaref13.Full and span.Whole.
  clause.May and feriaref13.May: whether a clause may be.
  A day's shape, number by number; what an Ord says of it.
  What tod.held, tod.from, tod.Next and feriaref07.In compute.
-/
import Derived.Test.YtkpgfmonhfnhdaaGreatDoorQ1af996
import Derived.Test.YtkpgfmonhfnhdaaGreatDoorQ594558
import Derived.Test.YtkpgfmonhfnhdaaGreatDoorQ74f80c
set_option maxRecDepth 100000
set_option maxHeartbeats 25600000
namespace Go.Proofs.YtkpgfmonhfnhdaaGreatDoor
set_option linter.unusedVariables false
section
open Go.RowKit
theorem ybC (m:Nat) (lo hi:Int) (w:World) (hm:m < 18446744073709551616):Calls Tryz.prog 46 #[.int .u64 m, .int .i64 lo, .int .i64 hi] w fun e w'=>e= .returned (.bool (ybc m lo hi))∧w=w':=by
 have c1:=hid (fun (k:Nat) W=>yds m k ▸ yc0 m k W hm)
 go_enter Tryz.func46,Tryz.ntmps46
 go_wp2
 go_loopw [7] (fun i wr=>∃k:Nat,i= .int .i64 k∧k≤64∧Hid (∀j,j < k→m.testBit j=true→lo≤(j:Int)∧(j:Int)≤hi)∧wr=w) (fun i _=>64 - (intOf i).toNat)
 case atStart=>exact ⟨0,rfl,by omega,fun j hj=>by omega,rfl⟩
 case round=>
  obtain ⟨k,rfl,hk,hI,rfl⟩:=hrel
  by_cases hlt:k < 64
  ·have d1:=hid (c1.out k wr)
   have hkI:(k:Int) < 64:=by omega
   have hr:Hid ((m.testBit k=true→¬(lo≤(k:Int)∧(k:Int)≤hi)→ybc m lo hi=false)):=fun h1 h2=>by
    cases hb:ybc m lo hi
    ·rfl
    ·exact absurd (bitsB_iff.mp hb k hlt h1) h2
   have hst:Hid ((m.testBit k=true→(lo≤(k:Int)∧(k:Int)≤hi))→∀j,j < k+1→m.testBit j=true→lo≤(j:Int)∧(j:Int)≤hi):=fun h j hj hb=>by
    by_cases e:j=k
    ·rw [e] at hb⊢; exact h hb
    ·exact hI.out j (by omega) hb
   cases hb:m.testBit k
   ·rw [hb] at d1
    have hst2:=hid (hst.out (fun h=>by rw [hb] at h; cases h))
    clear hst hr hb
    go_wp2_with fail
    refine d1.out.mono ?_
    rintro e w' ⟨rfl,rfl⟩
    go_wp2
    exact ⟨⟨k+1,by go_num,by omega,hst2.out,trivial⟩,by simp [intOf]; omega⟩
   ·rw [hb] at d1
    by_cases hlo:(k:Int) < lo
    ·have hr2:=hid (hr.out hb (by omega))
     clear hst hr hb
     go_wp2_with fail
     refine d1.out.mono ?_
     rintro e w' ⟨rfl,rfl⟩
     go_wp2
     go_ret
     exact ⟨by rw [hr2.out]; rfl,by trivial⟩
    ·by_cases hhi:hi < (k:Int)
     ·have hr2:=hid (hr.out hb (by omega))
      clear hst hr hb
      go_wp2_with fail
      refine d1.out.mono ?_
      rintro e w' ⟨rfl,rfl⟩
      go_wp2
      go_ret
      exact ⟨by rw [hr2.out]; rfl,by trivial⟩
     ·have hst2:=hid (hst.out (fun _=>⟨by omega,by omega⟩))
      clear hst hr hb
      go_wp2_with fail
      refine d1.out.mono ?_
      rintro e w' ⟨rfl,rfl⟩
      go_wp2
      exact ⟨⟨k+1,by go_num,by omega,hst2.out,trivial⟩,by simp [intOf]; omega⟩
  ·have hr:Hid (ybc m lo hi=true):=bitsB_iff.mpr (fun j hj hb=>hI.out j (by omega) hb)
   go_wp2
   go_ret
   exact ⟨by rw [hr.out]; rfl,by trivial⟩
def yb5 (od:Nat→Nat) (most:Int):Bool:=decide (od 0=0) && allR 8 (fun i=>ybc (od i) 1 most)
def ordB (oin:Int) (oback:Bool) (od:Nat→Nat):Bool:=
 if oin=0 then !oback && yb5 od 0 else if oin=1 then yb5 od 5 else if oin=2 then yb5 od 53 else false
theorem yhd (m:Nat) (hm:m < 18446744073709551616):ybc m 1 0=true↔m=0:=by
 rw [bitsB_iff]
 constructor
 ·intro h
  apply Nat.eq_of_testBit_eq
  intro i
  rw [Nat.zero_testBit]
  by_cases hi:i < 64
  ·cases hb:m.testBit i
   ·rfl
   ·have:=h i hi hb; omega
  ·exact ycd hm (by omega)
 ·rintro rfl k hk h; rw [Nat.zero_testBit] at h; cases h
theorem tail_none (od:Nat→Nat) (h:∀i,i < 8→od i < 18446744073709551616):yb5 od 0=true↔∀i,i < 8→od i=0:=by
 rw [yb5,zzX,zzY,allR_iff]
 constructor
 ·rintro ⟨_,h2⟩ i hi; exact (yhd _ (h i hi)).mp (h2 i hi)
 ·intro h2; exact ⟨h2 0 (by omega),fun i hi=>(yhd _ (h i hi)).mpr (h2 i hi)⟩
theorem yhG (s:Nat→Nat) (i:Nat) (h:i < 8) (W:World):(Instr.index 26 (.agg #[.int .u64 (s 0:Nat), .int .u64 (s 1:Nat), .int .u64 (s 2:Nat), .int .u64 (s 3:Nat), .int .u64 (s 4:Nat), .int .u64 (s 5:Nat), .int .u64 (s 6:Nat), .int .u64 (s 7:Nat)]) (.int .i64 i)).run Tryz.prog W= .ok (.int .u64 (s i:Nat)) W:=by
 obtain ⟨i0,hi0,hz0,hz1,hz2⟩:=info_parts yf9
 rcases ygj h with rfl | rfl | rfl | rfl | rfl | rfl | rfl | rfl
 all_goals
  simp [Instr.index,go_sem,part,sizeOf,typeInfo,hi0,hz1]
theorem ord_cell (w:World) (oin:Int) (oback:Bool) (od:Nat→Nat) (t:TypeId) (k:Nat) (hk:k < 8) :
  (w.alloc (.cells #[.int .i64 oin, .bool oback, .int .u64 (od 0:Nat), .int .u64 (od 1:Nat), .int .u64 (od 2:Nat), .int .u64 (od 3:Nat), .int .u64 (od 4:Nat), .int .u64 (od 5:Nat), .int .u64 (od 6:Nat), .int .u64 (od 7:Nat)] t)).cell? ⟨w.heap.size,2+k,none⟩=some (.int .u64 (od k:Nat)):=by
 rcases ygj hk with rfl | rfl | rfl | rfl | rfl | rfl | rfl | rfl <;> simp [go_sem]
theorem yi2 {p:Nat→Bool} {k:Nat} (h:∀j,j < k→p j=true) (hk:p k=true):∀j,j < k+1→p j=true:=fun j hj=>by
 by_cases e:j=k
 ·rw [e]; exact hk
 ·exact h j (by omega)
theorem allR_no {p:Nat→Bool} {n k:Nat} (hk:k < n) (h:¬p k=true):allR n p=false:=by
 cases hb:allR n p
 ·rfl
 ·exact absurd (allR_iff.mp hb k hk) h
theorem yjd {p:Nat→Bool} {n k:Nat} (hn:n≤k) (h:∀j,j < k→p j=true):allR n p=true:=allR_iff.mpr (fun i hi=>h i (by omega))
theorem form8 (od:Nat→Nat):(Value.agg #[.int .u64 (od 0:Nat), .int .u64 (od 1:Nat), .int .u64 (od 2:Nat), .int .u64 (od 3:Nat), .int .u64 (od 4:Nat), .int .u64 (od 5:Nat), .int .u64 (od 6:Nat), .int .u64 (od 7:Nat)]).formed Tryz.prog 26=true:=by
 unfold Value.formed; simp only [Tryz.underlying26,cells8]; rfl
theorem key8:Tryz.prog.keyTypeAt 2 26=true:=by kernel_rfl
theorem eqIn_8 (od:Nat→Nat) (h:∀i,i < 8→od i < 18446744073709551616) (W:World) :
  (Op.equalIn 9999 26 (.agg #[.int .u64 (od 0:Nat), .int .u64 (od 1:Nat), .int .u64 (od 2:Nat), .int .u64 (od 3:Nat), .int .u64 (od 4:Nat), .int .u64 (od 5:Nat), .int .u64 (od 6:Nat), .int .u64 (od 7:Nat)])
    (.agg #[.int .u64 0, .int .u64 0, .int .u64 0, .int .u64 0, .int .u64 0, .int .u64 0, .int .u64 0, .int .u64 0])).run Tryz.prog W= .ok (yb5 od 0) W:=by
 obtain ⟨r,hr,hi⟩:=run_equalIn_deep 9997 2 26 key8 W 3 3 _ _ _ _ (form8 od) (form8 (fun _=>0)) (yfu 1 od h) (yfu 1 (fun _=>0) (fun _ _=>by omega))
 have e:r=yb5 od 0:=by
  rw [zze,hi,tail_none od h,all8]
  simp only [List.cons.injEq,lit_int,Int.natCast_inj,and_true]
 rw [←e]
 exact hr
theorem yed (most o1:Int) (oback:Bool) (od:Nat→Nat) (w:World) (hmost:(most=5∧o1= (1:Int))∨(most=53∧o1=2)) (h:∀i,i < 8→od i < 18446744073709551616) :
  Calls Tryz.prog 42 #[ordv o1 oback od] w fun e w'=>e= .returned (.bool (yb5 od most))∧Below w.heap.size w w':=by
 have H:=hid h
 have ho0:=h 0 (by omega)
 clear h
 have c1:Hid (∀W,Calls Tryz.prog 80 #[.int .i64 1, .int .i64 most, .int .i64 1] W fun e w'=>e= .returned (.int .u64 (yaX 1 most 1:Nat))∧W=w'):=fun W=>ybM 1 most 1 W (by omega) (by omega)
 have hix:=hid (fun k hk W=>yhG od k hk W)
 have hB:Hid (Below w.heap.size w (w.alloc (Obj.cells (yeG o1 oback od).toArray 34))):=yaa (Below.refl _ _) (zG _)
 obtain ⟨W1,hW1⟩:∃W1,w.alloc (Obj.cells (yeG o1 oback od).toArray 34)=W1:=⟨_,rfl⟩
 have HW1:=hid hW1
 rw [hW1] at hB
 clear hW1
 by_cases hz:od 0=0
 ·have hzb:(((od 0:Nat):Int) != 0)=false:=by simp; omega
  obtain ⟨tb,htb⟩:∃tb:Nat→Bool,tb=fun i=>ybc (od i) 1 most:=⟨_,rfl⟩
  have hT:Hid (yb5 od most=allR 8 tb):=by show _ = _; rw [yb5,zzZ hz,zzo,htb]
  rw [hT.out]
  obtain ⟨V,hV⟩:∃V,Value.agg #[.int .u64 (od 0:Nat), .int .u64 (od 1:Nat), .int .u64 (od 2:Nat), .int .u64 (od 3:Nat), .int .u64 (od 4:Nat), .int .u64 (od 5:Nat), .int .u64 (od 6:Nat), .int .u64 (od 7:Nat)]=V:=⟨_,rfl⟩
  have HV:=hid hV
  rw [hV] at hix
  have Hzb:=hid hzb
  have hstep:Hid (∀k,(hk:k < 8)→∃q:Nat,bits .andNot .u64 ((od k:Nat):Int) ((yaX 1 most 1:Nat):Int)=q∧(q=0↔tb k=true)):=fun k hk=>
   ⟨yf6 (od k) (yaX 1 most 1),ybs (H.out k hk) (yao _),by rw [ygX,htb]⟩
  clear hT hz ho0 hV hzb htb
  rcases hmost with ⟨rfl,rfl⟩ | ⟨rfl,rfl⟩
  all_goals
   have hzb:=Hzb.out
   go_enter Tryz.func42,Tryz.ntmps42
   go_wp2_with fail
   rw [HV.out]
   clear hzb
   rw [HW1.out]
   go_loopw [23] (fun i wr=>∃k:Nat,i= .int .i64 k∧k≤8∧Hid (∀j,j < k→tb j=true)∧wr=W1) (fun i _=>8 - (intOf i).toNat)
   case atStart=>exact ⟨0,rfl,by omega,fun j hj=>by omega,rfl⟩
   case round=>
    obtain ⟨k,rfl,hk,hI,rfl⟩:=hrel
    by_cases hlt:k < 8
    ·have hix':=hix.out k hlt
     obtain ⟨q,hq1,hq2⟩:=hstep.out k hlt
     have hkI:(k:Int) < 8:=by omega
     by_cases h0:q=0
     ·have hI2:=hid (yi2 hI.out (hq2.mp h0))
      subst h0
      rw [Int.natCast_zero] at hq1
      have Hq2:=hid hq2
      clear hq2
      go_wp2_with fail
      refine (c1.out _).mono ?_
      rintro e w' ⟨rfl,rfl⟩
      go_wp2
      exact ⟨⟨k+1,by go_num,by omega,hI2.out,trivial⟩,by simp [intOf]; omega⟩
     ·have hno:=fun h=>h0 (hq2.mpr h)
      have hr:=hid (allR_no (p:=tb) hlt hno)
      clear hno
      have hbq:((q:Int) != 0)=true:=by simp; omega
      clear hq2 h0
      go_wp2_with fail
      refine (c1.out _).mono ?_
      rintro e w' ⟨rfl,rfl⟩
      go_wp2
      go_ret
      exact ⟨by rw [hr.out]; rfl,hB.out⟩
    ·have hr:=hid (yjd (n:=8) (show 8≤k by omega) hI.out)
     go_wp2
     go_ret
     exact ⟨by rw [hr.out]; rfl,hB.out⟩
 ·have hr:Hid (yb5 od most=false):=by show _ = _; rw [yb5,zzd hz,Bool.false_and]
  rw [hr.out]
  have hzb:(((od 0:Nat):Int) != 0)=true:=by simp; omega
  clear hz ho0
  rcases hmost with ⟨rfl,rfl⟩ | ⟨rfl,rfl⟩
  all_goals
   go_enter Tryz.func42,Tryz.ntmps42
   go_wp2
   go_ret
   rw [HW1.out]
   exact ⟨rfl,hB.out⟩
theorem yhy (oin:Int) (oback:Bool) (od:Nat→Nat) (w:World) (h0:i64B oin) (h:∀i,i < 8→od i < 18446744073709551616) :
  Calls Tryz.prog 42 #[ordv oin oback od] w fun e w'=>e= .returned (.bool (ordB oin oback od))∧Below w.heap.size w w':=by
 have hcase:oin=0∨oin=1∨oin=2∨(oin≠0∧oin≠1∧oin≠2):=by omega
 rcases hcase with rfl | rfl | rfl | ⟨n0,n1,n2⟩
 ·have heq:=fun W=>eqIn_8 od h W
  have hr:Hid (ordB 0 oback od= (!oback && yb5 od 0)):=rfl
  rw [hr.out]
  obtain ⟨r,hrr⟩:∃r,yb5 od 0=r:=⟨_,rfl⟩
  rw [hrr] at heq⊢
  clear hrr h hr
  cases r <;> cases oback
  all_goals
   go_enter Tryz.func42,Tryz.ntmps42
   go_wp2
   go_ret
   exact ⟨by first | rfl | exact yaT (by simp),yaa (Below.refl _ _) (zG _)⟩
 ·exact yed 5 1 oback od w (.inl ⟨rfl,rfl⟩) h
 ·exact yed 53 2 oback od w (.inr ⟨rfl,rfl⟩) h
 ·have hr:Hid (ordB oin oback od=false):=by show _ = _; rw [ordB,if_neg n0,if_neg n1,if_neg n2]
  have b0:(oin == 0)=false:=by simpa using n0
  have b1:(oin == 1)=false:=by simpa using n1
  have b2:(oin == 2)=false:=by simpa using n2
  rw [hr.out]
  clear h n0 n1 n2
  go_enter Tryz.func42,Tryz.ntmps42
  go_wp2
  go_ret
  exact ⟨rfl,yaa (Below.refl _ _) (zG _)⟩
theorem tail_doc (od:Nat→Nat) (most:Int) (h0:od 0=0):yb5 od most=allR 8 (fun i=>i == 0 || ybc (od i) 1 most):=by
 rw [yb5,zzZ h0,zzo,zze,allR_iff,allR_iff]
 refine forall_congr' fun i=>forall_congr' fun hi=>?_
 by_cases e:i=0
 ·subst e
  rw [h0]
  simp only [beq_self_eq_true,Bool.true_or,iff_true]
  rw [bitsB_iff]
  intro k _ hk; rw [Nat.zero_testBit] at hk; cases hk
 ·simp [e]
theorem ycL (most o1:Int) (oback:Bool) (od:Nat→Nat) (w:World) (hmost:(most=5∧o1= (1:Int))∨(most=53∧o1=2)∨(most=0∧o1=0∧oback=false)) (h:∀i,i < 8→od i < 18446744073709551616) :
  Calls Tryz.prog 47 #[ordv o1 oback od] w fun e w'=>e= .returned (.bool (yb5 od most))∧Below w.heap.size w w':=by
 have H:=hid h
 have ho0:=h 0 (by omega)
 clear h
 have c1:=hid (fun k (hk:k < 8) W=>ybC (od k) 1 most W (H.out k hk))
 have hB:Hid (Below w.heap.size w (w.alloc (Obj.cells (yeG o1 oback od).toArray 34))):=yaa (Below.refl _ _) (zG _)
 have hce:=hid (fun k hk=>ord_cell w o1 oback od 34 k hk)
 obtain ⟨W1,hW1⟩:∃W1,w.alloc (Obj.cells (yeG o1 oback od).toArray 34)=W1:=⟨_,rfl⟩
 have HW1:=hid hW1
 rw [hW1] at hB
 have hce1:Hid (∀k,k < 8→W1.cell? ⟨w.heap.size,2+k,none⟩=some (.int .u64 (od k:Nat))):=fun k hk=>by rw [←hW1]; exact hce.out k hk
 clear hW1 hce
 by_cases hz:od 0=0
 ·have hzb:(((od 0:Nat):Int) != 0)=false:=by simp; omega
  rw [tail_doc od most hz]
  obtain ⟨tb,htb⟩:∃tb:Nat→Bool,tb=fun i=>ybc (od i) 1 most:=⟨_,rfl⟩
  have c1':Hid (∀k,k < 8→∀W,Calls Tryz.prog 46 #[.int .u64 (od k:Nat), .int .i64 1, .int .i64 most] W fun e w'=>e= .returned (.bool (tb k))∧W=w'):=by rw [htb]; exact c1.out
  rw [show (fun i=>i == 0 || ybc (od i) 1 most)=fun i=>i == 0 || tb i by rw [htb]]
  have Hzb:=hid hzb
  clear hz ho0 hzb htb c1
  rcases hmost with ⟨rfl,rfl⟩ | ⟨rfl,rfl⟩ | ⟨rfl,rfl,rfl⟩
  all_goals
   have hzb:=Hzb.out
   go_enter Tryz.func47,Tryz.ntmps47
   go_wp2_with fail
   rw [HW1.out]
   clear hzb
   go_loopw [4] (fun i wr=>∃k:Nat,i= .int .i64 k∧1≤k∧k≤8∧Hid (∀j,j < k→(j == 0 || tb j)=true)∧wr=W1) (fun i _=>8 - (intOf i).toNat)
   case atStart=>exact ⟨1,rfl,by omega,by omega,fun j hj=>by
    obtain rfl:j=0:=by omega
    rfl,rfl⟩
   case round=>
    obtain ⟨k,rfl,hk1,hk,hI,rfl⟩:=hrel
    by_cases hlt:k < 8
    ·have e1:=hce1.out k hlt
     have d1:=hid (c1'.out k hlt wr)
     have hkI:(k:Int) < 8:=by omega
     have hk0:Hid ((k == 0)=false):=by show _ = _; simp; omega
     cases hb:tb k
     ·rw [hb] at d1
      have hno:¬(k == 0 || tb k)=true:=by rw [hk0.out,hb]; simp
      have hr:=hid (allR_no (p:=fun j=>j == 0 || tb j) hlt hno)
      clear hno hb
      go_wp2_with fail
      refine d1.out.mono ?_
      rintro e w' ⟨rfl,rfl⟩
      go_wp2
      go_ret
      exact ⟨by rw [hr.out]; rfl,hB.out⟩
     ·rw [hb] at d1
      have hyes:(k == 0 || tb k)=true:=by rw [hb]; simp
      have hI2:=hid (yi2 (p:=fun j=>j == 0 || tb j) hI.out hyes)
      clear hyes hb
      go_wp2_with fail
      refine d1.out.mono ?_
      rintro e w' ⟨rfl,rfl⟩
      go_wp2
      exact ⟨⟨k+1,by go_num,by omega,by omega,hI2.out,trivial⟩,by simp [intOf]; omega⟩
    ·have hr:=hid (yjd (n:=8) (show 8≤k by omega) hI.out)
     go_wp2
     go_ret
     exact ⟨by rw [hr.out]; rfl,hB.out⟩
 ·have hr:Hid (yb5 od most=false):=by show _ = _; rw [yb5,zzd hz,Bool.false_and]
  rw [hr.out]
  have hzb:(((od 0:Nat):Int) != 0)=true:=by simp; omega
  clear hz ho0
  rcases hmost with ⟨rfl,rfl⟩ | ⟨rfl,rfl⟩ | ⟨rfl,rfl,rfl⟩
  all_goals
   go_enter Tryz.func47,Tryz.ntmps47
   go_wp2
   go_ret
   rw [HW1.out]
   exact ⟨rfl,hB.out⟩
theorem yke (oin:Int) (oback:Bool) (od:Nat→Nat) (w:World) (h0:i64B oin) (h:∀i,i < 8→od i < 18446744073709551616) :
  Calls Tryz.prog 47 #[ordv oin oback od] w fun e w'=>e= .returned (.bool (ordB oin oback od))∧Below w.heap.size w w':=by
 have hcase:oin=0∨oin=1∨oin=2∨oin < 0∨2 < oin:=by omega
 rcases hcase with rfl | rfl | rfl | hn | hn
 ·cases oback
  ·rw [show ordB 0 false od=yb5 od 0 from rfl]
   exact ycL 0 0 false od w (.inr (.inr ⟨rfl,rfl,rfl⟩)) h
  ·rw [show ordB 0 true od=false from rfl]
   go_enter Tryz.func47,Tryz.ntmps47
   go_wp2
   go_ret
   exact ⟨rfl,yaa (Below.refl _ _) (zG _)⟩
 ·exact ycL 5 1 oback od w (.inl ⟨rfl,rfl⟩) h
 ·exact ycL 53 2 oback od w (.inr (.inl ⟨rfl,rfl⟩)) h
 ·have hr:Hid (ordB oin oback od=false):=by show _ = _; rw [ordB,if_neg (by omega),if_neg (by omega),if_neg (by omega)]
  rw [hr.out]
  clear h
  have b0:(oin == 0)=false:=by simp; omega
  have b2:(oin == 2)=false:=by simp; omega
  go_enter Tryz.func47,Tryz.ntmps47
  go_wp2
  go_ret
  exact ⟨rfl,yaa (Below.refl _ _) (zG _)⟩
 ·have hr:Hid (ordB oin oback od=false):=by show _ = _; rw [ordB,if_neg (by omega),if_neg (by omega),if_neg (by omega)]
  rw [hr.out]
  clear h
  have b0:(oin == 0)=false:=by simp; omega
  have b2:(oin == 2)=false:=by simp; omega
  have b3:¬oin < 0:=by omega
  go_enter Tryz.func47,Tryz.ntmps47
  go_wp2
  go_ret
  exact ⟨rfl,yaa (Below.refl _ _) (zG _)⟩
end
section
open Go.RowKit
theorem yhh (w:World):Calls Tryz.prog 81 #[] w fun e w'=>e= .returned (.agg #[.int .i64 0, .int .i64 12622780799])∧Below w.heap.size w w':=by
 go_enter Tryz.func81,Tryz.ntmps81
 go_wp2
 refine bodyPost_ret (yae rfl _ _ w.heap.size 0 _ _ rfl (yaG w _ _) Tryz.underlying147 rfl (by kernel_rfl)) rfl ⟨rfl,yaa (Below.refl _ _) (zG _)⟩
def ybK (i:Nat):Nat:=if i < 2 then yaX 0 59 1 else if i=2 then yaX 0 23 1 else if i=3 then yaX 1 12 1 else if i=6 then yaX 1 7 1 else yaX 1 31 1
def fullCl:Cl:={m:=ybK,or:=false,oin:=0,oback:=false,od:=fun _=>0,ys:=ycq,unit:=0,step:=1,anchor:=0,fr:=0,un:=12622780799}
theorem yiP:(Tryz.prog.info? 36).map (·.size)=some 30:=by kernel_rfl
theorem store_cl (W:World) (b:Nat) (cs:List Value) (hl:cs.length=30) (h1:cs.all (·.oneCell')=true) (ht:W.there b 0 30) :
  (Instr.storeAt 36 (.pointer (some ⟨b,0,none⟩)) (.agg cs.toArray)).run Tryz.prog W= .ok () (W.setCells b 0 cs):=by
 have:=run_storeAt_mid (P:=Tryz.prog) W b 0 36 cs.toArray (by rw [List.size_toArray,hl]; exact ht) (by rw [List.size_toArray,hl]; exact yiP) (by simpa using h1)
 exact this
def yb1 (W:World) (b:Nat) (cs:List Value):World:=W.setCells b 0 cs
def yiw (v u:Value):Sem Unit:=Instr.storeAt 36 v u
theorem ya8 (v u:Value):Instr.storeAt 36 v u=yiw v u:=rfl
theorem yaJ (W:World) (b:Nat) (x0 x1 x2 x3 x4 x5 x6 oi d0 d1 d2 d3 d4 d5 d6 d7 y0 y1 y2 y3 y4 y5 y6 u st an fr un:Int) (o ob:Bool) (ht:W.there b 0 30) :
  (yiw (.pointer (some ⟨b,0,none⟩)) (.agg #[.int .u64 x0, .int .u64 x1, .int .u64 x2, .int .u64 x3, .int .u64 x4, .int .u64 x5, .int .u64 x6, .bool o, .int .i64 oi, .bool ob, .int .u64 d0, .int .u64 d1, .int .u64 d2, .int .u64 d3, .int .u64 d4, .int .u64 d5, .int .u64 d6, .int .u64 d7, .int .u64 y0, .int .u64 y1, .int .u64 y2, .int .u64 y3, .int .u64 y4, .int .u64 y5, .int .u64 y6, .int .i64 u, .int .i64 st, .int .i64 an, .int .i64 fr, .int .i64 un])).run Tryz.prog W= .ok () (yb1 W b [.int .u64 x0, .int .u64 x1, .int .u64 x2, .int .u64 x3, .int .u64 x4, .int .u64 x5, .int .u64 x6, .bool o, .int .i64 oi, .bool ob, .int .u64 d0, .int .u64 d1, .int .u64 d2, .int .u64 d3, .int .u64 d4, .int .u64 d5, .int .u64 d6, .int .u64 d7, .int .u64 y0, .int .u64 y1, .int .u64 y2, .int .u64 y3, .int .u64 y4, .int .u64 y5, .int .u64 y6, .int .i64 u, .int .i64 st, .int .i64 an, .int .i64 fr, .int .i64 un]):=
 store_cl W b [.int .u64 x0, .int .u64 x1, .int .u64 x2, .int .u64 x3, .int .u64 x4, .int .u64 x5, .int .u64 x6, .bool o, .int .i64 oi, .bool ob, .int .u64 d0, .int .u64 d1, .int .u64 d2, .int .u64 d3, .int .u64 d4, .int .u64 d5, .int .u64 d6, .int .u64 d7, .int .u64 y0, .int .u64 y1, .int .u64 y2, .int .u64 y3, .int .u64 y4, .int .u64 y5, .int .u64 y6, .int .i64 u, .int .i64 st, .int .i64 an, .int .i64 fr, .int .i64 un] rfl rfl ht
attribute [local go_sem ↓] ya8
attribute [local go_sem] yaJ
abbrev FuS (w:World) (b3:Nat) (W:World):Prop:=
 W.there w.heap.size 0 30∧W.cell? ⟨b3,0,none⟩=some (.int .i64 0)∧W.cell? ⟨b3,1,none⟩=some (.int .i64 12622780799)∧Below w.heap.size w W∧(w.heap.size < W.heap.size∧b3 < W.heap.size)
theorem FuS.keep {w W W':World} {b3:Nat} (h:FuS w b3 W) (hb:Below W.heap.size W W'):FuS w b3 W':=by
 obtain ⟨h1,h2,h3,h4,h5,h6⟩:=h
 exact ⟨yc4 h1 hb h5,(hb.cell (p:=⟨b3,0,none⟩) h6).trans h2,(hb.cell (p:=⟨b3,1,none⟩) h6).trans h3,h4.trans (hb.mono (by omega)),zH h5 hb.size,zH h6 hb.size⟩
theorem FuS.put {w W:World} {b3:Nat} (h:FuS w b3 W) (hne:b3≠w.heap.size) (cs:List Value):FuS w b3 (yb1 W w.heap.size cs):=by
 obtain ⟨h1,h2,h3,h4,h5,h6⟩:=h
 have hb:=yax (zG w.heap.size) cs 0 W h4
 have hsz:W.heap.size≤(W.setCells w.heap.size 0 cs).heap.size:=(World.keptBut_setCells w.heap.size (may:=fun _=>True) cs 0 W (fun _ _=>trivial)).size
 exact ⟨World.there_setCells h1 _ _ _,by rw [yb1,World.cell?_setCells_out _ _ _ _ _ (fun e=>absurd e hne)]; exact h2,by rw [yb1,World.cell?_setCells_out _ _ _ _ _ (fun e=>absurd e hne)]; exact h3,hb,zH h5 hsz,zH h6 hsz⟩
theorem ybp {W:World} {b:Nat} (cs:List Value) (hl:cs.length=30) (h:W.there b 0 30):(yb1 W b cs).rangeAt b 0 cs:=World.rangeAt_setCells_same _ _ _ _ (by rw [hl]; exact h)
theorem ybq {B:Nat} {a W:World} {b:Nat} (h:Below B a W) (hb:B≤b) (cs:List Value):Below B a (yb1 W b cs):=yax hb cs 0 W h
theorem yjn (w:World):Calls Tryz.prog 37 #[] w fun e w'=>e= .returned (clv fullCl)∧Below w.heap.size w w':=by
 have c0:=hid (fun W=>yhh W)
 have c1:Hid (∀W,Calls Tryz.prog 80 #[.int .i64 0, .int .i64 59, .int .i64 1] W fun e w'=>e= .returned (.int .u64 (ybK 0:Nat))∧W=w'):=fun W=>ybM 0 59 1 W (by omega) (by omega)
 have c2:Hid (∀W,Calls Tryz.prog 80 #[.int .i64 1, .int .i64 31, .int .i64 1] W fun e w'=>e= .returned (.int .u64 (ybK 4:Nat))∧W=w'):=fun W=>ybM 1 31 1 W (by omega) (by omega)
 have c3:Hid (∀W,Calls Tryz.prog 80 #[.int .i64 0, .int .i64 23, .int .i64 1] W fun e w'=>e= .returned (.int .u64 (ybK 2:Nat))∧W=w'):=fun W=>ybM 0 23 1 W (by omega) (by omega)
 have c4:Hid (∀W,Calls Tryz.prog 80 #[.int .i64 1, .int .i64 12, .int .i64 1] W fun e w'=>e= .returned (.int .u64 (ybK 3:Nat))∧W=w'):=fun W=>ybM 1 12 1 W (by omega) (by omega)
 have c5:Hid (∀W,Calls Tryz.prog 80 #[.int .i64 1, .int .i64 7, .int .i64 1] W fun e w'=>e= .returned (.int .u64 (ybK 6:Nat))∧W=w'):=fun W=>ybM 1 7 1 W (by omega) (by omega)
 have c6:=hid (fun W=>yhk W)
 go_enter Tryz.func37,Tryz.ntmps37
 go_wp2_with fail
 refine (c1.out _).mono ?_
 rintro e w' ⟨rfl,rfl⟩
 go_wp2_with fail
 refine (c2.out _).mono ?_
 rintro e w' ⟨rfl,rfl⟩
 go_wp2_with fail
 refine (c0.out _).mono ?_
 rintro e w1 ⟨rfl,hB1⟩
 have hth:((w.alloc (.cells ((List.replicate 7 (Value.int .u64 0)) ++ [Value.bool false, .int .i64 0, .bool false] ++ (List.replicate 15 (Value.int .u64 0)) ++ (List.replicate 5 (Value.int .i64 0))).toArray 36)).there w.heap.size 0 30):=yb4 w _ _
 have hth1:=yc4 hth hB1 (by simp)
 have HB1:Hid (Below w.heap.size w w1):=(yaa (Below.refl _ _) (zG _)).trans (hB1.mono (by simp))
 have hs1:w.heap.size < w1.heap.size:=by have:=hB1.size; simp at this; omega
 have hn:=yaa (o:= .cells #[.int .i64 0, .int .i64 12622780799] 147) (Below.refl w1.heap.size w1) (zG _)
 have HS0:Hid (FuS w w1.heap.size (w1.alloc (.cells #[.int .i64 0, .int .i64 12622780799] 147)).drew):=
  ⟨yc4 hth1 hn.drew hs1,by show (w1.alloc _).cell? _ = _; simp [go_sem],by show (w1.alloc _).cell? _ = _; simp [go_sem],HB1.out.trans (hn.drew.mono (by omega)),by show _ < (w1.alloc _).heap.size; simp; omega,by show _ < (w1.alloc _).heap.size; simp⟩
 have d3:=hid (fun W (h:FuS w w1.heap.size W)=>ybI (yb8 (c3.out W)) (fun _=>h.keep))
 have d4:=hid (fun W (h:FuS w w1.heap.size W)=>ybI (yb8 (c4.out W)) (fun _=>h.keep))
 have d5:=hid (fun W (h:FuS w w1.heap.size W)=>ybI (yb8 (c5.out W)) (fun _=>h.keep))
 have d6:=hid (fun W (h:FuS w w1.heap.size W)=>ybI (c6.out W) (fun _=>h.keep))
 have hne3:w1.heap.size≠w.heap.size:=by omega
 clear hth hth1 hB1 hn
 go_wp2_with fail
 go_region_held3 (fun w'=>FuS w w1.heap.size w') (first | with_reducible exact HS0.out | with_reducible assumption | (refine FuS.put (by assumption) hne3 _))
  (first
    | (go_at_call 80; (first | with_reducible refine (d3.out _ (by assumption)).mono ?_ | with_reducible refine (d4.out _ (by assumption)).mono ?_ | with_reducible refine (d5.out _ (by assumption)).mono ?_); rintro e w' ⟨rfl,hS⟩)
    | (go_at_call 82; refine (d6.out _ (by assumption)).mono ?_; rintro e w' ⟨rfl,hS⟩))
 go_wp2
 refine bodyPost_ret (yae rfl _ _ w.heap.size 0 _ _ rfl (ybp _ rfl hS.1) Tryz.underlying36 rfl yiP) rfl ⟨rfl,ybq hS.2.2.2.1 (zG _) _⟩
end
section
open Go.RowKit
def yb9 (m:Nat→Nat):Bool:=ybc (m 0) 0 59 && (ybc (m 1) 0 59 && (ybc (m 2) 0 23 && (ybc (m 3) 1 12 && (ybc (m 4) 1 31 && (ybc (m 5) 1 31 && ybc (m 6) 1 7)))))
def mayC (c:Cl):Bool:=yb9 c.m && (ordB c.oin c.oback c.od && (eqW (inW c.ys) c.ys && (unB c.unit && (decide (1≤c.step) && winB c.anchor))))
theorem yhB (m:Nat→Nat):ybZ [(m 0,ybK 0),(m 1,ybK 1),(m 2,ybK 2),(m 3,ybK 3),(m 4,ybK 4),(m 5,ybK 5),(m 6,ybK 6)]=yb9 m:=by
 have e:∀x lo hi,(yf6 x (yaX lo hi 1) == 0)=ybc x lo hi:=fun x lo hi=>by
  rw [zze,beq_iff_eq,ygX]
 have f0:ybK 0=yaX 0 59 1:=rfl
 have f1:ybK 1=yaX 0 59 1:=rfl
 have f2:ybK 2=yaX 0 23 1:=rfl
 have f3:ybK 3=yaX 1 12 1:=rfl
 have f4:ybK 4=yaX 1 31 1:=rfl
 have f5:ybK 5=yaX 1 31 1:=rfl
 have f6:ybK 6=yaX 1 7 1:=rfl
 simp only [ybZ,List.all_cons,List.all_nil,Bool.and_true,yb9,f0,f1,f2,f3,f4,f5,f6,e]
abbrev nameL:List Value:= [.string {data:=#[83,69,67,79,78,68,76,89]}, .string {data:=#[77,73,78,85,84,69,76,89]}, .string {data:=#[72,79,85,82,76,89]}, .string {data:=#[68,65,73,76,89]}, .string {data:=#[87,69,69,75,76,89]}, .string {data:=#[77,79,78,84,72,76,89]}, .string {data:=#[89,69,65,82,76,89]}]
theorem Names_any (w:World):Calls Tryz.prog 90 #[] w fun e w'=>e= .returned (.agg nameL.toArray)∧Below w.heap.size w w':=by
 go_enter Tryz.func90,Tryz.ntmps90
 go_wp2
 refine bodyPost_ret (yae rfl _ _ w.heap.size 0 _ _ rfl (yaG w _ _) Tryz.underlying165 rfl (by kernel_rfl)) rfl ⟨rfl,yaa (Below.refl _ _) (zG _)⟩
theorem infoStr:(Tryz.prog.info? 9).map (fun i=>(i.zero,i.size,i.bytes))=some (some (.string {data:=#[]}),1,16):=by kernel_rfl
theorem yeA (V:Value) (hV:V= .agg nameL.toArray) (W:World):(Instr.index 165 V (.int .i64 0)).run Tryz.prog W= .ok (.string {data:=#[83,69,67,79,78,68,76,89]}) W∧(Instr.index 165 V (.int .i64 1)).run Tryz.prog W= .ok (.string {data:=#[77,73,78,85,84,69,76,89]}) W∧(Instr.index 165 V (.int .i64 2)).run Tryz.prog W= .ok (.string {data:=#[72,79,85,82,76,89]}) W∧(Instr.index 165 V (.int .i64 3)).run Tryz.prog W= .ok (.string {data:=#[68,65,73,76,89]}) W∧(Instr.index 165 V (.int .i64 4)).run Tryz.prog W= .ok (.string {data:=#[87,69,69,75,76,89]}) W∧(Instr.index 165 V (.int .i64 5)).run Tryz.prog W= .ok (.string {data:=#[77,79,78,84,72,76,89]}) W∧(Instr.index 165 V (.int .i64 6)).run Tryz.prog W= .ok (.string {data:=#[89,69,65,82,76,89]}) W:=by
 obtain ⟨i0,hi0,hz0,hz1,hz2⟩:=info_parts infoStr
 rw [hV]
 refine ⟨?_,?_,?_,?_,?_,?_,?_⟩ <;> simp [Instr.index,go_sem,part,sizeOf,typeInfo,hi0,hz1]
theorem Name_any (u:Int) (w:World):Calls Tryz.prog 44 #[.int .i64 u] w fun e w'=>(∃s:ByteArray,e= .returned (.string s)∧(s.toList == [])= !unB u)∧Below w.heap.size w w':=by
 obtain ⟨V,hV⟩:∃V:Value,V= .agg nameL.toArray:=⟨_,rfl⟩
 have c1:Hid (∀W,Calls Tryz.prog 90 #[] W fun e w'=>e= .returned V∧Below W.heap.size W w'):=fun W=>by rw [hV]; exact Names_any W
 have hix:=hid (fun W=>yeA V hV W)
 clear hV
 rcases yeq u with ⟨e,h0,h1⟩ | ⟨e,h⟩
 ·rw [e]
  have hcase:u=0∨u=1∨u=2∨u=3∨u=4∨u=5∨u=6:=by omega
  clear e h0 h1
  rcases hcase with rfl | rfl | rfl | rfl | rfl | rfl | rfl
  all_goals
   go_enter Tryz.func44,Tryz.ntmps44
   go_wp2_with fail
   refine (c1.out _).mono ?_
   rintro e w1 ⟨rfl,hB1⟩
   have HB1:=hid hB1
   obtain ⟨i0,i1,i2,i3,i4,i5,i6⟩:=hix.out w1
   clear hB1
   go_wp2
   go_ret
   exact ⟨⟨_,rfl,by kernel_rfl⟩,HB1.out⟩
 ·rw [e]
  clear e
  rcases h with h | h
  ·go_enter Tryz.func44,Tryz.ntmps44
   go_wp2
   go_ret
   exact ⟨⟨_,rfl,by kernel_rfl⟩,Below.refl _ _⟩
  ·have h0:¬u < 0:=by omega
   have h7:7≤u:=by omega
   go_enter Tryz.func44,Tryz.ntmps44
   go_wp2
   go_ret
   exact ⟨⟨_,rfl,by kernel_rfl⟩,Below.refl _ _⟩
def ClB (W:World) (b:Nat) (c:Cl):Prop:=W.rangeAt b 0 (yad c)
theorem ClB.below {W W':World} {b B:Nat} {c:Cl} (h:ClB W b c) (hb:Below B W W') (hB:b < B):ClB W' b c:=fun j v hv=>(hb.cell (p:=⟨b,0+j,none⟩) hB).trans (h j v hv)
theorem ycG (w:World) (c:Cl) (t:TypeId):ClB (w.alloc (.cells (yad c).toArray t)) w.heap.size c:=yaG w _ _
theorem ClB.at {W:World} {b:Nat} {c:Cl} (h:ClB W b c) (j:Nat) {v:Value} (hv:(yad c)[j]? =some v):W.cell? ⟨b,j,none⟩=some v:=by
 have:=h j v hv
 rwa [zzn] at this
theorem ClB.masks {W:World} {b:Nat} {c:Cl} (h:ClB W b c):W.cell? ⟨b,0,none⟩=some (.int .u64 (c.m 0:Nat))∧W.cell? ⟨b,1,none⟩=some (.int .u64 (c.m 1:Nat))∧W.cell? ⟨b,2,none⟩=some (.int .u64 (c.m 2:Nat))∧
  W.cell? ⟨b,3,none⟩=some (.int .u64 (c.m 3:Nat))∧W.cell? ⟨b,4,none⟩=some (.int .u64 (c.m 4:Nat))∧W.cell? ⟨b,5,none⟩=some (.int .u64 (c.m 5:Nat))∧W.cell? ⟨b,6,none⟩=some (.int .u64 (c.m 6:Nat)):=
 ⟨h.at 0 rfl,h.at 1 rfl,h.at 2 rfl,h.at 3 rfl,h.at 4 rfl,h.at 5 rfl,h.at 6 rfl⟩
theorem ClB.ord {W:World} {b:Nat} {c:Cl} (h:ClB W b c):W.cell? ⟨b,8,none⟩=some (.int .i64 c.oin)∧W.cell? ⟨b,9,none⟩=some (.bool c.oback)∧W.cell? ⟨b,10,none⟩=some (.int .u64 (c.od 0:Nat))∧W.cell? ⟨b,11,none⟩=some (.int .u64 (c.od 1:Nat))∧
  W.cell? ⟨b,12,none⟩=some (.int .u64 (c.od 2:Nat))∧W.cell? ⟨b,13,none⟩=some (.int .u64 (c.od 3:Nat))∧W.cell? ⟨b,14,none⟩=some (.int .u64 (c.od 4:Nat))∧W.cell? ⟨b,15,none⟩=some (.int .u64 (c.od 5:Nat))∧
  W.cell? ⟨b,16,none⟩=some (.int .u64 (c.od 6:Nat))∧W.cell? ⟨b,17,none⟩=some (.int .u64 (c.od 7:Nat)):=
 ⟨h.at 8 rfl,h.at 9 rfl,h.at 10 rfl,h.at 11 rfl,h.at 12 rfl,h.at 13 rfl,h.at 14 rfl,h.at 15 rfl,h.at 16 rfl,h.at 17 rfl⟩
theorem ClB.years {W:World} {b:Nat} {c:Cl} (h:ClB W b c):W.cell? ⟨b,18,none⟩=some (.int .u64 (c.ys 0:Nat))∧W.cell? ⟨b,19,none⟩=some (.int .u64 (c.ys 1:Nat))∧W.cell? ⟨b,20,none⟩=some (.int .u64 (c.ys 2:Nat))∧W.cell? ⟨b,21,none⟩=some (.int .u64 (c.ys 3:Nat))∧
  W.cell? ⟨b,22,none⟩=some (.int .u64 (c.ys 4:Nat))∧W.cell? ⟨b,23,none⟩=some (.int .u64 (c.ys 5:Nat))∧W.cell? ⟨b,24,none⟩=some (.int .u64 (c.ys 6:Nat)):=
 ⟨h.at 18 rfl,h.at 19 rfl,h.at 20 rfl,h.at 21 rfl,h.at 22 rfl,h.at 23 rfl,h.at 24 rfl⟩
theorem ClB.tail {W:World} {b:Nat} {c:Cl} (h:ClB W b c):W.cell? ⟨b,25,none⟩=some (.int .i64 c.unit)∧W.cell? ⟨b,26,none⟩=some (.int .i64 c.step)∧W.cell? ⟨b,27,none⟩=some (.int .i64 c.anchor)∧W.cell? ⟨b,28,none⟩=some (.int .i64 c.fr)∧W.cell? ⟨b,29,none⟩=some (.int .i64 c.un):=
 ⟨h.at 25 rfl,h.at 26 rfl,h.at 27 rfl,h.at 28 rfl,h.at 29 rfl⟩
theorem ydj {W:World} {b:Nat} {cs:List Value} (h:W.rangeAt b 0 cs) (hb:b < W.heap.size):Sl W (some ⟨b,0,none⟩) cs:= .inr ⟨b,0,rfl,hb,fun j hj=>h j _ (zzp hj)⟩
attribute [local go_sem ↓] ya8
attribute [local go_sem] yaJ
abbrev zL:List Value:= [.int .u64 0, .int .u64 0, .int .u64 0, .int .u64 0, .int .u64 0, .int .u64 0, .int .u64 0, .bool false, .int .i64 0, .bool false, .int .u64 0, .int .u64 0, .int .u64 0, .int .u64 0, .int .u64 0, .int .u64 0, .int .u64 0, .int .u64 0, .int .u64 0, .int .u64 0, .int .u64 0, .int .u64 0, .int .u64 0, .int .u64 0, .int .u64 0, .int .i64 0, .int .i64 0, .int .i64 0, .int .i64 0, .int .i64 0]
theorem yd5 (c:Cl) (w:World) (hc:c.Ok):Calls Tryz.prog 13 #[clv c] w fun e w'=>e= .returned (.bool (mayC c))∧Below w.heap.size w w':=by
 have c0:=hid (fun W=>yjn W)
 obtain ⟨F,hF⟩:∃F,fullCl=F:=⟨_,rfl⟩
 have HF:Hid (∀i,F.m i=ybK i):=fun i=>by rw [←hF]; rfl
 rw [hF] at c0
 clear hF
 have hC:=hid (ycG w c 36)
 have hB0:Hid (Below w.heap.size w (w.alloc (.cells (yad c).toArray 36))):=yaa (Below.refl _ _) (zG _)
 have cO:=hid (fun W=>yhy c.oin c.oback c.od W hc.oin hc.od)
 have cY:=hid (fun W=>WMay_any c.ys W hc.ys)
 have cN:=hid (fun W=>Name_any c.unit W)
 have cM:=hid (fun W=>yic c.anchor W)
 have hres:Hid (mayC c= (yb9 c.m && (ordB c.oin c.oback c.od && (eqW (inW c.ys) c.ys && (unB c.unit && (decide (1≤c.step) && winB c.anchor)))))):=rfl
 rw [hres.out]
 obtain ⟨b1,hb1⟩:∃b,yb9 c.m=b:=⟨_,rfl⟩
 obtain ⟨b2,hb2⟩:∃b,ordB c.oin c.oback c.od=b:=⟨_,rfl⟩
 obtain ⟨b3,hb3⟩:∃b,eqW (inW c.ys) c.ys=b:=⟨_,rfl⟩
 obtain ⟨b4,hb4⟩:∃b,unB c.unit=b:=⟨_,rfl⟩
 obtain ⟨b6,hb6⟩:∃b,winB c.anchor=b:=⟨_,rfl⟩
 obtain ⟨b5,hb5⟩:∃b,decide (1≤c.step)=b:=⟨_,rfl⟩
 rw [hb1]
 have Hb1:=hid hb1
 rw [hb2] at cO⊢
 rw [hb3] at cY⊢
 rw [hb4] at cN⊢
 rw [hb6] at cM⊢
 rw [hb5]
 have Hb5:=hid hb5
 clear hb1 hb2 hb3 hb4 hb5 hb6 hres
 go_enter Tryz.func13,Tryz.ntmps13
 go_wp2_with fail
 refine (c0.out _).mono ?_
 rintro e w1 ⟨rfl,hB1⟩
 have hC1:=hC.out.below hB1 (by simp)
 have HB1:Hid (Below w.heap.size w w1):=hB0.out.trans (hB1.mono (by simp))
 have hs1:w.heap.size < w1.heap.size:=by have:=hB1.size; simp at this; omega
 clear hB1
 have hth:(w1.alloc (.cells zL.toArray 36)).there w1.heap.size 0 30:=yb4 w1 _ _
 have hF2:ClB (yb1 (w1.alloc (.cells zL.toArray 36)) w1.heap.size (yad F)) w1.heap.size F:=ybp _ rfl hth
 have hBa:Below w1.heap.size w1 (yb1 (w1.alloc (.cells zL.toArray 36)) w1.heap.size (yad F)):=ybq (yaa (Below.refl _ _) (zG _)) (zG _) _
 have hCa:=hC1.below hBa hs1
 obtain ⟨r0,r1,r2,r3,r4,r5,r6⟩:=hCa.masks
 obtain ⟨s0,s1,s2,s3,s4,s5,s6⟩:=hF2.masks
 have HBa:=hid hBa
 have HCa:=hid hCa
 obtain ⟨W2,hW2⟩:∃W2,yb1 (w1.alloc (.cells zL.toArray 36)) w1.heap.size (yad F)=W2:=⟨_,rfl⟩
 have HW2:=hid hW2
 rw [hW2] at HBa HCa
 have HB2:Hid (Below w.heap.size w W2):=HB1.out.trans (HBa.out.mono (by omega))
 have hs2:w.heap.size < W2.heap.size:=by have:=HBa.out.size; omega
 have hm:=hc.m
 have cW:Hid (Calls Tryz.prog 41 #[.slice (some ⟨W2.heap.size,0,none⟩) 7 7] (W2.alloc (.cells #[.int .u64 (c.m 0:Nat), .int .u64 (F.m 0:Nat), .int .u64 (c.m 1:Nat), .int .u64 (F.m 1:Nat), .int .u64 (c.m 2:Nat), .int .u64 (F.m 2:Nat), .int .u64 (c.m 3:Nat), .int .u64 (F.m 3:Nat),
   .int .u64 (c.m 4:Nat), .int .u64 (F.m 4:Nat), .int .u64 (c.m 5:Nat), .int .u64 (F.m 5:Nat), .int .u64 (c.m 6:Nat), .int .u64 (F.m 6:Nat)] 93)) fun e w'=>e= .returned (.bool (yb9 c.m))∧Below (W2.heap.size+1) (W2.alloc (.cells #[.int .u64 (c.m 0:Nat), .int .u64 (F.m 0:Nat), .int .u64 (c.m 1:Nat), .int .u64 (F.m 1:Nat), .int .u64 (c.m 2:Nat), .int .u64 (F.m 2:Nat), .int .u64 (c.m 3:Nat), .int .u64 (F.m 3:Nat),
   .int .u64 (c.m 4:Nat), .int .u64 (F.m 4:Nat), .int .u64 (c.m 5:Nat), .int .u64 (F.m 5:Nat), .int .u64 (c.m 6:Nat), .int .u64 (F.m 6:Nat)] 93)) w'):=by
  have h:=yh3 (some ⟨W2.heap.size,0,none⟩) 7 [(c.m 0,F.m 0),(c.m 1,F.m 1),(c.m 2,F.m 2),(c.m 3,F.m 3),(c.m 4,F.m 4),(c.m 5,F.m 5),(c.m 6,F.m 6)]
   (W2.alloc (.cells #[.int .u64 (c.m 0:Nat), .int .u64 (F.m 0:Nat), .int .u64 (c.m 1:Nat), .int .u64 (F.m 1:Nat), .int .u64 (c.m 2:Nat), .int .u64 (F.m 2:Nat), .int .u64 (c.m 3:Nat), .int .u64 (F.m 3:Nat),
     .int .u64 (c.m 4:Nat), .int .u64 (F.m 4:Nat), .int .u64 (c.m 5:Nat), .int .u64 (F.m 5:Nat), .int .u64 (c.m 6:Nat), .int .u64 (F.m 6:Nat)] 93)) (by simp) (ydj (yaG W2 _ _) (by simp)) (by
     have hf:∀i,F.m i < 18446744073709551616:=fun i=>by rw [HF.out i]; unfold ybK; repeat (first | exact yao _ | split)
     intro p hp
     simp only [List.mem_cons,List.not_mem_nil,or_false] at hp
     rcases hp with rfl | rfl | rfl | rfl | rfl | rfl | rfl <;> exact ⟨hm _ (by omega),hf _⟩)
  rw [HF.out 0,HF.out 1,HF.out 2,HF.out 3,HF.out 4,HF.out 5,HF.out 6,yhB,zzN] at h
  rw [HF.out 0,HF.out 1,HF.out 2,HF.out 3,HF.out 4,HF.out 5,HF.out 6]
  exact h
 rw [Hb1.out] at cW
 clear hF2 hBa hCa hC1 hW2 hm
 go_wp2_with fail
 rw [HW2.out]
 clear r0 r1 r2 r3 r4 r5 r6 s0 s1 s2 s3 s4 s5 s6 hth
 refine cW.out.mono ?_
 rintro e w3 ⟨rfl,hB3⟩
 have HB23:Hid (Below W2.heap.size W2 w3):=(yaa (Below.refl _ _) (zG _)).trans (hB3.mono (by omega))
 have HB3:Hid (Below w.heap.size w w3):=HB2.out.trans (HB23.out.mono (by omega))
 have HC3:=hid (HCa.out.below HB23.out hs2)
 have hs3:w.heap.size < w3.heap.size:=by have:=HB23.out.size; omega
 obtain ⟨o0,o1,o2,o3,o4,o5,o6,o7,o8,o9⟩:=HC3.out.ord
 clear hB3 cW
 cases b1
 ·go_wp2
  go_ret
  exact ⟨rfl,HB3.out⟩
 go_wp2_with fail
 refine (cO.out _).mono ?_
 rintro e w4 ⟨rfl,hB4⟩
 have HB4:Hid (Below w.heap.size w w4):=HB3.out.trans (hB4.mono (by omega))
 have HC4:=hid (HC3.out.below hB4 hs3)
 have hs4:w.heap.size < w4.heap.size:=by have:=hB4.size; omega
 obtain ⟨y0,y1,y2,y3,y4,y5,y6⟩:=HC4.out.years
 clear hB4 o0 o1 o2 o3 o4 o5 o6 o7 o8 o9
 cases b2
 ·go_wp2
  go_ret
  exact ⟨rfl,HB4.out⟩
 go_wp2_with fail
 refine (cY.out _).mono ?_
 rintro e w5 ⟨rfl,hB5⟩
 have HB5:Hid (Below w.heap.size w w5):=HB4.out.trans (hB5.mono (by omega))
 have HC5:=hid (HC4.out.below hB5 hs4)
 have hs5:w.heap.size < w5.heap.size:=by have:=hB5.size; omega
 obtain ⟨t0,t1,t2,t3,t4⟩:=HC5.out.tail
 clear hB5 y0 y1 y2 y3 y4 y5 y6
 cases b3
 ·go_wp2
  go_ret
  exact ⟨rfl,HB5.out⟩
 go_wp2_with fail
 refine (cN.out _).mono ?_
 rintro e w6 ⟨⟨s,rfl,hsn⟩,hB6⟩
 have HB6:Hid (Below w.heap.size w w6):=HB5.out.trans (hB6.mono (by omega))
 have HC6:=hid (HC5.out.below hB6 hs5)
 obtain ⟨u0,u1,u2,u3,u4⟩:=HC6.out.tail
 clear hB6 t0 t1 t2 t3 t4
 cases b4
 ·go_wp2
  go_ret
  exact ⟨rfl,HB6.out⟩
 by_cases h1:1≤c.step
 ·obtain rfl:true=b5:=by rw [←Hb5.out,zzZ h1]
  clear Hb5
  go_wp2_with fail
  refine (cM.out _).mono ?_
  rintro e w' ⟨rfl,rfl⟩
  go_wp2
  go_ret
  exact ⟨rfl,HB6.out⟩
 ·obtain rfl:false=b5:=by rw [←Hb5.out,zzd h1]
  clear Hb5
  go_wp2
  go_ret
  exact ⟨rfl,HB6.out⟩
end
section
open Go.RowKit
def shq (s:Nat→Int):Value:= .agg #[.int .i64 (s 0), .int .i64 (s 1), .int .i64 (s 2), .int .i64 (s 3), .int .i64 (s 4), .int .i64 (s 5), .int .i64 (s 6), .int .i64 (s 7), .int .i64 (s 8), .int .i64 (s 9)]
def nthN (oin:Int) (oback:Bool) (s:Nat→Int):Int:=if oin=1 then (if oback then s 7 else s 6) else (if oback then s 9 else s 8)
def nthB (oin:Int) (oback:Bool) (od:Nat→Nat) (s:Nat→Int):Bool:=if oin=0 then true else hasB (od (s 5).toNat) (nthN oin oback s)
abbrev ShS (W:World) (b:Nat) (s:Nat→Int):Prop:=ShC W b (s 0) (s 1) (s 2) (s 3) (s 4) (s 5) (s 6) (s 7) (s 8) (s 9)
abbrev yaY (s:Nat→Int):List Value:= [.int .i64 (s 0), .int .i64 (s 1), .int .i64 (s 2), .int .i64 (s 3), .int .i64 (s 4), .int .i64 (s 5), .int .i64 (s 6), .int .i64 (s 7), .int .i64 (s 8), .int .i64 (s 9)]
def shF (n:Int) (i:Nat):Int:=match i with
 | 0=>n | 1=>fY n | 2=>fMo n | 3=>fD n | 4=>lenI (fY n) (fMo n) - fD n+1 | 5=>(n % 7+3) % 7+1 | 6=>(fD n - 1) / 7+1 | 7=>(lenI (fY n) (fMo n) - fD n) / 7+1 | 8=>(fOr n - 1) / 7+1 | _=>(365+ya1 (fY n) - fOr n) / 7+1
theorem yaA (n:Int):shq (shF n)=shN n:=rfl
theorem yiy (n:Int):1≤shF n 5∧shF n 5≤7:=by show 1≤(n % 7+3) % 7+1∧(n % 7+3) % 7+1≤7; omega
theorem shF_yr {n:Int} (h0:0≤n) (h1:n < 146097):0≤shF n 1∧shF n 1 < 100000:=by
 have:=yaB h0 h1
 show 0≤fY n∧fY n < 100000
 omega
end
section
open Go.RowKit
def cutM (m:Nat) (t:Int):Nat:=m &&& yaX 0 t 1
theorem ydW {m:Nat} (t:Int) (hm:m < 18446744073709551616):cutM m t < 18446744073709551616:=yaU (b:=yaX 0 t 1) hm
theorem yeY (m:Nat) (t:Int) (k:Nat):(cutM m t).testBit k= (m.testBit k && (decide (k < 64) && decide ((k:Int)≤t))):=by
 rw [cutM,Nat.testBit_and,yaX,yaw]
 congr 2
 rw [ycv,zze]
 simp only [zzY]
 omega
theorem yjm (hs ms ss:Nat) (w:World) (hh:hs < 18446744073709551616) (hm:ms < 18446744073709551616) (hss:ss < 18446744073709551616) :
  Calls Tryz.prog 107 #[.int .u64 hs, .int .u64 ms, .int .u64 ss] w fun e w'=>e= .returned (.tuple #[.int .u64 (cutM hs 23), .int .u64 (cutM ms 59), .int .u64 (cutM ss 59)])∧w=w':=by
 have e1:=hid (yar hh (yao (ycv 0 23 1)))
 have e2:=hid (yar hm (yao (ycv 0 59 1)))
 have e3:=hid (yar hss (yao (ycv 0 59 1)))
 have H1:=hid (ybM 0 23 1 w (by omega) (by omega))
 have H2:=hid (ybM 0 59 1 w (by omega) (by omega))
 go_enter Tryz.func107,Tryz.ntmps107
 go_wp2_with fail
 refine H2.out.mono ?_
 rintro e w' ⟨rfl,rfl⟩
 go_wp2_with fail
 refine H1.out.mono ?_
 rintro e w' ⟨rfl,rfl⟩
 go_wp2
 refine bodyPost_ret (v:= .tuple #[.int .u64 (cutM hs 23), .int .u64 (cutM ms 59), .int .u64 (cutM ss 59)]) ?_ rfl ⟨rfl,rfl⟩
 simp [results,Tryz.results107,go_sem]
 exact ⟨e1.out,e2.out,e3.out⟩
end
end Go.Proofs.YtkpgfmonhfnhdaaGreatDoor
