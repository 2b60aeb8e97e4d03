/-
  clause.nth: has a day an Ord?
  feriaref13.nth: has a day an Ord?
  feriaref13.Date: has a day a clause, but for its step?
  clause.Days' function: does a day have the clause?
  clause.Days.
  clause.Day.
  feriaref13.Full is clause.Full.
  ferialaw13.lives: the chapter's example.
  clause.Span, clause.Same, clause.Has.
  A clause that is handed in: its thirty cells.
  Two numbers, and a list of clauses, that are handed in.
  The function of clause.Days, as long as its blocks stand.
  A clause in a list of clauses.
-/
import Derived.Test.YtkpgfmonhfnhdaaGreatDoorQ822f09
import Derived.Test.YtkpgfmonhfnhdaaGreatDoorQ446fa1
import Derived.Test.YtkpgfmonhfnhdaaGreatDoorQ594558
import Derived.Test.YtkpgfmonhfnhdaaGreatDoorQ74f80c
import Derived.Test.YtkpgfmonhfnhdaaGreatDoorQ15e503
import Derived.Test.YtkpgfmonhfnhdaaGreatDoorQ1af996
import Derived.Deep.RegionHeld3
import Derived.Test.YtkpgfmonhfnhdaaGreatDoorQbf9d08
import Derived.Test.YtkpgfmonhfnhdaaGreatDoorQd6e098
import Derived.Deep.Heap
set_option maxRecDepth 100000
set_option maxHeartbeats 25600000
namespace Go.Proofs.YtkpgfmonhfnhdaaGreatDoor
set_option linter.unusedVariables false
section
open Go.RowKit
theorem CNth_any (oin:Int) (oback:Bool) (od:Nat→Nat) (s:Nat→Int) (w:World) (ho:oin=0∨oin=1∨oin=2) (h:∀i,i < 8→od i < 18446744073709551616) (hs:1≤s 5∧s 5≤7) :
  Calls Tryz.prog 140 #[ordv oin oback od,shq s] w fun e w'=>e= .returned (.bool (nthB oin oback od s))∧Below w.heap.size w w':=by
 have hm:=hid (fun (k:Nat) (hk:k < 8) (n:Int) W=>ydg (od k) n W (h k hk))
 have h5:s 5=1∨s 5=2∨s 5=3∨s 5=4∨s 5=5∨s 5=6∨s 5=7:=by omega
 rw [shq]
 clear h hs
 rcases ho with rfl | rfl | rfl
 ·clear h5
  have hr:Hid (nthB 0 oback od s=true):=rfl
  rw [hr.out]
  go_enter Tryz.func140,Tryz.ntmps140
  go_wp2
  go_ret
  exact ⟨rfl,yaa (yaa (Below.refl _ _) (zG _)) (by simp)⟩
 all_goals
  rcases h5 with h5 | h5 | h5 | h5 | h5 | h5 | h5
 all_goals
  rw [nthB,h5]
  clear h5
  cases oback
 all_goals
  go_enter Tryz.func140,Tryz.ntmps140
  go_wp2_with (go_at_call 129; refine (hm.out _ ?_ _ _).mono ?_; decide; rintro e w' ⟨rfl,rfl⟩)
  go_ret
  exact ⟨rfl,yaa (yaa (Below.refl _ _) (zG _)) (by simp)⟩
end
section
open Go.RowKit
end
section
open Go.RowKit
def domB (c:Cl) (s:Nat→Int):Bool:=if c.or then hasB (c.m 4) (s 3) || hasB (c.m 6) (s 5) else hasB (c.m 4) (s 3) && hasB (c.m 6) (s 5)
def yhZ (c:Cl) (s:Nat→Int):Bool:=domB c s && (hasB (c.m 3) (s 2) && (hasB (c.m 5) (s 4) && (hasW c.ys (s 1 - 1970) && nthB c.oin c.oback c.od s)))
abbrev DaS (w:World) (c:Cl) (s:Nat→Int) (W:World):Prop:=
 ClB W w.heap.size c∧ShS W (w.heap.size+1) s∧Below w.heap.size w W∧w.heap.size+1 < W.heap.size
theorem DaS.keep {w W W':World} {c:Cl} {s:Nat→Int} (h:DaS w c s W) (hb:Below W.heap.size W W'):DaS w c s W':=by
 obtain ⟨h1,h2,h3,h4⟩:=h
 exact ⟨h1.below hb (by omega),h2.below hb h4,h3.trans (hb.mono (by omega)),zH h4 hb.size⟩
end
section
open Go.RowKit
abbrev D2S (w:World) (c:Cl) (s:Nat→Int) (b1 b2:Nat) (fv:Value) (W:World):Prop:=
 ClB W b1 c∧ShS W w.heap.size s∧W.cell? ⟨b2,0,none⟩=some fv∧Below w.heap.size w W∧w.heap.size < W.heap.size
theorem D2S.keep {w W W':World} {c:Cl} {s:Nat→Int} {b1 b2:Nat} {fv:Value} (h:D2S w c s b1 b2 fv W) (l1:b1 < w.heap.size) (l2:b2 < w.heap.size) (hb:Below W.heap.size W W'):D2S w c s b1 b2 fv W':=by
 obtain ⟨h1,h2,h3,h4,h5⟩:=h
 exact ⟨h1.below hb (by omega),h2.below hb h5,(hb.cell (p:=⟨b2,0,none⟩) (by simp only []; omega)).trans h3,h4.trans (hb.mono (by omega)),zH h5 hb.size⟩
theorem d2S_new (w:World) (c:Cl) (s:Nat→Int) (b1 b2:Nat) (fv:Value) (t:TypeId) (h1:ClB w b1 c) (l1:b1 < w.heap.size) (h2:w.cell? ⟨b2,0,none⟩=some fv) (l2:b2 < w.heap.size):D2S w c s b1 b2 fv (w.alloc (.cells (yaY s).toArray t)):=by
 have hb:=yaa (o:= .cells (yaY s).toArray t) (Below.refl w.heap.size w) (zG _)
 exact ⟨h1.below hb l1,ybR w t _ _ _ _ _ _ _ _ _ _,(hb.cell (p:=⟨b2,0,none⟩) l2).trans h2,hb,by simp⟩
theorem CD2_any (c:Cl) (n:Int) (b1 b2 lo:Nat) (fv:Value) (w:World) (hc:c.Ok) (ho:c.oin=0∨c.oin=1∨c.oin=2) (h0:0≤n) (h1:n < 146097) (hcl:ClB w b1 c) (l1:b1 < w.heap.size)
  (hfv:w.cell? ⟨b2,0,none⟩=some fv) (l2:b2 < w.heap.size) (hu:UDV w lo c.unit c.step c.anchor fv) :
  Calls Tryz.prog 138 #[shN n, .pointer (some ⟨b1,0,none⟩), .pointer (some ⟨b2,0,none⟩)] w fun e w'=>e= .returned (.bool (yhZ c (shF n) && ycs c.unit c.step c.anchor n))∧Below w.heap.size w w':=by
 have hcall:∃g cap,fv= .func (.func g) #[] cap∧(g=164∧cap= #[]∨g=165∧cap= #[]∨∃b3 b7 b4:Nat,g=166∧cap= #[.pointer (some ⟨b3,0,none⟩), .pointer (some ⟨b7,0,none⟩), .pointer (some ⟨b4,0,none⟩)])∧
   ∀W,Below w.heap.size w W→Calls Tryz.prog g (#[shq (shF n)] ++ cap) W fun e w'=>e= .returned (.bool (ycs c.unit c.step c.anchor n))∧Below W.heap.size W w':=by
  rw [yaA]
  rcases hu with ⟨h,rfl⟩ | ⟨ha,hb,hz,rfl⟩ | ⟨ha,hb,hz,b3,b7,b4,rfl,hB,-,-,-⟩
  ·refine ⟨_,_,rfl, .inl ⟨rfl,rfl⟩,fun W _=>?_⟩
   have e:ycs c.unit c.step c.anchor n=false:=by
    unfold ycs
    rcases h with h | h
    ·rw [h]; rfl
    ·rw [zzd (by omega:¬1≤c.step)]; simp
   rw [e]
   exact UD1_any n W
  ·refine ⟨_,_,rfl, .inr (.inl ⟨rfl,rfl⟩),fun W _=>?_⟩
   have e:ycs c.unit c.step c.anchor n=true:=by
    unfold ycs
    rw [ha,zzZ hb,zzZ hz]; rfl
   rw [e]
   exact UD2_any n W
  ·refine ⟨_,_,rfl, .inr (.inr ⟨b3,b7,b4,rfl,rfl⟩),fun W hW=>?_⟩
   have hun:0≤c.unit∧c.unit≤6:=by
    have:=ha
    simp only [ybf,unB,zzX,zzY] at this
    exact this.1
   have hbd:=ygF c.unit c.anchor
   by_cases hs1:c.step=1
   ·have e:ycs c.unit c.step c.anchor n=true:=by
     unfold ycs
     rw [ha,zzZ hb,zzZ (.inr hs1)]; rfl
    have e2:stepB c.step (whD c.unit n - yaR c.unit c.anchor)=true:=by rw [stepB,hs1]; simp
    rw [e,←e2]
    exact UD3_any n c.unit (yaR c.unit c.anchor) c.step b3 b7 b4 W h0 h1 (yeu hz hun.1) hun.2 hb hc.step.2 hbd.1 hbd.2 (hB.below hW)
   ·have e:ycs c.unit c.step c.anchor n=stepB c.step (whD c.unit n - yaR c.unit c.anchor):=by
     unfold ycs
     rw [ha,zzZ hb,zzd (by omega:¬(0 < yan c.unit∨c.step=1))]; simp
    rw [e]
    exact UD3_any n c.unit (yaR c.unit c.anchor) c.step b3 b7 b4 W h0 h1 (yeu hz hun.1) hun.2 hb hc.step.2 hbd.1 hbd.2 (hB.below hW)
 obtain ⟨xd,hxd⟩:∃x,ycs c.unit c.step c.anchor n=x:=⟨_,rfl⟩
 have hyr:=shF_yr h0 h1
 have hwk:=yiy n
 rw [hxd] at hcall⊢
 rw [←yaA]
 obtain ⟨s,hs⟩:∃s,shF n=s:=⟨_,rfl⟩
 rw [hs] at hcall hyr hwk⊢
 clear hxd hs h0 h1 hu
 obtain ⟨g,cap,rfl,hg,hcall⟩:=hcall
 have cU:=hid hcall
 clear hcall
 have m3:=hid (fun W=>ydg (c.m 3) (s 2) W (hc.m 3 (by omega)))
 have m4:=hid (fun W=>ydg (c.m 4) (s 3) W (hc.m 4 (by omega)))
 have m5:=hid (fun W=>ydg (c.m 5) (s 4) W (hc.m 5 (by omega)))
 have m6:=hid (fun W=>ydg (c.m 6) (s 5) W (hc.m 6 (by omega)))
 have cn:=hid (fun W=>CNth_any c.oin c.oback c.od s W ho hc.od hwk)
 have cw:=hid (fun W=>WHas_any c.ys (s 1 - 1970) W hc.ys)
 have hsub:=hid (IntWalk.i64_in (s 1 - 1970) (by omega))
 have hr:Hid (yhZ c s= (domB c s && (hasB (c.m 3) (s 2) && (hasB (c.m 5) (s 4) && (hasW c.ys (s 1 - 1970) && nthB c.oin c.oback c.od s))))):=rfl
 rw [hr.out,domB]
 rw [shq] at cn cU⊢
 clear hr hc ho hwk hyr
 obtain ⟨x3,hx3⟩:∃b,hasB (c.m 3) (s 2)=b:=⟨_,rfl⟩
 obtain ⟨x4,hx4⟩:∃b,hasB (c.m 4) (s 3)=b:=⟨_,rfl⟩
 obtain ⟨x5,hx5⟩:∃b,hasB (c.m 5) (s 4)=b:=⟨_,rfl⟩
 obtain ⟨x6,hx6⟩:∃b,hasB (c.m 6) (s 5)=b:=⟨_,rfl⟩
 obtain ⟨xw,hxw⟩:∃b,hasW c.ys (s 1 - 1970)=b:=⟨_,rfl⟩
 obtain ⟨xn,hxn⟩:∃b,nthB c.oin c.oback c.od s=b:=⟨_,rfl⟩
 rw [hx3] at m3⊢
 rw [hx4] at m4⊢
 rw [hx5] at m5⊢
 rw [hx6] at m6⊢
 rw [hxw] at cw⊢
 rw [hxn] at cn⊢
 obtain ⟨xo,hxo⟩:∃b,c.or=b:=⟨_,rfl⟩
 have Hxo:=hid hxo
 rw [hxo]
 clear hx3 hx4 hx5 hx6 hxw hxn hxo
 obtain ⟨W0,hW0⟩:∃W0,w.alloc (.cells (yaY s).toArray 71)=W0:=⟨_,rfl⟩
 have HD:Hid (D2S w c s b1 b2 (.func (.func g) #[] cap) W0):=by rw [←hW0]; exact d2S_new w c s b1 b2 _ _ hcl l1 hfv l2
 have HW0:=hid hW0
 have Hk:Hid (∀W W',D2S w c s b1 b2 (.func (.func g) #[] cap) W→Below W.heap.size W W'→D2S w c s b1 b2 (.func (.func g) #[] cap) W'):=fun W W' h hb=>h.keep l1 l2 hb
 clear hW0 hcl l1 hfv l2
 go_enter Tryz.func138,Tryz.ntmps138
 go_wp2_with fail
 rw [HW0.out]
 have r4:=HD.out.1.at 4 rfl
 have r6:=HD.out.1.at 6 rfl
 obtain ⟨-,-,-,q3,-,q5,-,-,-,-⟩:=HD.out.2.1
 go_quiet (first
  | (go_at_call 129; with_reducible refine (m4.out _).mono ?_; exact fun _ _ h=>⟨h.1,_,h.2.symm⟩)
  | (go_at_call 129; with_reducible refine (m6.out _).mono ?_; exact fun _ _ h=>⟨h.1,_,h.2.symm⟩))
 clear r4 r6 q3 q5 m4 m6
 have HB0:Hid (Below w.heap.size w W0):=HD.out.2.2.2.1
 have r7:=HD.out.1.at 7 rfl
 have r3:=HD.out.1.at 3 rfl
 obtain ⟨-,-,q2,-,-,-,-,-,-,-⟩:=HD.out.2.1
 rw [Hxo.out] at r7
 cases xo <;> cases x4 <;> cases x6
 all_goals go_wp2_with fail
 all_goals try
  go_ret
  exact ⟨rfl,ycm HB0.out _⟩
 all_goals
  refine (m3.out _).mono ?_
  rintro e w' ⟨rfl,rfl⟩
  clear r7 r3 q2
  cases x3
  ·go_wp2
   go_ret
   exact ⟨rfl,ycm HB0.out _⟩
  have r5:=HD.out.1.at 5 rfl
  obtain ⟨-,-,-,-,q4,-,-,-,-,-⟩:=HD.out.2.1
  go_wp2_with fail
  refine (m5.out _).mono ?_
  rintro e w' ⟨rfl,rfl⟩
  clear r5 q4
  cases x5
  ·go_wp2
   go_ret
   exact ⟨rfl,ycm HB0.out _⟩
  obtain ⟨y0,y1,y2,y3,y4,y5,y6⟩:=HD.out.1.years
  obtain ⟨-,q1,-,-,-,-,-,-,-,-⟩:=HD.out.2.1
  have hsu:=hsub.out
  go_wp2_with fail
  refine (cw.out _).mono ?_
  rintro e w1 ⟨rfl,hB1⟩
  have HD1:=hid (Hk.out _ _ HD.out ((ycm (Below.refl _ _) _).trans hB1))
  clear y0 y1 y2 y3 y4 y5 y6 q1 hsu hB1
  cases xw
  ·go_wp2
   go_ret
   exact ⟨rfl,HD1.out.2.2.2.1⟩
  obtain ⟨o0,o1,o2,o3,o4,o5,o6,o7,o8,o9⟩:=HD1.out.1.ord
  obtain ⟨q0,q1,q2,q3,q4,q5,q6,q7,q8,q9⟩:=HD1.out.2.1
  go_wp2_with fail
  refine (cn.out _).mono ?_
  rintro e w2 ⟨rfl,hB2⟩
  have HD2:=hid (Hk.out _ _ HD1.out hB2)
  clear hB2 o0 o1 o2 o3 o4 o5 o6 o7 o8 o9 q0 q1 q2 q3 q4 q5 q6 q7 q8 q9
  cases xn
  ·go_wp2
   go_ret
   exact ⟨rfl,HD2.out.2.2.2.1⟩
  have hfu:=HD2.out.2.2.1
  obtain ⟨q0,q1,q2,q3,q4,q5,q6,q7,q8,q9⟩:=HD2.out.2.1
  rcases hg with ⟨rfl,rfl⟩ | ⟨rfl,rfl⟩ | ⟨b3,b7,b4,rfl,rfl⟩
  all_goals
   go_wp2_with fail
   refine (cU.out _ HD2.out.2.2.2.1).mono ?_
   rintro e w3 ⟨rfl,hB3⟩
   have HD3:=hid (Hk.out _ _ HD2.out hB3)
   clear hfu q0 q1 q2 q3 q4 q5 q6 q7 q8 q9 hB3
   go_wp2
   go_ret
   exact ⟨rfl,HD3.out.2.2.2.1⟩
end
section
open Go.RowKit
def yck (v:Value):Sem Value:=Instr.loadAt 36 v
theorem yaq (v:Value):Instr.loadAt 36 v=yck v:=rfl
theorem ClB.ld {W:World} {b:Nat} {c:Cl} (h:ClB W b c):(yck (.pointer (some ⟨b,0,none⟩))).run Tryz.prog W= .ok (clv c) W:=
 run_loadAt_mid W b 0 36 (yad c) _ h Tryz.underlying36 rfl yiP
attribute [local go_sem ↓] yaq
theorem yda (w:World) (a:Addr) (m:Mode) (fn:Fn) (first captured:Array Value):(store a (.func fn first captured) m).run Tryz.prog w=stored Tryz.prog w a (.func fn first captured) m:=run_store Tryz.prog w a _ m rfl
attribute [local go_sem] yda
theorem ord_in {oin:Int} {oback:Bool} {od:Nat→Nat} (h:ordB oin oback od=true):oin=0∨oin=1∨oin=2:=by
 unfold ordB at h
 split at h
 ·omega
 ·split at h
  ·omega
  ·split at h
   ·omega
   ·cases h
theorem ycB {c:Cl} (h:mayC c=true):(c.oin=0∨c.oin=1∨c.oin=2)∧1≤c.step∧unB c.unit=true∧winB c.anchor=true:=by
 simp only [mayC,zzX,zzY] at h
 exact ⟨ord_in h.2.1,h.2.2.2.2.1,h.2.2.2.1,h.2.2.2.2.2⟩
theorem UDV.below {W W':World} {lo lo':Nat} {u s a:Int} {fv:Value} (h:UDV W lo u s a fv) (hb:Below W.heap.size W W') (hl:lo'≤lo):UDV W' lo' u s a fv:=by
 rcases h with h | h | ⟨h1,h2,h3,b3,b7,b4,h4,h5,h6,h7,h8⟩
 ·exact .inl h
 ·exact .inr (.inl h)
 ·exact .inr (.inr ⟨h1,h2,h3,b3,b7,b4,h4,h5.below hb,zI hl h6,zI hl h7,zI hl h8⟩)
def CDV (W:World) (lo:Nat) (c:Cl) (fv:Value):Prop:=
 (mayC c=false∧fv= .func (.func 136) #[] #[])∨
 (mayC c=true∧∃b1 b2 v,fv= .func (.func 138) #[] #[.pointer (some ⟨b1,0,none⟩), .pointer (some ⟨b2,0,none⟩)]∧ClB W b1 c∧b1 < W.heap.size∧W.cell? ⟨b2,0,none⟩=some v∧b2 < W.heap.size∧lo≤b1∧lo≤b2∧UDV W lo c.unit c.step c.anchor v)
theorem CD1_any (n:Int) (w:World):Calls Tryz.prog 136 #[shN n] w fun e w'=>e= .returned (.bool false)∧Below w.heap.size w w':=by
 obtain ⟨a0,a1,a2,a3,a4,a5,a6,a7,a8,a9,hs⟩:=yfR n
 rw [hs]; clear hs
 go_enter Tryz.func136,Tryz.ntmps136
 go_wp2
 go_ret
 exact ⟨rfl,yaa (Below.refl _ _) (zG _)⟩
theorem CDays_any (c:Cl) (w:World) (hc:c.Ok):Calls Tryz.prog 96 #[clv c] w fun e w'=>∃fv,e= .returned fv∧CDV w' w.heap.size c fv∧Below w.heap.size w w':=by
 obtain ⟨W0,hW0⟩:∃W0,w.alloc (.cells (yad c).toArray 36)=W0:=⟨_,rfl⟩
 have hC:Hid (ClB W0 w.heap.size c):=by rw [←hW0]; exact ycG w c _
 have hB0:Hid (Below w.heap.size w W0):=by rw [←hW0]; exact yaa (Below.refl _ _) (zG _)
 have hs0:w.heap.size < W0.heap.size:=by rw [←hW0]; simp
 have HW0:=hid hW0
 have Hs0:=hid hs0
 have cM:=hid (yd5 c W0 hc)
 have cU:=hid (fun W=>UDays_any c.unit c.step c.anchor W hc.step)
 clear hW0 hs0 hc
 obtain ⟨b,hb⟩:∃b,mayC c=b:=⟨_,rfl⟩
 have Hb:=hid hb
 rw [hb] at cM
 clear hb
 have hl:=(ycG w c 36).ld
 go_enter Tryz.func96,Tryz.ntmps96
 go_wp2_with fail
 rw [HW0.out]
 refine cM.out.mono ?_
 rintro e w1 ⟨rfl,hB1⟩
 have HB1:Hid (Below w.heap.size w w1):=hB0.out.trans (hB1.mono (by have:=Hs0.out; omega))
 have HC1:=hid (hC.out.below hB1 Hs0.out)
 have Hs1:Hid (w.heap.size < w1.heap.size):=zH Hs0.out hB1.size
 clear hB1 hl cM
 cases b
 ·go_wp2
  go_ret
  exact ⟨_,rfl, .inl ⟨Hb.out,rfl⟩,HB1.out⟩
 obtain ⟨t0,t1,t2,t3,t4⟩:=HC1.out.tail
 go_wp2_with fail
 refine (cU.out _).mono ?_
 rintro e w2 ⟨fv,rfl,hu,hB2⟩
 have HB2:Hid (Below w.heap.size w w2):=HB1.out.trans (hB2.mono (by have:=Hs1.out; omega))
 have HC2:=hid (HC1.out.below hB2 Hs1.out)
 have Hs2:Hid (w.heap.size < w2.heap.size):=zH Hs1.out hB2.size
 have Hs12:Hid (w1.heap.size≤w2.heap.size):=hB2.size
 have Hu:=hid hu
 have hcase:fv= .func (.func 164) #[] #[]∨fv= .func (.func 165) #[] #[]∨∃b3 b7 b4:Nat,fv= .func (.func 166) #[] #[.pointer (some ⟨b3,0,none⟩), .pointer (some ⟨b7,0,none⟩), .pointer (some ⟨b4,0,none⟩)]:=by
  rcases hu with ⟨_,h⟩ | ⟨_,_,_,h⟩ | ⟨_,_,_,b3,b7,b4,h,_⟩
  ·exact .inl h
  ·exact .inr (.inl h)
  ·exact .inr (.inr ⟨b3,b7,b4,h⟩)
 clear hB2 t0 t1 t2 t3 t4 hu
 rcases hcase with rfl | rfl | ⟨b3,b7,b4,rfl⟩
 all_goals
  go_wp2
  go_ret
  exact ⟨_,rfl, .inr ⟨Hb.out,w.heap.size,w2.heap.size,_,rfl,HC2.out.below (yaa (Below.refl w2.heap.size w2) (zG _)) Hs2.out,by simp; have:=Hs2.out; omega,by simp [go_sem],by simp,zG _,Nat.le_of_lt Hs2.out,Hu.out.below (yaa (Below.refl w2.heap.size w2) (zG _)) (Nat.le_of_lt Hs1.out)⟩,yaa HB2.out HB2.out.size⟩
end
section
open Go.RowKit
def dayC (c:Cl) (n:Int):Bool:=mayC c && (yhZ c (shF n) && ycs c.unit c.step c.anchor n)
attribute [local go_sem ↓] yaq
abbrev DyS (w:World) (c:Cl) (s:Nat→Int) (W:World):Prop:=
 (yck (.pointer (some ⟨w.heap.size,0,none⟩))).run Tryz.prog W= .ok (clv c) W∧DaS w c s W
theorem DyS.keep {w W W':World} {c:Cl} {s:Nat→Int} (h:DyS w c s W) (hb:Below W.heap.size W W'):DyS w c s W':=
 ⟨(h.2.keep hb).1.ld,h.2.keep hb⟩
theorem CDV.call {W:World} {lo:Nat} {c:Cl} {fv:Value} {n:Int} (h:CDV W lo c fv) (hc:c.Ok) (h0:0≤n) (h1:n < 146097) :
  ∃g cap,fv= .func (.func g) #[] cap∧(g=136∧cap= #[]∨∃b1 b2:Nat,g=138∧cap= #[.pointer (some ⟨b1,0,none⟩), .pointer (some ⟨b2,0,none⟩)])∧
   ∀W',Below W.heap.size W W'→Calls Tryz.prog g (#[shN n] ++ cap) W' fun e w'=>e= .returned (.bool (dayC c n))∧Below W'.heap.size W' w':=by
 rcases h with ⟨hm,rfl⟩ | ⟨hm,b1,b2,v,rfl,hcl,l1,hv,l2,_,_,hu⟩
 ·refine ⟨_,_,rfl, .inl ⟨rfl,rfl⟩,fun W' _=>?_⟩
  rw [dayC,hm,Bool.false_and]
  exact CD1_any n W'
 ·refine ⟨_,_,rfl, .inr ⟨b1,b2,rfl,rfl⟩,fun W' hb=>?_⟩
  rw [dayC,hm,zzo]
  exact CD2_any c n b1 b2 lo v W' hc (ycB hm).1 h0 h1 (hcl.below hb l1) (zH l1 hb.size) ((hb.cell (p:=⟨b2,0,none⟩) l2).trans hv) (zH l2 hb.size) (hu.below hb (zG _))
end
section
open Go.RowKit
attribute [local go_sem ↓] ya8
attribute [local go_sem] yaJ
end
section
open Go.RowKit
theorem yix (f t s:Int):yaX f t s < 18446744073709551616:=yao _
theorem full_ok:fullCl.Ok:=by
 refine ⟨fun i _=>?_,fun i _=>by show 0 < _; decide,fun i _=>yix _ _ _,⟨by decide,by decide⟩,⟨by decide,by decide⟩,⟨by decide,by decide⟩,⟨by decide,by decide⟩,⟨by decide,by decide⟩,⟨by decide,by decide⟩⟩
 show ybK i < _
 unfold ybK
 repeat (first | exact yix _ _ _ | split)
abbrev LvS (w:World) (b:Nat) (c:Cl) (W:World):Prop:=
 (yck (.pointer (some ⟨b,0,none⟩))).run Tryz.prog W= .ok (clv c) W∧ClB W b c∧Below w.heap.size w W∧b < W.heap.size∧w.heap.size≤b
theorem LvS.keep {w W W':World} {b:Nat} {c:Cl} (h:LvS w b c W) (hb:Below W.heap.size W W'):LvS w b c W':=by
 obtain ⟨_,h2,h3,h4,h5⟩:=h
 exact ⟨(h2.below hb h4).ld,h2.below hb h4,h3.trans (hb.mono (by omega)),zH h4 hb.size,h5⟩
end
section
open Go.RowKit
attribute [local go_sem ↓] yaq
theorem ydz (w:World) (c:Cl) (t:TypeId) (x:Obj):ClB ((w.alloc (.cells (yad c).toArray t)).alloc x) w.heap.size c:=
 (ycG w c t).below (yaa (Below.refl _ _) (zG _)) (by simp)
theorem yhx (c:Cl) (w:World):Calls Tryz.prog 97 #[clv c] w fun e w'=>e= .returned (spv (yak c.fr c.un) (yaj c.fr c.un))∧Below w.heap.size w w':=by
 have c0:=hid (fun W=>ycK c.fr c.un W)
 obtain ⟨a,ha⟩:∃a,yak c.fr c.un=a:=⟨_,rfl⟩
 obtain ⟨b,hb⟩:∃b,yaj c.fr c.un=b:=⟨_,rfl⟩
 rw [ha,hb] at c0⊢
 clear ha hb
 obtain ⟨-,-,-,t3,t4⟩:=(ydz w c 36 (.cells #[.int .i64 0, .int .i64 0] 147)).tail
 go_enter Tryz.func97,Tryz.ntmps97
 go_wp2_with fail
 refine (c0.out _).mono ?_
 rintro e w1 ⟨rfl,hB1⟩
 have c1:=(hB1.cell (p:=⟨w.heap.size+1,0,none⟩) (by simp)).trans (show _ =some (.int .i64 0) by simp [go_sem])
 have c2:=(hB1.cell (p:=⟨w.heap.size+1,1,none⟩) (by simp)).trans (show _ =some (.int .i64 0) by simp [go_sem])
 have f1:=(hB1.frozen (p:=⟨w.heap.size+1,0,none⟩) (by simp)).trans (show _ =false by simp [go_sem])
 have f2:=(hB1.frozen (p:=⟨w.heap.size+1,1,none⟩) (by simp)).trans (show _ =false by simp [go_sem])
 have HB1:Hid (Below w.heap.size w w1):=(yaa (yaa (Below.refl _ _) (zG _)) (by simp)).trans (hB1.mono (by simp only [zzN]; omega))
 clear hB1 t3 t4
 go_wp2
 exact bodyPost_ret (yae rfl _ _ (w.heap.size+1) 0 _ _ rfl (ycy c1 c2) Tryz.underlying147 rfl yeT) rfl ⟨rfl,yab (yab HB1.out (by omega)) (by omega)⟩
def eqlClS (a b:Value):Sem Value:=binOp .eql 36 a b
theorem eql_clS (a b:Value):binOp .eql 36 a b=eqlClS a b:=rfl
attribute [local go_sem ↓] eql_clS
def betB (f u t:Int):Bool:=decide (f≤t) && decide (t≤u)
def hasC (c:Cl) (t:Int):Bool:=winB t && (mayC c && (betB c.fr c.un t && (yaW (t % 86400) (c.m 2) (c.m 1) (c.m 0) && (onB c.unit c.step c.anchor t && dayC c (t / 86400)))))
end
section
open Go.ChangeShapes Go.WideShapes Go.ChangeAt Go.RowKit
def of7c (x0 x1 x2 x3 x4 x5 x6:Nat) (i:Nat):Nat:=match i with | 0=>x0 | 1=>x1 | 2=>x2 | 3=>x3 | 4=>x4 | 5=>x5 | _=>x6
def of8c (x0 x1 x2 x3 x4 x5 x6 x7:Nat) (i:Nat):Nat:=match i with | 0=>x0 | 1=>x1 | 2=>x2 | 3=>x3 | 4=>x4 | 5=>x5 | 6=>x6 | _=>x7
theorem ycA:∀(a b:List Leaf) {cs:List Value},oks (a ++ b) cs→∃ca cb,cs=ca ++ cb∧oks a ca∧oks b cb
 | [],b,cs,h=>⟨[],cs,rfl,trivial,h⟩
 | k :: a,b,[],h=>h.elim
 | k :: a,b,v :: cs,h=>by
   obtain ⟨ca,cb,e,h1,h2⟩:=ycA a b h.2
   exact ⟨v :: ca,cb,by rw [e]; rfl,⟨h.1,h1⟩,h2⟩
theorem oks_u7:∀{cs:List Value},oks [.int .u64, .int .u64, .int .u64, .int .u64, .int .u64, .int .u64, .int .u64] cs→∃s:Nat→Nat,cs= [.int .u64 (s 0:Nat), .int .u64 (s 1:Nat), .int .u64 (s 2:Nat), .int .u64 (s 3:Nat), .int .u64 (s 4:Nat), .int .u64 (s 5:Nat), .int .u64 (s 6:Nat)]∧∀i,i < 7→s i < 18446744073709551616
 | [_,_,_,_,_,_,_],⟨⟨y0,rfl,h0⟩,⟨y1,rfl,h1⟩,⟨y2,rfl,h2⟩,⟨y3,rfl,h3⟩,⟨y4,rfl,h4⟩,⟨y5,rfl,h5⟩,⟨y6,rfl,h6⟩,_⟩=>by
   obtain ⟨x0,rfl,g0⟩:=ybQ h0
   obtain ⟨x1,rfl,g1⟩:=ybQ h1
   obtain ⟨x2,rfl,g2⟩:=ybQ h2
   obtain ⟨x3,rfl,g3⟩:=ybQ h3
   obtain ⟨x4,rfl,g4⟩:=ybQ h4
   obtain ⟨x5,rfl,g5⟩:=ybQ h5
   obtain ⟨x6,rfl,g6⟩:=ybQ h6
   refine ⟨of7c x0 x1 x2 x3 x4 x5 x6,rfl,fun i hi=>?_⟩
   rcases ye9 hi with rfl | rfl | rfl | rfl | rfl | rfl | rfl
   ·exact g0
   ·exact g1
   ·exact g2
   ·exact g3
   ·exact g4
   ·exact g5
   ·exact g6
theorem oks_u8:∀{cs:List Value},oks [.int .u64, .int .u64, .int .u64, .int .u64, .int .u64, .int .u64, .int .u64, .int .u64] cs→∃s:Nat→Nat,cs= [.int .u64 (s 0:Nat), .int .u64 (s 1:Nat), .int .u64 (s 2:Nat), .int .u64 (s 3:Nat), .int .u64 (s 4:Nat), .int .u64 (s 5:Nat), .int .u64 (s 6:Nat), .int .u64 (s 7:Nat)]∧∀i,i < 8→s i < 18446744073709551616
 | [_,_,_,_,_,_,_,_],⟨⟨y0,rfl,h0⟩,⟨y1,rfl,h1⟩,⟨y2,rfl,h2⟩,⟨y3,rfl,h3⟩,⟨y4,rfl,h4⟩,⟨y5,rfl,h5⟩,⟨y6,rfl,h6⟩,⟨y7,rfl,h7⟩,_⟩=>by
   obtain ⟨x0,rfl,g0⟩:=ybQ h0
   obtain ⟨x1,rfl,g1⟩:=ybQ h1
   obtain ⟨x2,rfl,g2⟩:=ybQ h2
   obtain ⟨x3,rfl,g3⟩:=ybQ h3
   obtain ⟨x4,rfl,g4⟩:=ybQ h4
   obtain ⟨x5,rfl,g5⟩:=ybQ h5
   obtain ⟨x6,rfl,g6⟩:=ybQ h6
   obtain ⟨x7,rfl,g7⟩:=ybQ h7
   refine ⟨of8c x0 x1 x2 x3 x4 x5 x6 x7,rfl,fun i hi=>?_⟩
   rcases ygj hi with rfl | rfl | rfl | rfl | rfl | rfl | rfl | rfl
   ·exact g0
   ·exact g1
   ·exact g2
   ·exact g3
   ·exact g4
   ·exact g5
   ·exact g6
   ·exact g7
theorem ybY {k:Leaf} {ks:List Leaf}:∀{cs:List Value},oks (k :: ks) cs→∃v vs,cs=v :: vs∧k.ok v∧oks ks vs
 | [],h=>h.elim
 | v :: vs,h=>⟨v,vs,rfl,h.1,h.2⟩
theorem oks_nil:∀{cs:List Value},oks [] cs→cs= []
 | [],_=>rfl
 | _ :: _,h=>h.elim
theorem ok_i {v:Value} (h:Leaf.ok (.int .i64) v):∃n,v= .int .i64 n∧i64B n:=by
 obtain ⟨n,e,h⟩:=h
 exact ⟨n,e,wf_i64 h⟩
theorem oks_i5 {cs:List Value} (h:oks [.int .i64, .int .i64, .int .i64, .int .i64, .int .i64] cs):∃a b c d e:Int,cs= [.int .i64 a, .int .i64 b, .int .i64 c, .int .i64 d, .int .i64 e]∧i64B a∧i64B b∧i64B c∧i64B d∧i64B e:=by
 obtain ⟨_,_,rfl,k0,h⟩:=ybY h
 obtain ⟨_,_,rfl,k1,h⟩:=ybY h
 obtain ⟨_,_,rfl,k2,h⟩:=ybY h
 obtain ⟨_,_,rfl,k3,h⟩:=ybY h
 obtain ⟨_,_,rfl,k4,h⟩:=ybY h
 obtain rfl:=oks_nil h
 obtain ⟨a,rfl,g0⟩:=ok_i k0
 obtain ⟨b,rfl,g1⟩:=ok_i k1
 obtain ⟨c,rfl,g2⟩:=ok_i k2
 obtain ⟨d,rfl,g3⟩:=ok_i k3
 obtain ⟨e,rfl,g4⟩:=ok_i k4
 exact ⟨a,b,c,d,e,rfl,g0,g1,g2,g3,g4⟩
theorem oks_bib {cs:List Value} (h:oks [.bool, .int .i64, .bool] cs):∃(a:Bool) (n:Int) (b:Bool),cs= [.bool a, .int .i64 n, .bool b]∧i64B n:=by
 obtain ⟨_,_,rfl,⟨a,rfl⟩,h1⟩:=ybY h
 obtain ⟨_,_,rfl,k1,h2⟩:=ybY h1
 obtain ⟨_,_,rfl,⟨b,rfl⟩,h3⟩:=ybY h2
 obtain rfl:=oks_nil h3
 obtain ⟨n,rfl,g⟩:=ok_i k1
 exact ⟨a,n,b,rfl,g⟩
abbrev yhQ:List Leaf:= [.int .u64, .int .u64, .int .u64, .int .u64, .int .u64, .int .u64, .int .u64] ++ ([.bool, .int .i64, .bool] ++ ([.int .u64, .int .u64, .int .u64, .int .u64, .int .u64, .int .u64, .int .u64, .int .u64] ++ ([.int .u64, .int .u64, .int .u64, .int .u64, .int .u64, .int .u64, .int .u64] ++ [.int .i64, .int .i64, .int .i64, .int .i64, .int .i64])))
theorem leafCl:yeP Tryz.prog 6 36=some yhQ:=by kernel_rfl
theorem oks_cl {cs:List Value} (h:oks yhQ cs):∃c:Cl,cs=yad c∧c.Ok:=by
 obtain ⟨c1,r1,rfl,h1,h⟩:=ycA _ _ h
 obtain ⟨c2,r2,rfl,h2,h⟩:=ycA _ _ h
 obtain ⟨c3,r3,rfl,h3,h⟩:=ycA _ _ h
 obtain ⟨c4,r4,rfl,h4,h5⟩:=ycA _ _ h
 obtain ⟨m,rfl,g1⟩:=oks_u7 h1
 obtain ⟨o,n,b,rfl,g2⟩:=oks_bib h2
 obtain ⟨d,rfl,g3⟩:=oks_u8 h3
 obtain ⟨y,rfl,g4⟩:=oks_u7 h4
 obtain ⟨u,s,a,f,t,rfl,g5,g6,g7,g8,g9⟩:=oks_i5 h5
 exact ⟨{m:=m,or:=o,oin:=n,oback:=b,od:=d,ys:=y,unit:=u,step:=s,anchor:=a,fr:=f,un:=t},rfl,⟨g1,g3,g4,g2,g5,g6,g7,g8,g9⟩⟩
end
section
open Go.ChangeShapes Go.WideShapes Go.ChangeAt Go.RowKit
def cls (l:List Cl):List Value:=l.flatMap yad
theorem yfz (l:List Cl):(cls l).length=l.length * 30:=by
 induction l with
 | nil=>rfl
 | cons c l ih=>
   rw [show cls (c :: l)=yad c ++ cls l by simp [cls],List.length_append,ih]
   simp only [List.length_cons,List.length_nil]
   omega
theorem oks_cls:∀{cells:List Value} {n:Nat},cells.length=n * 30→(∀i,i < n→oks yhQ ((cells.drop (i * 30)).take 30))→∃l:List Cl,cells=cls l∧l.length=n∧∀c∈l,c.Ok
 | cells,0,h,_=>⟨[],by cases cells; rfl; simp at h,rfl,by simp⟩
 | cells,n+1,h,hk=>by
   obtain ⟨l,e,hl,hb⟩:=oks_cls (cells:=cells.drop 30) (n:=n) (by simp; omega) (fun i hi=>by
    have:=hk (i+1) (by omega)
    rw [List.drop_drop]
    rwa [show 30+i * 30= (i+1) * 30 by omega])
   have h0:=hk 0 (by omega)
   rw [Nat.zero_mul,List.drop_zero] at h0
   obtain ⟨c,ec,hc⟩:=oks_cl h0
   refine ⟨c :: l,?_,by simp [hl],fun y hy=>?_⟩
   ·rw [show cls (c :: l)=yad c ++ cls l by simp [cls],←e,←ec,List.take_append_drop]
   ·rcases List.mem_cons.1 hy with rfl | hy
    ·exact hc
    ·exact hb y hy
theorem cellsCl30:Tryz.prog.cellsOf 36=30:=by kernel_rfl
theorem open_cls {H:Type} {enc:TypeId × Value→H} {W:World} {a:Option Addr} {len cap:Nat} {d:DataW H} {p:List MemPlace} (h:DataW.Trod enc Tryz.prog W 0 (fun _=>true) true 22 (.slice a len cap) d p) :
  ∃l:List Cl,len=l.length∧l.length≤cap∧cap≤maxLen∧Sl W a (cls l)∧(a=none→cap=0)∧∀c∈l,c.Ok:=by
 obtain ⟨fuel,hf⟩:=h
 obtain ⟨a',n,cap',cells,e,h1,h2,h3,h4,h6,h5⟩:=open_flat Tryz.underlying22 leafCl cellsCl30.symm (by decide) (v:= .slice a len cap) (by simpa [Value.cells] using hf)
 cases e
 obtain ⟨l,rfl,hll,hw⟩:=oks_cls h3 h5
 subst hll
 exact ⟨l,rfl,h1,h2,h4,h6,hw⟩
end
section
open Go.RowKit
def DCS (W:World) (lo hi:Nat) (c:Cl) (x1 x2:Nat):Prop:=
 ∀(n:Int) (W':World),0≤n→n < 146097→hi≤W'.heap.size→(∀b,lo≤b→b < hi→W'.heap[b]? =W.heap[b]?)→
  Calls Tryz.prog 138 #[shN n, .pointer (some ⟨x1,0,none⟩), .pointer (some ⟨x2,0,none⟩)] W' fun e w'=>e= .returned (.bool (dayC c n))∧Below W'.heap.size W' w'
theorem UDV.blocks {W W':World} {lo:Nat} {u s a:Int} {fv:Value} (h:UDV W lo u s a fv) (hs:W.heap.size≤W'.heap.size) (hb:∀b,lo≤b→b < W.heap.size→W'.heap[b]? =W.heap[b]?):UDV W' lo u s a fv:=by
 rcases h with h | h | ⟨h1,h2,h3,b3,b7,b4,h4,h5,h6,h7,h8⟩
 ·exact .inl h
 ·exact .inr (.inl h)
 ·refine .inr (.inr ⟨h1,h2,h3,b3,b7,b4,h4,h5.keep hs (fun b hb'=>?_),h6,h7,h8⟩)
  rcases hb' with rfl | rfl | rfl
  ·exact hb _ h6 h5.l3
  ·exact hb _ h7 h5.l7
  ·exact hb _ h8 h5.l4
theorem CDV.dcs {W:World} {lo:Nat} {c:Cl} {fv:Value} (h:CDV W lo c fv) (hm:mayC c=true) (hc:c.Ok) :
  ∃x1 x2:Nat,fv= .func (.func 138) #[] #[.pointer (some ⟨x1,0,none⟩), .pointer (some ⟨x2,0,none⟩)]∧DCS W lo W.heap.size c x1 x2:=by
 rcases h with ⟨h,-⟩ | ⟨-,b1,b2,v,rfl,hcl,l1,hv,l2,o1,o2,hu⟩
 ·rw [hm] at h; cases h
 ·refine ⟨b1,b2,rfl,fun n W' h0 h1 hs hb=>?_⟩
  rw [dayC,hm,zzo]
  have e1:ClB W' b1 c:=fun j x hx=>(zzJ (w:=W) (a:=⟨b1,0+j,none⟩) (hb b1 o1 l1)).trans (hcl j x hx)
  have e2:W'.cell? ⟨b2,0,none⟩=some v:=(zzJ (w:=W) (a:=⟨b2,0,none⟩) (hb b2 o2 l2)).trans hv
  exact CD2_any c n b1 b2 lo v W' hc (ycB hm).1 h0 h1 e1 (by omega) e2 (by omega) (hu.blocks hs hb)
theorem DCS.call {W W':World} {lo hi:Nat} {c:Cl} {x1 x2:Nat} (h:DCS W lo hi c x1 x2) (hs:hi≤W'.heap.size) (hb:∀b,lo≤b→b < hi→W'.heap[b]? =W.heap[b]?):DCS W' lo hi c x1 x2:=
 fun n X h0 h1 hX hbX=>h n X h0 h1 hX (fun b h2 h3=>(hbX b h2 h3).trans (hb b h2 h3))
theorem DCS.below {W W':World} {lo hi:Nat} {c:Cl} {x1 x2:Nat} (h:DCS W lo hi c x1 x2) (hs:hi≤W.heap.size) (hb:Below W.heap.size W W'):DCS W' lo hi c x1 x2:=
 h.call (zI hs hb.size) (fun b _ h2=>hb.block b (by omega))
theorem DCS.set {W:World} {lo hi b o:Nat} {v:Value} {c:Cl} {x1 x2:Nat} (h:DCS W lo hi c x1 x2) (hs:hi≤W.heap.size) (hb:b < lo∨hi≤b):DCS (W.setCell ⟨b,o,none⟩ v) lo hi c x1 x2:=
 h.call (by rw [World.size_setCell]; exact hs) (fun k h1 h2=>by
  exact Go.Deep.blk_setCell_other W ⟨b,o,none⟩ v k (by show¬k=b; omega))
end
section
open Go.RowKit
theorem cls_get (l:List Cl):∀(k:Nat) (hk:k < l.length) (i:Nat) (hi:i < 30),(cls l)[k * 30+i]? = (yad l[k])[i]?:=by
 induction l with
 | nil=>intro k hk; simp at hk
 | cons c l ih=>
   intro k hk i hi
   rw [show cls (c :: l)=yad c ++ cls l by simp [cls]]
   cases k with
   | zero=>
     rw [Nat.zero_mul,zzn,List.getElem?_append_left (by exact hi)]
     rfl
   | succ k=>
     rw [List.getElem?_append_right (by show 30≤_; omega),show (k+1) * 30+i - (yad c).length=k * 30+i by show (k+1) * 30+i - 30= _; omega,ih k (by simp at hk; omega) i hi]
     rfl
theorem Sl.atCl {w:World} {a:Option Addr} {l:List Cl} (h:Sl w a (cls l)) {k:Nat} (hk:k < l.length) :
  ∃b off,a=some ⟨b,off,none⟩∧b < w.heap.size∧w.rangeAt b (off+k * 30) (yad l[k]):=by
 obtain ⟨b,off,rfl,hlt,hc⟩:=Sl.at h (k:=k * 30) (by rw [yfz]; omega)
 refine ⟨b,off,rfl,hlt,fun j v hv=>?_⟩
 have hj:j < 30:=(zzq.1 hv).1
 rw [←cls_get l k hk j hj] at hv
 obtain ⟨h1,h2⟩:=zzq.1 hv
 rw [Nat.add_assoc,hc _ h1,h2]
theorem ygY {W:World} {b o:Nat} {c:Cl} (h:W.rangeAt b o (yad c)):(yck (.pointer (some ⟨b,o,none⟩))).run Tryz.prog W= .ok (clv c) W:=
 run_loadAt_mid W b o 36 (yad c) _ h Tryz.underlying36 rfl yiP
theorem yaM {W W':World} {b o B:Nat} {cs:List Value} (h:W.rangeAt b o cs) (hb:Below B W W') (hB:b < B):W'.rangeAt b o cs:=fun j v hv=>(hb.cell (p:=⟨b,o+j,none⟩) hB).trans (h j v hv)
theorem ybH (b:Nat):∀(vs:List Value) (o:Nat) (W:World),(W.setCells b o vs).heap.size=W.heap.size
 | [],_,_=>rfl
 | v :: vs,o,W=>by rw [World.setCells,ybH b vs (o+1),World.size_setCell]
theorem yiG (W:World) (b:Nat) (cs:List Value):yb1 W b cs=W.setCells b 0 cs:=rfl
end
end Go.Proofs.YtkpgfmonhfnhdaaGreatDoor
