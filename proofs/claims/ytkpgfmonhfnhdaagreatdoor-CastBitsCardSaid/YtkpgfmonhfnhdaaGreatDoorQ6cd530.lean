/-
  math/bits.Mul64, num.size, num.Times, num.Mod, num.Gcd.
  moment.Join, span.Day; unit.Phase.
  What lap.Laps' texts use: a state, four cells of a block, boxes.
  lap.plain: the disc of all seconds of a state, whatever their phase.
  feriaref13.Day; what the document says of a clause and an instant.
  A clause with another From and Until; each instant of the window has Full.
  The days from one to another one; the day after a day.
  The days of clauses: which of them are active on a day, the list of days, the first and the last one.
  The chapter's example has 97 days.
  The law of a clause's state on a day: what is cut of the day, in ferialaw16's words and in lap's.
  The seconds of a clause's state on a day are those of the day's instants that have the clause.
-/
import Derived.Test.YtkpgfmonhfnhdaaGreatDoorQ1af996
import Derived.Lib.Mul64
import Derived.BigQuiet
import Derived.Test.YtkpgfmonhfnhdaaGreatDoorQbf9d08
import Derived.Test.YtkpgfmonhfnhdaaGreatDoorQ446fa1
import Derived.Deep.RegionHeld3
import Derived.Test.YtkpgfmonhfnhdaaGreatDoorQ0be0eb
import Derived.Deep.Heap
import Derived.Test.YtkpgfmonhfnhdaaGreatDoorQ74f80c
set_option maxRecDepth 100000
set_option maxHeartbeats 25600000
namespace Go.Proofs.YtkpgfmonhfnhdaaGreatDoor
set_option linter.unusedVariables false
section
open Go.RowKit
theorem ygv (a b:Int) (w:World) (ha:i64B a) (hb:1≤b) (hb2:i64B b):Calls Tryz.prog 147 #[.int .i64 a, .int .i64 b] w fun e w'=>e= .returned (.int .i64 (a % b))∧w=w':=by
 obtain ⟨h0,h1⟩:=ha
 obtain ⟨h2,h3⟩:=hb2
 have hbn:¬b=0:=by omega
 have hm:a % b=if a.tmod b < 0 then a.tmod b+b else a.tmod b:=by
  rw [Int.tmod_eq_emod]
  have h4:=Int.emod_nonneg a (show b≠0 by omega)
  have h5:=Int.emod_lt_of_pos a (show 0 < b by omega)
  split <;> split <;> omega
 have h4:=Int.emod_nonneg a (show b≠0 by omega)
 have h5:=Int.emod_lt_of_pos a (show 0 < b by omega)
 rw [hm] at h4 h5⊢
 clear hm
 obtain ⟨r,hr⟩:∃r,a.tmod b=r:=⟨_,rfl⟩
 have Hr:=hid hr
 by_cases hr0:r < 0
 ·rw [hr,if_pos hr0] at h4 h5⊢
  have hw:=hid (w64 (r+b) (by omega))
  clear h4 h5
  go_enter Tryz.func147,Tryz.ntmps147
  go_wp2
  go_ret
  exact ⟨by rw [hw.out]; rfl,rfl⟩
 ·rw [hr,if_neg hr0] at h4 h5⊢
  clear h4 h5
  go_enter Tryz.func147,Tryz.ntmps147
  go_wp2
  go_ret
  exact ⟨rfl,rfl⟩
def gcdL (l:List Int):Nat:=l.foldl (fun g n=>Nat.gcd g n.natAbs) 0
end
section
open Go.RowKit
theorem yjl (n s:Int) (w:World) (h0:0≤n) (h1:n < 146097) (h2:0≤s) (h3:s < 86400):Calls Tryz.prog 146 #[.int .i64 n, .int .i64 s] w fun e w'=>e= .returned (.tuple #[.int .i64 (n * 86400+s), .bool true])∧w=w':=by
 have hm:=IntWalk.i64_in (n * 86400) (by omega)
 have ha:=IntWalk.i64_in (n * 86400+s) (by omega)
 go_enter Tryz.func146,Tryz.ntmps146
 go_wp2
 go_ret2
 exact ⟨rfl,rfl⟩
theorem yjg (n:Int) (w:World) (h0:0≤n) (h1:n < 146097):Calls Tryz.prog 144 #[.int .i64 n] w fun e w'=>e= .returned (spv (86400 * n) (86400 * n+86399))∧Below w.heap.size w w':=by
 have c1:=hid (fun W=>yjl n 0 W h0 h1 (by omega) (by omega))
 rw [show n * 86400+0=86400 * n by omega] at c1
 obtain ⟨d,hd⟩:∃d,86400 * n=d:=⟨_,rfl⟩
 rw [hd] at c1⊢
 have hd0:0≤d:=by omega
 have hd1:d < 12622780800:=by omega
 clear hd h0 h1
 go_enter Tryz.func144,Tryz.ntmps144
 go_wp2_with fail
 refine (c1.out _).mono ?_
 rintro e w' ⟨rfl,rfl⟩
 go_wp2
 exact bodyPost_ret (yae rfl _ _ w.heap.size 0 _ _ rfl (yaG w _ _) Tryz.underlying147 rfl yeT) rfl ⟨ret_sp rfl (by omega),yaa (Below.refl _ _) (zG _)⟩
theorem yjs {u t:Int} (hu:unB u=true) (ht:winB t=true):ybf u t=true:=by rw [ybf,hu,ht]; rfl
theorem Phase_any (u s a n:Int) (w:World) (hu:unB u=true) (ha:winB a=true) (hs:1≤s) (hs2:i64B s) (h0:0≤n) (h1:n < 146097) (hz:0 < yan u) :
  Calls Tryz.prog 102 #[.int .i64 u, .int .i64 s, .int .i64 a, .int .i64 n] w fun e w'=>e= .returned (.int .i64 ((yaR u a - 86400 * n / yan u) % s))∧Below w.heap.size w w':=by
 have c1:=hid (fun W=>yfC u a W)
 rw [(yjs hu ha)] at c1
 have c2:=hid (fun W=>yjl n 0 W h0 h1 (by omega) (by omega))
 rw [show n * 86400+0=86400 * n by omega] at c2
 have c3:=hid (fun W=>ydD u W)
 obtain ⟨d,hd⟩:∃d,86400 * n=d:=⟨_,rfl⟩
 rw [hd] at c2⊢
 have hb:=ygF u a
 obtain ⟨x,hx⟩:∃x,yaR u a=x:=⟨_,rfl⟩
 rw [hx] at c1 hb⊢
 have hd0:0≤d:=by omega
 have hd1:d < 12622780800:=by omega
 have hz3:yan u=1∨yan u=60∨yan u=3600:=by
  unfold yan at hz⊢
  split
  ·exact .inl rfl
  ·split
   ·exact .inr (.inl rfl)
   ·split
    ·exact .inr (.inr rfl)
    ·rename_i a1 a2 a3; rw [if_neg a1,if_neg a2,if_neg a3] at hz; omega
 clear hx hd hu ha h0 h1 hz
 rcases hz3 with hz | hz | hz
 all_goals
  rw [hz] at c3⊢
  clear hz
 ·have c4:=hid (fun W=>ygv (x - d) s W ⟨by omega,by omega⟩ hs hs2)
  rw [show d / 1=d by omega]
  have hw:=IntWalk.i64_in (x - d) (by omega)
  go_enter Tryz.func102,Tryz.ntmps102
  go_wp2_with fail
  refine (c1.out _).mono ?_
  rintro e w1 ⟨rfl,hB1⟩
  have HB1:=hid hB1
  clear hB1
  go_wp2_with fail
  refine (c2.out _).mono ?_
  rintro e w' ⟨rfl,rfl⟩
  go_wp2_with fail
  refine (c3.out _).mono ?_
  rintro e w2 ⟨rfl,hB2⟩
  have HB2:Hid (Below w.heap.size w w2):=HB1.out.trans (hB2.mono HB1.out.size)
  clear hB2
  go_wp2_with fail
  with_reducible refine (c4.out _).mono ?_
  rintro e w' ⟨rfl,rfl⟩
  go_wp2
  go_ret
  exact ⟨rfl,HB2.out⟩
 ·have c4:=hid (fun W=>ygv (x - d / 60) s W ⟨by omega,by omega⟩ hs hs2)
  have hw:=IntWalk.i64_in (x - d / 60) (by omega)
  go_enter Tryz.func102,Tryz.ntmps102
  go_wp2_with fail
  refine (c1.out _).mono ?_
  rintro e w1 ⟨rfl,hB1⟩
  have HB1:=hid hB1
  clear hB1
  go_wp2_with fail
  refine (c2.out _).mono ?_
  rintro e w' ⟨rfl,rfl⟩
  go_wp2_with fail
  refine (c3.out _).mono ?_
  rintro e w2 ⟨rfl,hB2⟩
  have HB2:Hid (Below w.heap.size w w2):=HB1.out.trans (hB2.mono HB1.out.size)
  clear hB2
  go_wp2_with fail
  with_reducible refine (c4.out _).mono ?_
  rintro e w' ⟨rfl,rfl⟩
  go_wp2
  go_ret
  exact ⟨rfl,HB2.out⟩
 ·have c4:=hid (fun W=>ygv (x - d / 3600) s W ⟨by omega,by omega⟩ hs hs2)
  have hw:=IntWalk.i64_in (x - d / 3600) (by omega)
  go_enter Tryz.func102,Tryz.ntmps102
  go_wp2_with fail
  refine (c1.out _).mono ?_
  rintro e w1 ⟨rfl,hB1⟩
  have HB1:=hid hB1
  clear hB1
  go_wp2_with fail
  refine (c2.out _).mono ?_
  rintro e w' ⟨rfl,rfl⟩
  go_wp2_with fail
  refine (c3.out _).mono ?_
  rintro e w2 ⟨rfl,hB2⟩
  have HB2:Hid (Below w.heap.size w w2):=HB1.out.trans (hB2.mono HB1.out.size)
  clear hB2
  go_wp2_with fail
  with_reducible refine (c4.out _).mono ?_
  rintro e w' ⟨rfl,rfl⟩
  go_wp2
  go_ret
  exact ⟨rfl,HB2.out⟩
theorem yaf {W:World} {p q:Addr} {v:Value}:(W.setCell p v).frozen? q=W.frozen? q:=by
 have:=World.frozen?_setCells p.block [v] p.off W
 simp [go_sem]
end
section
open Go.RowKit
abbrev CtS (w:World) (W:World):Prop:=Below w.heap.size w W∧w.heap.size < W.heap.size
theorem CtS.keep {w W W':World} (h:CtS w W) (hb:Below W.heap.size W W'):CtS w W':=⟨h.1.trans (hb.mono (Nat.le_of_lt h.2)),zH h.2 hb.size⟩
end
section
open Go.RowKit
attribute [local go_sem ↓] yaq
abbrev stv (b:Bool) (f u p:Int):Value:= .agg #[.bool b, .int .i64 f, .int .i64 u, .int .i64 p]
def ycz (c:Cl) (n:Int):Int:=if 1 < c.step∧0 < yan c.unit then (yaR c.unit c.anchor - 86400 * n / yan c.unit) % c.step else 0
theorem ycD:(Tryz.prog.info? 177).map (·.size)=some 4:=by kernel_rfl
abbrev Four (W:World) (b:Nat) (v0 v1 v2 v3:Value):Prop:=
 (W.cell? ⟨b,0,none⟩=some v0∧W.cell? ⟨b,1,none⟩=some v1∧W.cell? ⟨b,2,none⟩=some v2∧W.cell? ⟨b,3,none⟩=some v3)∧(W.frozen? ⟨b,0,none⟩=false∧W.frozen? ⟨b,1,none⟩=false∧W.frozen? ⟨b,2,none⟩=false∧W.frozen? ⟨b,3,none⟩=false)
theorem Four.below {W W':World} {b B:Nat} {v0 v1 v2 v3:Value} (h:Four W b v0 v1 v2 v3) (hb:Below B W W') (hB:b < B):Four W' b v0 v1 v2 v3:=by
 obtain ⟨⟨a0,a1,a2,a3⟩,f0,f1,f2,f3⟩:=h
 exact ⟨⟨(hb.cell (p:=⟨b,0,none⟩) hB).trans a0,(hb.cell (p:=⟨b,1,none⟩) hB).trans a1,(hb.cell (p:=⟨b,2,none⟩) hB).trans a2,(hb.cell (p:=⟨b,3,none⟩) hB).trans a3⟩,
  (hb.frozen (p:=⟨b,0,none⟩) hB).trans f0,(hb.frozen (p:=⟨b,1,none⟩) hB).trans f1,(hb.frozen (p:=⟨b,2,none⟩) hB).trans f2,(hb.frozen (p:=⟨b,3,none⟩) hB).trans f3⟩
theorem ybL (w:World) (v0 v1 v2 v3:Value) (t:TypeId):Four (w.alloc (.cells #[v0,v1,v2,v3] t)) w.heap.size v0 v1 v2 v3:=by
 refine ⟨⟨?_,?_,?_,?_⟩,?_,?_,?_,?_⟩ <;> simp [go_sem]
theorem Four.set1 {W:World} {b:Nat} {v0 v1 v2 v3:Value} (h:Four W b v0 v1 v2 v3) (x y:Value):Four ((W.setCell ⟨b,1,none⟩ x).setCell ⟨b,2,none⟩ y) b v0 x y v3:=by
 obtain ⟨⟨a0,a1,a2,a3⟩,f0,f1,f2,f3⟩:=h
 have ne:∀i j:Nat,i≠j→(⟨b,i,none⟩:Addr)≠⟨b,j,none⟩:=fun i j hij e=>by injection e with _ e _; exact hij e
 refine ⟨⟨?_,?_,?_,?_⟩,by rw [yaf,yaf]; exact f0,by rw [yaf,yaf]; exact f1,by rw [yaf,yaf]; exact f2,by rw [yaf,yaf]; exact f3⟩
 ·rw [zzL _ _ _ _ (ne 2 0 (by omega)),zzL _ _ _ _ (ne 1 0 (by omega))]; exact a0
 ·rw [zzL _ _ _ _ (ne 2 1 (by omega))]; exact zzW _ _ _ a1
 ·exact zzW _ _ _ (by rw [zzL _ _ _ _ (ne 1 2 (by omega))]; exact a2)
 ·rw [zzL _ _ _ _ (ne 2 3 (by omega)),zzL _ _ _ _ (ne 1 3 (by omega))]; exact a3
theorem Four.put {W:World} {b:Nat} {v0 v1 v2 v3:Value} (h:Four W b v0 v1 v2 v3) (x0 x1 x2 x3:Value):((((W.setCell ⟨b,0,none⟩ x0).setCell ⟨b,1,none⟩ x1).setCell ⟨b,2,none⟩ x2).setCell ⟨b,3,none⟩ x3).rangeAt b 0 [x0,x1,x2,x3]:=by
 obtain ⟨⟨a0,a1,a2,a3⟩,f0,f1,f2,f3⟩:=h
 exact World.rangeAt_setCells_same W b 0 [x0,x1,x2,x3] (fun j hj=>by
  have hj4:j=0∨j=1∨j=2∨j=3:=by have:j < 4:=hj; omega
  rcases hj4 with rfl | rfl | rfl | rfl
  ·exact ⟨by show (W.cell? ⟨b,0,none⟩).isSome=true; rw [a0]; rfl,f0⟩
  ·exact ⟨by show (W.cell? ⟨b,1,none⟩).isSome=true; rw [a1]; rfl,f1⟩
  ·exact ⟨by show (W.cell? ⟨b,2,none⟩).isSome=true; rw [a2]; rfl,f2⟩
  ·exact ⟨by show (W.cell? ⟨b,3,none⟩).isSome=true; rw [a3]; rfl,f3⟩)
end
section
open Go.RowKit
attribute [local go_sem ↓] yaq
attribute [local go_sem] yda
abbrev LaS (w:World) (c:Cl) (W:World):Prop:=
 (yck (.pointer (some ⟨w.heap.size,0,none⟩))).run Tryz.prog W= .ok (clv c) W∧ClB W w.heap.size c∧Below w.heap.size w W∧w.heap.size < W.heap.size
theorem LaS.of {w W:World} {c:Cl} (h:ClB W w.heap.size c) (hb:Below w.heap.size w W) (hs:w.heap.size < W.heap.size):LaS w c W:=⟨h.ld,h,hb,hs⟩
theorem LaS.keep {w W W':World} {c:Cl} (h:LaS w c W) (hb:Below W.heap.size W W'):LaS w c W':=
 LaS.of (h.2.1.below hb h.2.2.2) (h.2.2.1.trans (hb.mono (Nat.le_of_lt h.2.2.2))) (zH h.2.2.2 hb.size)
theorem LaS.set {w W:World} {c:Cl} {b o:Nat} {v:Value} (h:LaS w c W) (hb:w.heap.size < b):LaS w c (W.setCell ⟨b,o,none⟩ v):=
 LaS.of (fun j x hx=>by
  rw [zzL _ _ _ _ (by intro e; injection e with e _ _; omega)]
  exact h.2.1 j x hx) (yab h.2.2.1 (Nat.le_of_lt hb)) (by rw [World.size_setCell]; exact h.2.2.2)
structure B1 (w W:World) (b:Nat) (v:Value):Prop where
 c:W.cell? ⟨b,0,none⟩=some v
 f:W.frozen? ⟨b,0,none⟩=false
 l:b < W.heap.size
 g:w.heap.size < b
structure B2 (w W:World) (b:Nat) (v u:Value):Prop where
 c:W.cell? ⟨b,0,none⟩=some v∧W.cell? ⟨b,1,none⟩=some u
 f:W.frozen? ⟨b,0,none⟩=false∧W.frozen? ⟨b,1,none⟩=false
 l:b < W.heap.size
 g:w.heap.size < b
theorem B1.below {w W W':World} {b:Nat} {v:Value} (h:B1 w W b v) (hb:Below W.heap.size W W'):B1 w W' b v:=
 ⟨(hb.cell (p:=⟨b,0,none⟩) h.l).trans h.c,(hb.frozen (p:=⟨b,0,none⟩) h.l).trans h.f,zH h.l hb.size,h.g⟩
theorem B2.below {w W W':World} {b:Nat} {v u:Value} (h:B2 w W b v u) (hb:Below W.heap.size W W'):B2 w W' b v u:=
 ⟨⟨(hb.cell (p:=⟨b,0,none⟩) h.l).trans h.c.1,(hb.cell (p:=⟨b,1,none⟩) h.l).trans h.c.2⟩,⟨(hb.frozen (p:=⟨b,0,none⟩) h.l).trans h.f.1,(hb.frozen (p:=⟨b,1,none⟩) h.l).trans h.f.2⟩,zH h.l hb.size,h.g⟩
theorem ydB {w W:World} (v:Value) (t:TypeId) (h:w.heap.size < W.heap.size):B1 w (W.alloc (.cells #[v] t)) W.heap.size v:=⟨by simp [go_sem],by simp [go_sem],by simp,h⟩
theorem ydA {w W:World} (v u:Value) (t:TypeId) (h:w.heap.size < W.heap.size):B2 w (W.alloc (.cells #[v,u] t)) W.heap.size v u:=⟨⟨by simp [go_sem],by simp [go_sem]⟩,⟨by simp [go_sem],by simp [go_sem]⟩,by simp,h⟩
end
section
open Go.RowKit
attribute [local go_sem] Oper.semAt_some
def LpI (bd:Nat) (p:Int→Bool) (l:List Int):OwnP:=fun k O W=>(∀b,O b↔b=bd)∧DiscAt W bd (memD ((l.take k).filter p))
theorem yiL (bd:Nat) (p:Int→Bool) (l:List Int):ybd (LpI bd p l):=fun k O W W' h hs hO=>⟨h.1,h.2.block hs (hO bd ((h.1 bd).mpr rfl))⟩
theorem lpI_lt (bd:Nat) (p:Int→Bool) (l:List Int):LtO (LpI bd p l):=fun k O W h b hb=>by rw [(h.1 b).mp hb]; exact h.2.lt
theorem DiscAt.more {W W':World} {bd:Nat} {p:Int→Bool} {l:List Int} {k:Nat} {x:Int} (hx:l[k]? =some x) (hp:p x=true) (h:DiscAt W' bd (fun j=>memD ((l.take k).filter p) j || decide ((j:Int)=x))) :
  DiscAt W' bd (memD ((l.take (k+1)).filter p)):=by
 obtain ⟨hk,rfl⟩:=zzq.1 hx
 refine h.congr fun j hj=>?_
 rw [yap l k hk,List.filter_append,memD,memD,zze,Bool.or_eq_true,zzY,zzY,zzY,List.mem_append]
 simp [hp]
theorem DiscAt.same {W:World} {bd:Nat} {p:Int→Bool} {l:List Int} {k:Nat} {x:Int} (hx:l[k]? =some x) (hp:p x=false) (h:DiscAt W bd (memD ((l.take k).filter p))) :
  DiscAt W bd (memD ((l.take (k+1)).filter p)):=by
 obtain ⟨hk,rfl⟩:=zzq.1 hx
 have e:(l.take (k+1)).filter p= (l.take k).filter p:=by rw [yap l k hk,List.filter_append]; simp [hp]
 rw [e]; exact h
theorem yjV {l:List Int} {f u:Int} {k:Nat} {x:Int} (hr:l.Pairwise (·< ·)) (hx:l[k]? =some x) (hu:u < x):(l.take k).filter (betB f u)=l.filter (betB f u):=by
 obtain ⟨hk,rfl⟩:=zzq.1 hx
 have e:l.filter (betB f u)= (l.take k).filter (betB f u) ++ (l.drop k).filter (betB f u):=by rw [←List.filter_append,List.take_append_drop]
 have e2:(l.drop k).filter (betB f u)= []:=by
  rw [List.filter_eq_nil_iff]
  intro y hy
  rw [List.drop_eq_getElem_cons hk] at hy
  have hge:l[k]≤y:=by
   rcases List.mem_cons.1 hy with h | h
   ·omega
   ·have hp:(l[k] :: l.drop (k+1)).Pairwise (·< ·):=by rw [←List.drop_eq_getElem_cons hk]; exact hr.sublist (List.drop_sublist _ _)
    have:=(List.pairwise_cons.1 hp).1 y h
    omega
  rw [betB]; simp; omega
 rw [e,e2,List.append_nil]
def ybw (c:Cl) (f u:Int) (k:Nat):Bool:=yaW k (c.m 2) (c.m 1) (c.m 0) && betB f u k
theorem plain_mem (c:Cl) (f u:Int) (hc:c.Ok) (k:Nat) (hk:k < 86400):memD ((yaS (c.m 2) (c.m 1) (c.m 0)).filter (betB f u)) k=ybw c f u k:=by
 rw [memD,ybw,zze,zzY,List.mem_filter,zzX,yb7 (hc.m 2 (by omega)) (hc.m 1 (by omega)) (hc.m 0 (by omega)) (by omega) (by omega)]
theorem yko (c:Cl) (a:Bool) (f u p:Int) (w:World) (hc:c.Ok) (hT:Tab w) :
  Calls Tryz.prog 177 #[clv c,stv a f u p] w fun e w'=>∃b,e= .returned (.pointer (some ⟨b,0,none⟩))∧w.heap.size≤b∧DiscAt w' b (ybw c f u)∧Below w.heap.size w w':=by
 have c1:=hid (fun W=>yd4 none 0 [] W (by simp) (Sl.nil _ _))
 have c2:=hid (fun W=>yek (c.m 2) (c.m 1) (c.m 0) W (hc.m 2 (by omega)) (hc.m 1 (by omega)) (hc.m 0 (by omega)))
 have cP:=hid (fun b q s W h=>ydF b q s W h)
 have tells:=hid (fun bh bm bs Ow w=>ycM (c.m 2) (c.m 1) (c.m 0) bh bm bs Ow w (hc.m 2 (by omega)) (hc.m 1 (by omega)) (hc.m 0 (by omega)))
 have hfin:=hid (plain_mem c f u hc)
 have hris:=hid (ydk (c.m 2) (c.m 1) (c.m 0))
 obtain ⟨L,hL⟩:∃L,yaS (c.m 2) (c.m 1) (c.m 0)=L:=⟨_,rfl⟩
 rw [hL] at tells hfin hris
 have HT:=hid hT
 obtain ⟨W1,hW1⟩:∃W1,(w.alloc (.cells (yad c).toArray 36)).alloc (.cells #[.bool a, .int .i64 f, .int .i64 u, .int .i64 p] 177)=W1:=⟨_,rfl⟩
 have q1:W1.heap.size=w.heap.size+2:=by rw [←hW1]; simp
 have q2:Below w.heap.size w W1:=by rw [←hW1]; exact yaa (yaa (Below.refl _ _) (zG _)) (by simp)
 have q3:ClB W1 w.heap.size c:=by rw [←hW1]; exact ydz w c _ _
 have q4:Four W1 (w.heap.size+1) (.bool a) (.int .i64 f) (.int .i64 u) (.int .i64 p):=by
  rw [←hW1]
  have h:=ybL (w.alloc (.cells (yad c).toArray 36)) (.bool a) (.int .i64 f) (.int .i64 u) (.int .i64 p) 177
  rw [zzN] at h
  exact h
 have HW1:=hid hW1
 have Q2:=hid q2
 have Q3:=hid q3
 have Q4:=hid q4
 clear hW1 q2 q3 q4 hL hT hc
 refine (wf_calls (r:=none) (n:=1)).mp ?_
 refine callsIn_of_wp_marks Tryz.func177 rfl trivial ?_ rfl
 simp only [Tryz.ntmps177,List.size_toArray,List.length_cons,List.length_nil,Nat.reduceAdd,Nat.reduceSub,Array.replicate_succ,Array.replicate_zero,List.push_toArray,List.append_toArray,List.nil_append,List.cons_append]
 gi_wp2_with fail
 refine ybl ?_
 rw [HW1.out]
 gi_wp2_with fail
 refine (wf_calls.mpr (c1.out W1)).mono ?_
 rintro e w2 ⟨rfl,hD,hB2⟩
 rw [q1]
 obtain ⟨W3,hW3⟩:∃W,w2.alloc (.cells #[.pointer (some ⟨w.heap.size+2,0,none⟩)] 72)=W:=⟨_,rfl⟩
 have s2:w.heap.size+2 < w2.heap.size:=by rw [q1] at hD; exact hD.lt
 have b3:Below w2.heap.size w2 W3:=by rw [←hW3]; exact yaa (Below.refl _ _) (zG _)
 have s3:W3.heap.size=w2.heap.size+1:=by rw [←hW3]; simp
 have B13:Below W1.heap.size W1 W3:=hB2.trans (b3.mono hB2.size)
 have HB3:Hid (Below w.heap.size w W3):=Q2.out.trans (B13.mono Q2.out.size)
 have HD3:Hid (DiscAt W3 (w.heap.size+2) (memD [])):=by rw [q1] at hD; exact hD.below b3 s2
 have C3:=hid (Q3.out.below B13 (by omega))
 have F3:=hid (Q4.out.below B13 (by omega))
 have e5:=hid (show W3.cell? ⟨w2.heap.size,0,none⟩=some (.pointer (some ⟨w.heap.size+2,0,none⟩)) by rw [←hW3]; simp [go_sem])
 have m:=C3.out.masks
 rw [←hW3] at m
 obtain ⟨m0,m1,m2,-⟩:=m
 have HW3:=hid hW3
 clear hW3 hD hB2 b3 B13
 gi_wp2_with fail
 refine wpIn_label ?_
 gi_wp2_with fail
 rw [HW3.out]
 clear m0 m1 m2
 refine (wf_calls.mpr (c2.out W3)).mono ?_
 rintro e w4 ⟨rfl,k1,k2,k3,hB4,s4⟩
 have HB4:Hid (Below w.heap.size w w4):=HB3.out.trans (hB4.mono HB3.out.size)
 have I4:Hid (LpI (w.heap.size+2) (betB f u) L 0 (fun b=>b=w.heap.size+2) w4):=⟨fun b=>Iff.rfl,HD3.out.below hB4 (by omega)⟩
 have F4:=hid (F3.out.below hB4 (by omega))
 have e54:=hid ((hB4.cell (p:=⟨w2.heap.size,0,none⟩) (by simp only []; omega)).trans e5.out)
 rw [s3] at k1 k2 k3
 have tl:=hid (tells.out (w2.heap.size+1) (w2.heap.size+1+1) (w2.heap.size+1+2) (fun b=>b=w.heap.size+2) w4 (by omega) (by omega) (by omega) (by omega) (by omega) (by omega) k1 k2 k3 (HT.out.later HB4.out) (by have:=HT.out.1; show¬0= _; omega))
 clear k1 k2 k3 hB4
 gi_wp2_with fail
 have lw4:w2.heap.size < w4.heap.size:=by omega
 have lw5:w.heap.size+1 < w4.heap.size:=by omega
 refine yaZ (gf:=179) (lb:=#[.pointer (some ⟨w2.heap.size+1,0,none⟩), .pointer (some ⟨w2.heap.size+1+1,0,none⟩), .pointer (some ⟨w2.heap.size+1+2,0,none⟩)]) rfl ycN L _ rfl tl.out
  (LpI (w.heap.size+2) (betB f u) L) (fun c k O W=>c= .exit 0∧(∀b,O b↔b=w.heap.size+2)∧DiscAt W (w.heap.size+2) (memD (L.filter (betB f u)))) (yiL _ _ _)
  (fun c k O W W' h hs hO=>⟨h.1,h.2.1,h.2.2.block hs (hO _ ((h.2.1 _).mpr rfl))⟩) (lpI_lt _ _ _) (fun c k O W h b hb=>by rw [(h.2.1 b).mp hb]; exact h.2.2.lt) I4.out
  (fun k O a' W=>LpI (w.heap.size+2) (betB f u) L k O W∧∃x,L[k]? =some x∧∃(u7 u8 u9 u10 u11 u12 u13 u14 u15 u16 u17 u18 u19 u20 u21 u22 u23 u24 u25 u26 u27 u28 u29 u30:Value),a' = {tmps:=#[clv c,stv a f u p, .pointer (some ⟨w.heap.size,0,none⟩), .pointer (some ⟨w.heap.size+1,0,none⟩), .pointer none, .pointer (some ⟨w2.heap.size,0,none⟩), .int .i64 x,u7,u8,u9,u10,u11,u12,u13,u14,u15,u16,u17,u18,u19,u20,u21,u22,u23,u24,u25,u26,u27,u28,u29,u30],defers:= []})
  (fun l o k O a' W' hr hn h=>⟨ybg (yiL _ _ _) h.1 hn o,h.2⟩) ?assign ?body ?done ?stop
 case assign=>
  intro l k O6 W6 K hk hI hG6 hK
  gi_wp2
  exact hK _ O6 _ (Grow.refl _ _) ⟨hI,_,zzp hk,_,_,_,_,_,_,_,_,_,_,_,_,_,_,_,_,_,_,_,_,_,_,_,_,rfl⟩
 case stop=>
  rintro c' k O9 w9 hk1 hk2 hG9 ⟨rfl,hO9,hd9⟩ hD hnD
  have HG9:=hid hG9
  have Hd9:=hid hd9
  have e59:=(hG9.cell lw4 (by omega) 0).trans e54.out
  have HD:=hid hD
  clear hG9 hd9 hD
  gi_wp2
  rw [Exit.noGoto_ret]
  refine ⟨by simp, .inl ⟨_,_,rfl,run_takeDeferred HD.out,?_⟩⟩
  exact ⟨_,results_tmp rfl _ _ _,_,rfl,by omega,(Hd9.out.congr hfin.out).block (by rw [World.putObj_size]; exact zG _) (World.putObj_heap_other (by omega)),yaK (HB4.out.trans (HG9.out.eff.below (by rintro b rfl; omega) HB4.out.size)) HB4.out.size _⟩
 case done=>
  rintro O9 w9 hG9 ⟨hO9,hd9⟩ hD hnD
  rw [List.take_length] at hd9
  have HG9:=hid hG9
  have Hd9:=hid hd9
  have e59:=(hG9.cell lw4 (by omega) 0).trans e54.out
  have HD:=hid hD
  clear hG9 hd9 hD
  gi_wp2
  rw [Exit.noGoto_ret]
  refine ⟨by simp, .inl ⟨_,_,rfl,run_takeDeferred HD.out,?_⟩⟩
  exact ⟨_,results_tmp rfl _ _ _,_,rfl,by omega,(Hd9.out.congr hfin.out).block (by rw [World.putObj_size]; exact zG _) (World.putObj_heap_other (by omega)),yaK (HB4.out.trans (HG9.out.eff.below (by rintro b rfl; omega) HB4.out.size)) HB4.out.size _⟩
 case body=>
  rintro l k O6 a' W6 hk hG6 hl6 hrec6 hnl6 ⟨⟨hO6,hd6⟩,x,ex,u7,u8,u9,u10,u11,u12,u13,u14,u15,u16,u17,u18,u19,u20,u21,u22,u23,u24,u25,u26,u27,u28,u29,u30,rfl⟩
  have e56:=(hG6.cell lw4 (by omega) 0).trans e54.out
  obtain ⟨⟨-,f1,f2,-⟩,-⟩:=F4.out
  have g1:=(hG6.cell lw5 (by omega) 1).trans f1
  have g2:=(hG6.cell lw5 (by omega) 2).trans f2
  have Hd6:=hid hd6
  have HO6:=hid hO6
  have Hex:=hid ex
  clear f1 f2 hd6 hO6 ex hG6
  by_cases h1:x < f
  ·have hp:Hid (betB f u x=false):=by show _ = _; rw [betB,zzd (by omega)]; rfl
   gi_wp2
   exact ⟨O6,Grow.refl _ _,HO6.out,Hd6.out.same Hex.out hp.out⟩
  ·by_cases h2:u < x
   ·have hcut:Hid ((L.take k).filter (betB f u)=L.filter (betB f u)):=yjV hris.out Hex.out h2
    gi_wp2
    exact ⟨O6,Grow.refl _ _,rfl,HO6.out,by rw [←hcut.out]; exact Hd6.out⟩
   ·have hp:Hid (betB f u x=true):=by show _ = _; rw [betB,zzZ (by omega),zzZ (by omega)]; rfl
    gi_wp2_with fail
    refine (wf_calls.mpr (cP.out _ _ x _ Hd6.out)).mono ?_
    rintro e w7 ⟨⟨v,rfl⟩,hd7,hE7⟩
    have Hd7:=hid hd7
    have HE7:=hid hE7
    clear hd7 hE7
    gi_wp2
    exact ⟨O6,⟨fun _ h=>h,fun _ h=> .inl h,HE7.out.wide fun b hb=>(HO6.out b).mpr hb⟩,HO6.out,DiscAt.more (W:=W6) Hex.out hp.out Hd7.out⟩
end
section
open Go.RowKit
attribute [local go_sem ↓] yaq
theorem ybP {u t:Int} (hu:unB u=true) (ht:winB t=true):ybf u t=true∧yaR u t=whU u t:=by
 have h:ybf u t=true:=by rw [ybf,hu,ht]; rfl
 exact ⟨h,by rw [yaR,if_pos h]⟩
theorem yjw {u:Int} (h:unB u=true):0≤u∧u≤6:=by simpa only [unB,zzY] using h
theorem win_of {t:Int} (h0:0≤t) (h1:t < 12622780800):winB t=true:=by simp only [winB,zzY]; exact ⟨h0,h1⟩
theorem ygL (d:Int):stepB 1 d=true:=by rw [stepB]; simp
theorem dayOn_on {u s a t:Int} (hu:unB u=true) (ha:winB a=true) (hs:1≤s) (h0:0≤t) (h1:t < 12622780800) (hz:yan u=0):ycs u s a (t / 86400)=onB u s a t:=by
 obtain ⟨e1,e2⟩:=ybP hu ha
 obtain ⟨e3,e4⟩:=ybP hu (win_of h0 h1)
 have hu3:3≤u:=yeu hz (yjw hu).1
 rw [ycs,onB,e1,e3,e4,whU_day hu3,zzZ hs,zzo,zzo,zzo,zzo]
 by_cases h:s=1
 ·subst h
  rw [ygL,Bool.or_true]
 ·rw [zzd (by omega),Bool.false_or]
theorem yjZ {u s a n:Int} (hu:unB u=true) (ha:winB a=true) (hs:1≤s) (hz:0 < yan u):ycs u s a n=true:=by
 obtain ⟨e1,e2⟩:=ybP hu ha
 rw [ycs,e1,zzZ hs,zzZ (.inl hz)]; rfl
end
section
open Go.RowKit
def yfL (c:Cl) (f u:Int):Cl:={c with fr:=f,un:=u}
theorem Cl.Ok.span {c:Cl} (h:c.Ok) {f u:Int} (hf:i64B f) (hu:i64B u):(yfL c f u).Ok:=⟨h.m,h.od,h.ys,h.oin,h.unit,h.step,h.anchor,hf,hu⟩
theorem ybT {lo hi n:Int} (h0:0≤n) (h1:n < 64) (h2:lo≤n) (h3:n≤hi):hasB (yaX lo hi 1) n=true:=by
 rw [hasB,zzZ h0,zzo,yet (by omega)]
 simp only [zzY]
 omega
theorem yg6 {n:Int} (h0:0≤n) (h1:n < 400):hasW ycq n=true:=by
 rw [hasW,mayB,zzZ h0,zzZ h1,bitW,ycq,yet (Nat.mod_lt _ (by decide))]
 simp only [zzo,zzY]
 omega
theorem yf2:mayC fullCl=true:=by kernel_rfl
theorem date_full {n:Int} (h0:0≤n) (h1:n < 146097):yhZ fullCl (shF n)=true:=by
 obtain ⟨y0,y1,m0,m1,d0,d1⟩:=yaB h0 h1
 have hl:=(yb2 (fY n) (fMo n)).2
 have e1:hasB (fullCl.m 4) (shF n 3)=true:=ybT (lo:=1) (hi:=31) (show 0≤fD n by omega) (show fD n < 64 by omega) d0 (show fD n≤31 by omega)
 have e2:hasB (fullCl.m 6) (shF n 5)=true:=by
  have:=yiy n
  exact ybT (lo:=1) (hi:=7) (by omega) (by omega) this.1 this.2
 have e3:hasB (fullCl.m 3) (shF n 2)=true:=ybT (lo:=1) (hi:=12) (show 0≤fMo n by omega) (show fMo n < 64 by omega) m0 m1
 have e4:hasB (fullCl.m 5) (shF n 4)=true:=ybT (lo:=1) (hi:=31) (show 0≤lenI (fY n) (fMo n) - fD n+1 by omega) (show lenI (fY n) (fMo n) - fD n+1 < 64 by omega) (show 1≤lenI (fY n) (fMo n) - fD n+1 by omega) (show lenI (fY n) (fMo n) - fD n+1≤31 by omega)
 have e5:hasW fullCl.ys (shF n 1 - 1970)=true:=yg6 (show 0≤fY n - 1970 by omega) (show fY n - 1970 < 400 by omega)
 have e6:nthB fullCl.oin fullCl.oback fullCl.od (shF n)=true:=rfl
 have e7:fullCl.or=false:=rfl
 rw [yhZ,domB,e7,e1,e2,e3,e4,e5,e6]; rfl
theorem yi0 {t:Int} (h:winB t=true):hasC fullCl t=true:=by
 have hw:0≤t∧t < 12622780800:=by simpa only [winB,zzY] using h
 have e1:betB fullCl.fr fullCl.un t=true:=by
  show betB 0 12622780799 t=true
  simp only [betB,zzX,zzY]; omega
 have e2:yaW (t % 86400) (fullCl.m 2) (fullCl.m 1) (fullCl.m 0)=true:=by
  have hd:dayB (t % 86400)=true:=by simp only [dayB,zzY]; omega
  have a1:hasB (fullCl.m 2) (t % 86400 / 3600)=true:=ybT (lo:=0) (hi:=23) (by omega) (by omega) (by omega) (by omega)
  have a2:hasB (fullCl.m 1) (t % 86400 / 60 % 60)=true:=ybT (lo:=0) (hi:=59) (by omega) (by omega) (by omega) (by omega)
  have a3:hasB (fullCl.m 0) (t % 86400 % 60)=true:=ybT (lo:=0) (hi:=59) (by omega) (by omega) (by omega) (by omega)
  rw [yaW,hd,a1,a2,a3]; rfl
 have e3:onB fullCl.unit fullCl.step fullCl.anchor t=true:=by
  show onB 0 1 0 t=true
  obtain ⟨k1,-⟩:=ybP (u:=0) (t:=0) rfl rfl
  obtain ⟨k2,-⟩:=ybP (u:=0) (t:=t) rfl h
  rw [onB,k1,k2,ygL]; rfl
 have e4:dayC fullCl (t / 86400)=true:=by
  have hd:ycs fullCl.unit fullCl.step fullCl.anchor (t / 86400)=true:=yjZ (u:=0) (s:=1) (a:=0) rfl rfl (by omega) (by decide)
  rw [dayC,yf2,date_full (by omega) (by omega),hd]; rfl
 rw [hasC,h,yf2,e1,e2,e3,e4]; rfl
theorem ClB.span {W:World} {b:Nat} {c:Cl} (h:ClB W b c) (f u:Int):ClB ((W.setCell ⟨b,28,none⟩ (.int .i64 f)).setCell ⟨b,29,none⟩ (.int .i64 u)) b (yfL c f u):=by
 have e:yad (yfL c f u)= ((yad c).set 28 (.int .i64 f)).set 29 (.int .i64 u):=rfl
 have h8:=h.at 28 rfl
 have h9:=h.at 29 rfl
 have hne:(⟨b,29,none⟩:Addr)≠⟨b,28,none⟩:=by intro e; injection e with _ e _; cases e
 intro j v hv
 by_cases hj:j=29
 ·subst hj
  have hv':(Value.int .i64 u)=v:=by rw [e] at hv; simpa using hv
  rw [←hv']
  exact zzW _ _ _ (by rw [zzL _ _ _ _ hne.symm]; exact h9)
 ·by_cases hk:j=28
  ·subst hk
   have hv':(Value.int .i64 f)=v:=by rw [e] at hv; simpa using hv
   rw [←hv',zzL _ _ _ _ hne]
   exact zzW _ _ _ h8
  ·rw [e,List.getElem?_set_ne (by omega),List.getElem?_set_ne (by omega)] at hv
   rw [zzL _ _ _ _ (by intro e; injection e with _ e2 _; exact hj (by omega)),zzL _ _ _ _ (by intro e; injection e with _ e2 _; exact hk (by omega))]
   exact h j v hv
end
section
open Go.RowKit
def yac (a b:Int):List Int:=(List.range (b - a+1).toNat).map fun (i:Nat)=>a+(i:Int)
theorem yat (a b:Int):(yac a b).length= (b - a+1).toNat:=by simp [yac]
theorem ybi {a b:Int} {k:Nat} (h:k < (yac a b).length):(yac a b)[k]=a+k:=by simp [yac]
theorem yaz {a b n:Int}:n∈yac a b↔a≤n∧n≤b:=by
 simp only [yac,List.mem_map,List.mem_range]
 constructor
 ·rintro ⟨i,h,rfl⟩; omega
 ·rintro ⟨h1,h2⟩; exact ⟨(n - a).toNat,by omega,by omega⟩
theorem yeW {a b:Int} (h:b < a):yac a b= []:=by
 rw [yac,show (b - a+1).toNat=0 by omega]; rfl
theorem yeV {a b c:Int} (h1:a≤c) (h2:c≤b+1):yac a b=yac a (c - 1) ++ yac c b:=by
 apply List.ext_getElem
 ·rw [List.length_append,yat,yat,yat]; omega
 ·intro i h3 h4
  rw [ybi h3,List.getElem_append]
  split
  ·rename_i h5; rw [ybi h5]
  ·rename_i h5
   rw [ybi,yat] at *
   omega
theorem ydv {p:Int→Bool} {a b:Int} (h:∀n,a≤n→n≤b→p n=false):(yac a b).filter p= []:=by
 rw [List.filter_eq_nil_iff]
 intro n hn
 obtain ⟨h1,h2⟩:=yaz.1 hn
 rw [h n h1 h2]; simp
theorem yjY {p:Int→Bool} {a b lo hi:Int} (h:∀n,p n=true→lo≤n∧n≤hi):(yac (max a lo) (min b hi)).filter p= (yac a b).filter p:=by
 have hno:∀n,¬(lo≤n∧n≤hi)→p n=false:=fun n hn=>by
  rw [←Bool.not_eq_true]; intro e; exact hn (h n e)
 by_cases hab:max a lo≤min b hi
 ·rw [yeV (a:=a) (b:=b) (c:=max a lo) (by omega) (by omega),yeV (a:=max a lo) (b:=b) (c:=min b hi+1) (by omega) (by omega),List.filter_append,List.filter_append,
   ydv (a:=a) (fun n h1 h2=>hno n (by omega)),ydv (b:=b) (fun n h1 h2=>hno n (by omega)),List.nil_append,List.append_nil,show min b hi+1 - 1=min b hi by omega]
 ·rw [yeW (by omega),ydv (fun n h1 h2=>hno n (by omega))]; rfl
/-! ### the day after a day -/
theorem next_is {n y z:Int} {m k:Nat} {d e:Int} (hd:IsDate n y m d) (gd:IsDate (n+1) z k e) (h1:n+1 < 146097) :
  (d+1≤lenI y m→z=y∧k=m∧e=d+1)∧
  (¬d+1≤lenI y m→m+1≤12→z=y∧k=m+1∧e=1)∧
  (¬d+1≤lenI y m→¬m+1≤12→z=y+1∧k=1∧e=1):=by
 have hd0:=hd.d0
 have hd1:=hd.d1
 have hsum:=hd.sum
 have hm0:=hd.m0
 have hm1:=hd.m1
 refine ⟨fun h=>?_,fun h h2=>?_,fun h h2=>?_⟩
 ·exact gd.unique ⟨hd.y0,hd.y1,hd.m0,hd.m1,by omega,h,by omega⟩
 ·have hm:=yeg y m hm0 (by omega)
  have hl:=yb2 y ((m+1:Nat):Int)
  exact gd.unique (z:=y) (k:=m+1) (e:=1) ⟨hd.y0,hd.y1,by omega,by omega,by omega,by omega,by omega⟩
 ·obtain rfl:m=12:=by omega
  have hl:=msI_last y
  have hs:=yfK y
  have hle:lenI y ((12:Nat):Int)=lenI y 12:=rfl
  have hy1:y+1≤2369:=by
   have e1:y≤2369:=hd.y1
   by_cases e2:y=2369
   ·subst e2
    rw [show ysI 2369=145732 by decide,show msI 2369 12=334 by decide] at hsum
    rw [hle,show lenI 2369 12=31 by decide] at hd1 h
    omega
   ·omega
  have hlen:=yb2 (y+1) 1
  have hone:msI (y+1) 1=0:=rfl
  exact gd.unique (z:=y+1) (k:=1) (e:=1) ⟨by have:=hd.y0; omega,hy1,by omega,by omega,by omega,by show (1:Int)≤lenI (y+1) 1; omega,by rw [hone]; omega⟩
theorem yeI {n:Int} (h0:0≤n) (h1:n+1 < 146097) :
  (fD n+1≤lenI (fY n) (fMo n)→fY (n+1)=fY n∧fMo (n+1)=fMo n∧fD (n+1)=fD n+1∧fOr (n+1)=fOr n+1)∧
  (¬fD n+1≤lenI (fY n) (fMo n)→fMo n+1≤12→fY (n+1)=fY n∧fMo (n+1)=fMo n+1∧fD (n+1)=1∧fOr (n+1)=fOr n+1)∧
  (¬fD n+1≤lenI (fY n) (fMo n)→¬fMo n+1≤12→fY (n+1)=fY n+1∧fMo (n+1)=1∧fD (n+1)=1∧fOr (n+1)=1):=by
 obtain ⟨m,e,hd,_⟩:=fDate n h0 (by omega)
 obtain ⟨k,f,gd,_⟩:=fDate (n+1) (by omega) h1
 obtain ⟨a1,a2,a3⟩:=next_is hd gd h1
 have gor:=ord_eq gd
 have o1:fOr n=n - ysI (fY n)+1:=rfl
 have o2:fOr (n+1)=n+1 - ysI (fY (n+1))+1:=rfl
 rw [o1,o2,f,e]
 refine ⟨fun h=>?_,fun h h2=>?_,fun h h2=>?_⟩
 ·obtain ⟨b1,b2,b3⟩:=a1 h
  refine ⟨b1,by rw [b2],b3,?_⟩
  rw [b1]; omega
 ·obtain ⟨b1,b2,b3⟩:=a2 h (by omega)
  refine ⟨b1,by rw [b2]; omega,b3,?_⟩
  rw [b1]; omega
 ·obtain ⟨b1,b2,b3⟩:=a3 h (by omega)
  refine ⟨b1,by rw [b2]; rfl,b3,?_⟩
  rw [b2,b3,show msI (fY (n+1)) 1=0 from rfl] at gor
  omega
end
section
open Go.RowKit
def okD (c:Cl):Bool:=yal c.fr c.un && mayC c
def frD (c:Cl):Int:=yak c.fr c.un / 86400
def unD (c:Cl):Int:=yaj c.fr c.un / 86400
def onD (c:Cl) (n:Int):Bool:=decide (frD c≤n) && (decide (n≤unD c) && dayC c n)
def yaO (c:Cl) (n:Int):Bool:=okD c && onD c n
def atC (cs:List Cl) (i:Nat):Cl:=cs.getD i fullCl
theorem ycn {cs:List Cl} {i:Nat} (h:i < cs.length):atC cs i=cs[i]:=by simp [atC,h]
def actM (cs:List Cl) (n:Int):Nat:=mk fun i=>decide (i < cs.length) && yaO (atC cs i) n
theorem mk_or {p:Nat→Bool} {k:Nat} (h:k < 64):mk p ||| 2 ^ k=mk fun i=>p i || decide (i=k):=by
 refine ydV (yeH (yao _) (ybS h)) (fun i hi=>?_)
 rw [Nat.testBit_or,yaw,Nat.testBit_two_pow]
 have:decide (k=i)=decide (i=k):=decide_eq_decide.2 ⟨Eq.symm,Eq.symm⟩
 simp [hi,this]
theorem actM_zero {cs:List Cl} {n:Int}:actM cs n=0↔∀i,i < cs.length→i < 64→yaO (atC cs i) n=false:=by
 constructor
 ·intro h i h1 h2
  have:=yaw (fun i=>decide (i < cs.length) && yaO (atC cs i) n) i
  rw [←actM,h,Nat.zero_testBit,zzZ h2,zzZ h1,zzo,zzo] at this
  exact this.symm
 ·intro h
  rw [actM,←ybu]
  refine yaC fun i hi=>?_
  by_cases h1:i < cs.length
  ·rw [h i h1 hi,Bool.and_false]
  ·rw [zzd h1,Bool.false_and]
end
section
open Go.RowKit
def stF (c:Cl) (n:Int):Int:=max (max 0 c.fr) (86400 * n) - 86400 * n
def stU (c:Cl) (n:Int):Int:=min (min 12622780799 c.un) (86400 * n+86399) - 86400 * n
def stG (c:Cl) (n:Int):Value:=if yaO c n then stv true (stF c n) (stU c n) (ycz c n) else stv false 0 0 0
theorem yf7 {c:Cl} (h:yal c.fr c.un=true):frD c=max c.fr 0 / 86400∧unD c=min c.un 12622780799 / 86400∧max c.fr 0≤min c.un 12622780799:=by
 have hle:max c.fr 0≤min c.un 12622780799:=of_decide_eq_true h
 rw [frD,unD,yak,yaj,h,if_pos rfl,if_pos rfl]
 exact ⟨rfl,rfl,hle⟩
theorem ygm {c:Cl} {n:Int} (h:yal c.fr c.un=true) (h1:frD c≤n) (h2:n≤unD c):max (max 0 c.fr) (86400 * n)≤min (min 12622780799 c.un) (86400 * n+86399):=by
 obtain ⟨e1,e2,e3⟩:=yf7 h
 rw [e1] at h1; rw [e2] at h2
 omega
theorem cut_mod {c:Cl} {n:Int} (h:yal c.fr c.un=true) (h1:frD c≤n) (h2:n≤unD c) :
  max (max 0 c.fr) (86400 * n) % 86400=stF c n∧min (min 12622780799 c.un) (86400 * n+86399) % 86400=stU c n:=by
 have hc:=ygm h h1 h2
 rw [stF,stU]
 constructor <;> omega
theorem cut_mid {c:Cl} {n:Int} (h:yal c.fr c.un=true) (h1:frD c≤n) (h2:n≤unD c) (n1:n≠frD c) (n2:n≠unD c):stF c n=0∧stU c n=86399:=by
 obtain ⟨e1,e2,e3⟩:=yf7 h
 rw [e1] at h1 n1; rw [e2] at h2 n2
 rw [stF,stU]
 constructor <;> omega
end
section
open Go.RowKit
def okS (c:Cl) (p:Int) (k:Nat):Bool:=
 if 0 < yan c.unit∧(1 < c.step∨0 < p) then decide (p≤(k:Int) / yan c.unit) && decide (((k:Int) / yan c.unit - p) % c.step=0) else true
def secQ (c:Cl) (a:Bool) (f u p:Int) (k:Nat):Bool:=a && (decide (0≤p) && (mayC c && (yaW k (c.m 2) (c.m 1) (c.m 0) && (betB f u k && okS c p k))))
theorem phase_mod {a b s x:Int} (hs:1≤s) (hx:0≤x):(decide ((a - b) % s≤x) && decide ((x - (a - b) % s) % s=0))=decide ((b+x - a) % s=0):=by
 have e:(x - (a - b) % s) % s= (b+x - a) % s:=by
  rw [Int.sub_emod x,Int.emod_emod_of_dvd _ (Int.dvd_refl s),←Int.sub_emod,show x - (a - b)=b+x - a by omega]
 have r0:0≤(a - b) % s:=Int.emod_nonneg _ (by omega)
 have r1:(a - b) % s < s:=Int.emod_lt_of_pos _ (by omega)
 rw [zze,zzX,zzY,zzY,zzY,e]
 constructor
 ·exact fun h=>h.2
 ·intro h
  refine ⟨?_,h⟩
  rw [←e] at h
  obtain ⟨j,hj⟩:=Int.dvd_of_emod_eq_zero h
  generalize (a - b) % s=r at *
  by_cases hj0:0≤j
  ·have:=Int.mul_nonneg (show 0≤s by omega) hj0
   omega
  ·have:=Int.mul_le_mul_of_nonneg_left (show j≤-1 by omega) (show 0≤s by omega)
   omega
theorem whU_size {u t:Int} (hz:0 < yan u):whU u t=t / yan u:=by
 rcases ydG u with rfl | rfl | rfl | ⟨h0,h1,h2,h⟩
 ·rw [show yan 0=1 from rfl,Int.ediv_one]; rfl
 ·rfl
 ·rfl
 ·omega
theorem yfQ {u:Int} (hz:0 < yan u):yan u=1∨yan u=60∨yan u=3600:=by
 rcases ydG u with rfl | rfl | rfl | ⟨h0,h1,h2,h⟩
 ·exact .inl rfl
 ·exact .inr (.inl rfl)
 ·exact .inr (.inr rfl)
 ·omega
theorem okS_on {c:Cl} (hm:mayC c=true) (hz:0 < yan c.unit) {n:Int} {k:Nat} (h0:0≤n) (h1:n < 146097) (hk:k < 86400):okS c (ycz c n) k=onB c.unit c.step c.anchor (86400 * n+k):=by
 obtain ⟨-,hs,hu,ha⟩:=ycB hm
 obtain ⟨e1,e2⟩:=ybP hu ha
 obtain ⟨e3,e4⟩:=ybP hu (win_of (t:=86400 * n+k) (by omega) (by omega))
 rw [onB,e1,e3,e4,stepB,zzZ hs,whU_size hz,okS,ycz]
 obtain ⟨A,hA⟩:∃A,yaR c.unit c.anchor=A:=⟨_,rfl⟩
 rw [hA]
 have hd:(86400 * n+(k:Int)) / yan c.unit=86400 * n / yan c.unit+(k:Int) / yan c.unit:=by
  rcases yfQ hz with h | h | h <;> rw [h] <;> omega
 have hx:0≤(k:Int) / yan c.unit:=by
  rcases yfQ hz with h | h | h <;> rw [h] <;> omega
 rw [hd]
 obtain ⟨B,hB⟩:∃B,86400 * n / yan c.unit=B:=⟨_,rfl⟩
 obtain ⟨X,hX⟩:∃X,(k:Int) / yan c.unit=X:=⟨_,rfl⟩
 rw [hB,hX]
 rw [hX] at hx
 by_cases h1s:1 < c.step
 ·rw [if_pos (show 1 < c.step∧0 < yan c.unit from ⟨h1s,hz⟩),if_pos ⟨hz, .inl h1s⟩,phase_mod hs hx]; simp
 ·have e:c.step=1:=by omega
  rw [if_neg (show¬(1 < c.step∧0 < yan c.unit) by omega),if_neg (by omega),e]; simp
def sF (c:Cl) (n:Int):Int:=if yaO c n then stF c n else 0
def sU (c:Cl) (n:Int):Int:=if yaO c n then stU c n else 0
def sP (c:Cl) (n:Int):Int:=if yaO c n then ycz c n else 0
theorem stG_parts (c:Cl) (n:Int):stG c n=stv (yaO c n) (sF c n) (sU c n) (sP c n):=by
 rw [stG,sF,sU,sP]
 cases yaO c n <;> rfl
theorem phase_nn {c:Cl} (hm:mayC c=true) (n:Int):0≤ycz c n:=by
 obtain ⟨-,hs,-,-⟩:=ycB hm
 rw [ycz]
 split
 ·exact Int.emod_nonneg _ (by omega)
 ·omega
theorem yiN {c:Cl} {n:Int} (h:yaO c n=true):mayC c=true∧yal c.fr c.un=true∧dayC c n=true∧frD c≤n∧n≤unD c:=by
 simp only [yaO,okD,onD,zzX,zzY] at h
 exact ⟨h.1.2,h.1.1,h.2.2.2,h.2.1,h.2.2.1⟩
theorem bet_live {c:Cl} {n:Int} {k:Nat} (h0:0≤n) (h1:n < 146097) (hk:k < 86400):betB (stF c n) (stU c n) k=betB c.fr c.un (86400 * n+k):=by
 have e1:stF c n≤(k:Int)↔c.fr≤86400 * n+k:=by unfold stF; constructor <;> intro h <;> omega
 have e2:(k:Int)≤stU c n↔86400 * n+k≤c.un:=by unfold stU; constructor <;> intro h <;> omega
 rw [betB,betB,zze]
 simp only [zzX,zzY]
 rw [e1,e2]
theorem bet_days {c:Cl} {n:Int} {k:Nat} (h0:0≤n) (h1:n < 146097) (hk:k < 86400) (h:betB c.fr c.un (86400 * n+k)=true):yal c.fr c.un=true∧frD c≤n∧n≤unD c:=by
 rw [betB] at h
 simp only [zzX,zzY] at h
 have hB:yal c.fr c.un=true:=zzZ (by omega)
 obtain ⟨e1,e2,e3⟩:=yf7 hB
 refine ⟨hB,?_,?_⟩
 ·rw [e1]; omega
 ·rw [e2]; omega
theorem secQ_has (c:Cl) {n:Int} {k:Nat} (h0:0≤n) (h1:n < 146097) (hk:k < 86400):secQ c (yaO c n) (sF c n) (sU c n) (sP c n) k=hasC c (86400 * n+k):=by
 have hw:winB (86400 * n+k)=true:=win_of (by omega) (by omega)
 rw [secQ,hasC,hw,zzo,show (86400 * n+(k:Int)) % 86400=k by omega,show (86400 * n+(k:Int)) / 86400=n by omega]
 cases hl:yaO c n
 ·rw [Bool.false_and]
  cases hb:betB c.fr c.un (86400 * n+k)
  ·simp
  ·obtain ⟨g1,g2,g3⟩:=bet_days h0 h1 hk hb
   have:(mayC c && dayC c n)=false:=by
    rw [yaO,okD,onD,g1,zzZ g2,zzZ g3] at hl; simpa using hl
   rcases Bool.and_eq_false_iff.1 this with h | h <;> rw [h] <;> simp
 ·obtain ⟨hm,hB,hd,g1,g2⟩:=yiN hl
  obtain ⟨-,hs,hu,ha⟩:=ycB hm
  rw [sF,sU,sP,hl,if_pos rfl,if_pos rfl,if_pos rfl,bet_live h0 h1 hk,hm,hd,zzZ (phase_nn hm n),Bool.and_true]
  have:okS c (ycz c n) k=onB c.unit c.step c.anchor (86400 * n+k):=by
   rcases yc6 c.unit with hz | hz
   ·exact okS_on hm hz h0 h1 hk
   ·have e:=dayOn_on (t:=86400 * n+k) hu ha hs (by omega) (by omega) hz
    rw [show (86400 * n+(k:Int)) / 86400=n by omega] at e
    rw [dayC,hm,zzo,zzX] at hd
    rw [←e,hd.2,okS,if_neg (by omega)]
  rw [this]
  simp only [zzo]
  cases betB c.fr c.un (86400 * n+k) <;> cases yaW k (c.m 2) (c.m 1) (c.m 0) <;> simp
def dayQ (cs:List Cl) (n:Int) (k:Nat):Bool:=cs.any fun c=>hasC c (86400 * n+k)
end
end Go.Proofs.YtkpgfmonhfnhdaaGreatDoor
