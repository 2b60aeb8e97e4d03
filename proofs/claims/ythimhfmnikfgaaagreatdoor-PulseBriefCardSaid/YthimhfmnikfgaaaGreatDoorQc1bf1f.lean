/-
  pulse.beat: take and join.
  Arrays of beats.
  A region that draws its order, in a round of a range over a function: walked as one outside of it.
-/
import Derived.Test.YthimhfmnikfgaaaGreatDoorQ30fd51
import Derived.Test.YthimhfmnikfgaaaGreatDoorQ5951d0
import Derived.Deep.CutRange
import Derived.Test.YthimhfmnikfgaaaGreatDoorQ1247ae
import Derived.OrdersIn
import Derived.OrdersHeld
import Derived.Deep.RegionHeld3
import Derived.Sort.CutIn
namespace Go.Proofs.YthimhfmnikfgaaaGreatDoor
set_option linter.unusedVariables false
section
open Go.RowKit Go.Maps
structure Bt1 (b o:Nat) (x:Bt) (W:World):Prop where
 y:W.cell? ⟨b,o,none⟩=some (.bool x.1)
 f:W.cell? ⟨b,o+1,none⟩=some (.int .i64 x.2.1)
 g:W.cell? ⟨b,o+2,none⟩=some (.int .i64 x.2.2)
 z:∀i,W.frozen? ⟨b,i,none⟩=false
 lt:b < W.heap.size
theorem Eff.set1 (W:World) (b j:Nat) (v:Value):Eff (fun c=>c=b) W (W.setCell ⟨b,j,none⟩ v):=(Eff.refl (fun c=>c=b) W).set (b:=b) rfl j v
structure OnlyB (b o:Nat) (W W':World):Prop where
 eff:Eff (fun c=>c=b) W W'
 c:∀i,i≠o→i≠o+1→i≠o+2→W'.cell? ⟨b,i,none⟩=W.cell? ⟨b,i,none⟩
 z:∀i,W'.frozen? ⟨b,i,none⟩=W.frozen? ⟨b,i,none⟩
theorem OnlyB.of_below {b o:Nat} {W W':World} (h:Below W.heap.size W W') (hb:b < W.heap.size):OnlyB b o W W':=⟨Eff.of_below h,fun i _ _ _=>h.cell (p:=⟨b,i,none⟩) hb,fun i=>h.frozen (p:=⟨b,i,none⟩) hb⟩
theorem OnlyB.trans {b o:Nat} {W W' W2:World} (h:OnlyB b o W W') (k:OnlyB b o W' W2):OnlyB b o W W2:=
 ⟨h.eff.trans k.eff (fun _ h=> .inl h),fun i a1 a2 a3=>(k.c i a1 a2 a3).trans (h.c i a1 a2 a3),fun i=>(k.z i).trans (h.z i)⟩
theorem OnlyB.set {b o:Nat} {W:World} (j:Nat) (hj:j=o∨j=o+1∨j=o+2) (v:Value):OnlyB b o W (W.setCell ⟨b,j,none⟩ v):=
 ⟨Eff.set1 W b j v,fun i a1 a2 a3=>World.cell?_setCell_other _ _ _ _ (fun e=>by injection e with _ e2; omega),fun i=>by simp [go_sem]⟩
theorem Bt1.below {b o:Nat} {x:Bt} {W W':World} (h:Bt1 b o x W) (hB:Below W.heap.size W W'):Bt1 b o x W':=
 ⟨(hB.cell (p:=⟨b,o,none⟩) h.lt).trans h.y,(hB.cell (p:=⟨b,o+1,none⟩) h.lt).trans h.f,(hB.cell (p:=⟨b,o+2,none⟩) h.lt).trans h.g,fun i=>(hB.frozen (p:=⟨b,i,none⟩) h.lt).trans (h.z i),zH h.lt hB.size⟩
theorem Bt1.setg {b o:Nat} {x:Bt} {W:World} (h:Bt1 b o x W) (g:Int):Bt1 b o (x.1,x.2.1,g) (W.setCell ⟨b,o+2,none⟩ (.int .i64 g)):=
 ⟨(World.cell?_setCell_other _ _ _ _ (fun e=>by injection e with _ e2; omega)).trans h.y,(World.cell?_setCell_other _ _ _ _ (fun e=>by injection e with _ e2; omega)).trans h.f,by simp [go_sem,h.g],fun i=>by simpa [go_sem] using h.z i,by simpa using h.lt⟩
theorem gcd2_le {a b M:Int} (ha:-M≤a∧a≤M) (hb:-M≤b∧b≤M):((gcdL [a,b]:Nat):Int)≤M:=by
 have e:gcdL [a,b]=Nat.gcd a.natAbs b.natAbs:=by simp [gcdL]
 rw [e]
 rcases Nat.eq_zero_or_pos a.natAbs with h | h
 ·rw [h,Nat.gcd_zero_left]; omega
 ·have:=Nat.gcd_le_left b.natAbs h; omega
theorem takeB_no (f g n:Int):takeB (false,f,g) n= (true,n,g):=rfl
theorem takeB_one (f n:Int):takeB (true,f,1) n= (true,f,1):=rfl
theorem takeB_g {g:Int} (f n:Int) (hg:g≠1):takeB (true,f,g) n= (true,f,((gcdL [g,n - f]:Nat):Int)):=by rw [takeB,if_pos rfl]; simp only; rw [if_neg hg]
def M62 (n:Int):Prop:=0≤n∧n≤4611686018427387903
theorem takeB_bd {x:Bt} {n:Int} (hf:M62 x.2.1) (hg:M62 x.2.2) (hn:M62 n):M62 (takeB x n).2.1∧M62 (takeB x n).2.2:=by
 obtain ⟨y,f,g⟩:=x
 simp only [M62] at hf hg hn
 cases y
 ·exact ⟨hn,hg⟩
 ·by_cases e:g=1
  ·subst e; exact ⟨hf,hg⟩
  ·rw [takeB_g f n e]
   refine ⟨hf,(show (0:Int)≤((gcdL [g,n - f]:Nat):Int) by omega),gcd2_le (by omega) (by omega)⟩
set_option maxRecDepth 100000 in
set_option maxHeartbeats 3200000 in
theorem BTake_any {W:World} {b o:Nat} {x:Bt} (n:Int) (h:Bt1 b o x W) (hf:M62 x.2.1) (hg:M62 x.2.2) (hn:M62 n) :
  Calls Tryz.prog 91 #[.pointer (some ⟨b,o,none⟩), .int .i64 n] W fun e W'=>(∃v,e= .returned v)∧Bt1 b o (takeB x n) W'∧OnlyB b o W W':=by
 obtain ⟨y,f,g⟩:=x
 simp only [M62] at hf hg hn
 have hy0:=h.y
 have hf0:=h.f
 have hg0:=h.g
 have hz0:=h.z o
 have hz1:=h.z (o+1)
 have H:=hid h
 simp only at hy0 hf0 hg0
 cases y
 ·rw [takeB_no]
  clear h hf hg hn
  go_enter Tryz.func91,Tryz.ntmps91
  go_wp2
  refine bodyPost_ret (results_none rfl _ _ _) rfl ?_
  refine ⟨⟨_,rfl⟩,⟨?_,?_,?_,fun i=>?_,?_⟩,(OnlyB.set o (.inl rfl) _).trans (OnlyB.set (o+1) (.inr (.inl rfl)) _)⟩
  ·rw [World.cell?_setCell_other _ _ _ _ (fun e=>by injection e with _ e2; omega)]; simp [go_sem,H.out.y]
  ·simp [go_sem,H.out.f]
  ·rw [World.cell?_setCell_other _ _ _ _ (fun e=>by injection e with _ e2; omega),World.cell?_setCell_other _ _ _ _ (fun e=>by injection e with _ e2; omega)]; exact H.out.g
  ·simpa [go_sem] using H.out.z i
  ·simpa using H.out.lt
 ·by_cases h1:g=1
  ·subst h1
   rw [takeB_one]
   clear h hf hg hn hf0 hz0 hz1
   go_enter Tryz.func91,Tryz.ntmps91
   go_wp2
   refine bodyPost_end (results_none rfl _ _ _) rfl ?_
   exact ⟨⟨_,rfl⟩,H.out,OnlyB.of_below (Below.refl _ _) H.out.lt⟩
  ·rw [takeB_g f n h1]
   have hn1:(g != 1)=true:=by simpa using h1
   have hw:IntKind.i64.wrap (n - f)=n - f:=IntWalk.i64_in _ (by omega)
   have hle:=gcd2_le (a:=g) (b:=n - f) (M:=4611686018427387903) (by omega) (by omega)
   have hdb:Hid (∀m∈ [g,n - f],i64B m):=fun m hm=>by
    simp only [List.mem_cons,List.not_mem_nil,or_false] at hm
    rcases hm with rfl | rfl <;> exact ⟨by omega,by omega⟩
   have cG:=hid (NGcd_any (some ⟨W.heap.size,0,none⟩) 2 [g,n - f] (W.alloc (.cells #[.int .i64 g, .int .i64 (n - f)] 2)).drew (by simp) (sl_range (cs:= [.int .i64 g, .int .i64 (n - f)]) (range_new W _ _) (by simp)) hdb.out)
   obtain ⟨G,hG⟩:∃G:Nat,gcdL [g,n - f]=G:=⟨_,rfl⟩
   rw [hG] at cG hle⊢
   have hwG:IntKind.i64.wrap (G:Int)= (G:Int):=IntWalk.i64_in _ (by omega)
   have hz2:=h.z (o+2)
   clear h hf hg hn hG hle h1 hz0 hz1
   go_enter Tryz.func91,Tryz.ntmps91
   go_upto_region 3 with fail
   refine wp_region_held_drew (S:=fun w=>Hid (w.cell? ⟨b,o+1,none⟩=some (.int .i64 f))) (by kernel_rfl) (hid hf0) (fun hHeld=>?_)
   refine zT 0 (v:=?_) ?_ ?_
   rotate_left
   ·intro w hSw; have f0:=hSw.out; clear hSw; go_simp; (try with_reducible rfl)
   try simp only [zP]
   refine zT 1 (v:=?_) ?_ ?_
   rotate_left
   ·intro w hSw; have f0:=hSw.out; clear hSw; go_simp; (try with_reducible rfl)
   try simp only [zP]
   refine zT 2 (v:=?_) ?_ ?_
   rotate_left
   ·intro w hSw; have f0:=hSw.out; clear hSw; go_simp; (try with_reducible rfl)
   try simp only [zP]
   refine zT 3 (v:=?_) ?_ ?_
   rotate_left
   ·intro w hSw; have f0:=hSw.out; clear hSw; go_simp; (try with_reducible rfl)
   try simp only [zP]
   refine zT 5 (v:=?_) ?_ ?_
   rotate_left
   ·intro w hSw; have f0:=hSw.out; clear hSw; go_simp; (try with_reducible rfl)
   try simp only [zP]
   refine zT 6 (v:=?_) ?_ ?_
   rotate_left
   ·intro w hSw; have f0:=hSw.out; clear hSw; go_simp; (try with_reducible rfl)
   try simp only [zP]
   refine zT 7 (v:=?_) ?_ ?_
   rotate_left
   ·intro w hSw; have f0:=hSw.out; clear hSw; go_simp; (try with_reducible rfl)
   try simp only [zP]
   refine zT 8 (v:=?_) ?_ ?_
   rotate_left
   ·intro w hSw; have f0:=hSw.out; clear hSw; go_simp; (try with_reducible rfl)
   try simp only [zP]
   refine zT 9 (v:=?_) ?_ ?_
   rotate_left
   ·intro w hSw; have f0:=hSw.out; clear hSw; go_simp; (try with_reducible rfl)
   try simp only [zP]
   refine zT 10 (v:=?_) ?_ ?_
   rotate_left
   ·intro w hSw; have f0:=hSw.out; clear hSw; go_simp; (try with_reducible rfl)
   try simp only [zP]
   refine wpAnyH_ready (rs:= [4]) (by kernel_rfl) (by simp) ?_
   refine AllReadyH.cons rfl (fun K hK=>?_) AllReadyH.nil
   go_simp
   have HB1:Hid (Below W.heap.size W W.drew):=(Below.refl _ _).drew
   (try go_wp2_with fail)
   refine hK.out _ _ (by assumption) (fun hHeld=>?_)
   clear hK K
   try simp only [zP]
   refine wpAnyH_ready (rs:= [11]) (by kernel_rfl) (by simp) ?_
   refine AllReadyH.cons rfl (fun K hK=>?_) AllReadyH.nil
   go_simp
   (try go_wp2_with fail)
   have hBn:Below W.heap.size W (W.alloc (.cells #[.int .i64 g, .int .i64 (n - f)] 2)).drew:=(below_new (Below.refl _ _) (zG _)).drew
   have hf1:(W.alloc (.cells #[.int .i64 g, .int .i64 (n - f)] 2)).drew.cell? ⟨b,o+1,none⟩=some (.int .i64 f):=(hBn.cell (p:=⟨b,o+1,none⟩) H.out.lt).trans H.out.f
   have HBn:=hid hBn
   refine hK.out _ _ (hid hf1) (fun hHeld=>?_)
   clear hK K hBn hf1
   try simp only [zP]
   refine wpAnyH_ready (rs:= [12]) (by kernel_rfl) (by simp) ?_
   refine AllReadyH.cons rfl (fun K hK=>?_) AllReadyH.nil
   go_simp
   refine cG.out.mono ?_
   rintro e w2 ⟨rfl,hB2⟩
   have hB3:=HBn.out.trans (hB2.mono HBn.out.size)
   have HB3:=hid hB3
   have hf2:w2.cell? ⟨b,o+1,none⟩=some (.int .i64 f):=(hB3.cell (p:=⟨b,o+1,none⟩) H.out.lt).trans H.out.f
   (try go_wp2_with fail)
   refine hK.out _ _ (hid hf2) (fun hHeld=>?_)
   clear hK K hB2 hB3 hf2 cG
   try simp only [zP]
   refine zT 13 (v:=?_) ?_ ?_
   rotate_left
   ·intro w hSw; have f0:=hSw.out; clear hSw; go_simp; (try with_reducible rfl)
   try simp only [zP]
   refine zT 14 (v:=?_) ?_ ?_
   rotate_left
   ·intro w hSw; have f0:=hSw.out; clear hSw; go_simp; (try with_reducible rfl)
   try simp only [zP]
   refine zT 15 (v:=?_) ?_ ?_
   rotate_left
   ·intro w hSw; have f0:=hSw.out; clear hSw; go_simp; (try with_reducible rfl)
   try simp only [zP]
   refine wpAnyH_ready (rs:= [16]) (by kernel_rfl) (by simp) ?_
   refine AllReadyH.cons rfl (fun K hK=>?_) AllReadyH.nil
   have hg3:w2.cell? ⟨b,o+2,none⟩=some (.int .i64 g):=(HB3.out.cell (p:=⟨b,o+2,none⟩) H.out.lt).trans H.out.g
   have hz3:w2.frozen? ⟨b,o+2,none⟩=false:=(HB3.out.frozen (p:=⟨b,o+2,none⟩) H.out.lt).trans hz2
   have hf3:(w2.setCell ⟨b,o+2,none⟩ (.int .i64 (G:Int))).cell? ⟨b,o+1,none⟩=some (.int .i64 f):=(World.cell?_setCell_other _ _ _ _ (fun e=>by injection e with _ e2; omega)).trans ((HB3.out.cell (p:=⟨b,o+1,none⟩) H.out.lt).trans H.out.f)
   go_simp
   (try go_wp2_with fail)
   refine hK.out _ _ (hid hf3) (fun hHeld=>?_)
   clear hK K hf3 hg3 hz3
   try simp only [zP]
   refine wpAnyH_done (by kernel_rfl) ?_ _
   clear hHeld
   go_wp2
   refine bodyPost_end (results_none rfl _ _ _) rfl ?_
   exact ⟨⟨_,rfl⟩,(H.out.below HB3.out).setg (G:Int),(OnlyB.of_below HB3.out H.out.lt).trans (OnlyB.set (o+2) (.inr (.inr rfl)) _)⟩
def btv (x:Bt):Value:= .agg #[.bool x.1, .int .i64 x.2.1, .int .i64 x.2.2]
theorem gcdB_eq (b:Bt) (g:Int):gcdB b g= (b.1,b.2.1,((gcdL [b.2.2,g]:Nat):Int)):=rfl
set_option maxRecDepth 100000 in
set_option maxHeartbeats 3200000 in
theorem BJoin_any {W:World} {b o:Nat} {a:Bt} (x:Bt) (h:Bt1 b o a W) (hf:M62 a.2.1) (hg:M62 a.2.2) (hxf:M62 x.2.1) (hxg:M62 x.2.2) :
  Calls Tryz.prog 36 #[.pointer (some ⟨b,o,none⟩),btv x] W fun e W'=>(∃v,e= .returned v)∧Bt1 b o (joinB a x) W'∧OnlyB b o W W':=by
 obtain ⟨y,f,g⟩:=x
 unfold btv
 simp only at hxf hxg
 obtain ⟨W1,hW1⟩:∃W1,W.alloc (.cells #[.bool y, .int .i64 f, .int .i64 g] 78)=W1:=⟨_,rfl⟩
 have HB1:Hid (Below W.heap.size W W1):=by rw [←hW1]; exact below_new (Below.refl _ _) (zG _)
 have hl1:W.heap.size < W1.heap.size:=by rw [←hW1]; simp
 have x0:W1.cell? ⟨W.heap.size,0,none⟩=some (.bool y):=by rw [←hW1]; simp [go_sem]
 have x1:W1.cell? ⟨W.heap.size,1,none⟩=some (.int .i64 f):=by rw [←hW1]; simp [go_sem]
 have x2:W1.cell? ⟨W.heap.size,2,none⟩=some (.int .i64 g):=by rw [←hW1]; simp [go_sem]
 have HW1:=hid hW1
 have H1:=hid (h.below HB1.out)
 have hne:b≠W.heap.size:=by have:=h.lt; omega
 have O1:=hid (OnlyB.of_below (o:=o) HB1.out h.lt)
 cases y
 ·clear h hf hg hxf hxg hW1 x1 x2
  go_enter Tryz.func36,Tryz.ntmps36
  go_upto_region 1 with fail
  rw [HW1.out]
  go_wp2
  refine bodyPost_end (results_none rfl _ _ _) rfl ?_
  exact ⟨⟨_,rfl⟩,H1.out,O1.out⟩
 ·have hbd:=takeB_bd hf hg hxf
  have cT:=hid (BTake_any f H1.out hf hg hxf)
  obtain ⟨a',ha'⟩:∃a',takeB a f=a':=⟨_,rfl⟩
  have HJ:Hid (joinB a (true,f,g)= (a'.1,a'.2.1,((gcdL [a'.2.2,g]:Nat):Int))):=by show joinB a (true,f,g)= _; rw [joinB,if_pos rfl,gcdB_eq,ha']
  rw [ha'] at cT hbd
  obtain ⟨ay,af,ag⟩:=a'
  simp only at hbd HJ
  have hgb:M62 ag:=hbd.2
  simp only [M62] at hgb hxg
  have hle:=gcd2_le (a:=ag) (b:=g) (M:=4611686018427387903) (by omega) (by omega)
  have hdb:Hid (∀m∈ [ag,g],i64B m):=fun m hm=>by
   simp only [List.mem_cons,List.not_mem_nil,or_false] at hm
   rcases hm with rfl | rfl <;> exact ⟨by omega,by omega⟩
  have cG:=hid (fun W=>NGcd_any (some ⟨W.heap.size,0,none⟩) 2 [ag,g] (W.alloc (.cells #[.int .i64 ag, .int .i64 g] 2)).drew (by simp) (sl_range (cs:= [.int .i64 ag, .int .i64 g]) (range_new W _ _) (by simp)) hdb.out)
  obtain ⟨G,hG⟩:∃G:Nat,gcdL [ag,g]=G:=⟨_,rfl⟩
  rw [hG] at cG hle HJ
  have hwG:IntKind.i64.wrap (G:Int)= (G:Int):=IntWalk.i64_in _ (by omega)
  have Hne:=hid hne
  have Hl1:=hid hl1
  have X2:=hid x2
  clear h hf hg hxf hxg hW1 hbd ha' hG hle hgb hne hl1 x2
  go_enter Tryz.func36,Tryz.ntmps36
  go_upto_region 1 with fail
  rw [HW1.out]
  go_wp2_with fail
  refine cT.out.mono ?_
  rintro e w2 ⟨⟨v,rfl⟩,hT2,hO2⟩
  have HT2:=hid hT2
  have HO2:=hid (O1.out.trans hO2)
  have HX2:Hid (w2.cell? ⟨W.heap.size,2,none⟩=some (.int .i64 g)):=(hO2.eff.cell (p:=⟨W.heap.size,2,none⟩) Hl1.out (fun e=>Hne.out e.symm)).trans X2.out
  have Hl2:Hid (W.heap.size < w2.heap.size):=zH Hl1.out hO2.eff.size
  have hg0:=hT2.g
  have hz2:=hT2.z (o+2)
  simp only at hg0
  clear hT2 hO2 x0 x1 cT
  go_upto_region 3 with fail
  refine wp_region_held_drew (S:=fun w=>Hid (w.cell? ⟨W.heap.size,2,none⟩=some (.int .i64 g))) (by kernel_rfl) (hid HX2.out) (fun hHeld=>?_)
  refine zT 0 (v:=?_) ?_ ?_
  rotate_left
  ·intro w hSw; have f0:=hSw.out; clear hSw; go_simp; (try with_reducible rfl)
  try simp only [zP]
  refine zT 1 (v:=?_) ?_ ?_
  rotate_left
  ·intro w hSw; have f0:=hSw.out; clear hSw; go_simp; (try with_reducible rfl)
  try simp only [zP]
  refine zT 2 (v:=?_) ?_ ?_
  rotate_left
  ·intro w hSw; have f0:=hSw.out; clear hSw; go_simp; (try with_reducible rfl)
  try simp only [zP]
  refine zT 3 (v:=?_) ?_ ?_
  rotate_left
  ·intro w hSw; have f0:=hSw.out; clear hSw; go_simp; (try with_reducible rfl)
  try simp only [zP]
  refine zT 5 (v:=?_) ?_ ?_
  rotate_left
  ·intro w hSw; have f0:=hSw.out; clear hSw; go_simp; (try with_reducible rfl)
  try simp only [zP]
  refine zT 6 (v:=?_) ?_ ?_
  rotate_left
  ·intro w hSw; have f0:=hSw.out; clear hSw; go_simp; (try with_reducible rfl)
  try simp only [zP]
  refine wpAnyH_ready (rs:= [4]) (by kernel_rfl) (by simp) ?_
  refine AllReadyH.cons rfl (fun K hK=>?_) AllReadyH.nil
  go_simp
  have HB1:Hid (Below w2.heap.size w2 w2.drew):=(Below.refl _ _).drew
  (try go_wp2_with fail)
  refine hK.out _ _ (by assumption) (fun hHeld=>?_)
  clear hK K
  try simp only [zP]
  refine wpAnyH_ready (rs:= [7]) (by kernel_rfl) (by simp) ?_
  refine AllReadyH.cons rfl (fun K hK=>?_) AllReadyH.nil
  go_simp
  (try go_wp2_with fail)
  have hBn:Below w2.heap.size w2 (w2.alloc (.cells #[.int .i64 ag, .int .i64 g] 2)).drew:=(below_new (Below.refl _ _) (zG _)).drew
  have hf1:(w2.alloc (.cells #[.int .i64 ag, .int .i64 g] 2)).drew.cell? ⟨W.heap.size,2,none⟩=some (.int .i64 g):=(hBn.cell (p:=⟨W.heap.size,2,none⟩) Hl2.out).trans HX2.out
  have HBn:=hid hBn
  refine hK.out _ _ (hid hf1) (fun hHeld=>?_)
  clear hK K hBn hf1
  try simp only [zP]
  refine wpAnyH_ready (rs:= [8]) (by kernel_rfl) (by simp) ?_
  refine AllReadyH.cons rfl (fun K hK=>?_) AllReadyH.nil
  go_simp
  refine (cG.out w2).mono ?_
  rintro e w3 ⟨rfl,hB2⟩
  have hB3:=HBn.out.trans (hB2.mono HBn.out.size)
  have HB3:=hid hB3
  have hf2:w3.cell? ⟨W.heap.size,2,none⟩=some (.int .i64 g):=(hB3.cell (p:=⟨W.heap.size,2,none⟩) Hl2.out).trans HX2.out
  (try go_wp2_with fail)
  refine hK.out _ _ (hid hf2) (fun hHeld=>?_)
  clear hK K hB2 hB3 hf2 cG
  try simp only [zP]
  refine zT 9 (v:=?_) ?_ ?_
  rotate_left
  ·intro w hSw; have f0:=hSw.out; clear hSw; go_simp; (try with_reducible rfl)
  try simp only [zP]
  refine zT 10 (v:=?_) ?_ ?_
  rotate_left
  ·intro w hSw; have f0:=hSw.out; clear hSw; go_simp; (try with_reducible rfl)
  try simp only [zP]
  refine zT 11 (v:=?_) ?_ ?_
  rotate_left
  ·intro w hSw; have f0:=hSw.out; clear hSw; go_simp; (try with_reducible rfl)
  try simp only [zP]
  refine wpAnyH_ready (rs:= [12]) (by kernel_rfl) (by simp) ?_
  refine AllReadyH.cons rfl (fun K hK=>?_) AllReadyH.nil
  have hg3:w3.cell? ⟨b,o+2,none⟩=some (.int .i64 ag):=(HB3.out.cell (p:=⟨b,o+2,none⟩) HT2.out.lt).trans HT2.out.g
  have hz3:w3.frozen? ⟨b,o+2,none⟩=false:=(HB3.out.frozen (p:=⟨b,o+2,none⟩) HT2.out.lt).trans hz2
  have hf3:(w3.setCell ⟨b,o+2,none⟩ (.int .i64 (G:Int))).cell? ⟨W.heap.size,2,none⟩=some (.int .i64 g):=(World.cell?_setCell_other _ _ _ _ (fun e=>by injection e with e1 _; exact Hne.out e1)).trans ((HB3.out.cell (p:=⟨W.heap.size,2,none⟩) Hl2.out).trans HX2.out)
  go_simp
  (try go_wp2_with fail)
  refine hK.out _ _ (hid hf3) (fun hHeld=>?_)
  clear hK K hf3 hg3 hz3
  try simp only [zP]
  refine wpAnyH_done (by kernel_rfl) ?_ _
  clear hHeld
  go_wp2
  refine bodyPost_end (results_none rfl _ _ _) rfl ?_
  rw [HJ.out]
  exact ⟨⟨_,rfl⟩,(HT2.out.below HB3.out).setg (G:Int),HO2.out.trans ((OnlyB.of_below HB3.out HT2.out.lt).trans (OnlyB.set (o+2) (.inr (.inr rfl)) _))⟩
end
section
open Go.RowKit Go.Maps
def btL (n:Nat) (B:Nat→Bt):List Value:=(List.range n).flatMap fun u=> [.bool (B u).1, .int .i64 (B u).2.1, .int .i64 (B u).2.2]
theorem btL_succ (n:Nat) (B:Nat→Bt):btL (n+1) B=btL n B ++ [.bool (B n).1, .int .i64 (B n).2.1, .int .i64 (B n).2.2]:=by
 rw [btL,btL,List.range_succ,List.flatMap_append]; simp
theorem btL_len (n:Nat) (B:Nat→Bt):(btL n B).length=3 * n:=by
 induction n with
 | zero=>rfl
 | succ n ih=>rw [btL_succ,List.length_append,ih]; simp; omega
def btC (B:Nat→Bt) (j:Nat):Value:=if j % 3=0 then .bool (B (j / 3)).1 else if j % 3=1 then .int .i64 (B (j / 3)).2.1 else .int .i64 (B (j / 3)).2.2
theorem btL_get (n:Nat) (B:Nat→Bt) (j:Nat) (hj:j < 3 * n):(btL n B)[j]? =some (btC B j):=by
 induction n with
 | zero=>omega
 | succ n ih=>
   rw [btL_succ]
   rcases Nat.lt_or_ge j (3 * n) with h | h
   ·rw [List.getElem?_append_left (by rw [btL_len]; exact h)]; exact ih h
   ·rw [List.getElem?_append_right (by rw [btL_len]; exact h),btL_len]
    have h3:j=3 * n∨j=3 * n+1∨j=3 * n+2:=by omega
    rcases h3 with rfl | rfl | rfl
    ·rw [btC,if_pos (by omega),show 3 * n / 3=n by omega,Nat.sub_self]; rfl
    ·rw [btC,if_neg (by omega),if_pos (by omega),show (3 * n+1) / 3=n by omega,show 3 * n+1 - 3 * n=1 by omega]; rfl
    ·rw [btC,if_neg (by omega),if_neg (by omega),show (3 * n+2) / 3=n by omega,show 3 * n+2 - 3 * n=2 by omega]; rfl
structure BtS (b n:Nat) (B:Nat→Bt) (W:World):Prop where
 at':∀u,u < n→Bt1 b (u * 3) (B u) W
 z:∀i,W.frozen? ⟨b,i,none⟩=false
 lt:b < W.heap.size
section
variable {b n:Nat} {B:Nat→Bt} {W W':World}
theorem BtS.cell (h:BtS b n B W) {j:Nat} (hj:j < 3 * n):W.cell? ⟨b,j,none⟩=some (btC B j):=by
 have hu:j / 3 < n:=by omega
 have hb:=h.at' (j / 3) hu
 have h3:j % 3=0∨j % 3=1∨j % 3=2:=by omega
 rcases h3 with e | e | e
 ·rw [btC,if_pos e]; have:=hb.y; rwa [show j / 3 * 3=j by omega] at this
 ·rw [btC,if_neg (by omega),if_pos e]; have:=hb.f; rwa [show j / 3 * 3+1=j by omega] at this
 ·rw [btC,if_neg (by omega),if_neg (by omega)]; have:=hb.g; rwa [show j / 3 * 3+2=j by omega] at this
theorem BtS.of (hc:∀j,j < 3 * n→W.cell? ⟨b,j,none⟩=some (btC B j)) (hz:∀i,W.frozen? ⟨b,i,none⟩=false) (hl:b < W.heap.size):BtS b n B W:=
 ⟨fun u hu=>by
  have c0:=hc (u * 3) (by omega)
  have c1:=hc (u * 3+1) (by omega)
  have c2:=hc (u * 3+2) (by omega)
  rw [btC,if_pos (by omega),show u * 3 / 3=u by omega] at c0
  rw [btC,if_neg (by omega),if_pos (by omega),show (u * 3+1) / 3=u by omega] at c1
  rw [btC,if_neg (by omega),if_neg (by omega),show (u * 3+2) / 3=u by omega] at c2
  exact ⟨c0,c1,c2,hz,hl⟩,hz,hl⟩
theorem BtS.block (h:BtS b n B W) (hs:W.heap.size≤W'.heap.size) (hb:W'.heap[b]? =W.heap[b]?):BtS b n B W':=
 BtS.of (fun j hj=>(World.cell?_of_block (w:=W) (a:=⟨b,j,none⟩) hb).trans (h.cell hj)) (fun i=>(World.frozen?_of_block (w:=W) (a:=⟨b,i,none⟩) hb).trans (h.z i)) (zH h.lt hs)
theorem BtS.congr {C:Nat→Bt} (h:BtS b n B W) (e:∀u,u < n→C u=B u):BtS b n C W:=⟨fun u hu=>by rw [e u hu]; exact h.at' u hu,h.z,h.lt⟩
theorem BtS.step {x:Bt} {u:Nat} (h:BtS b n B W) (h1:Bt1 b (u * 3) x W') (ho:OnlyB b (u * 3) W W'):BtS b n (fun i=>if i=u then x else B i) W':=
 ⟨fun i hi=>by
  by_cases e:i=u
  ·subst e; rw [if_pos rfl]; exact h1
  ·rw [if_neg e]
   have g:=h.at' i hi
   exact ⟨(ho.c _ (by omega) (by omega) (by omega)).trans g.y,(ho.c _ (by omega) (by omega) (by omega)).trans g.f,(ho.c _ (by omega) (by omega) (by omega)).trans g.g,fun j=>(ho.z j).trans (g.z j),h1.lt⟩,fun i=>(ho.z i).trans (h.z i),h1.lt⟩
theorem BtS.range (h:BtS b n B W):W.rangeAt b 0 (btL n B):=fun j v hv=>by
 have hj:j < 3 * n:=by have:=(List.getElem?_eq_some_iff.1 hv).1; rwa [btL_len] at this
 rw [btL_get n B j hj] at hv
 rw [Nat.zero_add,h.cell hj]; exact hv
theorem BtS.there (h:BtS b n B W) (C:Nat→Bt):W.there b 0 (btL n C).toArray.size:=fun j hj=>by
 rw [List.size_toArray,btL_len] at hj
 rw [Nat.zero_add]
 exact ⟨by rw [h.cell hj]; rfl,h.z j⟩
theorem BtS.put (h:BtS b n B W) (C:Nat→Bt):BtS b n C (W.setCells b 0 (btL n C)):=by
 have hs:=(Eff.setCells (O:=fun x=>x=b) rfl (btL n C) 0 W (Eff.refl _ W)).size
 refine BtS.of (fun j hj=>?_) (fun i=>by rw [World.frozen?_setCells]; exact h.z i) (zH h.lt hs)
 have:=World.cell?_setCells_in b (btL n C) 0 W (fun i hi=>by rw [btL_len] at hi; rw [Nat.zero_add,h.cell hi]; rfl) j (by rw [btL_len]; exact hj)
 rw [Nat.zero_add] at this
 rw [this]
 have h2:=btL_get n C j hj
 rw [List.getElem?_eq_getElem (by rw [btL_len]; exact hj)] at h2
 exact h2
end
theorem btS_new (w:World) (t:TypeId) (n:Nat):BtS w.heap.size n (fun _=>(false,0,0)) (w.alloc (.cells (btL n fun _=>(false,0,0)).toArray t)):=
 BtS.of (fun j hj=>by
  rw [World.cell?,World.alloc_heap_new]
  have:=btL_get n (fun _=>((false,0,0):Bt)) j hj
  simpa using this) (fun i=>frozen_fresh w _ t i) (by simp)
def bv3 (B:Nat→Bt):Value:= .agg (btL 3 B).toArray
def bv7 (B:Nat→Bt):Value:= .agg (btL 7 B).toArray
theorem info3b:(Tryz.prog.info? 155).map (·.size)=some 9:=by kernel_rfl
theorem info7b:(Tryz.prog.info? 79).map (·.size)=some 21:=by kernel_rfl
def load3S (v:Value):Sem Value:=Instr.loadAt 155 v
theorem loadAt_3b (v:Value):Instr.loadAt 155 v=load3S v:=rfl
def store3S (v u:Value):Sem Unit:=Instr.storeAt 155 v u
theorem storeAt_3b (v u:Value):Instr.storeAt 155 v u=store3S v u:=rfl
def load7S (v:Value):Sem Value:=Instr.loadAt 79 v
theorem loadAt_7b (v:Value):Instr.loadAt 79 v=load7S v:=rfl
def store7S (v u:Value):Sem Unit:=Instr.storeAt 79 v u
theorem storeAt_7b (v u:Value):Instr.storeAt 79 v u=store7S v u:=rfl
section
variable {b:Nat} {B:Nat→Bt} {W:World}
theorem BtS.ld3 (h:BtS b 3 B W):(load3S (.pointer (some ⟨b,0,none⟩))).run Tryz.prog W= .ok (bv3 B) W:=by
 unfold load3S
 simp only [Instr.loadAt,Instr.sureAddr,Sem.run_bind,Sem.run_pure,Result.andThen_ok,run_loadVar_mid W b 0 155 (btL 3 B) _ h.range Tryz.underlying155 rfl (by rw [btL_len]; exact info3b)]
 rfl
theorem BtS.st3 (h:BtS b 3 B W) (C:Nat→Bt):(store3S (.pointer (some ⟨b,0,none⟩)) (bv3 C)).run Tryz.prog W= .ok () (W.setCells b 0 (btL 3 C)):=by
 unfold store3S
 rw [bv3,run_storeAt_mid W b 0 155 (btL 3 C).toArray (h.there C) (by rw [List.size_toArray,btL_len]; exact info3b) (by simp [btL,List.range,List.range.loop,Value.oneCell'])]
theorem BtS.ld7 (h:BtS b 7 B W):(load7S (.pointer (some ⟨b,0,none⟩))).run Tryz.prog W= .ok (bv7 B) W:=by
 unfold load7S
 simp only [Instr.loadAt,Instr.sureAddr,Sem.run_bind,Sem.run_pure,Result.andThen_ok,run_loadVar_mid W b 0 79 (btL 7 B) _ h.range Tryz.underlying79 rfl (by rw [btL_len]; exact info7b)]
 rfl
theorem BtS.st7 (h:BtS b 7 B W) (C:Nat→Bt):(store7S (.pointer (some ⟨b,0,none⟩)) (bv7 C)).run Tryz.prog W= .ok () (W.setCells b 0 (btL 7 C)):=by
 unfold store7S
 rw [bv7,run_storeAt_mid W b 0 79 (btL 7 C).toArray (h.there C) (by rw [List.size_toArray,btL_len]; exact info7b) (by simp [btL,List.range,List.range.loop,Value.oneCell'])]
end
end
section
open Go.RowKit
def noDefer (o:Oper):Bool:=match o.op with | .defer _=>false | _=>true
theorem noDefer_ne {o:Oper} (h:noDefer o=true):∀c,o.op≠ .defer c:=by
 intro c e; rw [noDefer,e] at h; cases h
theorem operW {l n:Nat} {P:Program} {o:Oper} {a:Act} {w:World} {K:Act→World→Prop} {Q:Exit→Act→World→Prop} (hd:noDefer o=true) (hL:¬LetsOut Q) (h:o.wp P a w K Q):o.wpIn (WF (some l)) n P a w K Q:=by
 refine ⟨fun _ _=>trivial,?_⟩
 have e2:o.semAt (WF (some l)).round a.eval=execOp a.eval o:=Oper.semAt_eq _ _ _ (noDefer_ne hd)
 rw [e2]
 unfold Oper.wp at h
 generalize (execOp a.eval o).run P w=r at *
 cases r with
 | ok x w'=>
   cases x <;> simp only [Oper.uponIn,Oper.upon] at h⊢<;>
    first
     | exact h
     | exact ⟨fun h=>(by cases h),wf_calls.mpr h⟩
     | exact ⟨fun h=>(by cases h),fun c cs _=>let ⟨v,w'',r,s⟩:=h c cs; ⟨v,w'',r,stepsIn_wide.mpr s⟩⟩
 | halt x w'=>cases x <;> simp only [Oper.uponIn,Oper.upon] at h⊢<;> exact h
theorem opW {l n i:Nat} {P:Program} {ops:Array Oper} {K K':Act→World→Prop} {Q:Exit→Act→World→Prop} (hd:ops.all noDefer=true) (hL:¬LetsOut Q) (hK:∀a w,K a w→K' a w) {a:Act} {w:World} (h:wpOp P ops Q i K a w):wpOpIn (WF (some l)) n P ops Q i K' a w:=by
 unfold wpOp at h
 unfold wpOpIn
 cases ho:ops[i]? with
 | none=>simp only [ho] at h⊢; exact hK _ _ h
 | some o=>
   simp only [ho] at h⊢
   have hdo:noDefer o=true:=by
    rw [Array.all_eq_true] at hd
    obtain ⟨hi,rfl⟩:=Array.getElem?_eq_some_iff.1 ho
    exact hd i hi
   split
   ·rename_i hw
    rw [if_pos hw] at h
    rcases h with h | h
    ·exact operW hdo hL (Oper.wp_mono hK h)
    ·exact absurd h.2 hL
   ·rename_i hw
    rw [if_neg hw] at h
    exact ⟨fun _ _=>trivial,hK _ _ h⟩
theorem anyW {l n:Nat} {P:Program} {md:Region.Mode} {ops:Array Oper} {Q:Exit→Act→World→Prop} (hd:ops.all noDefer=true) (hL:¬LetsOut Q):∀(fuel:Nat) (listed:Array Bool) (a:Act) (w:World),wpAny P md ops Q fuel listed a w→wpAnyIn (WF (some l)) n P md ops Q fuel listed a w
 | 0,_,_,_,h=>h
 | fuel+1,listed,a,w,h=>⟨h.1,fun i hi=>opW hd hL (fun a w=>anyW hd hL fuel _ a w) (h.2 i hi)⟩
theorem regW {l n id:Nat} {P:Program} {ops:Array Oper} {S:World→Prop} {Q:Exit→Act→World→Prop} {a:Act} {w:World} (hm:P.follows .mixedOrders=true) (hd:ops.all noDefer=true) (hL:¬LetsOut Q) (hS:S w.drew)
  (h:S w.drew→wpAnyH P .any ops Q S ops.size (Array.replicate ops.size false) a w.drew):(Code.region id ops true).wpIn (WF (some l)) n P Q a w:=
 wpIn_region_any hm (anyW hd hL _ _ _ _ (wpAny_of_held _ _ _ _ (h hS)))
end
end Go.Proofs.YthimhfmnikfgaaaGreatDoor
