/-
  cast.(*Face).date: what a day adds to a face.
-/
import Derived.Test.YtkpgfmonhfnhdaaGreatDoorQ76d87d
import Derived.Test.YtkpgfmonhfnhdaaGreatDoorQ3169d1
import Derived.Test.YtkpgfmonhfnhdaaGreatDoorQfea719
import Derived.BigRegion
import Derived.Deep.Cut
set_option maxRecDepth 100000
set_option maxHeartbeats 25600000
namespace Go.Proofs.YtkpgfmonhfnhdaaGreatDoor
open Go.RowKit Go.Maps
set_option linter.unusedVariables false
def dtU (s:Nat→Int) (u:Nat→Nat) (k i:Nat):Nat:=if i < k then dyU s u i else u i
theorem ydu {s:Nat→Int} {u:Nat→Nat} {k i:Nat} (h:k≤i):dtU s u k i=u i:=by rw [dtU,if_neg (by omega)]
theorem ygk {s:Nat→Int} {u:Nat→Nat} {k:Nat} (i:Nat):dtU s u (k+1) i=if i=k then dyU s u k else dtU s u k i:=by
 rw [dtU,dtU]
 by_cases e:i=k
 ·subst e; rw [if_pos (by omega),if_pos rfl]
 ·rw [if_neg e]
  by_cases e2:i < k
  ·rw [if_pos (by omega),if_pos e2]
  ·rw [if_neg (by omega),if_neg e2]
theorem ydt {s:Nat→Int} {u:Nat→Nat} {k n j:Nat} (hj:j < n) (ho:∀i,k≤i→i < k+n→i≠k+j→dyU s u i=u i) (i:Nat):dtU s u (k+n) i=if i=k+j then dyU s u (k+j) else dtU s u k i:=by
 rw [dtU,dtU]
 by_cases e:i=k+j
 ·subst e; rw [if_pos (by omega),if_pos rfl]
 ·rw [if_neg e]
  by_cases e2:i < k
  ·rw [if_pos (by omega),if_pos e2]
  ·rw [if_neg e2]
   by_cases e3:i < k+n
   ·rw [if_pos e3]; exact ho i (by omega) e3 e
   ·rw [if_neg e3]
theorem dyU_w {s:Nat→Int} {u:Nat→Nat} {k:Nat} (h:s 5= (k:Int)) (hk:k < 8):dyU s u (14+k)=u (14+k) ||| ofM [s 6]∧dyU s u (22+k)=u (22+k) ||| ofM [s 7]∧dyU s u (30+k)=u (30+k) ||| ofM [s 8]∧dyU s u (38+k)=u (38+k) ||| ofM [s 9]:=by
 refine ⟨?_,?_,?_,?_⟩
 ·rw [dyU,if_neg (by omega),if_neg (by omega),if_neg (by omega),if_pos (by omega),if_pos (by rw [h]; omega)]
 ·rw [dyU,if_neg (by omega),if_neg (by omega),if_neg (by omega),if_neg (by omega),if_pos (by omega),if_pos (by rw [h]; omega)]
 ·rw [dyU,if_neg (by omega),if_neg (by omega),if_neg (by omega),if_neg (by omega),if_neg (by omega),if_pos (by omega),if_pos (by rw [h]; omega)]
 ·rw [dyU,if_neg (by omega),if_neg (by omega),if_neg (by omega),if_neg (by omega),if_neg (by omega),if_neg (by omega),if_pos (by rw [h]; omega)]
theorem yi3 {s:Nat→Int} {u:Nat→Nat} {k i:Nat} (h:s 5= (k:Int)) (h0:14≤i) (h1:i < 46) (n1:i≠14+k) (n2:i≠22+k) (n3:i≠30+k) (n4:i≠38+k):dyU s u i=u i:=by
 rw [dyU,if_neg (by omega),if_neg (by omega),if_neg (by omega)]
 split
 ·rw [if_neg (by rw [h]; omega)]
 ·split
  ·rw [if_neg (by rw [h]; omega)]
  ·split
   ·rw [if_neg (by rw [h]; omega)]
   ·rw [if_neg (by rw [h]; omega)]
theorem dyU_y {s:Nat→Int} {u:Nat→Nat} {n:Nat} (h:s 1 - 1970= (n:Int)) (hn:n < 400):dyU s u (7+n / 64)=u (7+n / 64) ||| 2 ^ (n % 64):=by
 rw [dyU,if_neg (by omega),if_neg (by omega),if_pos (by omega),h,Int.toNat_natCast,if_pos (by omega)]
theorem dyU_yn {s:Nat→Int} {u:Nat→Nat} {n i:Nat} (h:s 1 - 1970= (n:Int)) (h0:7≤i) (h1:i < 14) (hi:i≠7+n / 64):dyU s u i=u i:=by
 rw [dyU,if_neg (by omega),if_neg (by omega),if_pos (by omega),h,Int.toNat_natCast,if_neg (by omega)]
structure ShX (b:Nat) (s:Nat→Int) (W:World):Prop where
 c:∀i,i < 10→W.cell? ⟨b,i,none⟩=some (.int .i64 (s i))
 lt:b < W.heap.size
theorem ShX.block {b:Nat} {s:Nat→Int} {W W':World} (h:ShX b s W) (hs:W.heap.size≤W'.heap.size) (hb:W'.heap[b]? =W.heap[b]?):ShX b s W':=
 ⟨fun i hi=>(zzJ (w:=W) (a:=⟨b,i,none⟩) hb).trans (h.c i hi),zH h.lt hs⟩
structure DtI (w:World) (bf bx:Nat) (s:Nat→Int) (u:Nat→Nat) (fi la n:Int) (ev sq:Bool) (W:World):Prop where
 f:FcB bf u fi la n ev sq W
 x:ShX bx s W
 e:Eff (fun b=>b=bf) w W
theorem DtI.step {w:World} {bf bx:Nat} {s:Nat→Int} {u:Nat→Nat} {fi la n:Int} {ev sq:Bool} {W W2:World} (h:DtI w bf bx s u fi la n ev sq W) (hne:bx≠bf) (hB:Below W.heap.size W W2) {k:Nat} (hk:k < 46) (v:Nat) {u':Nat→Nat} (e:∀i,u' i=if i=k then v else u i) :
  DtI w bf bx s u' fi la n ev sq (W2.setCell ⟨bf,k,none⟩ (.int .u64 (v:Nat))):=by
 have hf:=(h.f.block hB.size (hB.block _ h.f.lt)).set hk v (u':=u') (fun i _=>e i)
 have he:Eff (fun b=>b=bf) W2 (W2.setCell ⟨bf,k,none⟩ (.int .u64 (v:Nat))):=(Eff.refl (fun b=>b=bf) W2).set rfl _ _
 have hx:=h.x.block hB.size (hB.block _ h.x.lt)
 exact ⟨hf,hx.block he.size (he.block _ hx.lt hne),(h.e.trans (Eff.of_below (O:=fun b=>b=bf) hB) (fun _ h=> .inl h)).trans he (fun _ h=> .inl h)⟩
theorem MOfE_any (x:Int) (W:World) (t:TypeId):Calls Tryz.prog 70 #[.slice (some ⟨W.heap.size,0,none⟩) 1 1] (W.alloc (.cells #[.int .i64 x] t)).drew fun e w'=>e= .returned (.int .u64 (ofM [x]))∧Below W.heap.size W w':=by
 have hb:Below W.heap.size W (W.alloc (.cells #[.int .i64 x] t)):=yaa (Below.refl _ _) (zG _)
 have hd:Below (W.alloc (.cells #[.int .i64 x] t)).heap.size (W.alloc (.cells #[.int .i64 x] t)) (W.alloc (.cells #[.int .i64 x] t)).drew:=(Below.refl _ _).drew
 exact (MOf_any (some ⟨W.heap.size,0,none⟩) 1 [x] (W.alloc (.cells #[.int .i64 x] t)).drew (by simp) ((ydj (yaG W [.int .i64 x] t) (by simp)).below hd)).mono fun e w' ⟨he,h⟩=>⟨he,(hb.trans (hd.mono hb.size)).trans (h.mono (zI hb.size hd.size))⟩
theorem yks {bf:Nat} {u:Nat→Nat} {fi la:Int} {n:Nat} {ev sq:Bool} (s:Nat→Int) {w:World} (h:FcB bf u fi la n ev sq w) (hu:∀i,i < 46→u i < 18446744073709551616) (hy:1970≤s 1∧s 1 < 2370) (hw:0≤s 5∧s 5 < 8) (hn:n < 1000000) :
  Calls Tryz.prog 28 #[.pointer (some ⟨bf,0,none⟩),shq s] w fun e w'=>(∃v,e= .returned v)∧FcB bf (dyU s u) fi la ((n+1:Nat):Int) ev sq w'∧Eff (fun b=>b=bf) w w':=by
 obtain ⟨W1,hW1⟩:∃W1,w.alloc (.cells #[.int .i64 (s 0), .int .i64 (s 1), .int .i64 (s 2), .int .i64 (s 3), .int .i64 (s 4), .int .i64 (s 5), .int .i64 (s 6), .int .i64 (s 7), .int .i64 (s 8), .int .i64 (s 9)] 71)=W1:=⟨_,rfl⟩
 have hB1:Below w.heap.size w W1:=by rw [←hW1]; exact yaa (Below.refl _ _) (zG _)
 have s1:W1.heap.size=w.heap.size+1:=by rw [←hW1]; simp
 have hI:Hid (DtI w bf w.heap.size s (dtU s u 3) fi la n ev sq W1):=by
  refine ⟨(h.block hB1.size (hB1.block _ h.lt)).as (fun i _=>by rw [dtU,dyU]; split <;> rfl),⟨fun i hi=>?_,by omega⟩,Eff.of_below hB1⟩
  have hi10:i=0∨i=1∨i=2∨i=3∨i=4∨i=5∨i=6∨i=7∨i=8∨i=9:=by omega
  rw [←hW1]
  rcases hi10 with rfl | rfl | rfl | rfl | rfl | rfl | rfl | rfl | rfl | rfl <;> simp [go_sem]
 have hlt:bf < w.heap.size:=h.lt
 obtain ⟨bx,hbx⟩:∃x,w.heap.size=x:=⟨_,rfl⟩
 have Hne:Hid (bx≠bf):=by show _≠_; omega
 rw [hbx] at hI
 have Hbx:=hid hbx
 have HI:=hI
 have HW1:=hid hW1
 have Hu:=hid hu
 have cM:=hid (fun (x:Int) (W:World)=>MOfE_any x W 3)
 obtain ⟨k5,hk5⟩:∃k:Nat,s 5= (k:Int):=⟨(s 5).toNat,by omega⟩
 obtain ⟨ny,hny⟩:∃k:Nat,s 1 - 1970= (k:Int):=⟨(s 1 - 1970).toNat,by omega⟩
 have H5:=hid hk5
 have Hny:=hid hny
 have hk5b:(k5:Int) < 8:=by omega
 have hk5c:k5 < 8:=by omega
 have hnyb:(ny:Int) < 400:=by omega
 have hnyc:ny < 400:=by omega
 clear h hu hW1 hB1 s1 hI hbx hlt hk5 hny hw hy
 unfold shq
 go_enter Tryz.func28,Tryz.ntmps28
 go_upto_region 1 with fail
 rw [HW1.out,Hbx.out]
 go_cut [] from 5 to 16 (fun wx=>Hid (DtI w bf bx s (dtU s u 4) fi la n ev sq wx))
 case first=>
  have HI:=HI
  obtain ⟨hf,hx,he⟩:=HI.out
  have c0:=hf.c (3) (by omega)
  rw [ydu (by omega)] at c0
  have x0:=hx.c 2 (by omega)
  have hor:bits .or .u64 (u (3):Int) ((ofM [s 2]:Nat):Int)= ((u (3) ||| ofM [s 2]:Nat):Int):=yaI (Hu.out (3) (by omega)) (yao _)
  have HN:Hid (∀W2,Below W1.heap.size W1 W2→DtI w bf bx s (dtU s u 4) fi la n ev sq (W2.setCell ⟨bf,3,none⟩ (.int .u64 ((u (3) ||| ofM [s 2]:Nat):Int)))):=fun W2 hB=>HI.out.step Hne.out hB (k:=3) (by omega) _ (fun i=>by rw [ygk,show dyU s u 3=u 3 ||| ofM [s 2] from rfl])
  have hlf:=hf.lt
  have hlx:=hx.lt
  have hz:Hid (∀W2,Below W1.heap.size W1 W2→W2.frozen? ⟨bf,3,none⟩=false):=fun W2 hB=>(hB.frozen (p:=⟨bf,3,none⟩) hlf).trans (hf.z (3))
  obtain ⟨U0,hU0⟩:∃x,u (3)=x:=⟨_,rfl⟩
  obtain ⟨V0,hV0⟩:∃x,ofM [s 2]=x:=⟨_,rfl⟩
  have cM1:=hid (cM.out (s 2) W1)
  rw [hV0] at hor HN cM1
  rw [hU0] at c0 hor HN
  obtain ⟨x,hx0⟩:∃x,s 2=x:=⟨_,rfl⟩
  rw [hx0] at x0 cM1
  have hC:Hid (∀W2,Below W1.heap.size W1 W2→W2.cell? ⟨bf,3,none⟩=some (.int .u64 (U0:Nat))∧W2.cell? ⟨bx,2,none⟩=some (.int .i64 x)):=fun W2 hB=>⟨(hB.cell (p:=⟨bf,3,none⟩) hlf).trans c0,(hB.cell (p:=⟨bx,2,none⟩) hlx).trans x0⟩
  have hbn:Hid (Below W1.heap.size W1 (W1.alloc (.cells #[.int .i64 x] 3)).drew):=(yaa (Below.refl _ _) (zG _)).drew
  have HOR:=hid hor
  clear hf hx he hU0 hV0 hx0 c0 x0
  refine regF [11] (S:=fun W=>Hid (W.cell? ⟨bf,3,none⟩=some (.int .u64 (U0:Nat))∧W.cell? ⟨bx,2,none⟩=some (.int .i64 x))) (by kernel_rfl) (hC.out _ (Below.refl _ _).drew) (fun hHeld=>?_)
  refine zfA 0 ?_
  refine zfA 1 ?_
  refine zfA 2 ?_
  refine zfA 3 ?_
  refine zfA 4 ?_
  refine zfA 5 ?_
  refine zzO 6 (fun K hK=>?_)
  go_simp
  refine hK.out _ _ (fun _=>hC.out _ hbn.out) ?_
  clear hK
  try simp only [rgPut]
  refine zzO 7 (fun K hK=>?_)
  go_simp
  refine cM1.out.mono ?_
  rintro e w7 ⟨rfl,hB7⟩
  refine hK.out _ _ (fun _=>hC.out _ hB7) ?_
  clear hK
  have HB7:=hid hB7
  clear hB7 cM1 hbn
  try simp only [rgPut]
  have hS7:=hid (hC.out _ HB7.out)
  refine rgT 8 (v:=?_) ?_ ?_
  rotate_left
  ·intro w hSw; have hor:=HOR.out; clear hSw; go_simp; (try with_reducible rfl)
  try simp only [rgPut]
  refine zzO 9 (fun K hK=>?_)
  go_simp
  refine hK.out _ _ (fun _=>hS7) ?_
  clear hK
  try simp only [rgPut]
  refine zzO 10 (fun K hK=>?_)
  go_simp
  refine hK.out _ _ (fun _=>hS7) ?_
  clear hK
  try simp only [rgPut]
  have c7:=hS7.out.1
  have z7:=hz.out _ HB7.out
  clear hor hC hz hS7
  refine zzO 11 (fun K hK=>?_)
  go_simp
  refine hK.out _ _ (fun h=>absurd h (by decide)) ?_
  clear hK
  try simp only [rgPut]
  refine OrdF.done (by kernel_rfl) ?_ _
  go_wp2
  go_meet
  exact hid (HN.out _ HB7.out)
 case rest=>
  go_upto_region 2 with fail
  go_cut [] from 16 to 27 (fun wx=>Hid (DtI w bf bx s (dtU s u 5) fi la n ev sq wx))
  case first=>
   have HI:=hcut
   clear hcut
   obtain ⟨hf,hx,he⟩:=HI.out
   have c0:=hf.c (4) (by omega)
   rw [ydu (by omega)] at c0
   have x0:=hx.c 3 (by omega)
   have hor:bits .or .u64 (u (4):Int) ((ofM [s 3]:Nat):Int)= ((u (4) ||| ofM [s 3]:Nat):Int):=yaI (Hu.out (4) (by omega)) (yao _)
   have HN:Hid (∀W2,Below wc.heap.size wc W2→DtI w bf bx s (dtU s u 5) fi la n ev sq (W2.setCell ⟨bf,4,none⟩ (.int .u64 ((u (4) ||| ofM [s 3]:Nat):Int)))):=fun W2 hB=>HI.out.step Hne.out hB (k:=4) (by omega) _ (fun i=>by rw [ygk,show dyU s u 4=u 4 ||| ofM [s 3] from rfl])
   have hlf:=hf.lt
   have hlx:=hx.lt
   have hz:Hid (∀W2,Below wc.heap.size wc W2→W2.frozen? ⟨bf,4,none⟩=false):=fun W2 hB=>(hB.frozen (p:=⟨bf,4,none⟩) hlf).trans (hf.z (4))
   obtain ⟨U0,hU0⟩:∃x,u (4)=x:=⟨_,rfl⟩
   obtain ⟨V0,hV0⟩:∃x,ofM [s 3]=x:=⟨_,rfl⟩
   have cM1:=hid (cM.out (s 3) wc)
   rw [hV0] at hor HN cM1
   rw [hU0] at c0 hor HN
   obtain ⟨x,hx0⟩:∃x,s 3=x:=⟨_,rfl⟩
   rw [hx0] at x0 cM1
   have hC:Hid (∀W2,Below wc.heap.size wc W2→W2.cell? ⟨bf,4,none⟩=some (.int .u64 (U0:Nat))∧W2.cell? ⟨bx,3,none⟩=some (.int .i64 x)):=fun W2 hB=>⟨(hB.cell (p:=⟨bf,4,none⟩) hlf).trans c0,(hB.cell (p:=⟨bx,3,none⟩) hlx).trans x0⟩
   have hbn:Hid (Below wc.heap.size wc (wc.alloc (.cells #[.int .i64 x] 3)).drew):=(yaa (Below.refl _ _) (zG _)).drew
   have HOR:=hid hor
   clear hf hx he hU0 hV0 hx0 c0 x0
   refine regF [11] (S:=fun W=>Hid (W.cell? ⟨bf,4,none⟩=some (.int .u64 (U0:Nat))∧W.cell? ⟨bx,3,none⟩=some (.int .i64 x))) (by kernel_rfl) (hC.out _ (Below.refl _ _).drew) (fun hHeld=>?_)
   refine zfA 0 ?_
   refine zfA 1 ?_
   refine zfA 2 ?_
   refine zfA 3 ?_
   refine zfA 4 ?_
   refine zfA 5 ?_
   refine zzO 6 (fun K hK=>?_)
   go_simp
   refine hK.out _ _ (fun _=>hC.out _ hbn.out) ?_
   clear hK
   try simp only [rgPut]
   refine zzO 7 (fun K hK=>?_)
   go_simp
   refine cM1.out.mono ?_
   rintro e w7 ⟨rfl,hB7⟩
   refine hK.out _ _ (fun _=>hC.out _ hB7) ?_
   clear hK
   have HB7:=hid hB7
   clear hB7 cM1 hbn
   try simp only [rgPut]
   have hS7:=hid (hC.out _ HB7.out)
   refine rgT 8 (v:=?_) ?_ ?_
   rotate_left
   ·intro w hSw; have hor:=HOR.out; clear hSw; go_simp; (try with_reducible rfl)
   try simp only [rgPut]
   refine zzO 9 (fun K hK=>?_)
   go_simp
   refine hK.out _ _ (fun _=>hS7) ?_
   clear hK
   try simp only [rgPut]
   refine zzO 10 (fun K hK=>?_)
   go_simp
   refine hK.out _ _ (fun _=>hS7) ?_
   clear hK
   try simp only [rgPut]
   have c7:=hS7.out.1
   have z7:=hz.out _ HB7.out
   clear hor hC hz hS7
   refine zzO 11 (fun K hK=>?_)
   go_simp
   refine hK.out _ _ (fun h=>absurd h (by decide)) ?_
   clear hK
   try simp only [rgPut]
   refine OrdF.done (by kernel_rfl) ?_ _
   go_wp2
   go_meet
   exact hid (HN.out _ HB7.out)
  case rest=>
   go_upto_region 3 with fail
   go_cut [] from 27 to 38 (fun wx=>Hid (DtI w bf bx s (dtU s u 6) fi la n ev sq wx))
   case first=>
    have HI:=hcut
    clear hcut
    obtain ⟨hf,hx,he⟩:=HI.out
    have c0:=hf.c (5) (by omega)
    rw [ydu (by omega)] at c0
    have x0:=hx.c 4 (by omega)
    have hor:bits .or .u64 (u (5):Int) ((ofM [s 4]:Nat):Int)= ((u (5) ||| ofM [s 4]:Nat):Int):=yaI (Hu.out (5) (by omega)) (yao _)
    have HN:Hid (∀W2,Below wc.heap.size wc W2→DtI w bf bx s (dtU s u 6) fi la n ev sq (W2.setCell ⟨bf,5,none⟩ (.int .u64 ((u (5) ||| ofM [s 4]:Nat):Int)))):=fun W2 hB=>HI.out.step Hne.out hB (k:=5) (by omega) _ (fun i=>by rw [ygk,show dyU s u 5=u 5 ||| ofM [s 4] from rfl])
    have hlf:=hf.lt
    have hlx:=hx.lt
    have hz:Hid (∀W2,Below wc.heap.size wc W2→W2.frozen? ⟨bf,5,none⟩=false):=fun W2 hB=>(hB.frozen (p:=⟨bf,5,none⟩) hlf).trans (hf.z (5))
    obtain ⟨U0,hU0⟩:∃x,u (5)=x:=⟨_,rfl⟩
    obtain ⟨V0,hV0⟩:∃x,ofM [s 4]=x:=⟨_,rfl⟩
    have cM1:=hid (cM.out (s 4) wc)
    rw [hV0] at hor HN cM1
    rw [hU0] at c0 hor HN
    obtain ⟨x,hx0⟩:∃x,s 4=x:=⟨_,rfl⟩
    rw [hx0] at x0 cM1
    have hC:Hid (∀W2,Below wc.heap.size wc W2→W2.cell? ⟨bf,5,none⟩=some (.int .u64 (U0:Nat))∧W2.cell? ⟨bx,4,none⟩=some (.int .i64 x)):=fun W2 hB=>⟨(hB.cell (p:=⟨bf,5,none⟩) hlf).trans c0,(hB.cell (p:=⟨bx,4,none⟩) hlx).trans x0⟩
    have hbn:Hid (Below wc.heap.size wc (wc.alloc (.cells #[.int .i64 x] 3)).drew):=(yaa (Below.refl _ _) (zG _)).drew
    have HOR:=hid hor
    clear hf hx he hU0 hV0 hx0 c0 x0
    refine regF [11] (S:=fun W=>Hid (W.cell? ⟨bf,5,none⟩=some (.int .u64 (U0:Nat))∧W.cell? ⟨bx,4,none⟩=some (.int .i64 x))) (by kernel_rfl) (hC.out _ (Below.refl _ _).drew) (fun hHeld=>?_)
    refine zfA 0 ?_
    refine zfA 1 ?_
    refine zfA 2 ?_
    refine zfA 3 ?_
    refine zfA 4 ?_
    refine zfA 5 ?_
    refine zzO 6 (fun K hK=>?_)
    go_simp
    refine hK.out _ _ (fun _=>hC.out _ hbn.out) ?_
    clear hK
    try simp only [rgPut]
    refine zzO 7 (fun K hK=>?_)
    go_simp
    refine cM1.out.mono ?_
    rintro e w7 ⟨rfl,hB7⟩
    refine hK.out _ _ (fun _=>hC.out _ hB7) ?_
    clear hK
    have HB7:=hid hB7
    clear hB7 cM1 hbn
    try simp only [rgPut]
    have hS7:=hid (hC.out _ HB7.out)
    refine rgT 8 (v:=?_) ?_ ?_
    rotate_left
    ·intro w hSw; have hor:=HOR.out; clear hSw; go_simp; (try with_reducible rfl)
    try simp only [rgPut]
    refine zzO 9 (fun K hK=>?_)
    go_simp
    refine hK.out _ _ (fun _=>hS7) ?_
    clear hK
    try simp only [rgPut]
    refine zzO 10 (fun K hK=>?_)
    go_simp
    refine hK.out _ _ (fun _=>hS7) ?_
    clear hK
    try simp only [rgPut]
    have c7:=hS7.out.1
    have z7:=hz.out _ HB7.out
    clear hor hC hz hS7
    refine zzO 11 (fun K hK=>?_)
    go_simp
    refine hK.out _ _ (fun h=>absurd h (by decide)) ?_
    clear hK
    try simp only [rgPut]
    refine OrdF.done (by kernel_rfl) ?_ _
    go_wp2
    go_meet
    exact hid (HN.out _ HB7.out)
   case rest=>
    go_upto_region 4 with fail
    go_cut [] from 38 to 49 (fun wx=>Hid (DtI w bf bx s (dtU s u 7) fi la n ev sq wx))
    case first=>
     have HI:=hcut
     clear hcut
     obtain ⟨hf,hx,he⟩:=HI.out
     have c0:=hf.c (6) (by omega)
     rw [ydu (by omega)] at c0
     have x0:=hx.c 5 (by omega)
     have hor:bits .or .u64 (u (6):Int) ((ofM [s 5]:Nat):Int)= ((u (6) ||| ofM [s 5]:Nat):Int):=yaI (Hu.out (6) (by omega)) (yao _)
     have HN:Hid (∀W2,Below wc.heap.size wc W2→DtI w bf bx s (dtU s u 7) fi la n ev sq (W2.setCell ⟨bf,6,none⟩ (.int .u64 ((u (6) ||| ofM [s 5]:Nat):Int)))):=fun W2 hB=>HI.out.step Hne.out hB (k:=6) (by omega) _ (fun i=>by rw [ygk,show dyU s u 6=u 6 ||| ofM [s 5] from rfl])
     have hlf:=hf.lt
     have hlx:=hx.lt
     have hz:Hid (∀W2,Below wc.heap.size wc W2→W2.frozen? ⟨bf,6,none⟩=false):=fun W2 hB=>(hB.frozen (p:=⟨bf,6,none⟩) hlf).trans (hf.z (6))
     obtain ⟨U0,hU0⟩:∃x,u (6)=x:=⟨_,rfl⟩
     obtain ⟨V0,hV0⟩:∃x,ofM [s 5]=x:=⟨_,rfl⟩
     have cM1:=hid (cM.out (s 5) wc)
     rw [hV0] at hor HN cM1
     rw [hU0] at c0 hor HN
     obtain ⟨x,hx0⟩:∃x,s 5=x:=⟨_,rfl⟩
     rw [hx0] at x0 cM1
     have hC:Hid (∀W2,Below wc.heap.size wc W2→W2.cell? ⟨bf,6,none⟩=some (.int .u64 (U0:Nat))∧W2.cell? ⟨bx,5,none⟩=some (.int .i64 x)):=fun W2 hB=>⟨(hB.cell (p:=⟨bf,6,none⟩) hlf).trans c0,(hB.cell (p:=⟨bx,5,none⟩) hlx).trans x0⟩
     have hbn:Hid (Below wc.heap.size wc (wc.alloc (.cells #[.int .i64 x] 3)).drew):=(yaa (Below.refl _ _) (zG _)).drew
     have HOR:=hid hor
     clear hf hx he hU0 hV0 hx0 c0 x0
     refine regF [11] (S:=fun W=>Hid (W.cell? ⟨bf,6,none⟩=some (.int .u64 (U0:Nat))∧W.cell? ⟨bx,5,none⟩=some (.int .i64 x))) (by kernel_rfl) (hC.out _ (Below.refl _ _).drew) (fun hHeld=>?_)
     refine zfA 0 ?_
     refine zfA 1 ?_
     refine zfA 2 ?_
     refine zfA 3 ?_
     refine zfA 4 ?_
     refine zfA 5 ?_
     refine zzO 6 (fun K hK=>?_)
     go_simp
     refine hK.out _ _ (fun _=>hC.out _ hbn.out) ?_
     clear hK
     try simp only [rgPut]
     refine zzO 7 (fun K hK=>?_)
     go_simp
     refine cM1.out.mono ?_
     rintro e w7 ⟨rfl,hB7⟩
     refine hK.out _ _ (fun _=>hC.out _ hB7) ?_
     clear hK
     have HB7:=hid hB7
     clear hB7 cM1 hbn
     try simp only [rgPut]
     have hS7:=hid (hC.out _ HB7.out)
     refine rgT 8 (v:=?_) ?_ ?_
     rotate_left
     ·intro w hSw; have hor:=HOR.out; clear hSw; go_simp; (try with_reducible rfl)
     try simp only [rgPut]
     refine zzO 9 (fun K hK=>?_)
     go_simp
     refine hK.out _ _ (fun _=>hS7) ?_
     clear hK
     try simp only [rgPut]
     refine zzO 10 (fun K hK=>?_)
     go_simp
     refine hK.out _ _ (fun _=>hS7) ?_
     clear hK
     try simp only [rgPut]
     have c7:=hS7.out.1
     have z7:=hz.out _ HB7.out
     clear hor hC hz hS7
     refine zzO 11 (fun K hK=>?_)
     go_simp
     refine hK.out _ _ (fun h=>absurd h (by decide)) ?_
     clear hK
     try simp only [rgPut]
     refine OrdF.done (by kernel_rfl) ?_ _
     go_wp2
     go_meet
     exact hid (HN.out _ HB7.out)
    case rest=>
     obtain ⟨hf,hx,he⟩:=hcut.out
     have x1:=hx.c 1 (by omega)
     have hny:IntKind.i64.wrap (s 1 - 1970)= (ny:Int):=by rw [Hny.out]; exact IntWalk.i64_in _ (by omega)
     clear hf hx he
     go_upto_region 6 with fail
     go_cut [4] from 52 to 66 (fun n4 wx=>n4= .int .i64 (ny:Nat)∧Hid (DtI w bf bx s (dtU s u 14) fi la n ev sq wx))
     case first=>
      obtain ⟨hf,hx,he⟩:=hcut.out
      obtain ⟨q,hq⟩:∃q,ny / 64=q:=⟨_,rfl⟩
      obtain ⟨m,hm⟩:∃q,ny % 64=q:=⟨_,rfl⟩
      have hq7:q < 7:=by omega
      have hm64:m < 64:=by omega
      have c0:=hf.c (7+q) (by omega)
      rw [ydu (by omega)] at c0
      have hor:bits .or .u64 (u (7+q):Int) ((2 ^ m:Nat):Int)= ((u (7+q) ||| 2 ^ m:Nat):Int):=yaI (Hu.out (7+q) (by omega)) (ybS hm64)
      have HN:Hid (DtI w bf bx s (dtU s u 14) fi la n ev sq (wc.drew.setCell ⟨bf,7+q,none⟩ (.int .u64 ((u (7+q) ||| 2 ^ m:Nat):Int)))):=hcut.out.step Hne.out (Below.refl _ _).drew (k:=7+q) (by omega) _ (fun i=>(ydt (k:=7) (n:=7) (j:=q) hq7 (fun i h1 h2 h3=>dyU_yn Hny.out h1 h2 (by omega)) i).trans (by rw [←hq,dyU_y Hny.out hnyc,hq,hm]))
      have hlf:=hf.lt
      have z7:wc.drew.frozen? ⟨bf,7+q,none⟩=false:=hf.z (7+q)
      obtain ⟨U0,hU0⟩:∃x,u (7+q)=x:=⟨_,rfl⟩
      rw [hU0] at c0 hor HN
      have hC:Hid (wc.drew.cell? ⟨bf,7+q,none⟩=some (.int .u64 (U0:Nat))):=c0
      have hor2:bits .or .u64 (U0:Int) ((2:Int) ^ m)= ((U0 ||| 2 ^ m:Nat):Int):=by have h:=hor; rw [Int.natCast_pow] at h; exact h
      have hq2:IntKind.i64.wrap (Int.tdiv (ny:Int) 64)= (q:Int):=by rw [Int.tdiv_eq_ediv_of_nonneg (by omega)]; exact (IntWalk.i64_in _ (by omega)).trans (by omega)
      have hm2:IntKind.i64.wrap (Int.tmod (ny:Int) 64)= (m:Int):=by rw [Int.tmod_eq_emod_of_nonneg (by omega)]; exact (IntWalk.i64_in _ (by omega)).trans (by omega)
      have hm3:Int.tmod (ny:Int) 64= (m:Int):=by rw [Int.tmod_eq_emod_of_nonneg (by omega)]; omega
      have hq3:IntKind.i64.wrap ((ny:Int) / 64)= (q:Int):=(IntWalk.i64_in _ (by omega)).trans (by omega)
      have hm4:IntKind.i64.wrap ((ny:Int) % 64)= (m:Int):=(IntWalk.i64_in _ (by omega)).trans (by omega)
      have hm5:(ny:Int) % 64= (m:Int):=by omega
      have hwp:=ybt hm64
      have hq0:(0:Int)≤(q:Int):=by omega
      have hq7i:(q:Int) < 7:=by omega
      have hm0:¬(m:Int) < 0:=by omega
      have hm64i:(m:Int) < 64:=by omega
      clear hf hx he hU0 c0 hq hm hcut
      refine regF [14] (S:=fun W=>Hid (W.cell? ⟨bf,7+q,none⟩=some (.int .u64 (U0:Nat)))) (by kernel_rfl) hC (fun hHeld=>?_)
      refine zfA 0 ?_
      refine zfA 1 ?_
      refine zfA 2 ?_
      refine zfA 3 ?_
      refine zfA 4 ?_
      refine zfA 5 ?_
      refine zfA 6 ?_
      refine zfA 7 ?_
      refine zfA 8 ?_
      refine zfA 9 ?_
      refine zfA 10 ?_
      refine zzO 11 (fun K hK=>?_)
      go_simp
      refine hK.out _ _ (fun _=>hC) ?_
      clear hK
      try simp only [rgPut]
      refine zzO 12 (fun K hK=>?_)
      go_simp
      refine hK.out _ _ (fun _=>hC) ?_
      clear hK
      try simp only [rgPut]
      refine zzO 13 (fun K hK=>?_)
      go_simp
      refine hK.out _ _ (fun _=>hC) ?_
      clear hK
      try simp only [rgPut]
      have c7:=hC.out
      refine zzO 14 (fun K hK=>?_)
      go_simp
      refine hK.out _ _ (fun h=>absurd h (by decide)) ?_
      clear hK
      try simp only [rgPut]
      refine OrdF.done (by kernel_rfl) ?_ _
      clear hor hC hwp c7 z7 hHeld
      go_wp2
      go_meet
      exact ⟨rfl,HN⟩
     case rest=>
      obtain ⟨rfl,hcut⟩:=hcut
      go_upto_region 7 with fail
      go_cut [] from 66 to 81 (fun wx=>Hid (DtI w bf bx s (dtU s u 22) fi la n ev sq wx))
      case first=>
       have HI:=hcut
       clear hcut
       obtain ⟨hf,hx,he⟩:=HI.out
       have c0:=hf.c (14+k5) (by omega)
       rw [ydu (by omega)] at c0
       have x0:=hx.c 6 (by omega)
       have x5:=hx.c 5 (by omega)
       rw [H5.out] at x5
       have hor:bits .or .u64 (u (14+k5):Int) ((ofM [s 6]:Nat):Int)= ((u (14+k5) ||| ofM [s 6]:Nat):Int):=yaI (Hu.out (14+k5) (by omega)) (yao _)
       have HN:Hid (∀W2,Below wc.heap.size wc W2→DtI w bf bx s (dtU s u 22) fi la n ev sq (W2.setCell ⟨bf,14+k5,none⟩ (.int .u64 ((u (14+k5) ||| ofM [s 6]:Nat):Int)))):=fun W2 hB=>HI.out.step Hne.out hB (k:=14+k5) (by omega) _ (fun i=>(ydt (k:=14) (n:=8) (j:=k5) hk5c (fun i h1 h2 h3=>yi3 H5.out (by omega) (by omega) (by omega) (by omega) (by omega) (by omega)) i).trans (by rw [(dyU_w H5.out hk5c).1]))
       have hlf:=hf.lt
       have hlx:=hx.lt
       have hz:Hid (∀W2,Below wc.heap.size wc W2→W2.frozen? ⟨bf,14+k5,none⟩=false):=fun W2 hB=>(hB.frozen (p:=⟨bf,14+k5,none⟩) hlf).trans (hf.z (14+k5))
       obtain ⟨U0,hU0⟩:∃x,u (14+k5)=x:=⟨_,rfl⟩
       obtain ⟨V0,hV0⟩:∃x,ofM [s 6]=x:=⟨_,rfl⟩
       have cM1:=hid (cM.out (s 6) wc)
       rw [hV0] at hor HN cM1
       rw [hU0] at c0 hor HN
       obtain ⟨x,hx0⟩:∃x,s 6=x:=⟨_,rfl⟩
       rw [hx0] at x0 cM1
       have hC:Hid (∀W2,Below wc.heap.size wc W2→W2.cell? ⟨bf,14+k5,none⟩=some (.int .u64 (U0:Nat))∧W2.cell? ⟨bx,6,none⟩=some (.int .i64 x)∧W2.cell? ⟨bx,5,none⟩=some (.int .i64 k5)):=fun W2 hB=>⟨(hB.cell (p:=⟨bf,14+k5,none⟩) hlf).trans c0,(hB.cell (p:=⟨bx,6,none⟩) hlx).trans x0,(hB.cell (p:=⟨bx,5,none⟩) hlx).trans x5⟩
       have hbn:Hid (Below wc.heap.size wc (wc.alloc (.cells #[.int .i64 x] 3)).drew):=(yaa (Below.refl _ _) (zG _)).drew
       have HOR:=hid hor
       clear hf hx he hU0 hV0 hx0 c0 x0 x5
       refine regF [15] (S:=fun W=>Hid (W.cell? ⟨bf,14+k5,none⟩=some (.int .u64 (U0:Nat))∧W.cell? ⟨bx,6,none⟩=some (.int .i64 x)∧W.cell? ⟨bx,5,none⟩=some (.int .i64 k5))) (by kernel_rfl) (hC.out _ (Below.refl _ _).drew) (fun hHeld=>?_)
       refine zfA 0 ?_
       refine zfA 1 ?_
       refine zfA 2 ?_
       refine zfA 3 ?_
       refine zfA 4 ?_
       refine zfA 5 ?_
       refine zfA 6 ?_
       refine zfA 7 ?_
       refine zfA 8 ?_
       refine zfA 12 (U:= [12,13,14,15]) ?_
       refine zfA 13 (U:= [13,14,15]) ?_
       refine zzO 9 (fun K hK=>?_)
       go_simp
       refine hK.out _ _ (fun _=>hC.out _ hbn.out) ?_
       clear hK
       try simp only [rgPut]
       refine zzO 10 (fun K hK=>?_)
       go_simp
       refine cM1.out.mono ?_
       rintro e w7 ⟨rfl,hB7⟩
       refine hK.out _ _ (fun _=>hC.out _ hB7) ?_
       clear hK
       have HB7:=hid hB7
       clear hB7 cM1 hbn
       try simp only [rgPut]
       have hS7:=hid (hC.out _ HB7.out)
       refine rgT 11 (v:=?_) ?_ ?_
       rotate_left
       ·intro w hSw; have hor:=HOR.out; clear hSw; go_simp; (try with_reducible rfl)
       try simp only [rgPut]
       refine zzO 14 (fun K hK=>?_)
       go_simp
       refine hK.out _ _ (fun _=>hS7) ?_
       clear hK
       try simp only [rgPut]
       have c7:=hS7.out.1
       have z7:=hz.out _ HB7.out
       clear hor hC hz hS7
       refine zzO 15 (fun K hK=>?_)
       go_simp
       refine hK.out _ _ (fun h=>absurd h (by decide)) ?_
       clear hK
       try simp only [rgPut]
       refine OrdF.done (by kernel_rfl) ?_ _
       go_wp2
       go_meet
       exact hid (HN.out _ HB7.out)
      case rest=>
       go_upto_region 8 with fail
       go_cut [] from 81 to 96 (fun wx=>Hid (DtI w bf bx s (dtU s u 30) fi la n ev sq wx))
       case first=>
        have HI:=hcut
        clear hcut
        obtain ⟨hf,hx,he⟩:=HI.out
        have c0:=hf.c (22+k5) (by omega)
        rw [ydu (by omega)] at c0
        have x0:=hx.c 7 (by omega)
        have x5:=hx.c 5 (by omega)
        rw [H5.out] at x5
        have hor:bits .or .u64 (u (22+k5):Int) ((ofM [s 7]:Nat):Int)= ((u (22+k5) ||| ofM [s 7]:Nat):Int):=yaI (Hu.out (22+k5) (by omega)) (yao _)
        have HN:Hid (∀W2,Below wc.heap.size wc W2→DtI w bf bx s (dtU s u 30) fi la n ev sq (W2.setCell ⟨bf,22+k5,none⟩ (.int .u64 ((u (22+k5) ||| ofM [s 7]:Nat):Int)))):=fun W2 hB=>HI.out.step Hne.out hB (k:=22+k5) (by omega) _ (fun i=>(ydt (k:=22) (n:=8) (j:=k5) hk5c (fun i h1 h2 h3=>yi3 H5.out (by omega) (by omega) (by omega) (by omega) (by omega) (by omega)) i).trans (by rw [(dyU_w H5.out hk5c).2.1]))
        have hlf:=hf.lt
        have hlx:=hx.lt
        have hz:Hid (∀W2,Below wc.heap.size wc W2→W2.frozen? ⟨bf,22+k5,none⟩=false):=fun W2 hB=>(hB.frozen (p:=⟨bf,22+k5,none⟩) hlf).trans (hf.z (22+k5))
        obtain ⟨U0,hU0⟩:∃x,u (22+k5)=x:=⟨_,rfl⟩
        obtain ⟨V0,hV0⟩:∃x,ofM [s 7]=x:=⟨_,rfl⟩
        have cM1:=hid (cM.out (s 7) wc)
        rw [hV0] at hor HN cM1
        rw [hU0] at c0 hor HN
        obtain ⟨x,hx0⟩:∃x,s 7=x:=⟨_,rfl⟩
        rw [hx0] at x0 cM1
        have hC:Hid (∀W2,Below wc.heap.size wc W2→W2.cell? ⟨bf,22+k5,none⟩=some (.int .u64 (U0:Nat))∧W2.cell? ⟨bx,7,none⟩=some (.int .i64 x)∧W2.cell? ⟨bx,5,none⟩=some (.int .i64 k5)):=fun W2 hB=>⟨(hB.cell (p:=⟨bf,22+k5,none⟩) hlf).trans c0,(hB.cell (p:=⟨bx,7,none⟩) hlx).trans x0,(hB.cell (p:=⟨bx,5,none⟩) hlx).trans x5⟩
        have hbn:Hid (Below wc.heap.size wc (wc.alloc (.cells #[.int .i64 x] 3)).drew):=(yaa (Below.refl _ _) (zG _)).drew
        have HOR:=hid hor
        clear hf hx he hU0 hV0 hx0 c0 x0 x5
        refine regF [15] (S:=fun W=>Hid (W.cell? ⟨bf,22+k5,none⟩=some (.int .u64 (U0:Nat))∧W.cell? ⟨bx,7,none⟩=some (.int .i64 x)∧W.cell? ⟨bx,5,none⟩=some (.int .i64 k5))) (by kernel_rfl) (hC.out _ (Below.refl _ _).drew) (fun hHeld=>?_)
        refine zfA 0 ?_
        refine zfA 1 ?_
        refine zfA 2 ?_
        refine zfA 3 ?_
        refine zfA 4 ?_
        refine zfA 5 ?_
        refine zfA 6 ?_
        refine zfA 7 ?_
        refine zfA 8 ?_
        refine zfA 12 (U:= [12,13,14,15]) ?_
        refine zfA 13 (U:= [13,14,15]) ?_
        refine zzO 9 (fun K hK=>?_)
        go_simp
        refine hK.out _ _ (fun _=>hC.out _ hbn.out) ?_
        clear hK
        try simp only [rgPut]
        refine zzO 10 (fun K hK=>?_)
        go_simp
        refine cM1.out.mono ?_
        rintro e w7 ⟨rfl,hB7⟩
        refine hK.out _ _ (fun _=>hC.out _ hB7) ?_
        clear hK
        have HB7:=hid hB7
        clear hB7 cM1 hbn
        try simp only [rgPut]
        have hS7:=hid (hC.out _ HB7.out)
        refine rgT 11 (v:=?_) ?_ ?_
        rotate_left
        ·intro w hSw; have hor:=HOR.out; clear hSw; go_simp; (try with_reducible rfl)
        try simp only [rgPut]
        refine zzO 14 (fun K hK=>?_)
        go_simp
        refine hK.out _ _ (fun _=>hS7) ?_
        clear hK
        try simp only [rgPut]
        have c7:=hS7.out.1
        have z7:=hz.out _ HB7.out
        clear hor hC hz hS7
        refine zzO 15 (fun K hK=>?_)
        go_simp
        refine hK.out _ _ (fun h=>absurd h (by decide)) ?_
        clear hK
        try simp only [rgPut]
        refine OrdF.done (by kernel_rfl) ?_ _
        go_wp2
        go_meet
        exact hid (HN.out _ HB7.out)
       case rest=>
        go_upto_region 9 with fail
        go_cut [] from 96 to 111 (fun wx=>Hid (DtI w bf bx s (dtU s u 38) fi la n ev sq wx))
        case first=>
         have HI:=hcut
         clear hcut
         obtain ⟨hf,hx,he⟩:=HI.out
         have c0:=hf.c (30+k5) (by omega)
         rw [ydu (by omega)] at c0
         have x0:=hx.c 8 (by omega)
         have x5:=hx.c 5 (by omega)
         rw [H5.out] at x5
         have hor:bits .or .u64 (u (30+k5):Int) ((ofM [s 8]:Nat):Int)= ((u (30+k5) ||| ofM [s 8]:Nat):Int):=yaI (Hu.out (30+k5) (by omega)) (yao _)
         have HN:Hid (∀W2,Below wc.heap.size wc W2→DtI w bf bx s (dtU s u 38) fi la n ev sq (W2.setCell ⟨bf,30+k5,none⟩ (.int .u64 ((u (30+k5) ||| ofM [s 8]:Nat):Int)))):=fun W2 hB=>HI.out.step Hne.out hB (k:=30+k5) (by omega) _ (fun i=>(ydt (k:=30) (n:=8) (j:=k5) hk5c (fun i h1 h2 h3=>yi3 H5.out (by omega) (by omega) (by omega) (by omega) (by omega) (by omega)) i).trans (by rw [(dyU_w H5.out hk5c).2.2.1]))
         have hlf:=hf.lt
         have hlx:=hx.lt
         have hz:Hid (∀W2,Below wc.heap.size wc W2→W2.frozen? ⟨bf,30+k5,none⟩=false):=fun W2 hB=>(hB.frozen (p:=⟨bf,30+k5,none⟩) hlf).trans (hf.z (30+k5))
         obtain ⟨U0,hU0⟩:∃x,u (30+k5)=x:=⟨_,rfl⟩
         obtain ⟨V0,hV0⟩:∃x,ofM [s 8]=x:=⟨_,rfl⟩
         have cM1:=hid (cM.out (s 8) wc)
         rw [hV0] at hor HN cM1
         rw [hU0] at c0 hor HN
         obtain ⟨x,hx0⟩:∃x,s 8=x:=⟨_,rfl⟩
         rw [hx0] at x0 cM1
         have hC:Hid (∀W2,Below wc.heap.size wc W2→W2.cell? ⟨bf,30+k5,none⟩=some (.int .u64 (U0:Nat))∧W2.cell? ⟨bx,8,none⟩=some (.int .i64 x)∧W2.cell? ⟨bx,5,none⟩=some (.int .i64 k5)):=fun W2 hB=>⟨(hB.cell (p:=⟨bf,30+k5,none⟩) hlf).trans c0,(hB.cell (p:=⟨bx,8,none⟩) hlx).trans x0,(hB.cell (p:=⟨bx,5,none⟩) hlx).trans x5⟩
         have hbn:Hid (Below wc.heap.size wc (wc.alloc (.cells #[.int .i64 x] 3)).drew):=(yaa (Below.refl _ _) (zG _)).drew
         have HOR:=hid hor
         clear hf hx he hU0 hV0 hx0 c0 x0 x5
         refine regF [15] (S:=fun W=>Hid (W.cell? ⟨bf,30+k5,none⟩=some (.int .u64 (U0:Nat))∧W.cell? ⟨bx,8,none⟩=some (.int .i64 x)∧W.cell? ⟨bx,5,none⟩=some (.int .i64 k5))) (by kernel_rfl) (hC.out _ (Below.refl _ _).drew) (fun hHeld=>?_)
         refine zfA 0 ?_
         refine zfA 1 ?_
         refine zfA 2 ?_
         refine zfA 3 ?_
         refine zfA 4 ?_
         refine zfA 5 ?_
         refine zfA 6 ?_
         refine zfA 7 ?_
         refine zfA 8 ?_
         refine zfA 12 (U:= [12,13,14,15]) ?_
         refine zfA 13 (U:= [13,14,15]) ?_
         refine zzO 9 (fun K hK=>?_)
         go_simp
         refine hK.out _ _ (fun _=>hC.out _ hbn.out) ?_
         clear hK
         try simp only [rgPut]
         refine zzO 10 (fun K hK=>?_)
         go_simp
         refine cM1.out.mono ?_
         rintro e w7 ⟨rfl,hB7⟩
         refine hK.out _ _ (fun _=>hC.out _ hB7) ?_
         clear hK
         have HB7:=hid hB7
         clear hB7 cM1 hbn
         try simp only [rgPut]
         have hS7:=hid (hC.out _ HB7.out)
         refine rgT 11 (v:=?_) ?_ ?_
         rotate_left
         ·intro w hSw; have hor:=HOR.out; clear hSw; go_simp; (try with_reducible rfl)
         try simp only [rgPut]
         refine zzO 14 (fun K hK=>?_)
         go_simp
         refine hK.out _ _ (fun _=>hS7) ?_
         clear hK
         try simp only [rgPut]
         have c7:=hS7.out.1
         have z7:=hz.out _ HB7.out
         clear hor hC hz hS7
         refine zzO 15 (fun K hK=>?_)
         go_simp
         refine hK.out _ _ (fun h=>absurd h (by decide)) ?_
         clear hK
         try simp only [rgPut]
         refine OrdF.done (by kernel_rfl) ?_ _
         go_wp2
         go_meet
         exact hid (HN.out _ HB7.out)
        case rest=>
         go_upto_region 10 with fail
         go_cut [] from 111 to 126 (fun wx=>Hid (DtI w bf bx s (dtU s u 46) fi la n ev sq wx))
         case first=>
          have HI:=hcut
          clear hcut
          obtain ⟨hf,hx,he⟩:=HI.out
          have c0:=hf.c (38+k5) (by omega)
          rw [ydu (by omega)] at c0
          have x0:=hx.c 9 (by omega)
          have x5:=hx.c 5 (by omega)
          rw [H5.out] at x5
          have hor:bits .or .u64 (u (38+k5):Int) ((ofM [s 9]:Nat):Int)= ((u (38+k5) ||| ofM [s 9]:Nat):Int):=yaI (Hu.out (38+k5) (by omega)) (yao _)
          have HN:Hid (∀W2,Below wc.heap.size wc W2→DtI w bf bx s (dtU s u 46) fi la n ev sq (W2.setCell ⟨bf,38+k5,none⟩ (.int .u64 ((u (38+k5) ||| ofM [s 9]:Nat):Int)))):=fun W2 hB=>HI.out.step Hne.out hB (k:=38+k5) (by omega) _ (fun i=>(ydt (k:=38) (n:=8) (j:=k5) hk5c (fun i h1 h2 h3=>yi3 H5.out (by omega) (by omega) (by omega) (by omega) (by omega) (by omega)) i).trans (by rw [(dyU_w H5.out hk5c).2.2.2]))
          have hlf:=hf.lt
          have hlx:=hx.lt
          have hz:Hid (∀W2,Below wc.heap.size wc W2→W2.frozen? ⟨bf,38+k5,none⟩=false):=fun W2 hB=>(hB.frozen (p:=⟨bf,38+k5,none⟩) hlf).trans (hf.z (38+k5))
          obtain ⟨U0,hU0⟩:∃x,u (38+k5)=x:=⟨_,rfl⟩
          obtain ⟨V0,hV0⟩:∃x,ofM [s 9]=x:=⟨_,rfl⟩
          have cM1:=hid (cM.out (s 9) wc)
          rw [hV0] at hor HN cM1
          rw [hU0] at c0 hor HN
          obtain ⟨x,hx0⟩:∃x,s 9=x:=⟨_,rfl⟩
          rw [hx0] at x0 cM1
          have hC:Hid (∀W2,Below wc.heap.size wc W2→W2.cell? ⟨bf,38+k5,none⟩=some (.int .u64 (U0:Nat))∧W2.cell? ⟨bx,9,none⟩=some (.int .i64 x)∧W2.cell? ⟨bx,5,none⟩=some (.int .i64 k5)):=fun W2 hB=>⟨(hB.cell (p:=⟨bf,38+k5,none⟩) hlf).trans c0,(hB.cell (p:=⟨bx,9,none⟩) hlx).trans x0,(hB.cell (p:=⟨bx,5,none⟩) hlx).trans x5⟩
          have hbn:Hid (Below wc.heap.size wc (wc.alloc (.cells #[.int .i64 x] 3)).drew):=(yaa (Below.refl _ _) (zG _)).drew
          have HOR:=hid hor
          clear hf hx he hU0 hV0 hx0 c0 x0 x5
          refine regF [15] (S:=fun W=>Hid (W.cell? ⟨bf,38+k5,none⟩=some (.int .u64 (U0:Nat))∧W.cell? ⟨bx,9,none⟩=some (.int .i64 x)∧W.cell? ⟨bx,5,none⟩=some (.int .i64 k5))) (by kernel_rfl) (hC.out _ (Below.refl _ _).drew) (fun hHeld=>?_)
          refine zfA 0 ?_
          refine zfA 1 ?_
          refine zfA 2 ?_
          refine zfA 3 ?_
          refine zfA 4 ?_
          refine zfA 5 ?_
          refine zfA 6 ?_
          refine zfA 7 ?_
          refine zfA 8 ?_
          refine zfA 12 (U:= [12,13,14,15]) ?_
          refine zfA 13 (U:= [13,14,15]) ?_
          refine zzO 9 (fun K hK=>?_)
          go_simp
          refine hK.out _ _ (fun _=>hC.out _ hbn.out) ?_
          clear hK
          try simp only [rgPut]
          refine zzO 10 (fun K hK=>?_)
          go_simp
          refine cM1.out.mono ?_
          rintro e w7 ⟨rfl,hB7⟩
          refine hK.out _ _ (fun _=>hC.out _ hB7) ?_
          clear hK
          have HB7:=hid hB7
          clear hB7 cM1 hbn
          try simp only [rgPut]
          have hS7:=hid (hC.out _ HB7.out)
          refine rgT 11 (v:=?_) ?_ ?_
          rotate_left
          ·intro w hSw; have hor:=HOR.out; clear hSw; go_simp; (try with_reducible rfl)
          try simp only [rgPut]
          refine zzO 14 (fun K hK=>?_)
          go_simp
          refine hK.out _ _ (fun _=>hS7) ?_
          clear hK
          try simp only [rgPut]
          have c7:=hS7.out.1
          have z7:=hz.out _ HB7.out
          clear hor hC hz hS7
          refine zzO 15 (fun K hK=>?_)
          go_simp
          refine hK.out _ _ (fun h=>absurd h (by decide)) ?_
          clear hK
          try simp only [rgPut]
          refine OrdF.done (by kernel_rfl) ?_ _
          go_wp2
          go_meet
          exact hid (HN.out _ HB7.out)
         case rest=>
          obtain ⟨hf,hx,he⟩:=hcut.out
          have c48:=hf.c48
          have z48:=hf.z 48
          have hw1:IntKind.i64.wrap ((n:Int)+1)= (n:Int)+1:=IntWalk.i64_in _ (by omega)
          have HN:Hid (FcB bf (dyU s u) fi la ((n+1:Nat):Int) ev sq (wc.setCell ⟨bf,48,none⟩ (.int .i64 ((n:Int)+1)))):=by
           show FcB bf (dyU s u) fi la ((n+1:Nat):Int) ev sq _
           rw [show ((n+1:Nat):Int)= (n:Int)+1 from rfl]
           exact (hf.set48 ((n:Int)+1)).as (fun i hi=>by rw [dtU,if_pos hi])
          have HE:Hid (Eff (fun b=>b=bf) w (wc.setCell ⟨bf,48,none⟩ (.int .i64 ((n:Int)+1)))):=he.set rfl _ _
          clear hf hx he hcut
          go_wp2
          refine bodyPost_end (results_none rfl _ _ _) rfl ?_
          exact ⟨⟨_,rfl⟩,HN.out,HE.out⟩
end Go.Proofs.YtkpgfmonhfnhdaaGreatDoor
