/-
  cast.times: the hours, minutes and seconds of a disc.
  The law of a range over a function that has a state of its own, once more: the teller's blocks do not hold the loop's.
-/
import Derived.Test.YtkpgfmonhfnhdaaGreatDoorQfea719
import Derived.Test.YtkpgfmonhfnhdaaGreatDoorQ967547
import Derived.Test.YtkpgfmonhfnhdaaGreatDoorQf7cea8
set_option maxRecDepth 100000
set_option maxHeartbeats 25600000
namespace Go.Proofs.YtkpgfmonhfnhdaaGreatDoor
set_option linter.unusedVariables false
section
open Go.RowKit Go.Maps
attribute [local go_sem] Oper.semAt_some
structure TriC (b:Nat) (x y z:Nat) (O:Nat→Prop) (W:World):Prop where
 c0:W.cell? ⟨b,0,none⟩=some (.int .u64 x)
 c1:W.cell? ⟨b+1,0,none⟩=some (.int .u64 y)
 c2:W.cell? ⟨b+1+1,0,none⟩=some (.int .u64 z)
 f0:W.frozen? ⟨b,0,none⟩=false
 f1:W.frozen? ⟨b+1,0,none⟩=false
 f2:W.frozen? ⟨b+1+1,0,none⟩=false
 o0:O b
 o1:O (b+1)
 o2:O (b+1+1)
 lt:∀c,O c→c < W.heap.size
theorem TriC.keep {b:Nat} {x y z:Nat} {O:Nat→Prop} {W W':World} (h:TriC b x y z O W) (hs:W.heap.size≤W'.heap.size) (hb:∀c,O c→W'.heap[c]? =W.heap[c]?):TriC b x y z O W':=
 ⟨(zzJ (w:=W) (a:=⟨b,0,none⟩) (hb _ h.o0)).trans h.c0,(zzJ (w:=W) (a:=⟨b+1,0,none⟩) (hb _ h.o1)).trans h.c1,(zzJ (w:=W) (a:=⟨b+1+1,0,none⟩) (hb _ h.o2)).trans h.c2,
  (zzM (w:=W) (a:=⟨b,0,none⟩) (hb _ h.o0)).trans h.f0,(zzM (w:=W) (a:=⟨b+1,0,none⟩) (hb _ h.o1)).trans h.f1,(zzM (w:=W) (a:=⟨b+1+1,0,none⟩) (hb _ h.o2)).trans h.f2,h.o0,h.o1,h.o2,fun c hc=>zH (h.lt c hc) hs⟩
theorem TriC.set {b:Nat} {x y z x' y' z':Nat} {O:Nat→Prop} {W:World} (h:TriC b x y z O W):TriC b x' y' z' O (((W.setCell ⟨b,0,none⟩ (.int .u64 x')).setCell ⟨b+1,0,none⟩ (.int .u64 y')).setCell ⟨b+1+1,0,none⟩ (.int .u64 z')):=by
 obtain ⟨h1,h2,h3,h4,h5,h6,h7,h8,h9,h10⟩:=h
 refine ⟨?_,?_,?_,?_,?_,?_,h7,h8,h9,fun c hc=>by simpa using h10 c hc⟩ <;> simp [go_sem,h1,h2,h3,h4,h5,h6]
theorem TriC.set0 {b:Nat} {x y z:Nat} (x':Nat) {O:Nat→Prop} {W:World} (h:TriC b x y z O W):TriC b x' y z O (W.setCell ⟨b,0,none⟩ (.int .u64 x')):=by
 obtain ⟨h1,h2,h3,h4,h5,h6,h7,h8,h9,h10⟩:=h
 refine ⟨?_,?_,?_,?_,?_,?_,h7,h8,h9,fun c hc=>by simpa using h10 c hc⟩ <;> simp [go_sem,h1,h2,h3,h4,h5,h6]
theorem TriC.set1 {b:Nat} {x y z:Nat} (x':Nat) {O:Nat→Prop} {W:World} (h:TriC b x y z O W):TriC b x x' z O (W.setCell ⟨b+1,0,none⟩ (.int .u64 x')):=by
 obtain ⟨h1,h2,h3,h4,h5,h6,h7,h8,h9,h10⟩:=h
 refine ⟨?_,?_,?_,?_,?_,?_,h7,h8,h9,fun c hc=>by simpa using h10 c hc⟩ <;> simp [go_sem,h1,h2,h3,h4,h5,h6]
theorem TriC.set2 {b:Nat} {x y z:Nat} (x':Nat) {O:Nat→Prop} {W:World} (h:TriC b x y z O W):TriC b x y x' O (W.setCell ⟨b+1+1,0,none⟩ (.int .u64 x')):=by
 obtain ⟨h1,h2,h3,h4,h5,h6,h7,h8,h9,h10⟩:=h
 refine ⟨?_,?_,?_,?_,?_,?_,h7,h8,h9,fun c hc=>by simpa using h10 c hc⟩ <;> simp [go_sem,h1,h2,h3,h4,h5,h6]
theorem TriC.drew {b:Nat} {x y z:Nat} {O:Nat→Prop} {W:World} (h:TriC b x y z O W):TriC b x y z O W.drew:=h.keep (zG _) (fun _ _=>rfl)
def TmI (b:Nat) (X:List Int):OwnP:=fun k O W=>TriC b (ofM (hrL (X.take k))) (ofM (mnL (X.take k))) (ofM (scL (X.take k))) O W
theorem yis (b:Nat) (X:List Int):ybd (TmI b X):=fun k O W W' h hs hO=>h.keep hs hO
theorem yfI (d:Nat) (q:Nat→Bool) (w:World) (hT:Tab w) (h:DiscAt w d q) :
  Calls Tryz.prog 57 #[.pointer (some ⟨d,0,none⟩)] w fun e w'=>e= .returned (.tuple #[.int .u64 (ofM (hrL (secL q))), .int .u64 (ofM (mnL (secL q))), .int .u64 (ofM (scL (secL q)))])∧Below w.heap.size w w':=by
 obtain ⟨W1,hW1⟩:∃W1,((w.alloc (.cells #[.int .u64 0] 24)).alloc (.cells #[.int .u64 0] 24)).alloc (.cells #[.int .u64 0] 24)=W1:=⟨_,rfl⟩
 have hB1:Below w.heap.size w W1:=by rw [←hW1]; exact yaa (yaa (yaa (Below.refl _ _) (zG _)) (by simp)) (by simp only [zzN]; omega)
 have s1:W1.heap.size=w.heap.size+3:=by rw [←hW1]; simp
 have hC1:TriC w.heap.size 0 0 0 (fun b=>b=w.heap.size∨b=w.heap.size+1∨b=w.heap.size+1+1) W1:=by
  refine ⟨?_,?_,?_,?_,?_,?_, .inl rfl, .inr (.inl rfl), .inr (.inr rfl),fun c hc=>by omega⟩ <;> (rw [←hW1]; simp [go_sem])
 have cA:=hid (yku (some d) q W1 (h.below hB1 h.lt))
 have HT:=hid hT
 have HB1:=hid hB1
 have HW1:=hid hW1
 have S1:=hid s1
 have HC1:=hid hC1
 have hlen:=secL_len q
 have hmem:Hid (∀x∈secL q,0≤x∧x < 86400):=yf1 q
 obtain ⟨X,hX⟩:∃X,secL q=X:=⟨_,rfl⟩
 rw [hX] at hlen hmem cA
 rw [hX]
 clear hW1 hB1 s1 hC1 hT h hX
 refine (wf_calls (r:=none) (n:=1)).mp ?_
 refine callsIn_of_wp_marks Tryz.func57 rfl trivial ?_ rfl
 simp only [Tryz.ntmps57,List.size_toArray,List.length_cons,List.length_nil,Nat.reduceAdd,Nat.reduceSub,Array.replicate_succ,Array.replicate_zero,List.push_toArray,List.append_toArray,List.nil_append,List.cons_append]
 gi_wp2_with fail
 rw [HW1.out]
 refine (wf_calls.mpr cA.out).mono ?_
 rintro e w2 ⟨rfl,ht,hB2,hl2⟩
 obtain ⟨t,t1,t2,t3⟩:=ht.out
 have hB02:Below w.heap.size w w2:=HB1.out.trans (hB2.mono HB1.out.size)
 have hC2:TriC w.heap.size 0 0 0 (fun b=>b=w.heap.size∨b=w.heap.size+1∨b=w.heap.size+1+1) w2:=HC1.out.keep hB2.size (fun c hc=>hB2.block c (HC1.out.lt c hc))
 have tl:yhn Tryz.prog 148 #[.pointer (some ⟨W1.heap.size,0,none⟩)] X (fun b=>b=w.heap.size∨b=w.heap.size+1∨b=w.heap.size+1+1) w2:=by
  intro y J Jx O W hO hB hC hJ
  rw [←t3] at hC⊢
  have hnO:¬O W1.heap.size:=fun h=>by
   rcases hO _ h with h | h
   ·have:=S1.out; omega
   ·omega
  exact yhu t W1.heap.size y J Jx O W t2 hC hJ (zH hl2 hB.size) hnO (t1.below hB hl2) (HT.out.later (hB02.trans (hB.mono hB02.size))) (fun h=>by
   have h0:=HT.out.1
   rcases hO _ h with h | h
   ·omega
   ·have:=hB02.size; omega)
 have TL:=hid tl
 have HB02:=hid hB02
 have HC2:=hid hC2
 have S2:Hid (w.heap.size+3≤w2.heap.size):=by have:=hB2.size; have:=S1.out; show _≤_; omega
 clear tl hB02 hC2 ht t1 t3 hB2 cA
 gi_wp2_with fail
 refine yaZ (gf:=148) (lb:=#[.pointer (some ⟨W1.heap.size,0,none⟩)]) rfl yh0 X (fun b=>b=w.heap.size∨b=w.heap.size+1∨b=w.heap.size+1+1) rfl TL.out
  (TmI w.heap.size X) (fun _ _ _ _=>False) (yis _ _) (fun _ _ _ _ _ h _ _=>h.elim) (fun k O W h=>h.lt) (fun _ _ _ _ h=>h.elim) HC2.out
  (fun k O a' W=>TmI w.heap.size X k O W∧∀hk:k < X.length,a' = {tmps:=#[.pointer (some ⟨d,0,none⟩),undef, .pointer (some ⟨w.heap.size,0,none⟩), .pointer (some ⟨w.heap.size+1,0,none⟩), .pointer (some ⟨w.heap.size+1+1,0,none⟩), .int .i64 X[k],undef,undef,undef,undef, .pointer (some ⟨d,0,none⟩), .func (.func 148) #[] #[.pointer (some ⟨W1.heap.size,0,none⟩)], .int .i64 X[k],undef,undef,undef,undef,undef,undef,undef,undef,undef,undef,undef,undef,undef,undef,undef,undef,undef,undef,undef,undef,undef,undef],defers:= []})
  (fun l o k O a' W hr hn h=>⟨ybg (yis _ _) h.1 hn o,h.2⟩) ?assign ?body ?done ?stop
 case assign=>
  intro l k O W K hk hI hG hK
  gi_wp2
  exact hK _ O W (Grow.refl _ _) ⟨hI,fun _=>rfl⟩
 case stop=>
  rintro c k O' W' h1 h2 hG h
  exact h.elim
 case body=>
  rintro l k O a' W hk hG hl hrec hnl ⟨hI,ha⟩
  rw [ha hk]
  have hx:=hmem.out _ (zzr hk)
  have hsn:=tm_snoc hk hx.1 hx.2
  obtain ⟨x,hxe⟩:∃x,X[k]=x:=⟨_,rfl⟩
  rw [hxe] at hx hsn
  rw [hxe]
  obtain ⟨x0,x1⟩:=hx
  have cP:=hid (ydE x W x0 x1)
  obtain ⟨h,hh⟩:∃n:Nat,x / 3600=n:=⟨(x / 3600).toNat,by omega⟩
  obtain ⟨m,hm⟩:∃n:Nat,x / 60 % 60=n:=⟨(x / 60 % 60).toNat,by omega⟩
  obtain ⟨z,hz⟩:∃n:Nat,x % 60=n:=⟨(x % 60).toNat,by omega⟩
  rw [hh,hm,hz] at cP
  rw [hh,hm,hz,Int.toNat_natCast,Int.toNat_natCast,Int.toNat_natCast] at hsn
  have h64:h < 64:=by omega
  have m64:m < 64:=by omega
  have z64:z < 64:=by omega
  have Hlt:Hid (ofM (hrL (X.take k)) < 18446744073709551616∧ofM (mnL (X.take k)) < 18446744073709551616∧ofM (scL (X.take k)) < 18446744073709551616):=⟨yao _,yao _,yao _⟩
  change TriC w.heap.size (ofM (hrL (X.take k))) (ofM (mnL (X.take k))) (ofM (scL (X.take k))) O W at hI
  obtain ⟨A,hA⟩:∃a,ofM (hrL (X.take k))=a:=⟨_,rfl⟩
  obtain ⟨B,hB⟩:∃a,ofM (mnL (X.take k))=a:=⟨_,rfl⟩
  obtain ⟨C,hC⟩:∃a,ofM (scL (X.take k))=a:=⟨_,rfl⟩
  rw [hA,hB,hC] at hsn hI Hlt
  have HI:=hid hI
  have EI:Hid (Eff O W W):=Eff.refl _ _
  have HS:=hid hsn
  have Hrec:=hid hrec
  have Hnl:=hid hnl
  clear hxe ha hA hB hC hI hsn hG hrec hnl hl hk hh hm hz x0 x1
  gi_wp2_with fail
  refine (wf_calls.mpr cP.out).mono ?_
  rintro e w4 ⟨rfl,rfl⟩
  clear cP
  have c0:=HI.out.drew.c0
  have z0:=HI.out.drew.f0
  have hor:bits .or .u64 (A:Int) ((2:Int) ^ h)= ((A ||| 2 ^ h:Nat):Int):=by have h:=yaI (a:=A) Hlt.out.1 (ybS h64); rw [Int.natCast_pow] at h; exact h
  have hwp:=ybt h64
  have h0i:¬(h:Int) < 0:=by omega
  have h64i:(h:Int) < 64:=by omega
  have HN:=hid (HI.out.drew.set0 (A ||| 2 ^ h))
  have HE:Hid (Eff O W (W.drew.setCell ⟨w.heap.size,0,none⟩ (.int .u64 ((A ||| 2 ^ h:Nat):Int)))):=EI.out.drew.set HN.out.o0 _ _
  gi_upto_region 4 with fail
  refine regFW [4] (S:=fun W=>W.cell? ⟨w.heap.size,0,none⟩=some (.int .u64 (A:Nat))) (by kernel_rfl) (by kernel_rfl) (by rintro ⟨_,_,h⟩; exact h) c0 (fun hHeld=>?_)
  refine zfA 0 ?_
  refine zfE 1 ?_
  refine zfE 2 ?_
  refine zfE 3 ?_
  refine zzO 4 (fun K hK=>?_)
  go_simp
  refine hK.out _ _ (fun h=>absurd h (by decide)) ?_
  clear hK
  try simp only [rgPut]
  refine OrdF.done (by kernel_rfl) ?_ _
  obtain ⟨W5,hW⟩:∃V:World,(W.setCell ⟨w.heap.size,0,none⟩ (.int .u64 ((A ||| 2 ^ h:Nat):Int))).drew=V:=⟨_,rfl⟩
  have HW5:Hid (TriC w.heap.size (A ||| 2 ^ h) B C O W5):=by show TriC _ _ _ _ _ _; rw [←hW]; exact HN.out
  have EW5:Hid (Eff O W W5):=by show Eff _ _ _; rw [←hW]; exact HE.out
  (try rw [hW])
  clear c0 z0 hor hwp h0i h64i HN HE hHeld hW
  have c0:=HW5.out.drew.c1
  have z0:=HW5.out.drew.f1
  have hor:bits .or .u64 (B:Int) ((2:Int) ^ m)= ((B ||| 2 ^ m:Nat):Int):=by have h:=yaI (a:=B) Hlt.out.2.1 (ybS m64); rw [Int.natCast_pow] at h; exact h
  have hwp:=ybt m64
  have h0i:¬(m:Int) < 0:=by omega
  have h64i:(m:Int) < 64:=by omega
  have HN:=hid (HW5.out.drew.set1 (B ||| 2 ^ m))
  have HE:Hid (Eff O W (W5.drew.setCell ⟨w.heap.size+1,0,none⟩ (.int .u64 ((B ||| 2 ^ m:Nat):Int)))):=EW5.out.drew.set HN.out.o1 _ _
  gi_upto_region 5 with fail
  refine regFW [4] (S:=fun W=>W.cell? ⟨w.heap.size+1,0,none⟩=some (.int .u64 (B:Nat))) (by kernel_rfl) (by kernel_rfl) (by rintro ⟨_,_,h⟩; exact h) c0 (fun hHeld=>?_)
  refine zfA 0 ?_
  refine zfE 1 ?_
  refine zfE 2 ?_
  refine zfE 3 ?_
  refine zzO 4 (fun K hK=>?_)
  go_simp
  refine hK.out _ _ (fun h=>absurd h (by decide)) ?_
  clear hK
  try simp only [rgPut]
  refine OrdF.done (by kernel_rfl) ?_ _
  obtain ⟨W6,hW⟩:∃V:World,(W5.setCell ⟨w.heap.size+1,0,none⟩ (.int .u64 ((B ||| 2 ^ m:Nat):Int))).drew=V:=⟨_,rfl⟩
  have HW6:Hid (TriC w.heap.size (A ||| 2 ^ h) (B ||| 2 ^ m) C O W6):=by show TriC _ _ _ _ _ _; rw [←hW]; exact HN.out
  have EW6:Hid (Eff O W W6):=by show Eff _ _ _; rw [←hW]; exact HE.out
  (try rw [hW])
  clear c0 z0 hor hwp h0i h64i HN HE hHeld hW
  have c0:=HW6.out.drew.c2
  have z0:=HW6.out.drew.f2
  have hor:bits .or .u64 (C:Int) ((2:Int) ^ z)= ((C ||| 2 ^ z:Nat):Int):=by have h:=yaI (a:=C) Hlt.out.2.2 (ybS z64); rw [Int.natCast_pow] at h; exact h
  have hwp:=ybt z64
  have h0i:¬(z:Int) < 0:=by omega
  have h64i:(z:Int) < 64:=by omega
  have HN:=hid (HW6.out.drew.set2 (C ||| 2 ^ z))
  have HE:Hid (Eff O W (W6.drew.setCell ⟨w.heap.size+1+1,0,none⟩ (.int .u64 ((C ||| 2 ^ z:Nat):Int)))):=EW6.out.drew.set HN.out.o2 _ _
  gi_upto_region 6 with fail
  refine regFW [4] (S:=fun W=>W.cell? ⟨w.heap.size+1+1,0,none⟩=some (.int .u64 (C:Nat))) (by kernel_rfl) (by kernel_rfl) (by rintro ⟨_,_,h⟩; exact h) c0 (fun hHeld=>?_)
  refine zfA 0 ?_
  refine zfE 1 ?_
  refine zfE 2 ?_
  refine zfE 3 ?_
  refine zzO 4 (fun K hK=>?_)
  go_simp
  refine hK.out _ _ (fun h=>absurd h (by decide)) ?_
  clear hK
  try simp only [rgPut]
  refine OrdF.done (by kernel_rfl) ?_ _
  obtain ⟨W7,hW⟩:∃V:World,(W6.setCell ⟨w.heap.size+1+1,0,none⟩ (.int .u64 ((C ||| 2 ^ z:Nat):Int))).drew=V:=⟨_,rfl⟩
  have HW7:Hid (TriC w.heap.size (A ||| 2 ^ h) (B ||| 2 ^ m) (C ||| 2 ^ z) O W7):=by show TriC _ _ _ _ _ _; rw [←hW]; exact HN.out
  have EW7:Hid (Eff O W W7):=by show Eff _ _ _; rw [←hW]; exact HE.out
  (try rw [hW])
  clear c0 z0 hor hwp h0i h64i HN HE hHeld hW
  gi_wp2
  exact ⟨O,⟨fun _ h=>h,fun _ h=> .inl h,EW7.out⟩,by rw [TmI,HS.out.1,HS.out.2.1,HS.out.2.2]; exact HW7.out⟩
 case done=>
  rintro O' W' hG hI hD hnD
  rw [TmI,List.take_length] at hI
  obtain ⟨A,hA⟩:∃a,ofM (hrL X)=a:=⟨_,rfl⟩
  obtain ⟨B,hB⟩:∃a,ofM (mnL X)=a:=⟨_,rfl⟩
  obtain ⟨C,hC⟩:∃a,ofM (scL X)=a:=⟨_,rfl⟩
  rw [hA,hB,hC] at hI
  have HE:Hid (A=ofM (hrL X)∧B=ofM (mnL X)∧C=ofM (scL X)):=⟨hA.symm,hB.symm,hC.symm⟩
  have HI:Hid (TriC w.heap.size A B C O' W'.drew∧Eff O' W' W'.drew):=⟨hI.drew,Eff.of_below (Below.refl _ _).drew⟩
  have HB9:Hid (Below w.heap.size w W'):=HB02.out.trans (hG.eff.below (fun b hb=>by omega) HB02.out.size)
  have HO:Hid (∀b,O' b→w.heap.size≤b):=fun b hb=>by
   rcases hG.new b hb with h | h
   ·omega
   ·have:=S2.out; omega
  have HD:=hid hD
  have HnD:=hid hnD
  clear hA hB hC hI hG hD hnD
  gi_upto_region 7 with fail
  refine wf_wp.mpr (wp_region_noPanic ?_)
  refine regF [] (S:=fun W=>Hid (TriC w.heap.size A B C O' W∧Eff O' W' W)) (by kernel_rfl) HI (fun hHeld=>?_)
  refine rgT 0 (v:=?_) ?_ ?_
  rotate_left
  ·intro w hSw; obtain ⟨⟨f0,f1,f2,-⟩,-⟩:=hSw.out; clear hSw; go_simp; (try with_reducible rfl)
  try simp only [rgPut]
  refine rgT 1 (v:=?_) ?_ ?_
  rotate_left
  ·intro w hSw; obtain ⟨⟨f0,f1,f2,-⟩,-⟩:=hSw.out; clear hSw; go_simp; (try with_reducible rfl)
  try simp only [rgPut]
  refine rgT 2 (v:=?_) ?_ ?_
  rotate_left
  ·intro w hSw; obtain ⟨⟨f0,f1,f2,-⟩,-⟩:=hSw.out; clear hSw; go_simp; (try with_reducible rfl)
  try simp only [rgPut]
  have c0:=HI.out.1.c0
  have z0:=HI.out.1.f0
  have HN:Hid (TriC w.heap.size A B C O' (W'.drew.setCell ⟨w.heap.size,0,none⟩ (.int .u64 (A:Nat)))∧Eff O' W' (W'.drew.setCell ⟨w.heap.size,0,none⟩ (.int .u64 (A:Nat)))):=⟨HI.out.1.set0 A,HI.out.2.set HI.out.1.o0 _ _⟩
  refine zzO 3 (fun K hK=>?_)
  go_simp
  refine hK.out _ _ (fun _=>HN) ?_
  clear hK
  try simp only [rgPut]
  obtain ⟨V0,hW⟩:∃V:World,(W'.setCell ⟨w.heap.size,0,none⟩ (.int .u64 (A:Nat))).drew=V:=⟨_,rfl⟩
  replace HN:Hid (TriC w.heap.size A B C O' V0∧Eff O' W' V0):=by show _∧_; rw [←hW]; exact HN.out
  (try rw [hW])
  have HV0:=HN
  clear c0 z0 HN hW
  have c0:=HV0.out.1.c1
  have z0:=HV0.out.1.f1
  have HN:Hid (TriC w.heap.size A B C O' (V0.setCell ⟨w.heap.size+1,0,none⟩ (.int .u64 (B:Nat)))∧Eff O' W' (V0.setCell ⟨w.heap.size+1,0,none⟩ (.int .u64 (B:Nat)))):=⟨HV0.out.1.set1 B,HV0.out.2.set HV0.out.1.o1 _ _⟩
  refine zzO 4 (fun K hK=>?_)
  go_simp
  refine hK.out _ _ (fun _=>HN) ?_
  clear hK
  try simp only [rgPut]
  obtain ⟨V1,hW⟩:∃V:World,V0.setCell ⟨w.heap.size+1,0,none⟩ (.int .u64 (B:Nat))=V:=⟨_,rfl⟩
  rw [hW] at HN
  (try rw [hW])
  have HV1:=HN
  clear c0 z0 HN hW
  have c0:=HV1.out.1.c2
  have z0:=HV1.out.1.f2
  have HN:Hid (TriC w.heap.size A B C O' (V1.setCell ⟨w.heap.size+1+1,0,none⟩ (.int .u64 (C:Nat)))∧Eff O' W' (V1.setCell ⟨w.heap.size+1+1,0,none⟩ (.int .u64 (C:Nat)))):=⟨HV1.out.1.set2 C,HV1.out.2.set HV1.out.1.o2 _ _⟩
  refine zzO 5 (fun K hK=>?_)
  go_simp
  refine hK.out _ _ (fun _=>HN) ?_
  clear hK
  try simp only [rgPut]
  obtain ⟨V2,hW⟩:∃V:World,V1.setCell ⟨w.heap.size+1+1,0,none⟩ (.int .u64 (C:Nat))=V:=⟨_,rfl⟩
  rw [hW] at HN
  (try rw [hW])
  have HV2:=HN
  clear c0 z0 HN hW
  refine OrdF.done (by kernel_rfl) (NoPanic.normal ?_) _
  have HD9:Hid (V2.heap[w2.heap.size]? =some (.deferred (some []))):=by
   show _ = _
   rw [HV2.out.2.block _ (Array.getElem?_eq_some_iff.1 HD.out).1 HnD.out]
   exact HD.out
  have HX:Hid (TriC w.heap.size A B C O' (V2.putObj w2.heap.size (.deferred none))):=HV2.out.1.keep (by rw [World.putObj_size]; exact zG _) (fun b hb=>World.putObj_heap_other (fun e=>HnD.out (e ▸ hb)))
  have HBf:Hid (Below w.heap.size w (V2.putObj w2.heap.size (.deferred none))):=yaK (HB9.out.trans (HV2.out.2.below (fun b hb=>HO.out b hb) HB9.out.size)) HB02.out.size _
  clear hHeld
  gi_wp2
  refine ⟨by simp, .inl ⟨_,_,rfl,run_takeDeferred HD9.out,?_⟩⟩
  obtain ⟨c0,c1,c2,-⟩:=HX.out
  refine ⟨.tuple #[.int .u64 A, .int .u64 B, .int .u64 C],?_,by rw [HE.out.1,HE.out.2.1,HE.out.2.2],HBf.out⟩
  simp [results,Tryz.results57,go_sem,c0,c1,c2]
end
section
open Go.RowKit
theorem ybv {P:Program} {m:Nat} {g:Operand} {ps:Array Tmp} {assign body:Code} {Q:Exit→Act→World→Prop} {a:Act} {w:World} {gf:Nat} {lb:Array Value} {n:Nat} {V:Nat→Array Value→Blk→World→Prop} {H HN HS:Blk→World→Prop} {M F:Blk}
  (hg:a.eval g= .func (.func gf) #[] lb) (eg:∀args w,(callFunc gf args).run P w= .ok (.enter gf args) w) (Ow:Blk) (hps:∀k vs F W,V k vs F W→vs.size=ps.size) (hseq:yfD P gf lb n V H HN HS M) (hH:HostOk H M) (hN:HostOk HN M) (hS:HostOk HS M) (hF:H F w) (hFO:∀b,F b→¬Ow b)
  (I:OwnF) (Ix:Code→OwnF) (hI:StabF M I) (hIx:∀c,StabF M (Ix c)) (hIl:LtF I) (hIxl:∀c,LtF (Ix c)) (h0:I 0 Ow F w)
  (A:Nat→Blk→Blk→Act→World→Prop) (hA:∀l o k O F a' W,(∃r,W.heap[l]? =some (.loop r))→¬O l→¬F l→A k O F a' W→A k O F a' (W.putObj l o))
  (hassign:∀l k O F W vs (K:Act→World→Prop),k < n→I k O F W→(∀b,F b→¬O b∧b≠l)→V k vs F W→GrowM M Ow O w W→(∀a' O' W',Grow O O' W W'→A k O' F a' W'→K a' W')→
    assign.wpIn (WF (some l)) m P (Exit.then K (fun _ _ _=>False)) {tmps:=(ps.zip vs).foldl (fun t (p,v)=>t.setIfInBounds p v) a.tmps,defers:= []} W)
  (hbody:∀l k O F a' W,k < n→GrowM M Ow O w W→w.heap.size≤l→(∃r,W.heap[l]? =some (.loop r))→¬O l→¬F l→A k O F a' W→body.wpIn (WF (some l)) m P (yh9 (atF I F) (fun c=>atF (Ix c) F) k O W) a' W)
  (hdone:∀O' F' W',GrowM M Ow O' w W'→HN F' W'→(∀b,F b→F' b)→(∀b,F' b→F b∨w.heap.size≤b)→(∀b,F' b→¬O' b)→I n O' F' W'→W'.heap[w.heap.size]? =some (.deferred (some []))→¬O' w.heap.size→¬F' w.heap.size→Q .normal {a with defers:={target:= .collected w.heap.size,args:=#[]} :: a.defers} W')
  (hstop:∀c k O' F' W',1≤k→k≤n→GrowM M Ow O' w W'→HS F' W'→(∀b,F b→F' b)→(∀b,F' b→F b∨w.heap.size≤b)→(∀b,F' b→¬O' b)→Ix c k O' F' W'→W'.heap[w.heap.size]? =some (.deferred (some []))→¬O' w.heap.size→¬F' w.heap.size→
    c.wpIn (WF none) m P Q {a with defers:={target:= .collected w.heap.size,args:=#[]} :: a.defers} W') :
  (Code.rangeFunc g ps assign body).wpIn (WF none) m P Q a w:=by
 refine wpIn_rangeFunc ?_
 intro fn hfn
 obtain ⟨W1,hW1⟩:∃W1,(w.alloc (.deferred (some []))).alloc (.loop (yag fn a.tmps ps assign body w.heap.size .ready none))=W1:=⟨_,rfl⟩
 have hL1:W1.heap[w.heap.size+1]? =some (.loop (yag fn a.tmps ps assign body w.heap.size .ready none)):=by
  rw [←hW1]; have:=World.alloc_heap_new (w.alloc (.deferred (some []))) (.loop (yag fn a.tmps ps assign body w.heap.size .ready none)); rwa [zzN] at this
 have hB1:Below w.heap.size w W1:=by rw [←hW1]; exact ((Below.refl _ w).alloc (zG _) _).alloc (by simp) _
 have hK1:W1.heap[w.heap.size]? =some (.deferred (some [])):=by
  rw [←hW1]; exact (Below.heap_alloc _ _ _ (by simp)).trans (World.alloc_heap_new w _)
 have hlt:=hIl 0 Ow F w h0
 have hFlt:=hH.lt F w hF
 have hF1:H F W1:=hH.stab F w W1 hF hB1.size (fun b hb=>hB1.block b (hFlt b hb))
 have hMlt:∀b,M b→b < w.heap.size:=fun b hb=>hFlt b (hH.sub F w hF b hb)
 have hJ:RJF (yag fn a.tmps ps assign body w.heap.size .ready none) (w.heap.size+1) (some w.heap.size) I 0 (fun b=>Ow b∨b=w.heap.size+1∨some w.heap.size=some b) F W1:=
  ⟨Ow,fun b=>Iff.rfl,fun h=>by have:=hlt _ h; omega,fun d hd=>by cases hd; exact ⟨fun h=>by have:=hlt _ h; omega,by omega,hK1⟩,hI 0 Ow F F w W1 h0 hB1.size (fun _ h=>h) (fun b hb=>hB1.block b (hb.elim (hlt b) (fun h=>hFlt b h.1))),hL1⟩
 have hlc:=yai hL1
 have hC:=ygV (P:=P) (m:=m) (fn:=fn) (tmps:=a.tmps) (D:=w.heap.size) (l:=w.heap.size+1) (Dk:=some w.heap.size) (n:=n) (V:=V) (M:=M) hps hI hIx hIl hIxl A hA Ow (fun b=>Ow b∨b=w.heap.size+1∨some w.heap.size=some b) w W1 (by omega) (fun O O1 W hO hG=>⟨fun b hb=>by
   have hb2:=hlt b hb
   rcases (hO b).mp (hG.sub b (.inl hb)) with h | h | h
   ·exact h
   ·omega
   ·cases h; omega,fun b hb=>by
   rcases hG.new b ((hO b).mpr (.inl hb)) with (h | h | h) | h
   ·exact .inl h
   ·exact .inr (by omega)
   ·cases h; exact .inr (by omega)
   ·exact .inr (by have:=hB1.size; omega),(Eff.of_below (O:=fun b=>Ow b∨M b) hB1).trans hG.eff fun b hb=>by
   rcases hb with (h | h | h) | h
   ·exact .inl (.inl h)
   ·exact .inr (by omega)
   ·cases h; exact .inr (by omega)
   ·exact .inl (.inr h)⟩) (hassign (w.heap.size+1)) (fun k O F a' W hk hG=>hbody (w.heap.size+1) k O F a' W hk hG (by omega))
 have hcall:=hseq _ _ _ _ F W1 hF1 (fun b hb h=>by
  have:=hFlt b hb
  rcases h with h | h | h
  ·exact hFO b hb h
  ·omega
  ·cases h; omega) hC hJ
 refine ⟨w.heap.size+1,[{target:= .collected w.heap.size,args:=#[]}],W1,{target:= .fn (.func gf) lb,args:=#[.func (.yield (w.heap.size+1)) #[] #[]]},W1,gf,
  #[.func (.yield (w.heap.size+1)) #[] #[]] ++ lb,W1,?_,?_,fun _ _=>trivial,?_,(fun h=>nomatch h),?_⟩
 ·rw [←hW1]; exact run_enterLoop_outer _ _ _ _ _
 ·simp only [resolve,hg]; simp [go_sem]
 ·simp [invoke,go_sem,eg]
 ·refine wf_calls.mpr (hcall.mono ?_)
  have back:∀(X:OwnF) (H2:Blk→World→Prop) (k:Nat) (O' F':Nat→Prop) (W2:World) (st:LoopState) (pe:Option Code),StabF M X→HostOk H2 M→st≠ .busy→GrowM M (fun b=>Ow b∨b=w.heap.size+1∨some w.heap.size=some b) O' W1 W2→
    H2 F' W2→(∀b,F' b→¬O' b)→RJF (yag fn a.tmps ps assign body w.heap.size st pe) (w.heap.size+1) (some w.heap.size) X k O' F' W2→
    (Instr.endLoop (w.heap.size+1)).run P W2= .ok pe (W2.putObj (w.heap.size+1) (.loop (yag fn a.tmps ps assign body w.heap.size .exhausted pe)))∧∃O2,GrowM M Ow O2 w (W2.putObj (w.heap.size+1) (.loop (yag fn a.tmps ps assign body w.heap.size .exhausted pe)))∧
      H2 F' (W2.putObj (w.heap.size+1) (.loop (yag fn a.tmps ps assign body w.heap.size .exhausted pe)))∧(∀b,F' b→¬O2 b)∧X k O2 F' (W2.putObj (w.heap.size+1) (.loop (yag fn a.tmps ps assign body w.heap.size .exhausted pe)))∧
      (W2.putObj (w.heap.size+1) (.loop (yag fn a.tmps ps assign body w.heap.size .exhausted pe))).heap[w.heap.size]? =some (.deferred (some []))∧¬O2 w.heap.size:=by
   rintro X H2 k O' F' W2 st pe hX hH2 hst hGM hF2 hFO2 ⟨O1,hO,hnl,hD,hi,hl⟩
   have hr:=run_endLoop (P:=P) hl hst
   have hO1:∀b,O1 b→O' b:=fun b hb=>(hO b).mpr (.inl hb)
   have hOl:O' (w.heap.size+1):=(hO _).mpr (.inr (.inl rfl))
   refine ⟨hr,O1,⟨fun b hb=>?_,fun b hb=>?_,?_⟩,hH2.stab F' W2 _ hF2 (by rw [World.putObj_size]; exact zG _) (fun b hb=>World.putObj_heap_other (fun e=>hFO2 b hb (e ▸ hOl))),fun b hb h=>hFO2 b hb (hO1 b h),hX _ _ _ _ _ _ hi (by rw [World.putObj_size]; exact zG _) (fun _ h=>h) (fun b hb=>World.putObj_heap_other (fun e=>by
     rcases hb with hb | hb
     ·exact hnl (e ▸ hb)
     ·exact hFO2 b hb.1 (e ▸ hOl))),(World.putObj_heap_other (by omega)).trans (hD _ rfl).2.2,(hD _ rfl).1⟩
   ·have hb2:=hlt b hb
    rcases (hO b).mp (hGM.sub b (.inl hb)) with h | h | h
    ·exact h
    ·omega
    ·cases h; omega
   ·rcases hGM.new b ((hO b).mpr (.inl hb)) with (h | h | h) | h
    ·exact .inl h
    ·exact .inr (by omega)
    ·cases h; exact .inr (by omega)
    ·exact .inr (by have:=hB1.size; omega)
   ·refine Eff.putObj ((Eff.of_below (O:=fun b=>Ow b∨M b) hB1).trans hGM.eff fun b hb=>?_) (.inr (by omega)) _
    rcases hb with (h | h | h) | h
    ·exact .inl (.inl h)
    ·exact .inr (by omega)
    ·cases h; exact .inr (by omega)
    ·exact .inl (.inr h)
  rintro e W2 ⟨⟨v,rfl⟩,O',F',hGM,hFs,hFn,hFO2,hend⟩
  have hFn2:∀b,F' b→F b∨w.heap.size≤b:=fun b hb=>by
   rcases hFn b hb with h | h
   ·exact .inl h
   ·exact .inr (by have:=hB1.size; omega)
  have nFD:¬F' w.heap.size:=fun h=>hFO2 _ h (hGM.sub _ (.inr (.inr rfl)))
  rcases hend with ⟨hF2,hj⟩ | ⟨hF2,k,hk1,hk2,c,hj⟩
  ·obtain ⟨h1,O2,h2,h3,h4,h5,h6,h7⟩:=back I HN n O' F' W2 .ready none hI hN (by simp) hGM hF2 hFO2 hj
   exact ⟨none,_,h1,hdone O2 F' _ h2 h3 hFs hFn2 h4 h5 h6 h7 nFD⟩
  ·obtain ⟨h1,O2,h2,h3,h4,h5,h6,h7⟩:=back (Ix c) HS k O' F' W2 .done (some c) (hIx c) hS (by simp) hGM hF2 hFO2 hj
   exact ⟨some c,_,h1,hstop c k O2 F' _ hk1 hk2 h2 h3 hFs hFn2 h4 h5 h6 h7 nFD⟩
end
end Go.Proofs.YtkpgfmonhfnhdaaGreatDoor
