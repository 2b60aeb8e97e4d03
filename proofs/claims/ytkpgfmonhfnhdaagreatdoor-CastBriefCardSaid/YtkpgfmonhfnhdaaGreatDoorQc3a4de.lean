/-
  The function that tod.All makes tells the seconds of its masks: three ranges over functions, one within the other.
  The numbers of a set of seven words, word by word and as one rising list.
  The function that wide.All makes tells a set's numbers, word by word.
  The function that a disc's All makes tells its seconds, word by word.
-/
import Derived.Test.YtkpgfmonhfnhdaaGreatDoorQe2101f
import Derived.WalkMore
import Derived.Test.YtkpgfmonhfnhdaaGreatDoorQ9a3e48
import Derived.Test.YtkpgfmonhfnhdaaGreatDoorQ5411a8
import Derived.Test.YtkpgfmonhfnhdaaGreatDoorQ3e71e3
import Derived.Test.YtkpgfmonhfnhdaaGreatDoorQ943d0c
namespace Go.Proofs.YtkpgfmonhfnhdaaGreatDoor
set_option linter.unusedVariables false
section
open Go.RowKit
attribute [local go_sem] Oper.semAt_some
theorem yjb (h m:Int) (S:List Int) (k:Nat) (hk:k < S.length):(ya5 h m S)[k]? =some (3600 * h+60 * m+S[k]):=by
 simp [ya5,List.getElem?_eq_getElem hk]
theorem yez (h:Int) (S:List Int) (k:Nat) (hk:k < S.length):∀(M:List Int) (j:Nat) (hj:j < M.length),(yaj h M S)[j * S.length+k]? =some (3600 * h+60 * M[j]+S[k])
 | m :: M,0,_=>by
   have e:yaj h (m :: M) S=ya5 h m S ++ yaj h M S:=by simp [yaj]
   rw [e,List.getElem?_append_left (by rw [yc1]; omega),Nat.zero_mul,Nat.zero_add,yjb h m S k hk]; rfl
 | m :: M,j+1,hj=>by
   have e:yaj h (m :: M) S=ya5 h m S ++ yaj h M S:=by simp [yaj]
   have e2:(j+1) * S.length+k=S.length+(j * S.length+k):=by rw [Nat.succ_mul]; omega
   rw [e,e2,List.getElem?_append_right (by rw [yc1]; omega),yc1,Nat.add_sub_cancel_left,yez h S k hk M j (by simpa using hj)]; rfl
theorem ygt (M S:List Int) (j k:Nat) (hj:j < M.length) (hk:k < S.length):∀(H:List Int) (i:Nat) (hi:i < H.length),(secs H M S)[i * (M.length * S.length)+j * S.length+k]? =some (3600 * H[i]+60 * M[j]+S[k])
 | h :: H,0,_=>by
   have e:secs (h :: H) M S=yaj h M S ++ secs H M S:=by simp [secs]
   have hlt:j * S.length+k < M.length * S.length:=by
    have:(j+1) * S.length≤M.length * S.length:=Nat.mul_le_mul_right _ hj
    rw [Nat.succ_mul] at this; omega
   rw [e,Nat.zero_mul,Nat.zero_add,List.getElem?_append_left (by rw [ycs]; exact hlt),yez h S k hk M j hj]; rfl
 | h :: H,i+1,hi=>by
   have e:secs (h :: H) M S=yaj h M S ++ secs H M S:=by simp [secs]
   have e2:(i+1) * (M.length * S.length)+j * S.length+k=M.length * S.length+(i * (M.length * S.length)+j * S.length+k):=by rw [Nat.succ_mul]; omega
   rw [e,e2,List.getElem?_append_right (by rw [ycs]; omega),ycs,Nat.add_sub_cancel_left,ygt M S j k hj hk H i (by simpa using hi)]; rfl
theorem secs_get (H M S:List Int) (i j k:Nat) (hi:i < H.length) (hj:j < M.length) (hk:k < S.length) :
  ∃h:i * (M.length * S.length)+j * S.length+k < (secs H M S).length,(secs H M S)[i * (M.length * S.length)+j * S.length+k]=3600 * H[i]+60 * M[j]+S[k]:=by
 obtain ⟨h,e⟩:=List.getElem?_eq_some_iff.1 (ygt M S j k hj hk H i hi)
 exact ⟨h,e⟩
theorem yax {W:World} {l:Nat} {o:Obj} {b i:Nat} {v:Value} (hr:∃r,W.heap[l]? =some (.loop r)) (h:W.cell? ⟨b,i,none⟩=some v):(W.putObj l o).cell? ⟨b,i,none⟩=some v:=by
 refine (World.cell?_of_block (w:=W) (a:=⟨b,i,none⟩) (World.putObj_heap_other (fun e=>?_))).trans h
 obtain ⟨r,hr⟩:=hr
 simp only at e
 subst e
 rw [World.cell?] at h
 simp [hr] at h
theorem yem (m:Nat) (W:World) (hm:m < 18446744073709551616):Calls Tryz.prog 149 #[.slice (some ⟨W.heap.size,0,none⟩) 1 1] (W.alloc (.cells #[.int .u64 m] 24)) fun e w'=>
  e= .returned (.func (.func 169) #[] #[.pointer (some ⟨W.heap.size+1,0,none⟩)])∧w'.cell? ⟨W.heap.size+1,0,none⟩=some (.int .u64 m)∧Below W.heap.size W w'∧W.heap.size+1 < w'.heap.size:=by
 have h:=MAll_any (some ⟨W.heap.size,0,none⟩) 1 [m] (W.alloc (.cells #[.int .u64 m] 24)) (by simp) (.inr ⟨W.heap.size,0,rfl,by simp,fun j hj=>by simp [u64s] at hj⊢; subst hj; simp [go_sem]⟩) (by simpa using hm)
 rw [andM_one hm,World.size_alloc] at h
 exact h.mono fun e w' ⟨h1,h2,h3,h4⟩=>⟨h1,h2,(yaa (Below.refl _ _) (zG _)).trans (h3.mono (by omega)),h4⟩
theorem Grow.of_below {O:Nat→Prop} {W W':World} (h:Below W.heap.size W W'):Grow O O W W':=⟨fun _ h=>h,fun _ h=> .inl h,Eff.of_below h⟩
theorem ybl {I:OwnP} (hI:ybk I) (hl:LtO I) {k:Nat} {O:Nat→Prop} {W W':World} (h:I k O W) (hb:Below W.heap.size W W'):I k O W':=hI k O W W' h hb.size (fun b hb2=>hb.block b (hl k O W h b hb2))
theorem ybd {I:OwnP} (hI:ybk I) {k:Nat} {O:Nat→Prop} {W:World} (h:I k O W) {l:Nat} (hn:¬O l) (o:Obj):I k O (W.putObj l o):=
 hI k O W _ h (by rw [World.putObj_size]; exact zG _) (fun b hb=>World.putObj_heap_other (fun e=>hn (e ▸ hb)))
set_option maxRecDepth 100000 in
set_option maxHeartbeats 3200000 in
theorem yhJ (a b c bh bm bs:Nat) (y:Value) (J Jx:OwnP) (O:Nat→Prop) (W:World) (ha:a < 18446744073709551616) (hb:b < 18446744073709551616) (hc:c < 18446744073709551616)
  (hC:Client2 Tryz.prog y (secs (sel a.testBit 64) (sel b.testBit 64) (sel c.testBit 64)) J Jx O W) (hJ:J 0 O W)
  (hbh:bh < W.heap.size) (hbm:bm < W.heap.size) (hbs:bs < W.heap.size) (hnh:¬O bh) (hnm:¬O bm) (hns:¬O bs)
  (hch:W.cell? ⟨bh,0,none⟩=some (.int .u64 a)) (hcm:W.cell? ⟨bm,0,none⟩=some (.int .u64 b)) (hcs:W.cell? ⟨bs,0,none⟩=some (.int .u64 c)) (hT:Tab W) (hTO:¬O 0) :
  Calls Tryz.prog 179 #[y, .pointer (some ⟨bh,0,none⟩), .pointer (some ⟨bm,0,none⟩), .pointer (some ⟨bs,0,none⟩)] W fun e W'=>(∃v,e= .returned v)∧Told (secs (sel a.testBit 64) (sel b.testBit 64) (sel c.testBit 64)) J Jx O W W':=by
 obtain ⟨yf,yi,yc,rfl⟩:=hC.form
 have HC:=hid hC
 have HT:=hid hT
 have hT0:=hT.1
 have HN:=hid (And.intro hnm (And.intro hns hTO))
 obtain ⟨W1,hW1⟩:∃W1,W.alloc (.cells #[.func yf yi yc] 100)=W1:=⟨_,rfl⟩
 have q3:W1.heap.size=W.heap.size+1:=by rw [←hW1]; simp
 have q4:Below W.heap.size W W1:=by rw [←hW1]; exact yaa (Below.refl _ _) (zG _)
 have q5:W1.cell? ⟨W.heap.size,0,none⟩=some (.func yf yi yc):=by rw [←hW1]; simp [go_sem]
 have hMA:=yem a W1 ha
 rw [q3] at hMA
 have HM:=hid hMA
 have HW1:=hid hW1
 have ey:=hid q5
 have hch1:=(q4.cell (p:=⟨bh,0,none⟩) hbh).trans hch
 have Q4:=hid q4
 have Hm:=hid hcm
 have Hs:=hid hcs
 have HJ:=hid hJ
 have hlt:=hC.lt 0 O W hJ
 have Hlt:=hid hlt
 have lH:=ya1 a.testBit 64
 have lM:=ya1 b.testBit 64
 have lS:=ya1 c.testBit 64
 have bH:=hid (fun k hk=>yd3 (p:=a.testBit) k hk)
 have bM:=hid (fun k hk=>yd3 (p:=b.testBit) k hk)
 have bS:=hid (fun k hk=>yd3 (p:=c.testBit) k hk)
 have tells1:=hid (fun b' Ow w (h1:b' < w.heap.size) h2 h3 h4 h5=>yct a b' Ow w ha h1 h2 h3 h4 h5)
 have tells2:=hid (fun b' Ow w (h1:b' < w.heap.size) h2 h3 h4 h5=>yct b b' Ow w hb h1 h2 h3 h4 h5)
 have tells3:=hid (fun b' Ow w (h1:b' < w.heap.size) h2 h3 h4 h5=>yct c b' Ow w hc h1 h2 h3 h4 h5)
 obtain ⟨H,eH⟩:∃l,sel a.testBit 64=l:=⟨_,rfl⟩
 obtain ⟨M,eM⟩:∃l,sel b.testBit 64=l:=⟨_,rfl⟩
 obtain ⟨S,eS⟩:∃l,sel c.testBit 64=l:=⟨_,rfl⟩
 rw [eH] at lH bH tells1 HC⊢
 rw [eM] at lM bM tells2 HC⊢
 rw [eS] at lS bS tells3 HC⊢
 clear eH eM eS hMA hC hT hnh hnm hns hTO q4 q5 hch hcm hcs hW1 hJ hlt
 refine (wf_calls (r:=none) (n:=1)).mp ?_
 refine callsIn_of_wp_marks Tryz.func179 rfl trivial ?_ rfl
 simp only [Tryz.ntmps179,List.size_toArray,List.length_cons,List.length_nil,Nat.reduceAdd,Nat.reduceSub,Array.replicate_succ,Array.replicate_zero,List.push_toArray,List.append_toArray,List.nil_append,List.cons_append]
 gi_wp2_with fail
 refine ycT ?_
 rw [HW1.out]
 gi_wp2_with fail
 refine wpIn_label ?_
 gi_wp2_with fail
 refine (wf_calls.mpr HM.out).mono ?_
 rintro e w1 ⟨rfl,hm1,hm2,hm3⟩
 have hB1:Below W.heap.size W w1:=Q4.out.trans (hm2.mono (by omega))
 have HB1:=hid hB1
 have HG1:Hid (Grow O O W w1):=Grow.of_below hB1
 have ey1:=hid ((hm2.cell (p:=⟨W.heap.size,0,none⟩) (by simp only []; omega)).trans ey.out)
 have HJ1:Hid (J 0 O w1):=ybl HC.out.stab HC.out.lt HJ.out hB1
 have tl1:=hid (tells1.out (W.heap.size+2) O w1 hm3 (fun h=>by have:=Hlt.out _ h; omega) hm1 (HT.out.later hB1) HN.out.2.2)
 clear hm1 hm2 hB1
 gi_wp2_with fail
 refine ya2 (gf:=169) (lb:=#[.pointer (some ⟨W.heap.size+2,0,none⟩)]) rfl ycu H O rfl tl1.out
  (fun i O W=>J (i * (M.length * S.length)) O W) (fun c i O W=>c= .exit 0∧∃q,1≤q∧q≤(secs H M S).length∧Jx q O W)
  (fun k O W W' h hs hO=>HC.out.stab _ O W W' h hs hO) (fun c k O W W' h hs hO=>⟨h.1,by obtain ⟨q,h1,h2,h3⟩:=h.2; exact ⟨q,h1,h2,HC.out.stabx _ O W W' h3 hs hO⟩⟩)
  (fun k O W h=>HC.out.lt _ O W h) (fun c k O W h=>by obtain ⟨_,q,h1,h2,h3⟩:=h; exact HC.out.ltx _ O W h3) (by simpa using HJ1.out)
  (fun i O a' W'=>J (i * (M.length * S.length)) O W'∧∃bx h,H[i]? =some h∧W'.cell? ⟨bx,0,none⟩=some (.int .i64 h)∧¬O bx∧bx < W'.heap.size∧
    a' = {tmps:=#[.func yf yi yc, .pointer (some ⟨bh,0,none⟩), .pointer (some ⟨bm,0,none⟩), .pointer (some ⟨bs,0,none⟩), .pointer (some ⟨W.heap.size,0,none⟩), .pointer (some ⟨bx,0,none⟩),undef,undef, .int .u64 a, .slice (some ⟨W.heap.size+1,0,none⟩) 1 1, .func (.func 169) #[] #[.pointer (some ⟨W.heap.size+1+1,0,none⟩)], .int .i64 h,undef,undef,undef,undef,undef,undef,undef,undef,undef,undef,undef,undef,undef,undef,undef,undef,undef,undef],defers:= []})
  (fun l o k O a' W' hr hn h=>⟨ybd HC.out.stab h.1 hn o,by obtain ⟨bx,h,h0,h1,h2,h3,h4⟩:=h.2; exact ⟨bx,h,h0,yax hr h1,h2,by rw [World.putObj_size]; exact h3,h4⟩⟩) ?assign ?body ?done ?stop
 case assign=>
  intro l i O2 W2 K hi hJ2 hG2 hK
  have hlt2:=HC.out.lt _ _ _ hJ2
  gi_wp2
  have hbel:Below W2.heap.size W2 (W2.alloc (.cells #[.int .i64 H[i]] 3)):=yaa (Below.refl _ _) (zG _)
  exact hK _ O2 _ (Grow.of_below hbel) ⟨ybl HC.out.stab HC.out.lt hJ2 hbel,W2.heap.size,H[i],List.getElem?_eq_getElem hi,by simp [go_sem],fun h=>by have:=hlt2 _ h; omega,by simp,rfl⟩
 case done=>
  intro O2 W2 hG2 hJ2 hD hnD
  have hG:=HG1.out.trans hG2
  have hJ3:J (secs H M S).length O2 W2:=by rw [yh9]; exact hJ2
  gi_wp2
  rw [Exit.noGoto_normal]
  refine ⟨by simp, .inl ⟨_,_,rfl,run_takeDeferred hD,?_⟩⟩
  exact ⟨_,results_none rfl _ _ _,⟨_,rfl⟩,O2,hG.sub,hG.new,hG.eff.putObj (.inr (by have:=HB1.out.size; omega)) _, .inl (ybd HC.out.stab hJ3 hnD _)⟩
 case stop=>
  rintro c i O2 W2 hi1 hi2 hG2 ⟨rfl,q,hq1,hq2,hJ2⟩ hD hnD
  have hG:=HG1.out.trans hG2
  gi_wp2
  rw [Exit.noGoto_normal]
  refine ⟨by simp, .inl ⟨_,_,rfl,run_takeDeferred hD,?_⟩⟩
  exact ⟨_,results_none rfl _ _ _,⟨_,rfl⟩,O2,hG.sub,hG.new,hG.eff.putObj (.inr (by have:=HB1.out.size; omega)) _, .inr ⟨q,hq1,hq2,ybd HC.out.stabx hJ2 hnD _⟩⟩
 case body=>
  rintro l i O2 a' W2 hi hG2 hl hrec hnl ⟨hJ2,bx,h,eh,ch,nh,lh,rfl⟩
  have hyl:W.heap.size < w1.heap.size:=by omega
  have nO:¬O W.heap.size:=fun h=>by have:=Hlt.out _ h; omega
  have ey2:=(hG2.cell hyl nO 0).trans ey1.out
  have em2:=(hG2.cell (by omega) HN.out.1 0).trans ((HB1.out.cell (p:=⟨bm,0,none⟩) hbm).trans Hm.out)
  have es2:=(hG2.cell (by omega) HN.out.2.1 0).trans ((HB1.out.cell (p:=⟨bs,0,none⟩) hbs).trans Hs.out)
  have hT2:=(HT.out.later HB1.out).eff hG2.eff HN.out.2.2
  have NO2:=hid (And.intro (hG2.not hyl nO) (And.intro (hG2.not (b:=bs) (by omega) HN.out.2.1) (hG2.not (b:=0) (by have:=(HT.out.later HB1.out).1; omega) HN.out.2.2)))
  have hsz2:=hG2.eff.size
  have hlt2:=HC.out.lt _ _ _ hJ2
  have GG2:Hid (Grow O O2 W W2):=HG1.out.trans hG2
  have HM2:=hid (yem b W2 hb)
  have HJ2:=hid hJ2
  clear HM HG1 tells1 tl1 hG2 hJ2
  gi_wp2_with fail
  refine (wf_calls.mpr HM2.out).mono ?_
  rintro e w3 ⟨rfl,hn1,hn2,hn3⟩
  have hrec3:∃r,w3.heap[l]? =some (.loop r):=by obtain ⟨r,hr⟩:=hrec; exact ⟨r,(hn2.block l (yah hr)).trans hr⟩
  have HG3:Hid (Grow O2 O2 W2 w3):=Grow.of_below hn2
  have tl2:=hid (tells2.out (W2.heap.size+1) O2 w3 hn3 (fun h=>by have:=hlt2 _ h; omega) hn1 (hT2.later hn2) NO2.out.2.2)
  have HJ3:Hid (J (i * (M.length * S.length)) O2 w3):=ybl HC.out.stab HC.out.lt HJ2.out hn2
  have ey3:=hid ((hn2.cell (p:=⟨W.heap.size,0,none⟩) (by simp only []; omega)).trans ey2)
  have es3:=hid ((hn2.cell (p:=⟨bs,0,none⟩) (by simp only []; omega)).trans es2)
  have ch3:=hid ((hn2.cell (p:=⟨bx,0,none⟩) lh).trans ch)
  have HT3:=hid (hT2.later hn2)
  have hsz3:=hn2.size
  clear hn1 hn2 ey2 em2 es2 ch hT2 HM2
  gi_wp2_with fail
  refine yd6 (gf:=169) (lb:=#[.pointer (some ⟨W2.heap.size+1,0,none⟩)]) hrec3 rfl ycu M O2 rfl tl2.out
   (fun j O W=>J (i * (M.length * S.length)+j * S.length) O W) (fun c j O W=>c= .exit 0∧∃q,1≤q∧q≤(secs H M S).length∧Jx q O W)
   (fun k O W W' h hs hO=>HC.out.stab _ O W W' h hs hO) (fun c k O W W' h hs hO=>⟨h.1,by obtain ⟨q,h1,h2,h3⟩:=h.2; exact ⟨q,h1,h2,HC.out.stabx _ O W W' h3 hs hO⟩⟩)
   (fun k O W h=>HC.out.lt _ O W h) (fun c k O W h=>by obtain ⟨_,q,h1,h2,h3⟩:=h; exact HC.out.ltx _ O W h3) (by simpa using HJ3.out)
   (fun j O a' W'=>J (i * (M.length * S.length)+j * S.length) O W'∧∃bz m,M[j]? =some m∧W'.cell? ⟨bz,0,none⟩=some (.int .i64 m)∧¬O bz∧bz < W'.heap.size∧
     a' = {tmps:=#[.func yf yi yc, .pointer (some ⟨bh,0,none⟩), .pointer (some ⟨bm,0,none⟩), .pointer (some ⟨bs,0,none⟩), .pointer (some ⟨W.heap.size,0,none⟩), .pointer (some ⟨bx,0,none⟩), .pointer (some ⟨bz,0,none⟩),undef, .int .u64 a, .slice (some ⟨W.heap.size+1,0,none⟩) 1 1, .func (.func 169) #[] #[.pointer (some ⟨W.heap.size+1+1,0,none⟩)], .int .i64 h, .int .u64 b, .slice (some ⟨W2.heap.size,0,none⟩) 1 1, .func (.func 169) #[] #[.pointer (some ⟨W2.heap.size+1,0,none⟩)], .int .i64 m,undef,undef,undef,undef,undef,undef,undef,undef,undef,undef,undef,undef,undef,undef],defers:= []})
   (fun l o k O a' W' hr hn h=>⟨ybd HC.out.stab h.1 hn o,by obtain ⟨bx,h,h0,h1,h2,h3,h4⟩:=h.2; exact ⟨bx,h,h0,yax hr h1,h2,by rw [World.putObj_size]; exact h3,h4⟩⟩) ?assign2 ?body2 ?done2 ?stop2
  case assign2=>
   intro l j O4 W4 K hj hJ4 hG4 hK
   have hlt4:=HC.out.lt _ _ _ hJ4
   gi_wp2
   have hbel:Below W4.heap.size W4 (W4.alloc (.cells #[.int .i64 M[j]] 3)):=yaa (Below.refl _ _) (zG _)
   exact hK _ O4 _ (Grow.of_below hbel) ⟨ybl HC.out.stab HC.out.lt hJ4 hbel,W4.heap.size,M[j],List.getElem?_eq_getElem hj,by simp [go_sem],fun h=>by have:=hlt4 _ h; omega,by simp,rfl⟩
  case done2=>
   intro O4 W4 hG4 hJ4
   gi_wp2
   exact ⟨O4,HG3.out.trans hG4,by show J ((i+1) * (M.length * S.length)) O4 W4; rw [show (i+1) * (M.length * S.length)=i * (M.length * S.length)+M.length * S.length from Nat.succ_mul _ _]; exact hJ4⟩
  case stop2=>
   rintro c j O4 W4 hj1 hj2 hG4 ⟨rfl,q,hq1,hq2,hJ4⟩
   gi_wp2
   exact ⟨O4,HG3.out.trans hG4,rfl,q,hq1,hq2,hJ4⟩
  case body2=>
   rintro l2 j O4 a' W4 hj hG4 hl2 hrec4 hnl2 ⟨hJ4,bz,m,em,cm,nm,lm,rfl⟩
   have ey4:=(hG4.cell (by omega) NO2.out.1 0).trans ey3.out
   have es4:=(hG4.cell (by omega) NO2.out.2.1 0).trans es3.out
   have ch4:=(hG4.cell (b:=bx) (by omega) nh 0).trans ch3.out
   have hT4:=HT3.out.eff hG4.eff NO2.out.2.2
   have NO4:=hid (And.intro (hG4.not (b:=W.heap.size) (by omega) NO2.out.1) (And.intro (hG4.not (b:=bx) (by omega) nh) (hG4.not (b:=0) (by have:=HT3.out.1; omega) NO2.out.2.2)))
   have hsz4:=hG4.eff.size
   have hlt4:=HC.out.lt _ _ _ hJ4
   have GG4:Hid (Grow O O4 W W4):=GG2.out.trans (HG3.out.trans hG4)
   have HM4:=hid (yem c W4 hc)
   have HJ4:=hid hJ4
   clear tells2 tl2 hG4 hJ4
   gi_wp2_with fail
   refine (wf_calls.mpr HM4.out).mono ?_
   rintro e w5 ⟨rfl,hn1,hn2,hn3⟩
   have hrec5:∃r,w5.heap[l2]? =some (.loop r):=by obtain ⟨r,hr⟩:=hrec4; exact ⟨r,(hn2.block l2 (yah hr)).trans hr⟩
   have HG5:Hid (Grow O4 O4 W4 w5):=Grow.of_below hn2
   have tl3:=hid (tells3.out (W4.heap.size+1) O4 w5 hn3 (fun h=>by have:=hlt4 _ h; omega) hn1 (hT4.later hn2) NO4.out.2.2)
   have HJ5:Hid (J (i * (M.length * S.length)+j * S.length) O4 w5):=ybl HC.out.stab HC.out.lt HJ4.out hn2
   have ey5:=hid ((hn2.cell (p:=⟨W.heap.size,0,none⟩) (by simp only []; omega)).trans ey4)
   have ch5:=hid ((hn2.cell (p:=⟨bx,0,none⟩) (by simp only []; omega)).trans ch4)
   have cm5:=hid ((hn2.cell (p:=⟨bz,0,none⟩) lm).trans cm)
   have hsz5:=hn2.size
   clear hn1 hn2 ey4 es4 ch4 cm hT4 HM4
   gi_wp2_with fail
   refine yd6 (gf:=169) (lb:=#[.pointer (some ⟨W4.heap.size+1,0,none⟩)]) hrec5 rfl ycu S O4 rfl tl3.out
    (fun k O W=>J (i * (M.length * S.length)+j * S.length+k) O W) (fun c k O W=>c= .exit 0∧∃q,1≤q∧q≤(secs H M S).length∧Jx q O W)
    (fun k O W W' h hs hO=>HC.out.stab _ O W W' h hs hO) (fun c k O W W' h hs hO=>⟨h.1,by obtain ⟨q,h1,h2,h3⟩:=h.2; exact ⟨q,h1,h2,HC.out.stabx _ O W W' h3 hs hO⟩⟩)
    (fun k O W h=>HC.out.lt _ O W h) (fun c k O W h=>by obtain ⟨_,q,h1,h2,h3⟩:=h; exact HC.out.ltx _ O W h3) (by simpa using HJ5.out)
    (fun k O a' W'=>J (i * (M.length * S.length)+j * S.length+k) O W'∧∃s,S[k]? =some s∧
      a' = {tmps:=#[.func yf yi yc, .pointer (some ⟨bh,0,none⟩), .pointer (some ⟨bm,0,none⟩), .pointer (some ⟨bs,0,none⟩), .pointer (some ⟨W.heap.size,0,none⟩), .pointer (some ⟨bx,0,none⟩), .pointer (some ⟨bz,0,none⟩), .int .i64 s, .int .u64 a, .slice (some ⟨W.heap.size+1,0,none⟩) 1 1, .func (.func 169) #[] #[.pointer (some ⟨W.heap.size+1+1,0,none⟩)], .int .i64 h, .int .u64 b, .slice (some ⟨W2.heap.size,0,none⟩) 1 1, .func (.func 169) #[] #[.pointer (some ⟨W2.heap.size+1,0,none⟩)], .int .i64 m, .int .u64 c, .slice (some ⟨W4.heap.size,0,none⟩) 1 1, .func (.func 169) #[] #[.pointer (some ⟨W4.heap.size+1,0,none⟩)], .int .i64 s,undef,undef,undef,undef,undef,undef,undef,undef,undef,undef],defers:= []})
    (fun l o k O a' W' hr hn h=>⟨ybd HC.out.stab h.1 hn o,h.2⟩) ?assign3 ?body3 ?done3 ?stop3
   case assign3=>
    intro l k O6 W6 K hk hJ6 hG6 hK
    gi_wp2
    exact hK _ O6 _ (Grow.refl _ _) ⟨hJ6,S[k],List.getElem?_eq_getElem hk,rfl⟩
   case done3=>
    intro O6 W6 hG6 hJ6
    gi_wp2
    exact ⟨O6,HG5.out.trans hG6,by show J (i * (M.length * S.length)+(j+1) * S.length) O6 W6; rw [show i * (M.length * S.length)+(j+1) * S.length=i * (M.length * S.length)+j * S.length+S.length by rw [Nat.succ_mul]; omega]; exact hJ6⟩
   case stop3=>
    rintro c k O6 W6 hk1 hk2 hG6 ⟨rfl,q,hq1,hq2,hJ6⟩
    gi_wp2
    exact ⟨O6,HG5.out.trans hG6,rfl,q,hq1,hq2,hJ6⟩
   case body3=>
    rintro l3 k O6 a' W6 hk hG6 hl3 hrec6 hnl3 ⟨hJ6,s,es,rfl⟩
    have ey6:=(hG6.cell (b:=W.heap.size) (by omega) NO4.out.1 0).trans ey5.out
    have ch6:=(hG6.cell (b:=bx) (by omega) NO4.out.2.1 0).trans ch5.out
    have cm6:=(hG6.cell (b:=bz) (by omega) nm 0).trans cm5.out
    obtain ⟨hidx,hval⟩:=secs_get H M S i j k hi hj hk
    have hcall:=HC.out.call _ O6 W6 hidx hJ6 (GG4.out.trans (HG5.out.trans hG6))
    obtain ⟨_,eh'⟩:=List.getElem?_eq_some_iff.1 eh
    obtain ⟨_,em'⟩:=List.getElem?_eq_some_iff.1 em
    obtain ⟨_,es'⟩:=List.getElem?_eq_some_iff.1 es
    have bh1:=bH.out i hi
    have bm1:=bM.out j hj
    have bs1:=bS.out k hk
    rw [eh'] at bh1
    rw [em'] at bm1
    rw [es'] at bs1
    rw [hval,eh',em',es',show 3600 * h+60 * m+s=h * 3600+m * 60+s by omega] at hcall
    have Hcall:=hid hcall
    have Hidx:=hid hidx
    obtain ⟨x1,x2⟩:=bh1
    obtain ⟨x3,x4⟩:=bm1
    obtain ⟨x5,x6⟩:=bs1
    clear hcall hidx hval eh' em' es' hJ6 hG6 tells3 tl3
    gi_wp2_with (refine callv (.tmp 20) (.tmp 27) _ rfl rfl rfl rfl Hcall.out ?_)
    rintro e W7 O7 h1 h2 h3 hend
    rcases hend with ⟨rfl,hJ7⟩ | ⟨rfl,hJ7⟩
    ·have HJ7:Hid (Grow O6 O7 W6 W7∧J (i * (M.length * S.length)+j * S.length+(k+1)) O7 W7):=⟨⟨h1,h2,h3⟩,hJ7⟩
     clear h1 h2 h3 hJ7
     refine ⟨_,rfl,?_⟩
     gi_wp2
     exact ⟨O7,HJ7.out.1,HJ7.out.2⟩
    ·have HJ7:Hid (Grow O6 O7 W6 W7∧∃q,1≤q∧q≤(secs H M S).length∧Jx q O7 W7):=⟨⟨h1,h2,h3⟩,_,by omega,Nat.succ_le_of_lt Hidx.out,hJ7⟩
     clear h1 h2 h3 hJ7
     refine ⟨_,rfl,?_⟩
     gi_wp2
     exact ⟨O7,HJ7.out.1,rfl,HJ7.out.2⟩
end
section
open Go.RowKit
theorem yhk (p:Nat→Bool) (a:Nat):∀b,sel p (a+b)=sel p a ++ (sel (fun k=>p (a+k)) b).map (fun x=>(a:Int)+x)
 | 0=>by simp [yh8]
 | b+1=>by
   rw [←Nat.add_assoc]
   by_cases h:p (a+b)=true
   ·rw [ybB h,ybB (p:=fun k=>p (a+k)) h,yhk p a b,List.map_append,List.append_assoc]; simp
   ·have h':p (a+b)=false:=by simpa using h
    rw [ycH h',ycH (p:=fun k=>p (a+k)) h',yhk p a b]
theorem ydp {p q:Nat→Bool} {n:Nat} (h:∀i,i < n→p i=q i):sel p n=sel q n:=by
 induction n with
 | zero=>rfl
 | succ n ih=>
   have e:=ih (fun i hi=>h i (by omega))
   cases hp:p n
   ·rw [ycH hp,ycH (by rw [←h n (by omega)]; exact hp),e]
   ·rw [ybB hp,ybB (by rw [←h n (by omega)]; exact hp),e]
def ygl (t:Nat→Nat) (i:Nat):List Int:=(sel (t i).testBit 64).map (fun x=>((64 * i:Nat):Int)+x)
def ybi (t:Nat→Nat):Nat→List Int
 | 0=> []
 | n+1=>ybi t n ++ ygl t n
theorem yeo (t:Nat→Nat):∀n,ybi t n=sel (bitW t) (64 * n)
 | 0=>rfl
 | n+1=>by
   rw [ybi,yeo t n,show 64 * (n+1)=64 * n+64 by omega,yhk,ygl]
   congr 1
   congr 1
   refine ydp (fun i hi=>?_)
   rw [bitW,show (64 * n+i) / 64=n by omega,show (64 * n+i) % 64=i by omega]
def wsel (s:Nat→Nat):List Int:=sel (bitW s) 400
theorem ygk (t:Nat→Nat):∀n,(ybi t n).length=lenW t n
 | 0=>rfl
 | n+1=>by rw [ybi,List.length_append,ygk t n,ygl,List.length_map,ydK,lenW]
theorem yhX (t:Nat→Nat):∀n i k,i < n→(hk:k < (sel (t i).testBit 64).length)→(ybi t n)[(ybi t i).length+k]? =some (((64 * i:Nat):Int)+(sel (t i).testBit 64)[k])
 | 0,i,k,hi,hk=>by omega
 | n+1,i,k,hi,hk=>by
   have hl:(ygl t i).length= (sel (t i).testBit 64).length:=by simp [ygl]
   rcases Nat.lt_or_ge i n with h | h
   ·have hmono:∀m,(ybi t i).length+(ygl t i).length≤(ybi t (i+1+m)).length:=fun m=>by
     induction m with
     | zero=>rw [Nat.add_zero,ybi,List.length_append]; exact zG _
     | succ m ih=>rw [←Nat.add_assoc,ybi,List.length_append]; omega
    have h2:=hmono (n - i - 1)
    rw [show i+1+(n - i - 1)=n by omega] at h2
    rw [ybi,List.getElem?_append_left (by omega)]
    exact yhX t n i k h hk
   ·obtain rfl:i=n:=by omega
    rw [ybi,List.getElem?_append_right (by omega),Nat.add_sub_cancel_left,ygl,List.getElem?_map,List.getElem?_eq_getElem hk]; rfl
end
section
open Go.RowKit
attribute [local go_sem] Oper.semAt_some
def ye1 (Ds:List Nat):List Deferred:=Ds.map fun D=>{target:= .collected D,args:=#[]}
theorem yaF {F:Fence} {n:Nat} {P:Program} {fn:Func} {tmps:Array Value} {R:Ending→World→Prop} {u:FrameMode} (hu:u≠ .run):∀(Ds:List Nat) (w:World),Ds.Nodup→(∀D∈Ds,w.heap[D]? =some (.deferred (some [])))→
  (∀w':World,w'.os=w.os→w'.tape=w.tape→w'.output=w.output→w'.heap.size=w.heap.size→(∀b,b ∉ Ds→w'.heap[b]? =w.heap[b]?)→LeavesInM F n P fn tmps R [] u w')→LeavesInM F n P fn tmps R (ye1 Ds) u w
 | [],w,_,_,h=>h w rfl rfl rfl rfl (fun _ _=>rfl)
 | D :: Ds,w,hn,hD,h=>by
   rw [List.nodup_cons] at hn
   refine ⟨hu, .inl ⟨D,_,rfl,run_takeDeferred (hD D (by simp)),?_⟩⟩
   refine yaF hu Ds _ hn.2 (fun E hE=>(World.putObj_heap_other (fun e=>hn.1 (by rw [←e]; exact hE))).trans (hD E (by simp [hE]))) (fun w' h1 h2 h3 h4 h5=>h w' h1 h2 h3 (by rw [h4,World.putObj_size]) (fun b hb=>?_))
   simp only [List.mem_cons,not_or] at hb
   exact (h5 b hb.2).trans (World.putObj_heap_other hb.1)
theorem ye6 {I:OwnP} (hI:ybk I) {k:Nat} {O:Nat→Prop} {w w':World} {Ds:List Nat} (h:I k O w) (hn:∀D∈Ds,¬O D) (hs:w'.heap.size=w.heap.size) (hb:∀b,b ∉ Ds→w'.heap[b]? =w.heap[b]?):I k O w':=
 hI k O w w' h (by omega) (fun b hb2=>hb b (fun h2=>hn b h2 hb2))
theorem ybz {O:Nat→Prop} {W w w':World} {Ds:List Nat} (h:Eff O W w) (hn:∀D∈Ds,W.heap.size≤D) (h1:w'.os=w.os) (h2:w'.tape=w.tape) (h3:w'.output=w.output) (hs:w'.heap.size=w.heap.size) (hb:∀b,b ∉ Ds→w'.heap[b]? =w.heap[b]?):Eff O W w':=
 ⟨h1.trans h.os,h2.trans h.tape,h3.trans h.output,by rw [hs]; exact h.size,fun k hk hno=>(hb k (fun h4=>by have:=hn k h4; omega)).trans (h.block k hk hno)⟩
end
section
open Go.RowKit
attribute [local go_sem] Oper.semAt_some
set_option maxRecDepth 100000 in
set_option maxHeartbeats 1600000 in
theorem DcAll_any (b:Nat) (f:Nat→Nat) (w:World) (hc:DC w b f) (hb:b < w.heap.size) :
  Calls Tryz.prog 104 #[.pointer (some ⟨b,0,none⟩)] w fun e w'=>e= .returned (.func (.func 148) #[] #[.pointer (some ⟨w.heap.size,0,none⟩)])∧DC w' w.heap.size f∧Below w.heap.size w w'∧w.heap.size < w'.heap.size:=by
 obtain ⟨W1,hW1⟩:∃W1,w.alloc (.cells Tryz.zeroCells129 129)=W1:=⟨_,rfl⟩
 have q1:DC W1 w.heap.size (fun _=>0):=by rw [←hW1]; exact dc_new' w
 have q2:∀i,W1.frozen? ⟨w.heap.size,i,none⟩=false:=fun i=>by rw [←hW1]; exact yav w _ _ i
 have q3:Below w.heap.size w W1:=by rw [←hW1]; exact yaa (Below.refl _ _) (zG _)
 have q4:W1.heap.size=w.heap.size+1:=by rw [←hW1]; simp
 have hu:Upd w.heap.size (fun _=>0) W1 W1:=⟨q1,q2,fun _ _=>by omega,Eff.refl _ _⟩
 have hrg:=hid (yiD (hc.below q3 hb))
 have hth:=hid (hu.there' f)
 have hst:=hid (hu.all f)
 have HW1:=hid hW1
 have Q3:=hid q3
 clear hW1 q1 q2 q3 hc hu
 go_enter Tryz.func104,Tryz.ntmps104
 go_wp2_with fail
 rw [HW1.out]
 refine wp_load_mid 129 (.tmp 8) rfl b 0 rfl _ _ hrg.out Tryz.underlying129 rfl (by rw [List.length_map,List.length_range]; exact yfW) ?_
 obtain ⟨cs,hcs⟩:∃cs:List Value,(List.range 1350).map (fun i=>Value.int .u64 (f i:Nat))=cs:=⟨_,rfl⟩
 have h1350:cs.length=1350:=by rw [←hcs,List.length_map,List.length_range]
 have hone:cs.toArray.all (·.oneCell')=true:=by rw [←hcs]; simp [Value.oneCell']
 rw [hcs] at hst hth⊢
 have Hone:=hid hone
 have H1350:=hid h1350
 clear hcs hrg hone h1350
 go_wp2_with (refine wpList_store_mid rfl 129 (.tmp 3) (.tmp 9) rfl w.heap.size 0 cs.toArray rfl rfl hth.out (by rw [List.size_toArray,H1350.out]; exact yfW) Hone.out ?_)
 go_ret
 exact ⟨rfl,hst.out.1,Q3.out.trans (hst.out.2.below (by rintro b rfl; exact zG _) (by omega)),by have:=hst.out.2.size; omega⟩
set_option maxRecDepth 100000 in
set_option maxHeartbeats 3200000 in
theorem yg8 (t:Nat→Nat) (b1:Nat) (y:Value) (J Jx:OwnP) (O:Nat→Prop) (W:World) (ht:∀i,i < 1350→t i < 18446744073709551616)
  (hC:Client2 Tryz.prog y (ybi t 1350) J Jx O W) (hJ:J 0 O W) (hb1:b1 < W.heap.size) (hn1:¬O b1) (hc1:DC W b1 t) (hT:Tab W) (hTO:¬O 0) :
  Calls Tryz.prog 148 #[y, .pointer (some ⟨b1,0,none⟩)] W fun e W'=>(∃v,e= .returned v)∧Told (ybi t 1350) J Jx O W W':=by
 obtain ⟨yf,yi,yc,rfl⟩:=hC.form
 have HC:=hid hC
 have HT:=hid hT
 have hT0:=hT.1
 have HN:=hid hTO
 have HN1:=hid hn1
 obtain ⟨W1,hW1⟩:∃W1,W.alloc (.cells #[.func yf yi yc] 100)=W1:=⟨_,rfl⟩
 have q3:W1.heap.size=W.heap.size+1:=by rw [←hW1]; simp
 have q4:Below W.heap.size W W1:=by rw [←hW1]; exact yaa (Below.refl _ _) (zG _)
 have q5:W1.cell? ⟨W.heap.size,0,none⟩=some (.func yf yi yc):=by rw [←hW1]; simp [go_sem]
 have HD1:=hid (hc1.below q4 hb1)
 have HW1:=hid hW1
 have ey:=hid q5
 have Q4:=hid q4
 have HJ1:Hid (J 0 O W1):=ybl hC.stab hC.lt hJ q4
 have Hlt:=hid (hC.lt 0 O W hJ)
 have Ht:=hid ht
 have tells:=hid (fun i hi b' Ow w (h1:b' < w.heap.size) h2 h3 h4 h5=>yct (t i) b' Ow w (ht i hi) h1 h2 h3 h4 h5)
 clear hC hT hJ hTO q4 q5 hc1 hW1 ht hn1
 refine (wf_calls (r:=none) (n:=1)).mp ?_
 refine callsIn_of_wp_marks Tryz.func148 rfl trivial ?_ rfl
 simp only [Tryz.ntmps148,List.size_toArray,List.length_cons,List.length_nil,Nat.reduceAdd,Nat.reduceSub,Array.replicate_succ,Array.replicate_zero,List.push_toArray,List.append_toArray,List.nil_append,List.cons_append]
 gi_wp2_with fail
 refine ycT ?_
 rw [HW1.out]
 gi_wp2_with fail
 refine wpIn_label ?_
 gi_wp2_with fail
 refine wpIn_loop (fun a' w'=>∃(i:Nat) (u3 u4 u6 u7 u8 u9 u10 u11 u12 u13 u14 u15 u16 u17 u18 u19 u20 u21:Value) (Ds:List Nat) (O':Nat→Prop),i≤1350∧a' = {tmps:=#[.func yf yi yc, .pointer (some ⟨b1,0,none⟩), .pointer (some ⟨W.heap.size,0,none⟩),u3,u4, .int .i64 (i:Nat),u6,u7,u8,u9,u10,u11,u12,u13,u14,u15,u16,u17,u18,u19,u20,u21],defers:=ye1 Ds}∧Hid (J (ybi t i).length O' w'∧Grow O O' W1 w'∧(∀D∈Ds,w'.heap[D]? =some (.deferred (some []))∧¬O' D∧W1.heap.size≤D)∧Ds.Nodup))
  (fun a' _=>1350 - (intOf (a'.tmps.getD 5 undef)).toNat) ?start ?round
 case start=>exact ⟨0,_,_,_,_,_,_,_,_,_,_,_,_,_,_,_,_,_,_,[],O,by omega,rfl,HJ1.out,Grow.refl _ _,fun D h=>(by cases h),List.nodup_nil⟩
 case round=>
  rintro a' w2 ⟨i,u3,u4,u6,u7,u8,u9,u10,u11,u12,u13,u14,u15,u16,u17,u18,u19,u20,u21,Ds,O2,hi,rfl,HI⟩
  by_cases hlt:i < 1350
  ·obtain ⟨hJ2,hG2,hDs,hnd⟩:=HI.out
   have hyl:W.heap.size < W1.heap.size:=by omega
   have nO:¬O W.heap.size:=fun h=>by have:=Hlt.out _ h; omega
   obtain ⟨wA,hwA⟩:∃wA,w2.alloc (.cells #[.int .i64 (i:Nat)] 3)=wA:=⟨_,rfl⟩
   have sA:wA.heap.size=w2.heap.size+1:=by rw [←hwA]; simp
   have bA:Below w2.heap.size w2 wA:=by rw [←hwA]; exact yaa (Below.refl _ _) (zG _)
   have cA:wA.cell? ⟨w2.heap.size,0,none⟩=some (.int .i64 (i:Nat)):=by rw [←hwA]; simp [go_sem]
   have sb1:b1 < w2.heap.size:=by have:=hG2.eff.size; omega
   have eb0:w2.cell? ⟨b1,i,none⟩=some (.int .u64 (t i:Nat)):=((hG2.cell (by omega) HN1.out i).trans (HD1.out i hlt))
   have eb1:(w2.alloc (.cells #[.int .i64 (i:Nat)] 3)).cell? ⟨b1,i,none⟩=some (.int .u64 (t i:Nat)):=by rw [hwA]; exact (bA.cell (p:=⟨b1,i,none⟩) sb1).trans eb0
   have HMA:=yem (t i) wA (Ht.out i hlt)
   rw [sA] at HMA
   have HM:=hid HMA
   have HwA:=hid hwA
   have BA:=hid bA
   have CA:=hid cA
   have hiI:(i:Int) < 1350:=by omega
   clear HMA hwA bA hJ2 hG2 hDs hnd
   gi_wp2_with fail
   rw [HwA.out]
   refine (wf_calls.mpr HM.out).mono ?_
   rintro e w3 ⟨rfl,hm1,hm2,hm3⟩
   have hB23:Below w2.heap.size w2 w3:=BA.out.trans (hm2.mono (by omega))
   have HB23:=hid hB23
   obtain ⟨hJ2,hG2,hDs,hnd⟩:=HI.out
   have hlt2:=HC.out.lt _ _ _ hJ2
   have GG:Hid (Grow O O2 W w3):=(Grow.of_below Q4.out).trans (hG2.trans (Grow.of_below hB23))
   have hT3:=(((HT.out.later Q4.out).eff hG2.eff HN.out).later hB23)
   have tl:=hid (tells.out i hlt (w2.heap.size+1+1) O2 w3 hm3 (fun h=>by have:=hlt2 _ h; omega) hm1 hT3 (hG2.not (b:=0) (by have:=(HT.out.later Q4.out).1; omega) HN.out))
   have ey3:=hid ((hB23.cell (p:=⟨W.heap.size,0,none⟩) (by have:=hG2.eff.size; simp only []; omega)).trans ((hG2.cell hyl nO 0).trans ey.out))
   have ci3:=hid ((hm2.cell (p:=⟨w2.heap.size,0,none⟩) (by simp only []; omega)).trans CA.out)
   have NO2:=hid (And.intro (hG2.not hyl nO) (show¬O2 w2.heap.size from fun h=>by have:=hlt2 _ h; omega))
   have s12:=hG2.eff.size
   have s23:=hB23.size
   have HJ3:Hid (J (ybi t i).length O2 w3):=ybl HC.out.stab HC.out.lt hJ2 hB23
   have HDs:=hid (fun D hD=>(⟨(hB23.block D (yah (hDs D hD).1)).trans (hDs D hD).1,(hDs D hD).2.1,(hDs D hD).2.2,yah (hDs D hD).1⟩:w3.heap[D]? =some (.deferred (some []))∧¬O2 D∧W1.heap.size≤D∧D < w2.heap.size))
   have Hnd:=hid hnd
   have HG12:=hid hG2
   clear hm1 hm2 hB23 hJ2 hG2 hDs hnd hT3 HM cA eb0 eb1 sb1
   gi_wp2_with fail
   refine ya2 (gf:=169) (lb:=#[.pointer (some ⟨w2.heap.size+1+1,0,none⟩)]) rfl ycu (sel (t i).testBit 64) O2 rfl tl.out
    (fun k O W=>J ((ybi t i).length+k) O W) (fun c k O W=>c= .exit 0∧∃q,1≤q∧q≤(ybi t 1350).length∧Jx q O W)
    (fun k O W W' h hs hO=>HC.out.stab _ O W W' h hs hO) (fun c k O W W' h hs hO=>⟨h.1,by obtain ⟨q,h1,h2,h3⟩:=h.2; exact ⟨q,h1,h2,HC.out.stabx _ O W W' h3 hs hO⟩⟩)
    (fun k O W h=>HC.out.lt _ O W h) (fun c k O W h=>by obtain ⟨_,q,h1,h2,h3⟩:=h; exact HC.out.ltx _ O W h3) (by simpa using HJ3.out)
    (fun k O a' W'=>J ((ybi t i).length+k) O W'∧∃x,(sel (t i).testBit 64)[k]? =some x∧a' = {tmps:=#[.func yf yi yc, .pointer (some ⟨b1,0,none⟩), .pointer (some ⟨W.heap.size,0,none⟩), .pointer (some ⟨w2.heap.size,0,none⟩), .int .i64 x, .int .i64 (i:Nat), .bool true, .int .i64 (i:Nat), .int .i64 (i:Nat), .pointer (some ⟨b1,i,none⟩), .int .u64 (t i:Nat), .slice (some ⟨w2.heap.size+1,0,none⟩) 1 1, .func (.func 169) #[] #[.pointer (some ⟨w2.heap.size+1+1,0,none⟩)], .int .i64 x,u14,u15,u16,u17,u18,u19,u20,u21],defers:= []})
    (fun l o k O a' W' hr hn h=>⟨ybd HC.out.stab h.1 hn o,h.2⟩) ?assign ?body ?done ?stop
   case assign=>
    intro l k O6 W6 K hk hJ6 hG6 hK
    gi_wp2
    exact hK _ O6 _ (Grow.refl _ _) ⟨hJ6,_,List.getElem?_eq_getElem hk,rfl⟩
   case body=>
    rintro l3 k O6 a' W6 hk hG6 hl3 hrec6 hnl3 ⟨hJ6,x,ex,rfl⟩
    have ey6:=(hG6.cell (b:=W.heap.size) (by omega) NO2.out.1 0).trans ey3.out
    have ci6:=(hG6.cell (b:=w2.heap.size) (by omega) NO2.out.2 0).trans ci3.out
    have hat:=yhX t 1350 i k hlt hk
    obtain ⟨hidx,hval⟩:=List.getElem?_eq_some_iff.1 hat
    have hcall:=HC.out.call _ O6 W6 hidx hJ6 (GG.out.trans hG6)
    obtain ⟨_,ex'⟩:=List.getElem?_eq_some_iff.1 ex
    have bx:=yd3 (p:=(t i).testBit) k hk
    rw [ex'] at bx
    rw [hval,ex',show ((64 * i:Nat):Int)+x= (i:Int) * 64+x by omega] at hcall
    have Hcall:=hid hcall
    have Hidx:=hid hidx
    obtain ⟨x1,x2⟩:=bx
    clear hcall hidx hval ex' hJ6 hG6 hat ex
    gi_wp2_with (refine callv (.tmp 14) (.tmp 18) _ rfl rfl rfl rfl Hcall.out ?_)
    rintro e W7 O7 h1 h2 h3 hend
    rcases hend with ⟨rfl,hJ7⟩ | ⟨rfl,hJ7⟩
    ·have HJ7:Hid (Grow O6 O7 W6 W7∧J ((ybi t i).length+(k+1)) O7 W7):=⟨⟨h1,h2,h3⟩,hJ7⟩
     clear h1 h2 h3 hJ7
     refine ⟨_,rfl,?_⟩
     gi_wp2
     exact ⟨O7,HJ7.out.1,HJ7.out.2⟩
    ·have HJ7:Hid (Grow O6 O7 W6 W7∧∃q,1≤q∧q≤(ybi t 1350).length∧Jx q O7 W7):=⟨⟨h1,h2,h3⟩,_,by omega,Nat.succ_le_of_lt Hidx.out,hJ7⟩
     clear h1 h2 h3 hJ7
     refine ⟨_,rfl,?_⟩
     gi_wp2
     exact ⟨O7,HJ7.out.1,rfl,HJ7.out.2⟩
   case done=>
    intro O9 w9 hG9 hJ9 hD hnD
    have hall:∀D∈w3.heap.size :: Ds,w9.heap[D]? =some (.deferred (some []))∧¬O9 D∧W1.heap.size≤D:=by
     intro E hE
     rcases List.mem_cons.mp hE with rfl | hE
     ·exact ⟨hD,hnD,by omega⟩
     ·obtain ⟨e1,e2,e3,e4⟩:=HDs.out E hE
      exact ⟨(hG9.eff.block E (by omega) e2).trans e1,hG9.not (by omega) e2,e3⟩
    have hnn:(w3.heap.size :: Ds).Nodup:=List.nodup_cons.mpr ⟨fun h=>by have:=(HDs.out _ h).2.2.2; omega,Hnd.out⟩
    have hlen:(ybi t (i+1)).length= (ybi t i).length+(sel (t i).testBit 64).length:=by rw [ybi,List.length_append,ygl,List.length_map]
    have HE:Hid (J (ybi t (i+1)).length O9 w9∧Grow O O9 W1 w9∧(∀D∈w3.heap.size :: Ds,w9.heap[D]? =some (.deferred (some []))∧¬O9 D∧W1.heap.size≤D)∧(w3.heap.size :: Ds).Nodup):=
     ⟨by rw [hlen]; exact hJ9,HG12.out.trans ((Grow.of_below HB23.out).trans hG9),hall,hnn⟩
    clear hall hnn hlen hJ9 hG9
    gi_wp2
    exact ⟨⟨i+1,_,_,_,_,_,_,_,_,_,_,_,_,_,_,_,_,_,_,w3.heap.size :: Ds,O9,by omega,rfl,HE.out⟩,by simp [intOf]; omega⟩
   case stop=>
    rintro c k O9 w9 hk1 hk2 hG9 ⟨rfl,q,hq1,hq2,hJ9⟩ hD hnD
    have hall:∀D∈w3.heap.size :: Ds,w9.heap[D]? =some (.deferred (some []))∧¬O9 D∧W1.heap.size≤D:=by
     intro E hE
     rcases List.mem_cons.mp hE with rfl | hE
     ·exact ⟨hD,hnD,by omega⟩
     ·obtain ⟨e1,e2,e3,e4⟩:=HDs.out E hE
      exact ⟨(hG9.eff.block E (by omega) e2).trans e1,hG9.not (by omega) e2,e3⟩
    have hnn:(w3.heap.size :: Ds).Nodup:=List.nodup_cons.mpr ⟨fun h=>by have:=(HDs.out _ h).2.2.2; omega,Hnd.out⟩
    have hG:=GG.out.trans hG9
    gi_wp2
    rw [Exit.noGoto_normal]
    refine yaF (by simp) (w3.heap.size :: Ds) w9 hnn (fun D hD=>(hall D hD).1) ?_
    intro w' e1 e2 e3 e4 e5
    exact ⟨_,results_none rfl _ _ _,⟨_,rfl⟩,O9,hG.sub,hG.new,ybz hG.eff (fun D hD=>by have:=(hall D hD).2.2; omega) e1 e2 e3 e4 e5, .inr ⟨q,hq1,hq2,ye6 HC.out.stabx hJ9 (fun D hD=>(hall D hD).2.1) e4 e5⟩⟩
  ·obtain rfl:i=1350:=by omega
   obtain ⟨hJ2,hG2,hDs,hnd⟩:=HI.out
   have hG:=(Grow.of_below (O:=O) Q4.out).trans hG2
   have HH:=hid (And.intro hJ2 (And.intro hG (And.intro hDs hnd)))
   clear hJ2 hG2 hDs hnd hG
   gi_wp2
   rw [Exit.noGoto_normal]
   obtain ⟨hJ2,hG,hDs,hnd⟩:=HH.out
   refine yaF (by simp) Ds w2 hnd (fun D hD=>(hDs D hD).1) ?_
   intro w' e1 e2 e3 e4 e5
   exact ⟨_,results_none rfl _ _ _,⟨_,rfl⟩,O2,hG.sub,hG.new,ybz hG.eff (fun D hD=>by have:=(hDs D hD).2.2; omega) e1 e2 e3 e4 e5, .inl (ye6 HC.out.stab hJ2 (fun D hD=>(hDs D hD).2.1) e4 e5)⟩
end
end Go.Proofs.YtkpgfmonhfnhdaaGreatDoor
