/-
  The function that tod.All makes tells the seconds of its masks: three ranges over functions, one within the other.
  The numbers of a set of seven words, word by word and as one rising list.
  The function that wide.All makes tells a set's numbers, word by word.
  The law of a range over a function whose yield takes any values, for a client that may ask what has turned.
  A call of a function value with two arguments.
  A set of blocks.
  What a disc's calls do to the seconds that it has: one second put in, one disc joined, its length, its next second, its telling.
-/
import Derived.Test.YthimhfmnikfgaaaGreatDoorQ617c56
import Derived.WalkMore
import Derived.Test.YthimhfmnikfgaaaGreatDoorQ4acd54
import Derived.Test.YthimhfmnikfgaaaGreatDoorQ7a4f8b
namespace Go.Proofs.YthimhfmnikfgaaaGreatDoor
set_option linter.unusedVariables false
section
open Go.RowKit
attribute [local go_sem] Oper.semAt_some
theorem secRow_get (h m:Int) (S:List Int) (k:Nat) (hk:k < S.length):(secRow h m S)[k]? =some (3600 * h+60 * m+S[k]):=by
 simp [secRow,List.getElem?_eq_getElem hk]
theorem secHour_get (h:Int) (S:List Int) (k:Nat) (hk:k < S.length):∀(M:List Int) (j:Nat) (hj:j < M.length),(secHour h M S)[j * S.length+k]? =some (3600 * h+60 * M[j]+S[k])
 | m :: M,0,_=>by
   have e:secHour h (m :: M) S=secRow h m S ++ secHour h M S:=by simp [secHour]
   rw [e,List.getElem?_append_left (by rw [secRow_len]; omega),Nat.zero_mul,Nat.zero_add,secRow_get h m S k hk]; rfl
 | m :: M,j+1,hj=>by
   have e:secHour h (m :: M) S=secRow h m S ++ secHour h M S:=by simp [secHour]
   have e2:(j+1) * S.length+k=S.length+(j * S.length+k):=by rw [Nat.succ_mul]; omega
   rw [e,e2,List.getElem?_append_right (by rw [secRow_len]; omega),secRow_len,Nat.add_sub_cancel_left,secHour_get h S k hk M j (by simpa using hj)]; rfl
theorem secs_get' (M S:List Int) (j k:Nat) (hj:j < M.length) (hk:k < S.length):∀(H:List Int) (i:Nat) (hi:i < H.length),(secs H M S)[i * (M.length * S.length)+j * S.length+k]? =some (3600 * H[i]+60 * M[j]+S[k])
 | h :: H,0,_=>by
   have e:secs (h :: H) M S=secHour h M S ++ secs H M S:=by simp [secs]
   have hlt:j * S.length+k < M.length * S.length:=by
    have:(j+1) * S.length≤M.length * S.length:=Nat.mul_le_mul_right _ hj
    rw [Nat.succ_mul] at this; omega
   rw [e,Nat.zero_mul,Nat.zero_add,List.getElem?_append_left (by rw [secHour_len]; exact hlt),secHour_get h S k hk M j hj]; rfl
 | h :: H,i+1,hi=>by
   have e:secs (h :: H) M S=secHour h M S ++ secs H M S:=by simp [secs]
   have e2:(i+1) * (M.length * S.length)+j * S.length+k=M.length * S.length+(i * (M.length * S.length)+j * S.length+k):=by rw [Nat.succ_mul]; omega
   rw [e,e2,List.getElem?_append_right (by rw [secHour_len]; omega),secHour_len,Nat.add_sub_cancel_left,secs_get' M S j k hj hk H i (by simpa using hi)]; rfl
theorem secs_get (H M S:List Int) (i j k:Nat) (hi:i < H.length) (hj:j < M.length) (hk:k < S.length) :
  ∃h:i * (M.length * S.length)+j * S.length+k < (secs H M S).length,(secs H M S)[i * (M.length * S.length)+j * S.length+k]=3600 * H[i]+60 * M[j]+S[k]:=by
 obtain ⟨h,e⟩:=List.getElem?_eq_some_iff.1 (secs_get' M S j k hj hk H i hi)
 exact ⟨h,e⟩
theorem putObj_cell {W:World} {l:Nat} {o:Obj} {b i:Nat} {v:Value} (hr:∃r,W.heap[l]? =some (.loop r)) (h:W.cell? ⟨b,i,none⟩=some v):(W.putObj l o).cell? ⟨b,i,none⟩=some v:=by
 refine (World.cell?_of_block (w:=W) (a:=⟨b,i,none⟩) (World.putObj_heap_other (fun e=>?_))).trans h
 obtain ⟨r,hr⟩:=hr
 simp only at e
 subst e
 rw [World.cell?] at h
 simp [hr] at h
theorem MAll_one (m:Nat) (W:World) (hm:m < 18446744073709551616):Calls Tryz.prog 152 #[.slice (some ⟨W.heap.size,0,none⟩) 1 1] (W.alloc (.cells #[.int .u64 m] 29)) fun e w'=>
  e= .returned (.func (.func 182) #[] #[.pointer (some ⟨W.heap.size+1,0,none⟩)])∧w'.cell? ⟨W.heap.size+1,0,none⟩=some (.int .u64 m)∧Below W.heap.size W w'∧W.heap.size+1 < w'.heap.size:=by
 have h:=MAll_any (some ⟨W.heap.size,0,none⟩) 1 [m] (W.alloc (.cells #[.int .u64 m] 29)) (by simp) (.inr ⟨W.heap.size,0,rfl,by simp,fun j hj=>by simp [u64s] at hj⊢; subst hj; simp [go_sem]⟩) (by simpa using hm)
 rw [andM_one hm,World.size_alloc] at h
 exact h.mono fun e w' ⟨h1,h2,h3,h4⟩=>⟨h1,h2,(below_new (Below.refl _ _) (zG _)).trans (h3.mono (by omega)),h4⟩
theorem Grow.of_below {O:Nat→Prop} {W W':World} (h:Below W.heap.size W W'):Grow O O W W':=⟨fun _ h=>h,fun _ h=> .inl h,Eff.of_below h⟩
theorem stab_below {I:OwnP} (hI:StabO I) (hl:LtO I) {k:Nat} {O:Nat→Prop} {W W':World} (h:I k O W) (hb:Below W.heap.size W W'):I k O W':=hI k O W W' h hb.size (fun b hb2=>hb.block b (hl k O W h b hb2))
theorem stab_put {I:OwnP} (hI:StabO I) {k:Nat} {O:Nat→Prop} {W:World} (h:I k O W) {l:Nat} (hn:¬O l) (o:Obj):I k O (W.putObj l o):=
 hI k O W _ h (by rw [World.putObj_size]; exact zG _) (fun b hb=>World.putObj_heap_other (fun e=>hn (e ▸ hb)))
set_option maxRecDepth 100000 in
set_option maxHeartbeats 3200000 in
theorem TodIter_any (a b c bh bm bs:Nat) (y:Value) (J Jx:OwnP) (O:Nat→Prop) (W:World) (ha:a < 18446744073709551616) (hb:b < 18446744073709551616) (hc:c < 18446744073709551616)
  (hC:Client2 Tryz.prog y (secs (sel a.testBit 64) (sel b.testBit 64) (sel c.testBit 64)) J Jx O W) (hJ:J 0 O W)
  (hbh:bh < W.heap.size) (hbm:bm < W.heap.size) (hbs:bs < W.heap.size) (hnh:¬O bh) (hnm:¬O bm) (hns:¬O bs)
  (hch:W.cell? ⟨bh,0,none⟩=some (.int .u64 a)) (hcm:W.cell? ⟨bm,0,none⟩=some (.int .u64 b)) (hcs:W.cell? ⟨bs,0,none⟩=some (.int .u64 c)) (hT:Tab W) (hTO:¬O 0) :
  Calls Tryz.prog 210 #[y, .pointer (some ⟨bh,0,none⟩), .pointer (some ⟨bm,0,none⟩), .pointer (some ⟨bs,0,none⟩)] W fun e W'=>(∃v,e= .returned v)∧Told (secs (sel a.testBit 64) (sel b.testBit 64) (sel c.testBit 64)) J Jx O W W':=by
 obtain ⟨yf,yi,yc,rfl⟩:=hC.form
 have HC:=hid hC
 have HT:=hid hT
 have hT0:=hT.1
 have HN:=hid (And.intro hnm (And.intro hns hTO))
 obtain ⟨W1,hW1⟩:∃W1,W.alloc (.cells #[.func yf yi yc] 148)=W1:=⟨_,rfl⟩
 have q3:W1.heap.size=W.heap.size+1:=by rw [←hW1]; simp
 have q4:Below W.heap.size W W1:=by rw [←hW1]; exact below_new (Below.refl _ _) (zG _)
 have q5:W1.cell? ⟨W.heap.size,0,none⟩=some (.func yf yi yc):=by rw [←hW1]; simp [go_sem]
 have hMA:=MAll_one a W1 ha
 rw [q3] at hMA
 have HM:=hid hMA
 have HW1:=hid hW1
 have ey:=hid q5
 have hch1:=(q4.cell (p:=⟨bh,0,none⟩) hbh).trans hch
 have Q4:=hid q4
 have Hm:=hid hcm
 have Hs:=hid hcs
 have HJ:=hid hJ
 have hlt:=hC.lt 0 O W hJ
 have Hlt:=hid hlt
 have lH:=sel_len a.testBit 64
 have lM:=sel_len b.testBit 64
 have lS:=sel_len c.testBit 64
 have bH:=hid (fun k hk=>sel_bd (p:=a.testBit) k hk)
 have bM:=hid (fun k hk=>sel_bd (p:=b.testBit) k hk)
 have bS:=hid (fun k hk=>sel_bd (p:=c.testBit) k hk)
 have tells1:=hid (fun b' Ow w (h1:b' < w.heap.size) h2 h3 h4 h5=>mask_tells2 a b' Ow w ha h1 h2 h3 h4 h5)
 have tells2:=hid (fun b' Ow w (h1:b' < w.heap.size) h2 h3 h4 h5=>mask_tells2 b b' Ow w hb h1 h2 h3 h4 h5)
 have tells3:=hid (fun b' Ow w (h1:b' < w.heap.size) h2 h3 h4 h5=>mask_tells2 c b' Ow w hc h1 h2 h3 h4 h5)
 obtain ⟨H,eH⟩:∃l,sel a.testBit 64=l:=⟨_,rfl⟩
 obtain ⟨M,eM⟩:∃l,sel b.testBit 64=l:=⟨_,rfl⟩
 obtain ⟨S,eS⟩:∃l,sel c.testBit 64=l:=⟨_,rfl⟩
 rw [eH] at lH bH tells1 HC⊢
 rw [eM] at lM bM tells2 HC⊢
 rw [eS] at lS bS tells3 HC⊢
 clear eH eM eS hMA hC hT hnh hnm hns hTO q4 q5 hch hcm hcs hW1 hJ hlt
 refine (wf_calls (r:=none) (n:=1)).mp ?_
 refine callsIn_of_wp_marks Tryz.func210 rfl trivial ?_ rfl
 simp only [Tryz.ntmps210,List.size_toArray,List.length_cons,List.length_nil,Nat.reduceAdd,Nat.reduceSub,Array.replicate_succ,Array.replicate_zero,List.push_toArray,List.append_toArray,List.nil_append,List.cons_append]
 gi_wp2_with fail
 refine wpIn_scope ?_
 rw [HW1.out]
 gi_wp2_with fail
 refine wpIn_label ?_
 gi_wp2_with fail
 refine (wf_calls.mpr HM.out).mono ?_
 rintro e w1 ⟨rfl,hm1,hm2,hm3⟩
 have hB1:Below W.heap.size W w1:=Q4.out.trans (hm2.mono (by omega))
 have HB1:=hid hB1
 have HG1:Hid (Grow O O W w1):=Grow.of_below hB1
 have ey1:=hid ((hm2.cell (p:=⟨W.heap.size,0,none⟩) (by simp only []; omega)).trans ey.out)
 have HJ1:Hid (J 0 O w1):=stab_below HC.out.stab HC.out.lt HJ.out hB1
 have tl1:=hid (tells1.out (W.heap.size+2) O w1 hm3 (fun h=>by have:=Hlt.out _ h; omega) hm1 (HT.out.later hB1) HN.out.2.2)
 clear hm1 hm2 hB1
 gi_wp2_with fail
 refine range_outer2 (gf:=182) (lb:=#[.pointer (some ⟨W.heap.size+2,0,none⟩)]) rfl mask_enters H O rfl tl1.out
  (fun i O W=>J (i * (M.length * S.length)) O W) (fun c i O W=>c= .exit 0∧∃q,1≤q∧q≤(secs H M S).length∧Jx q O W)
  (fun k O W W' h hs hO=>HC.out.stab _ O W W' h hs hO) (fun c k O W W' h hs hO=>⟨h.1,by obtain ⟨q,h1,h2,h3⟩:=h.2; exact ⟨q,h1,h2,HC.out.stabx _ O W W' h3 hs hO⟩⟩)
  (fun k O W h=>HC.out.lt _ O W h) (fun c k O W h=>by obtain ⟨_,q,h1,h2,h3⟩:=h; exact HC.out.ltx _ O W h3) (by simpa using HJ1.out)
  (fun i O a' W'=>J (i * (M.length * S.length)) O W'∧∃bx h,H[i]? =some h∧W'.cell? ⟨bx,0,none⟩=some (.int .i64 h)∧¬O bx∧bx < W'.heap.size∧
    a' = {tmps:=#[.func yf yi yc, .pointer (some ⟨bh,0,none⟩), .pointer (some ⟨bm,0,none⟩), .pointer (some ⟨bs,0,none⟩), .pointer (some ⟨W.heap.size,0,none⟩), .pointer (some ⟨bx,0,none⟩),undef,undef, .int .u64 a, .slice (some ⟨W.heap.size+1,0,none⟩) 1 1, .func (.func 182) #[] #[.pointer (some ⟨W.heap.size+1+1,0,none⟩)], .int .i64 h,undef,undef,undef,undef,undef,undef,undef,undef,undef,undef,undef,undef,undef,undef,undef,undef,undef,undef],defers:= []})
  (fun l o k O a' W' hr hn h=>⟨stab_put HC.out.stab h.1 hn o,by obtain ⟨bx,h,h0,h1,h2,h3,h4⟩:=h.2; exact ⟨bx,h,h0,putObj_cell hr h1,h2,by rw [World.putObj_size]; exact h3,h4⟩⟩) ?assign ?body ?done ?stop
 case assign=>
  intro l i O2 W2 K hi hJ2 hG2 hK
  have hlt2:=HC.out.lt _ _ _ hJ2
  gi_wp2
  have hbel:Below W2.heap.size W2 (W2.alloc (.cells #[.int .i64 H[i]] 3)):=below_new (Below.refl _ _) (zG _)
  exact hK _ O2 _ (Grow.of_below hbel) ⟨stab_below HC.out.stab HC.out.lt hJ2 hbel,W2.heap.size,H[i],List.getElem?_eq_getElem hi,by simp [go_sem],fun h=>by have:=hlt2 _ h; omega,by simp,rfl⟩
 case done=>
  intro O2 W2 hG2 hJ2 hD hnD
  have hG:=HG1.out.trans hG2
  have hJ3:J (secs H M S).length O2 W2:=by rw [secs_len]; exact hJ2
  gi_wp2
  rw [Exit.noGoto_normal]
  refine ⟨by simp, .inl ⟨_,_,rfl,run_takeDeferred hD,?_⟩⟩
  exact ⟨_,results_none rfl _ _ _,⟨_,rfl⟩,O2,hG.sub,hG.new,hG.eff.putObj (.inr (by have:=HB1.out.size; omega)) _, .inl (stab_put HC.out.stab hJ3 hnD _)⟩
 case stop=>
  rintro c i O2 W2 hi1 hi2 hG2 ⟨rfl,q,hq1,hq2,hJ2⟩ hD hnD
  have hG:=HG1.out.trans hG2
  gi_wp2
  rw [Exit.noGoto_normal]
  refine ⟨by simp, .inl ⟨_,_,rfl,run_takeDeferred hD,?_⟩⟩
  exact ⟨_,results_none rfl _ _ _,⟨_,rfl⟩,O2,hG.sub,hG.new,hG.eff.putObj (.inr (by have:=HB1.out.size; omega)) _, .inr ⟨q,hq1,hq2,stab_put HC.out.stabx hJ2 hnD _⟩⟩
 case body=>
  rintro l i O2 a' W2 hi hG2 hl hrec hnl ⟨hJ2,bx,h,eh,ch,nh,lh,rfl⟩
  have hyl:W.heap.size < w1.heap.size:=by omega
  have nO:¬O W.heap.size:=fun h=>by have:=Hlt.out _ h; omega
  have ey2:=(hG2.cell hyl nO 0).trans ey1.out
  have em2:=(hG2.cell (by omega) HN.out.1 0).trans ((HB1.out.cell (p:=⟨bm,0,none⟩) hbm).trans Hm.out)
  have es2:=(hG2.cell (by omega) HN.out.2.1 0).trans ((HB1.out.cell (p:=⟨bs,0,none⟩) hbs).trans Hs.out)
  have hT2:=(HT.out.later HB1.out).eff hG2.eff HN.out.2.2
  have NO2:=hid (And.intro (hG2.not hyl nO) (And.intro (hG2.not (b:=bs) (by omega) HN.out.2.1) (hG2.not (b:=0) (by have:=(HT.out.later HB1.out).1; omega) HN.out.2.2)))
  have hsz2:=hG2.eff.size
  have hlt2:=HC.out.lt _ _ _ hJ2
  have GG2:Hid (Grow O O2 W W2):=HG1.out.trans hG2
  have HM2:=hid (MAll_one b W2 hb)
  have HJ2:=hid hJ2
  clear HM HG1 tells1 tl1 hG2 hJ2
  gi_wp2_with fail
  refine (wf_calls.mpr HM2.out).mono ?_
  rintro e w3 ⟨rfl,hn1,hn2,hn3⟩
  have hrec3:∃r,w3.heap[l]? =some (.loop r):=by obtain ⟨r,hr⟩:=hrec; exact ⟨r,(hn2.block l (heap_lt hr)).trans hr⟩
  have HG3:Hid (Grow O2 O2 W2 w3):=Grow.of_below hn2
  have tl2:=hid (tells2.out (W2.heap.size+1) O2 w3 hn3 (fun h=>by have:=hlt2 _ h; omega) hn1 (hT2.later hn2) NO2.out.2.2)
  have HJ3:Hid (J (i * (M.length * S.length)) O2 w3):=stab_below HC.out.stab HC.out.lt HJ2.out hn2
  have ey3:=hid ((hn2.cell (p:=⟨W.heap.size,0,none⟩) (by simp only []; omega)).trans ey2)
  have es3:=hid ((hn2.cell (p:=⟨bs,0,none⟩) (by simp only []; omega)).trans es2)
  have ch3:=hid ((hn2.cell (p:=⟨bx,0,none⟩) lh).trans ch)
  have HT3:=hid (hT2.later hn2)
  have hsz3:=hn2.size
  clear hn1 hn2 ey2 em2 es2 ch hT2 HM2
  gi_wp2_with fail
  refine range_inner2 (gf:=182) (lb:=#[.pointer (some ⟨W2.heap.size+1,0,none⟩)]) hrec3 rfl mask_enters M O2 rfl tl2.out
   (fun j O W=>J (i * (M.length * S.length)+j * S.length) O W) (fun c j O W=>c= .exit 0∧∃q,1≤q∧q≤(secs H M S).length∧Jx q O W)
   (fun k O W W' h hs hO=>HC.out.stab _ O W W' h hs hO) (fun c k O W W' h hs hO=>⟨h.1,by obtain ⟨q,h1,h2,h3⟩:=h.2; exact ⟨q,h1,h2,HC.out.stabx _ O W W' h3 hs hO⟩⟩)
   (fun k O W h=>HC.out.lt _ O W h) (fun c k O W h=>by obtain ⟨_,q,h1,h2,h3⟩:=h; exact HC.out.ltx _ O W h3) (by simpa using HJ3.out)
   (fun j O a' W'=>J (i * (M.length * S.length)+j * S.length) O W'∧∃bz m,M[j]? =some m∧W'.cell? ⟨bz,0,none⟩=some (.int .i64 m)∧¬O bz∧bz < W'.heap.size∧
     a' = {tmps:=#[.func yf yi yc, .pointer (some ⟨bh,0,none⟩), .pointer (some ⟨bm,0,none⟩), .pointer (some ⟨bs,0,none⟩), .pointer (some ⟨W.heap.size,0,none⟩), .pointer (some ⟨bx,0,none⟩), .pointer (some ⟨bz,0,none⟩),undef, .int .u64 a, .slice (some ⟨W.heap.size+1,0,none⟩) 1 1, .func (.func 182) #[] #[.pointer (some ⟨W.heap.size+1+1,0,none⟩)], .int .i64 h, .int .u64 b, .slice (some ⟨W2.heap.size,0,none⟩) 1 1, .func (.func 182) #[] #[.pointer (some ⟨W2.heap.size+1,0,none⟩)], .int .i64 m,undef,undef,undef,undef,undef,undef,undef,undef,undef,undef,undef,undef,undef,undef],defers:= []})
   (fun l o k O a' W' hr hn h=>⟨stab_put HC.out.stab h.1 hn o,by obtain ⟨bx,h,h0,h1,h2,h3,h4⟩:=h.2; exact ⟨bx,h,h0,putObj_cell hr h1,h2,by rw [World.putObj_size]; exact h3,h4⟩⟩) ?assign2 ?body2 ?done2 ?stop2
  case assign2=>
   intro l j O4 W4 K hj hJ4 hG4 hK
   have hlt4:=HC.out.lt _ _ _ hJ4
   gi_wp2
   have hbel:Below W4.heap.size W4 (W4.alloc (.cells #[.int .i64 M[j]] 3)):=below_new (Below.refl _ _) (zG _)
   exact hK _ O4 _ (Grow.of_below hbel) ⟨stab_below HC.out.stab HC.out.lt hJ4 hbel,W4.heap.size,M[j],List.getElem?_eq_getElem hj,by simp [go_sem],fun h=>by have:=hlt4 _ h; omega,by simp,rfl⟩
  case done2=>
   intro O4 W4 hG4 hJ4
   gi_wp2
   exact ⟨O4,HG3.out.trans hG4,by show J ((i+1) * (M.length * S.length)) O4 W4; rw [show (i+1) * (M.length * S.length)=i * (M.length * S.length)+M.length * S.length from Nat.succ_mul _ _]; exact hJ4⟩
  case stop2=>
   rintro c j O4 W4 hj1 hj2 hG4 ⟨rfl,q,hq1,hq2,hJ4⟩
   gi_wp2
   exact ⟨O4,HG3.out.trans hG4,rfl,q,hq1,hq2,hJ4⟩
  case body2=>
   rintro l2 j O4 a' W4 hj hG4 hl2 hrec4 hnl2 ⟨hJ4,bz,m,em,cm,nm,lm,rfl⟩
   have ey4:=(hG4.cell (by omega) NO2.out.1 0).trans ey3.out
   have es4:=(hG4.cell (by omega) NO2.out.2.1 0).trans es3.out
   have ch4:=(hG4.cell (b:=bx) (by omega) nh 0).trans ch3.out
   have hT4:=HT3.out.eff hG4.eff NO2.out.2.2
   have NO4:=hid (And.intro (hG4.not (b:=W.heap.size) (by omega) NO2.out.1) (And.intro (hG4.not (b:=bx) (by omega) nh) (hG4.not (b:=0) (by have:=HT3.out.1; omega) NO2.out.2.2)))
   have hsz4:=hG4.eff.size
   have hlt4:=HC.out.lt _ _ _ hJ4
   have GG4:Hid (Grow O O4 W W4):=GG2.out.trans (HG3.out.trans hG4)
   have HM4:=hid (MAll_one c W4 hc)
   have HJ4:=hid hJ4
   clear tells2 tl2 hG4 hJ4
   gi_wp2_with fail
   refine (wf_calls.mpr HM4.out).mono ?_
   rintro e w5 ⟨rfl,hn1,hn2,hn3⟩
   have hrec5:∃r,w5.heap[l2]? =some (.loop r):=by obtain ⟨r,hr⟩:=hrec4; exact ⟨r,(hn2.block l2 (heap_lt hr)).trans hr⟩
   have HG5:Hid (Grow O4 O4 W4 w5):=Grow.of_below hn2
   have tl3:=hid (tells3.out (W4.heap.size+1) O4 w5 hn3 (fun h=>by have:=hlt4 _ h; omega) hn1 (hT4.later hn2) NO4.out.2.2)
   have HJ5:Hid (J (i * (M.length * S.length)+j * S.length) O4 w5):=stab_below HC.out.stab HC.out.lt HJ4.out hn2
   have ey5:=hid ((hn2.cell (p:=⟨W.heap.size,0,none⟩) (by simp only []; omega)).trans ey4)
   have ch5:=hid ((hn2.cell (p:=⟨bx,0,none⟩) (by simp only []; omega)).trans ch4)
   have cm5:=hid ((hn2.cell (p:=⟨bz,0,none⟩) lm).trans cm)
   have hsz5:=hn2.size
   clear hn1 hn2 ey4 es4 ch4 cm hT4 HM4
   gi_wp2_with fail
   refine range_inner2 (gf:=182) (lb:=#[.pointer (some ⟨W4.heap.size+1,0,none⟩)]) hrec5 rfl mask_enters S O4 rfl tl3.out
    (fun k O W=>J (i * (M.length * S.length)+j * S.length+k) O W) (fun c k O W=>c= .exit 0∧∃q,1≤q∧q≤(secs H M S).length∧Jx q O W)
    (fun k O W W' h hs hO=>HC.out.stab _ O W W' h hs hO) (fun c k O W W' h hs hO=>⟨h.1,by obtain ⟨q,h1,h2,h3⟩:=h.2; exact ⟨q,h1,h2,HC.out.stabx _ O W W' h3 hs hO⟩⟩)
    (fun k O W h=>HC.out.lt _ O W h) (fun c k O W h=>by obtain ⟨_,q,h1,h2,h3⟩:=h; exact HC.out.ltx _ O W h3) (by simpa using HJ5.out)
    (fun k O a' W'=>J (i * (M.length * S.length)+j * S.length+k) O W'∧∃s,S[k]? =some s∧
      a' = {tmps:=#[.func yf yi yc, .pointer (some ⟨bh,0,none⟩), .pointer (some ⟨bm,0,none⟩), .pointer (some ⟨bs,0,none⟩), .pointer (some ⟨W.heap.size,0,none⟩), .pointer (some ⟨bx,0,none⟩), .pointer (some ⟨bz,0,none⟩), .int .i64 s, .int .u64 a, .slice (some ⟨W.heap.size+1,0,none⟩) 1 1, .func (.func 182) #[] #[.pointer (some ⟨W.heap.size+1+1,0,none⟩)], .int .i64 h, .int .u64 b, .slice (some ⟨W2.heap.size,0,none⟩) 1 1, .func (.func 182) #[] #[.pointer (some ⟨W2.heap.size+1,0,none⟩)], .int .i64 m, .int .u64 c, .slice (some ⟨W4.heap.size,0,none⟩) 1 1, .func (.func 182) #[] #[.pointer (some ⟨W4.heap.size+1,0,none⟩)], .int .i64 s,undef,undef,undef,undef,undef,undef,undef,undef,undef,undef],defers:= []})
    (fun l o k O a' W' hr hn h=>⟨stab_put HC.out.stab h.1 hn o,h.2⟩) ?assign3 ?body3 ?done3 ?stop3
   case assign3=>
    intro l k O6 W6 K hk hJ6 hG6 hK
    gi_wp2
    exact hK _ O6 _ (Grow.refl _ _) ⟨hJ6,S[k],List.getElem?_eq_getElem hk,rfl⟩
   case done3=>
    intro O6 W6 hG6 hJ6
    gi_wp2
    exact ⟨O6,HG5.out.trans hG6,by show J (i * (M.length * S.length)+(j+1) * S.length) O6 W6; rw [show i * (M.length * S.length)+(j+1) * S.length=i * (M.length * S.length)+j * S.length+S.length by rw [Nat.succ_mul]; omega]; exact hJ6⟩
   case stop3=>
    rintro c k O6 W6 hk1 hk2 hG6 ⟨rfl,q,hq1,hq2,hJ6⟩
    gi_wp2
    exact ⟨O6,HG5.out.trans hG6,rfl,q,hq1,hq2,hJ6⟩
   case body3=>
    rintro l3 k O6 a' W6 hk hG6 hl3 hrec6 hnl3 ⟨hJ6,s,es,rfl⟩
    have ey6:=(hG6.cell (b:=W.heap.size) (by omega) NO4.out.1 0).trans ey5.out
    have ch6:=(hG6.cell (b:=bx) (by omega) NO4.out.2.1 0).trans ch5.out
    have cm6:=(hG6.cell (b:=bz) (by omega) nm 0).trans cm5.out
    obtain ⟨hidx,hval⟩:=secs_get H M S i j k hi hj hk
    have hcall:=HC.out.call _ O6 W6 hidx hJ6 (GG4.out.trans (HG5.out.trans hG6))
    obtain ⟨_,eh'⟩:=List.getElem?_eq_some_iff.1 eh
    obtain ⟨_,em'⟩:=List.getElem?_eq_some_iff.1 em
    obtain ⟨_,es'⟩:=List.getElem?_eq_some_iff.1 es
    have bh1:=bH.out i hi
    have bm1:=bM.out j hj
    have bs1:=bS.out k hk
    rw [eh'] at bh1
    rw [em'] at bm1
    rw [es'] at bs1
    rw [hval,eh',em',es',show 3600 * h+60 * m+s=h * 3600+m * 60+s by omega] at hcall
    have Hcall:=hid hcall
    have Hidx:=hid hidx
    obtain ⟨x1,x2⟩:=bh1
    obtain ⟨x3,x4⟩:=bm1
    obtain ⟨x5,x6⟩:=bs1
    clear hcall hidx hval eh' em' es' hJ6 hG6 tells3 tl3
    gi_wp2_with (refine callv (.tmp 20) (.tmp 27) _ rfl rfl rfl rfl Hcall.out ?_)
    rintro e W7 O7 h1 h2 h3 hend
    rcases hend with ⟨rfl,hJ7⟩ | ⟨rfl,hJ7⟩
    ·have HJ7:Hid (Grow O6 O7 W6 W7∧J (i * (M.length * S.length)+j * S.length+(k+1)) O7 W7):=⟨⟨h1,h2,h3⟩,hJ7⟩
     clear h1 h2 h3 hJ7
     refine ⟨_,rfl,?_⟩
     gi_wp2
     exact ⟨O7,HJ7.out.1,HJ7.out.2⟩
    ·have HJ7:Hid (Grow O6 O7 W6 W7∧∃q,1≤q∧q≤(secs H M S).length∧Jx q O7 W7):=⟨⟨h1,h2,h3⟩,_,by omega,Nat.succ_le_of_lt Hidx.out,hJ7⟩
     clear h1 h2 h3 hJ7
     refine ⟨_,rfl,?_⟩
     gi_wp2
     exact ⟨O7,HJ7.out.1,rfl,HJ7.out.2⟩
end
section
open Go.RowKit
def wsel (s:Nat→Nat):List Int:=sel (bitW s) 400
end
section
open Go.RowKit
attribute [local go_sem] Oper.semAt_some
def marks (Ds:List Nat):List Deferred:=Ds.map fun D=>{target:= .collected D,args:=#[]}
theorem leaves_marks {F:Fence} {n:Nat} {P:Program} {fn:Func} {tmps:Array Value} {R:Ending→World→Prop} {u:FrameMode} (hu:u≠ .run):∀(Ds:List Nat) (w:World),Ds.Nodup→(∀D∈Ds,w.heap[D]? =some (.deferred (some [])))→
  (∀w':World,w'.os=w.os→w'.tape=w.tape→w'.output=w.output→w'.heap.size=w.heap.size→(∀b,b ∉ Ds→w'.heap[b]? =w.heap[b]?)→LeavesInM F n P fn tmps R [] u w')→LeavesInM F n P fn tmps R (marks Ds) u w
 | [],w,_,_,h=>h w rfl rfl rfl rfl (fun _ _=>rfl)
 | D :: Ds,w,hn,hD,h=>by
   rw [List.nodup_cons] at hn
   refine ⟨hu, .inl ⟨D,_,rfl,run_takeDeferred (hD D (by simp)),?_⟩⟩
   refine leaves_marks hu Ds _ hn.2 (fun E hE=>(World.putObj_heap_other (fun e=>hn.1 (by rw [←e]; exact hE))).trans (hD E (by simp [hE]))) (fun w' h1 h2 h3 h4 h5=>h w' h1 h2 h3 (by rw [h4,World.putObj_size]) (fun b hb=>?_))
   simp only [List.mem_cons,not_or] at hb
   exact (h5 b hb.2).trans (World.putObj_heap_other hb.1)
theorem eff_marks {O:Nat→Prop} {W w w':World} {Ds:List Nat} (h:Eff O W w) (hn:∀D∈Ds,W.heap.size≤D) (h1:w'.os=w.os) (h2:w'.tape=w.tape) (h3:w'.output=w.output) (hs:w'.heap.size=w.heap.size) (hb:∀b,b ∉ Ds→w'.heap[b]? =w.heap[b]?):Eff O W w':=
 ⟨h1.trans h.os,h2.trans h.tape,h3.trans h.output,by rw [hs]; exact h.size,fun k hk hno=>(hb k (fun h4=>by have:=hn k h4; omega)).trans (h.block k hk hno)⟩
end
section
open Go.RowKit
structure ClientV (P:Program) (y:Value) (xs:List (Array Value)) (J Jx:OwnP) (O0:Nat→Prop) (W0:World):Prop where
 form:∃f fi cap,y= .func f fi cap
 stab:StabO J
 stabx:StabO Jx
 lt:LtO J
 ltx:LtO Jx
 call:∀k O W,(hk:k < xs.length)→J k O W→Grow O0 O W0 W→CallV P y xs[k] W fun e W'=>∃O':Nat→Prop,(∀b,O b→O' b)∧(∀b,O' b→O b∨W.heap.size≤b)∧Eff O W W'∧
  ((e= .returned (.bool true)∧J (k+1) O' W')∨(e= .returned (.bool false)∧Jx (k+1) O' W'))
def ToldV (xs:List (Array Value)) (J Jx:OwnP) (O:Nat→Prop) (W:World) (W':World):Prop:=
 ∃O':Nat→Prop,(∀b,O b→O' b)∧(∀b,O' b→O b∨W.heap.size≤b)∧Eff O W W'∧(J xs.length O' W'∨∃k,1≤k∧k≤xs.length∧Jx k O' W')
theorem loop_clientV {P:Program} {n:Nat} {fn:FuncId} {tmps:Array Value} {ps:Array Tmp} {assign body:Code} {D l:Nat} {Dk:Option Nat} (xs:List (Array Value)) (hps:∀x∈xs,x.size=ps.size)
  {I:OwnP} {Ix:Code→OwnP} (hI:StabO I) (hIx:∀c,StabO (Ix c)) (hIl:LtO I) (hIxl:∀c,LtO (Ix c)) (A:Nat→(Nat→Prop)→Act→World→Prop) (hA:∀l o k O a' W,(∃r,W.heap[l]? =some (.loop r))→¬O l→A k O a' W→A k O a' (W.putObj l o))
  (Ow O0:Nat→Prop) (w W1:World) (hwl:w.heap.size≤l) (hconv:∀O O1 W,(∀b,O b↔O1 b∨b=l∨Dk=some b)→Grow O0 O W1 W→Grow Ow O1 w W)
  (hassign:∀k O W (K:Act→World→Prop) (hk:k < xs.length),I k O W→Grow Ow O w W→(∀a' O' W',Grow O O' W W'→A k O' a' W'→K a' W')→
    assign.wpIn (WF (some l)) n P (Exit.then K (fun _ _ _=>False)) {tmps:=(ps.zip xs[k]).foldl (fun t (p,v)=>t.setIfInBounds p v) tmps,defers:= []} W)
  (hbody:∀k O a' W,(hk:k < xs.length)→Grow Ow O w W→(∃r,W.heap[l]? =some (.loop r))→¬O l→A k O a' W→body.wpIn (WF (some l)) n P (RPost I Ix k O W) a' W) :
  ClientV P (.func (.yield l) #[] #[]) xs (RJ (loopRec fn tmps ps assign body D .ready none) l Dk I) (fun k O W=>∃c,RJ (loopRec fn tmps ps assign body D .done (some c)) l Dk (Ix c) k O W) O0 W1 where
 form:=⟨_,_,_,rfl⟩
 stab:=RJ.stab hI
 stabx:=fun k O W W' ⟨c,h⟩ hs hO=>⟨c,RJ.stab (hIx c) k O W W' h hs hO⟩
 lt:=RJ.lt hIl
 ltx:=fun k O W ⟨c,h⟩=>RJ.lt (hIxl c) k O W h
 call:=by
  rintro k O W hk ⟨O1,hO,hnl,hD,hi,hl⟩ hG0
  have hG:=hconv O O1 W hO hG0
  have hlt:=heap_lt hl
  have hy:=run_yield (P:=P) (args:=xs[k]) hl (hps _ (List.getElem_mem hk))
  refine .inr ⟨l,_,_,_,_,rfl,hy,fun m=>roundIn_any (r:=none) (m:=n) (roundIn_of_wpIn trivial ?_)⟩
  clear hy
  refine hassign k O1 W _ hk hi hG ?_
  intro a' O2 Wa hg2 ha
  have hla:=(hg2.eff.block l hlt hnl).trans hl
  have hDa:∀d,Dk=some d→Wa.heap[d]? =some (.deferred (some [])):=fun d hd=>(hg2.eff.block d (heap_lt (hD d hd).2.2) (hD d hd).1).trans (hD d hd).2.2
  have hnew:∀b,b < W.heap.size→¬O1 b→¬O2 b:=fun b hb hn h=>by
   rcases hg2.new b h with h1 | h1
   ·exact hn h1
   ·omega
  have hnl2:=hnew l hlt hnl
  have hsz2:=hg2.eff.size
  refine ⟨_,run_beginRound hla rfl,?_⟩
  obtain ⟨Wb,hWb⟩:∃Wb,Wa.putObj l (.loop (loopRec fn tmps ps assign body D .busy none))=Wb:=⟨_,rfl⟩
  have hWs:Wb.heap.size=Wa.heap.size:=by rw [←hWb]; exact World.putObj_size
  have hWo:∀b,b≠l→Wb.heap[b]? =Wa.heap[b]?:=fun b hb=>by rw [←hWb]; exact World.putObj_heap_other hb
  have hWl:Wb.heap[l]? =some (.loop (loopRec fn tmps ps assign body D .busy none)):=by rw [←hWb]; exact World.putObj_heap_same (heap_lt hla)
  have hEb:Eff O W Wb:=by rw [←hWb]; exact (hg2.eff.wide (fun b hb=>(hO b).mpr (.inl hb))).putObj (.inl ((hO l).mpr (.inr (.inl rfl)))) _
  have hGa:=hG.trans hg2
  have hb:=hbody k O2 a' Wb hk ⟨hGa.sub,hGa.new,by rw [←hWb]; exact hGa.eff.putObj (.inr hwl) _⟩ ⟨_,hWl⟩ hnl2 (by rw [←hWb]; exact hA _ _ _ _ _ _ ⟨_,hla⟩ hnl2 ha)
  rw [hWb]
  refine wpIn_mono hb ?_
  have fin:∀(jump:Option Code) (O3:Nat→Prop) (W3:World),Grow O2 O3 Wb W3→∀(X:OwnP),StabO X→X (k+1) O3 W3→∃O':Nat→Prop,(∀b,O b→O' b)∧(∀b,O' b→O b∨W.heap.size≤b)∧
    (Instr.endRound l jump).run P W3= .ok (.bool jump.isNone) (W3.putObj l (.loop (loopRec fn tmps ps assign body D (if jump.isNone then .ready else .done) jump)))∧Eff O W (W3.putObj l (.loop (loopRec fn tmps ps assign body D (if jump.isNone then .ready else .done) jump)))∧
    RJ (loopRec fn tmps ps assign body D (if jump.isNone then .ready else .done) jump) l Dk X (k+1) O' (W3.putObj l (.loop (loopRec fn tmps ps assign body D (if jump.isNone then .ready else .done) jump))):=fun jump O3 W3 hg3 X hX hx=>by
   have hl3:=(hg3.eff.block l (heap_lt hWl) hnl2).trans hWl
   have hnew3:∀b,b < Wb.heap.size→¬O2 b→¬O3 b:=fun b hb hn h=>by
    rcases hg3.new b h with h1 | h1
    ·exact hn h1
    ·omega
   have hend:=run_endRound (P:=P) jump hl3
   refine ⟨fun b=>O3 b∨b=l∨Dk=some b,fun b hb=>?_,fun b hb=>?_,?_,?_,O3,fun b=>Iff.rfl,hnew3 l (heap_lt hWl) hnl2,fun d hd=>?_,?_,?_⟩
   ·rcases (hO b).mp hb with h | h
    ·exact .inl (hg3.sub b (hg2.sub b h))
    ·exact .inr h
   ·rcases hb with h | h
    ·rcases hg3.new b h with h1 | h1
     ·rcases hg2.new b h1 with h2 | h2
      ·exact .inl ((hO b).mpr (.inl h2))
      ·exact .inr h2
     ·exact .inr (by omega)
    ·exact .inl ((hO b).mpr (.inr h))
   ·exact hend
   ·refine Eff.putObj (hEb.trans (hg3.eff) fun b hb=>?_) (.inl ((hO l).mpr (.inr (.inl rfl)))) _
    rcases hg2.new b hb with h2 | h2
    ·exact .inl ((hO b).mpr (.inl h2))
    ·exact .inr h2
   ·obtain ⟨d1,d2,d3⟩:=hD d hd
    have hd2:=hnew d (heap_lt d3) d1
    have hdb:d < Wb.heap.size:=by have:=heap_lt (hDa d hd); omega
    exact ⟨hnew3 d hdb hd2,d2,(World.putObj_heap_other d2).trans ((hg3.eff.block d hdb hd2).trans ((hWo d d2).trans (hDa d hd)))⟩
   ·exact hX _ _ _ _ hx (by rw [World.putObj_size]; exact zG _) (fun b hb=>World.putObj_heap_other (fun e=>hnew3 l (heap_lt hWl) hnl2 (e ▸ hb)))
   ·exact World.putObj_heap_same (heap_lt hl3)
  rintro e a3 W3 hp
  cases e with
  | normal=>
    obtain ⟨O3,hg3,hi3⟩:=hp
    obtain ⟨O',h1,h2,h3,h4,h5⟩:=fin none O3 W3 hg3 I hI hi3
    exact ⟨_,_,h3,O',h1,h2,h4, .inl ⟨rfl,h5⟩⟩
  | ret=>
    obtain ⟨O3,hg3,hi3⟩:=hp
    obtain ⟨O',h1,h2,h3,h4,h5⟩:=fin (some .ret) O3 W3 hg3 _ (hIx _) hi3
    exact ⟨_,_,h3,O',h1,h2,h4, .inr ⟨rfl,_,h5⟩⟩
  | exit id=>
    obtain ⟨O3,hg3,hi3⟩:=hp
    obtain ⟨O',h1,h2,h3,h4,h5⟩:=fin (some (.exit id)) O3 W3 hg3 _ (hIx _) hi3
    exact ⟨_,_,h3,O',h1,h2,h4, .inr ⟨rfl,_,h5⟩⟩
  | goto t=>
    obtain ⟨O3,hg3,hi3⟩:=hp
    obtain ⟨O',h1,h2,h3,h4,h5⟩:=fin (some (.goto t)) O3 W3 hg3 _ (hIx _) hi3
    exact ⟨_,_,h3,O',h1,h2,h4, .inr ⟨rfl,_,h5⟩⟩
  | panic ch=>exact hp.elim
  | outgrown=>exact hp.elim
def TellsV (P:Program) (gf:Nat) (lb:Array Value) (xs:List (Array Value)) (Ow:Nat→Prop) (w:World):Prop:=
 ∀(y:Value) (J Jx:OwnP) (O:Nat→Prop) (W:World),(∀b,O b→Ow b∨w.heap.size≤b)→Below w.heap.size w W→ClientV P y xs J Jx O W→J 0 O W→Calls P gf (#[y] ++ lb) W fun e W'=>(∃v,e= .returned v)∧ToldV xs J Jx O W W'
theorem range_outerV {P:Program} {n:Nat} {g:Operand} {ps:Array Tmp} {assign body:Code} {Q:Exit→Act→World→Prop} {a:Act} {w:World} {gf:Nat} {lb:Array Value}
  (hg:a.eval g= .func (.func gf) #[] lb) (eg:∀args w,(callFunc gf args).run P w= .ok (.enter gf args) w) (xs:List (Array Value)) (Ow:Nat→Prop) (hps:∀x∈xs,x.size=ps.size) (hseq:TellsV P gf lb xs Ow w)
  (I:OwnP) (Ix:Code→OwnP) (hI:StabO I) (hIx:∀c,StabO (Ix c)) (hIl:LtO I) (hIxl:∀c,LtO (Ix c)) (h0:I 0 Ow w) (A:Nat→(Nat→Prop)→Act→World→Prop) (hA:∀l o k O a' W,(∃r,W.heap[l]? =some (.loop r))→¬O l→A k O a' W→A k O a' (W.putObj l o))
  (hassign:∀l k O W (K:Act→World→Prop) (hk:k < xs.length),I k O W→Grow Ow O w W→(∀a' O' W',Grow O O' W W'→A k O' a' W'→K a' W')→
    assign.wpIn (WF (some l)) n P (Exit.then K (fun _ _ _=>False)) {tmps:=(ps.zip xs[k]).foldl (fun t (p,v)=>t.setIfInBounds p v) a.tmps,defers:= []} W)
  (hbody:∀l k O a' W,(hk:k < xs.length)→Grow Ow O w W→w.heap.size≤l→(∃r,W.heap[l]? =some (.loop r))→¬O l→A k O a' W→body.wpIn (WF (some l)) n P (RPost I Ix k O W) a' W)
  (hdone:∀O' W',Grow Ow O' w W'→I xs.length O' W'→W'.heap[w.heap.size]? =some (.deferred (some []))→¬O' w.heap.size→Q .normal {a with defers:={target:= .collected w.heap.size,args:=#[]} :: a.defers} W')
  (hstop:∀c k O' W',1≤k→k≤xs.length→Grow Ow O' w W'→Ix c k O' W'→W'.heap[w.heap.size]? =some (.deferred (some []))→¬O' w.heap.size→
    c.wpIn (WF none) n P Q {a with defers:={target:= .collected w.heap.size,args:=#[]} :: a.defers} W') :
  (Code.rangeFunc g ps assign body).wpIn (WF none) n P Q a w:=by
 refine wpIn_rangeFunc ?_
 intro fn hfn
 obtain ⟨W1,hW1⟩:∃W1,(w.alloc (.deferred (some []))).alloc (.loop (loopRec fn a.tmps ps assign body w.heap.size .ready none))=W1:=⟨_,rfl⟩
 have hL1:W1.heap[w.heap.size+1]? =some (.loop (loopRec fn a.tmps ps assign body w.heap.size .ready none)):=by
  rw [←hW1]; have:=World.alloc_heap_new (w.alloc (.deferred (some []))) (.loop (loopRec fn a.tmps ps assign body w.heap.size .ready none)); rwa [World.size_alloc] at this
 have hB1:Below w.heap.size w W1:=by rw [←hW1]; exact ((Below.refl _ w).alloc (zG _) _).alloc (by simp) _
 have hK1:W1.heap[w.heap.size]? =some (.deferred (some [])):=by
  rw [←hW1]; exact (Below.heap_alloc _ _ _ (by simp)).trans (World.alloc_heap_new w _)
 have hlt:=hIl 0 Ow w h0
 have hJ:RJ (loopRec fn a.tmps ps assign body w.heap.size .ready none) (w.heap.size+1) (some w.heap.size) I 0 (fun b=>Ow b∨b=w.heap.size+1∨some w.heap.size=some b) W1:=
  ⟨Ow,fun b=>Iff.rfl,fun h=>by have:=hlt _ h; omega,fun d hd=>by cases hd; exact ⟨fun h=>by have:=hlt _ h; omega,by omega,hK1⟩,hI 0 Ow w W1 h0 hB1.size (fun b hb=>hB1.block b (hlt b hb)),hL1⟩
 have hlc:=heap_lt hL1
 have hC:=loop_clientV (P:=P) (n:=n) (fn:=fn) (tmps:=a.tmps) (D:=w.heap.size) (l:=w.heap.size+1) (Dk:=some w.heap.size) xs hps hI hIx hIl hIxl A hA Ow (fun b=>Ow b∨b=w.heap.size+1∨some w.heap.size=some b) w W1 (by omega) (fun O O1 W hO hG=>⟨fun b hb=>by
   have hb2:=hlt b hb
   rcases (hO b).mp (hG.sub b (.inl hb)) with h | h | h
   ·exact h
   ·omega
   ·cases h; omega,fun b hb=>by
   rcases hG.new b ((hO b).mpr (.inl hb)) with (h | h | h) | h
   ·exact .inl h
   ·exact .inr (by omega)
   ·cases h; exact .inr (by omega)
   ·exact .inr (by have:=hB1.size; omega),(Eff.of_below (O:=Ow) hB1).trans hG.eff fun b hb=>by
   rcases hb with h | h | h
   ·exact .inl h
   ·exact .inr (by omega)
   ·cases h; exact .inr (by omega)⟩) (hassign (w.heap.size+1)) (fun k O a' W hk hG=>hbody (w.heap.size+1) k O a' W hk hG (by omega))
 have hcall:=hseq _ _ _ _ W1 (fun b hb=>by rcases hb with h | h | h; exact .inl h; exact .inr (by omega); exact .inr (by cases h; omega)) hB1 hC hJ
 refine ⟨w.heap.size+1,[{target:= .collected w.heap.size,args:=#[]}],W1,{target:= .fn (.func gf) lb,args:=#[.func (.yield (w.heap.size+1)) #[] #[]]},W1,gf,
  #[.func (.yield (w.heap.size+1)) #[] #[]] ++ lb,W1,?_,?_,fun _ _=>trivial,?_,(fun h=>nomatch h),?_⟩
 ·rw [←hW1]; exact run_enterLoop_outer _ _ _ _ _
 ·simp only [resolve,hg]; simp [go_sem]
 ·simp [invoke,go_sem,eg]
 ·refine wf_calls.mpr (hcall.mono ?_)
  have back:∀(X:OwnP) (k:Nat) (O':Nat→Prop) (W2:World) (st:LoopState) (pe:Option Code),StabO X→st≠ .busy→(∀b,Ow b→O' b)→(∀b,O' b→(Ow b∨b=w.heap.size+1∨some w.heap.size=some b)∨W1.heap.size≤b)→
    Eff (fun b=>Ow b∨b=w.heap.size+1∨some w.heap.size=some b) W1 W2→RJ (loopRec fn a.tmps ps assign body w.heap.size st pe) (w.heap.size+1) (some w.heap.size) X k O' W2→
    (Instr.endLoop (w.heap.size+1)).run P W2= .ok pe (W2.putObj (w.heap.size+1) (.loop (loopRec fn a.tmps ps assign body w.heap.size .exhausted pe)))∧∃O2,Grow Ow O2 w (W2.putObj (w.heap.size+1) (.loop (loopRec fn a.tmps ps assign body w.heap.size .exhausted pe)))∧X k O2 (W2.putObj (w.heap.size+1) (.loop (loopRec fn a.tmps ps assign body w.heap.size .exhausted pe)))∧
      (W2.putObj (w.heap.size+1) (.loop (loopRec fn a.tmps ps assign body w.heap.size .exhausted pe))).heap[w.heap.size]? =some (.deferred (some []))∧¬O2 w.heap.size:=by
   rintro X k O' W2 st pe hX hst hsub hnew hE ⟨O1,hO,hnl,hD,hi,hl⟩
   have hr:=run_endLoop (P:=P) hl hst
   refine ⟨hr,O1,⟨fun b hb=>?_,fun b hb=>?_,?_⟩,hX _ _ _ _ hi (by rw [World.putObj_size]; exact zG _) (fun b hb=>World.putObj_heap_other (fun e=>hnl (e ▸ hb))),(World.putObj_heap_other (by omega)).trans (hD _ rfl).2.2,(hD _ rfl).1⟩
   ·have hb2:=hlt b hb
    rcases (hO b).mp (hsub b hb) with h | h | h
    ·exact h
    ·omega
    ·cases h; omega
   ·rcases hnew b ((hO b).mpr (.inl hb)) with (h | h | h) | h
    ·exact .inl h
    ·exact .inr (by omega)
    ·cases h; exact .inr (by omega)
    ·exact .inr (by have:=hB1.size; omega)
   ·refine Eff.putObj ((Eff.of_below (O:=Ow) hB1).trans hE fun b hb=>?_) (.inr (by omega)) _
    rcases hb with h | h | h
    ·exact .inl h
    ·exact .inr (by omega)
    ·cases h; exact .inr (by omega)
  rintro e W2 ⟨⟨v,rfl⟩,O',hsub,hnew,hE,hend⟩
  rcases hend with hj | ⟨k,hk1,hk2,c,hj⟩
  ·obtain ⟨h1,O2,h2,h3,h4,h5⟩:=back I xs.length O' W2 .ready none hI (by simp) (fun b hb=>hsub b (.inl hb)) hnew hE hj
   exact ⟨none,_,h1,hdone O2 _ h2 h3 h4 h5⟩
  ·obtain ⟨h1,O2,h2,h3,h4,h5⟩:=back (Ix c) k O' W2 .done (some c) (hIx c) (by simp) (fun b hb=>hsub b (.inl hb)) hnew hE hj
   exact ⟨some c,_,h1,hstop c k O2 _ hk1 hk2 h2 h3 h4 h5⟩
end
section
abbrev Blk:=Nat→Prop
end
section
open Go.RowKit
theorem DiscAt.lt {W:World} {b:Nat} {q:Nat→Bool} (h:DiscAt W b q):b < W.heap.size:=by obtain ⟨f,_,_,_,_,h⟩:=h; exact h
theorem DiscAt.block {W W':World} {b:Nat} {q:Nat→Bool} (h:DiscAt W b q) (hs:W.heap.size≤W'.heap.size) (hb:W'.heap[b]? =W.heap[b]?):DiscAt W' b q:=by
 obtain ⟨f,h1,h2,h3,h4,h5⟩:=h
 exact ⟨f,fun i hi=>(World.cell?_of_block (w:=W) (a:=⟨b,i,none⟩) hb).trans (h1 i hi),fun i=>(World.frozen?_of_block (w:=W) (a:=⟨b,i,none⟩) hb).trans (h2 i),h3,h4,zH h5 hs⟩
theorem DiscAt.eff {W W':World} {b:Nat} {q:Nat→Bool} {O:Blk} (h:DiscAt W b q) (hE:Eff O W W') (hn:¬O b):DiscAt W' b q:=h.block hE.size (hE.block b h.lt hn)
theorem DiscAt.congr {W:World} {b:Nat} {q q':Nat→Bool} (h:DiscAt W b q) (e:∀k,k < 86400→q k=q' k):DiscAt W b q':=by
 obtain ⟨f,h1,h2,h3,h4,h5⟩:=h
 exact ⟨f,h1,h2,h3,fun k hk=>(h4 k hk).trans (e k hk),h5⟩
theorem DiscAt.unique {W:World} {b:Nat} {q q':Nat→Bool} (h:DiscAt W b q) (h':DiscAt W b q') (k:Nat) (hk:k < 86400):q k=q' k:=by
 obtain ⟨f,h1,h2,h3,h4,h5⟩:=h
 obtain ⟨f',g1,g2,g3,g4,g5⟩:=h'
 rw [←h4 k hk,←g4 k hk,bitW,bitW]
 have e:=(h1 (k / 64) (by omega)).symm.trans (g1 (k / 64) (by omega))
 simp only [Option.some.injEq,Value.int.injEq,true_and] at e
 have e2:f (k / 64)=f' (k / 64):=by omega
 rw [e2]
theorem DPut1_any (b:Nat) (q:Nat→Bool) (s:Int) (w:World) (hd:DiscAt w b q) :
  Calls Tryz.prog 150 #[.pointer (some ⟨b,0,none⟩), .slice (some ⟨w.heap.size,0,none⟩) 1 1] (w.alloc (.cells #[.int .i64 s] 3)) fun e w'=>(∃v,e= .returned v)∧DiscAt w' b (fun k=>q k || decide ((k:Int)=s))∧Eff (fun x=>x=b) w w':=by
 obtain ⟨W1,hW1⟩:∃W1,w.alloc (.cells #[.int .i64 s] 3)=W1:=⟨_,rfl⟩
 have hb:Below w.heap.size w W1:=by rw [←hW1]; exact below_new (Below.refl _ _) (zG _)
 have hsl:Sl W1 (some ⟨w.heap.size,0,none⟩) (ints [s]):=by
  refine .inr ⟨w.heap.size,0,rfl,by rw [←hW1]; simp,fun j hj=>?_⟩
  have:j=0:=by simp [ints] at hj; omega
  subst this
  rw [←hW1]; simp [go_sem,ints]
 rw [hW1]
 have hlt:=hd.lt
 obtain ⟨f,h1,h2,h3,h4,h5⟩:=hd.below hb hlt
 refine (Put_any b f (some ⟨w.heap.size,0,none⟩) 1 [s] W1 (by simp) hsl (fun _ g off e=>by cases e; omega) h1 h2 h3).mono fun e w' ⟨g1,g2,g3,g4⟩=>⟨⟨_,g1⟩,⟨_,g2,g3,putL_lt _ _ h3,fun k hk=>?_,by have:=g4.size; omega⟩,(Eff.of_below (O:=fun x=>x=b) hb).trans g4 (fun x hx=> .inl hx)⟩
 rw [putL_bit _ _ k hk,h4 k hk]; simp
def DiscO (W:World):Option Nat→(Nat→Bool)→Prop
 | none,q=>∀k,k < 86400→q k=false
 | some b,q=>DiscAt W b q
def dptr:Option Nat→Value
 | none=> .pointer none
 | some b=> .pointer (some ⟨b,0,none⟩)
theorem DiscO.v {W:World} {d:Option Nat} {q:Nat→Bool} (h:DiscO W d q):DiscV W d q∧dv d=dptr d:=by
 cases d with
 | none=>exact ⟨h,rfl⟩
 | some b=>obtain ⟨f,h1,h2,h3,h4,h5⟩:=h; exact ⟨⟨f,h1,h2,h3,h4,h5⟩,rfl⟩
theorem DiscO.congr {W:World} {d:Option Nat} {q q':Nat→Bool} (h:DiscO W d q) (e:∀k,k < 86400→q k=q' k):DiscO W d q':=by
 cases d with
 | none=>exact fun k hk=>(e k hk).symm.trans (h k hk)
 | some b=>exact DiscAt.congr h e
theorem DJoin1_any (b c:Nat) (q r:Nat→Bool) (w:World) (hd:DiscAt w b q) (hc:DiscAt w c r) (hne:c≠b) :
  Calls Tryz.prog 199 #[.pointer (some ⟨b,0,none⟩), .slice (some ⟨w.heap.size,0,none⟩) 1 1] (w.alloc (.cells #[.pointer (some ⟨c,0,none⟩)] 125)) fun e w'=>(∃v,e= .returned v)∧DiscAt w' b (fun k=>q k || r k)∧Eff (fun x=>x=b) w w':=by
 obtain ⟨W1,hW1⟩:∃W1,w.alloc (.cells #[.pointer (some ⟨c,0,none⟩)] 125)=W1:=⟨_,rfl⟩
 have hb:Below w.heap.size w W1:=by rw [←hW1]; exact below_new (Below.refl _ _) (zG _)
 have hbl:=hd.lt
 have hcl:=hc.lt
 obtain ⟨f,h1,h2,h3,h4,h5⟩:=hd.below hb hbl
 obtain ⟨g,g1,g2,g3,g4,g5⟩:=hc.below hb hcl
 have hsl:Sl W1 (some ⟨w.heap.size,0,none⟩) (dvs [(some c,g)]):=by
  refine .inr ⟨w.heap.size,0,rfl,by rw [←hW1]; simp,fun j hj=>?_⟩
  have:j=0:=by simp [dvs] at hj; omega
  subst this
  rw [←hW1]; simp [go_sem,dvs,dv]
 rw [hW1]
 refine (DJoin_any b f (some ⟨w.heap.size,0,none⟩) 1 [(some c,g)] W1 (by simp) hsl (fun _ x off e=>by cases e; omega) (fun d hd=>?_) ⟨h1,h2,h3,Eff.refl _ _⟩).mono fun e w' ⟨k1,k2⟩=>⟨k1,⟨_,k2.words,k2.free,k2.bd,fun k hk=>?_,by have:=k2.eff.size; omega⟩,(Eff.of_below (O:=fun x=>x=b) hb).trans k2.eff (fun x hx=> .inl hx)⟩
 ·rw [List.mem_singleton] at hd; subst hd
  exact ⟨g1,g3,fun x e=>by cases e; exact ⟨hne,g5⟩⟩
 ·show bitW (orL f [(some c,g)]) k= (q k || r k)
  rw [←h4 k hk,←g4 k hk]; simp [orL,bitW,Nat.testBit_or]
end
end Go.Proofs.YthimhfmnikfgaaaGreatDoor
