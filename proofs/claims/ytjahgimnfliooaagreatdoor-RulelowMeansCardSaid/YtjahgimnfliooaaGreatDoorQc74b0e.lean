/-
  The function that tod.All makes tells the seconds of its masks: three ranges over functions, one within the other.
  The numbers of a set of seven words, word by word and as one rising list.
  The function that wide.All makes tells a set's numbers, word by word.
  What feriaref04.Of computes: the set of a list.
  feriaref13.May: the document's word whether a clause may be.
  clause.nth: has a day an Ord?
  feriaref13.nth: has a day an Ord?
  feriaref13.Date: has a day a clause, but for its step?
  clause.Days' function: does a day have the clause?
-/
import Derived.Test.YtjahgimnfliooaaGreatDoorQ903a1a
import Derived.WalkMore
import Derived.Test.YtjahgimnfliooaaGreatDoorQ4c06b4
import Derived.Test.YtjahgimnfliooaaGreatDoorQ155bda
import Derived.BigRegion
import Derived.Test.YtjahgimnfliooaaGreatDoorQ3bc6b4
import Derived.Test.YtjahgimnfliooaaGreatDoorQaeb5bd
import Derived.Test.YtjahgimnfliooaaGreatDoorQbd5244
import Derived.Test.YtjahgimnfliooaaGreatDoorQe977ed
set_option maxRecDepth 100000
set_option maxHeartbeats 25600000
namespace Go.Proofs.YtjahgimnfliooaaGreatDoor
set_option linter.unusedVariables false
section
open Go.RowKit
attribute [local go_sem] Oper.semAt_some
theorem yjI (h m:Int) (S:List Int) (k:Nat) (hk:k < S.length):(ycx h m S)[k]? =some (3600 * h+60 * m+S[k]):=by
 simp [ycx,zzp hk]
theorem yeW (h:Int) (S:List Int) (k:Nat) (hk:k < S.length):∀(M:List Int) (j:Nat) (hj:j < M.length),(yaG h M S)[j * S.length+k]? =some (3600 * h+60 * M[j]+S[k])
 | m :: M,0,_=>by
   have e:yaG h (m :: M) S=ycx h m S ++ yaG h M S:=by simp [yaG]
   rw [e,List.getElem?_append_left (by rw [yc1]; omega),Nat.zero_mul,zzn,yjI h m S k hk]; rfl
 | m :: M,j+1,hj=>by
   have e:yaG h (m :: M) S=ycx h m S ++ yaG h M S:=by simp [yaG]
   have e2:(j+1) * S.length+k=S.length+(j * S.length+k):=by rw [Nat.succ_mul]; omega
   rw [e,e2,List.getElem?_append_right (by rw [yc1]; omega),yc1,Nat.add_sub_cancel_left,yeW h S k hk M j (by simpa using hj)]; rfl
theorem ygS (M S:List Int) (j k:Nat) (hj:j < M.length) (hk:k < S.length):∀(H:List Int) (i:Nat) (hi:i < H.length),(secs H M S)[i * (M.length * S.length)+j * S.length+k]? =some (3600 * H[i]+60 * M[j]+S[k])
 | h :: H,0,_=>by
   have e:secs (h :: H) M S=yaG h M S ++ secs H M S:=by simp [secs]
   have hlt:j * S.length+k < M.length * S.length:=by
    have:(j+1) * S.length≤M.length * S.length:=Nat.mul_le_mul_right _ hj
    rw [Nat.succ_mul] at this; omega
   rw [e,Nat.zero_mul,zzn,List.getElem?_append_left (by rw [ycr]; exact hlt),yeW h S k hk M j hj]; rfl
 | h :: H,i+1,hi=>by
   have e:secs (h :: H) M S=yaG h M S ++ secs H M S:=by simp [secs]
   have e2:(i+1) * (M.length * S.length)+j * S.length+k=M.length * S.length+(i * (M.length * S.length)+j * S.length+k):=by rw [Nat.succ_mul]; omega
   rw [e,e2,List.getElem?_append_right (by rw [ycr]; omega),ycr,Nat.add_sub_cancel_left,ygS M S j k hj hk H i (by simpa using hi)]; rfl
theorem secs_get (H M S:List Int) (i j k:Nat) (hi:i < H.length) (hj:j < M.length) (hk:k < S.length) :
  ∃h:i * (M.length * S.length)+j * S.length+k < (secs H M S).length,(secs H M S)[i * (M.length * S.length)+j * S.length+k]=3600 * H[i]+60 * M[j]+S[k]:=by
 obtain ⟨h,e⟩:=zzq.1 (ygS M S j k hj hk H i hi)
 exact ⟨h,e⟩
theorem yaF {W:World} {l:Nat} {o:Obj} {b i:Nat} {v:Value} (hr:∃r,W.heap[l]? =some (.loop r)) (h:W.cell? ⟨b,i,none⟩=some v):(W.putObj l o).cell? ⟨b,i,none⟩=some v:=by
 refine (zzJ (w:=W) (a:=⟨b,i,none⟩) (World.putObj_heap_other (fun e=>?_))).trans h
 obtain ⟨r,hr⟩:=hr
 simp only at e
 subst e
 rw [World.cell?] at h
 simp [hr] at h
theorem ygI (m:Nat) (W:World) (hm:m < 18446744073709551616):Calls Tryz.prog 197 #[.slice (some ⟨W.heap.size,0,none⟩) 1 1] (W.alloc (.cells #[.int .u64 m] 28)) fun e w'=>
  e= .returned (.func (.func 198) #[] #[.pointer (some ⟨W.heap.size+1,0,none⟩)])∧w'.cell? ⟨W.heap.size+1,0,none⟩=some (.int .u64 m)∧Below W.heap.size W w'∧W.heap.size+1 < w'.heap.size:=by
 have h:=MAll_any (some ⟨W.heap.size,0,none⟩) 1 [m] (W.alloc (.cells #[.int .u64 m] 28)) (by simp) (.inr ⟨W.heap.size,0,rfl,by simp,fun j hj=>by simp [u64s] at hj⊢; subst hj; simp [go_sem]⟩) (by simpa using hm)
 rw [andM_one hm,zzN] at h
 exact h.mono fun e w' ⟨h1,h2,h3,h4⟩=>⟨h1,h2,(yaa (Below.refl _ _) (zG _)).trans (h3.mono (by omega)),h4⟩
theorem Grow.of_below {O:Nat→Prop} {W W':World} (h:Below W.heap.size W W'):Grow O O W W':=⟨fun _ h=>h,fun _ h=> .inl h,Eff.of_below h⟩
theorem ycb {I:OwnP} (hI:ybD I) (hl:LtO I) {k:Nat} {O:Nat→Prop} {W W':World} (h:I k O W) (hb:Below W.heap.size W W'):I k O W':=hI k O W W' h hb.size (fun b hb2=>hb.block b (hl k O W h b hb2))
theorem ybM {I:OwnP} (hI:ybD I) {k:Nat} {O:Nat→Prop} {W:World} (h:I k O W) {l:Nat} (hn:¬O l) (o:Obj):I k O (W.putObj l o):=
 hI k O W _ h (by rw [World.putObj_size]; exact zG _) (fun b hb=>World.putObj_heap_other (fun e=>hn (e ▸ hb)))
theorem yil (a b c bh bm bs:Nat) (y:Value) (J Jx:OwnP) (O:Nat→Prop) (W:World) (ha:a < 18446744073709551616) (hb:b < 18446744073709551616) (hc:c < 18446744073709551616)
  (hC:Client2 Tryz.prog y (secs (sel a.testBit 64) (sel b.testBit 64) (sel c.testBit 64)) J Jx O W) (hJ:J 0 O W)
  (hbh:bh < W.heap.size) (hbm:bm < W.heap.size) (hbs:bs < W.heap.size) (hnh:¬O bh) (hnm:¬O bm) (hns:¬O bs)
  (hch:W.cell? ⟨bh,0,none⟩=some (.int .u64 a)) (hcm:W.cell? ⟨bm,0,none⟩=some (.int .u64 b)) (hcs:W.cell? ⟨bs,0,none⟩=some (.int .u64 c)) (hT:Tab W) (hTO:¬O 0) :
  Calls Tryz.prog 196 #[y, .pointer (some ⟨bh,0,none⟩), .pointer (some ⟨bm,0,none⟩), .pointer (some ⟨bs,0,none⟩)] W fun e W'=>(∃v,e= .returned v)∧Told (secs (sel a.testBit 64) (sel b.testBit 64) (sel c.testBit 64)) J Jx O W W':=by
 obtain ⟨yf,yi,yc,rfl⟩:=hC.form
 have HC:=hid hC
 have HT:=hid hT
 have hT0:=hT.1
 have HN:=hid (And.intro hnm (And.intro hns hTO))
 obtain ⟨W1,hW1⟩:∃W1,W.alloc (.cells #[.func yf yi yc] 95)=W1:=⟨_,rfl⟩
 have q3:W1.heap.size=W.heap.size+1:=by rw [←hW1]; simp
 have q4:Below W.heap.size W W1:=by rw [←hW1]; exact yaa (Below.refl _ _) (zG _)
 have q5:W1.cell? ⟨W.heap.size,0,none⟩=some (.func yf yi yc):=by rw [←hW1]; simp [go_sem]
 have hMA:=ygI a W1 ha
 rw [q3] at hMA
 have HM:=hid hMA
 have HW1:=hid hW1
 have ey:=hid q5
 have hch1:=(q4.cell (p:=⟨bh,0,none⟩) hbh).trans hch
 have Q4:=hid q4
 have Hm:=hid hcm
 have Hs:=hid hcs
 have HJ:=hid hJ
 have hlt:=hC.lt 0 O W hJ
 have Hlt:=hid hlt
 have lH:=yeU a.testBit 64
 have lM:=yeU b.testBit 64
 have lS:=yeU c.testBit 64
 have bH:=hid (fun k hk=>yiP (p:=a.testBit) k hk)
 have bM:=hid (fun k hk=>yiP (p:=b.testBit) k hk)
 have bS:=hid (fun k hk=>yiP (p:=c.testBit) k hk)
 have tells1:=hid (fun b' Ow w (h1:b' < w.heap.size) h2 h3 h4 h5=>ydn a b' Ow w ha h1 h2 h3 h4 h5)
 have tells2:=hid (fun b' Ow w (h1:b' < w.heap.size) h2 h3 h4 h5=>ydn b b' Ow w hb h1 h2 h3 h4 h5)
 have tells3:=hid (fun b' Ow w (h1:b' < w.heap.size) h2 h3 h4 h5=>ydn c b' Ow w hc h1 h2 h3 h4 h5)
 obtain ⟨H,eH⟩:∃l,sel a.testBit 64=l:=⟨_,rfl⟩
 obtain ⟨M,eM⟩:∃l,sel b.testBit 64=l:=⟨_,rfl⟩
 obtain ⟨S,eS⟩:∃l,sel c.testBit 64=l:=⟨_,rfl⟩
 rw [eH] at lH bH tells1 HC⊢
 rw [eM] at lM bM tells2 HC⊢
 rw [eS] at lS bS tells3 HC⊢
 clear eH eM eS hMA hC hT hnh hnm hns hTO q4 q5 hch hcm hcs hW1 hJ hlt
 refine (wf_calls (r:=none) (n:=1)).mp ?_
 refine callsIn_of_wp_marks Tryz.func196 rfl trivial ?_ rfl
 simp only [Tryz.ntmps196,List.size_toArray,List.length_cons,List.length_nil,Nat.reduceAdd,Nat.reduceSub,Array.replicate_succ,Array.replicate_zero,List.push_toArray,List.append_toArray,List.nil_append,List.cons_append]
 gi_wp2_with fail
 refine ydX ?_
 rw [HW1.out]
 gi_wp2_with fail
 refine wpIn_label ?_
 gi_wp2_with fail
 refine (wf_calls.mpr HM.out).mono ?_
 rintro e w1 ⟨rfl,hm1,hm2,hm3⟩
 have hB1:Below W.heap.size W w1:=Q4.out.trans (hm2.mono (by omega))
 have HB1:=hid hB1
 have HG1:Hid (Grow O O W w1):=Grow.of_below hB1
 have ey1:=hid ((hm2.cell (p:=⟨W.heap.size,0,none⟩) (by simp only []; omega)).trans ey.out)
 have HJ1:Hid (J 0 O w1):=ycb HC.out.stab HC.out.lt HJ.out hB1
 have tl1:=hid (tells1.out (W.heap.size+2) O w1 hm3 (fun h=>by have:=Hlt.out _ h; omega) hm1 (HT.out.later hB1) HN.out.2.2)
 clear hm1 hm2 hB1
 gi_wp2_with fail
 refine ybz (gf:=198) (lb:=#[.pointer (some ⟨W.heap.size+2,0,none⟩)]) rfl ydo H O rfl tl1.out
  (fun i O W=>J (i * (M.length * S.length)) O W) (fun c i O W=>c= .exit 0∧∃q,1≤q∧q≤(secs H M S).length∧Jx q O W)
  (fun k O W W' h hs hO=>HC.out.stab _ O W W' h hs hO) (fun c k O W W' h hs hO=>⟨h.1,by obtain ⟨q,h1,h2,h3⟩:=h.2; exact ⟨q,h1,h2,HC.out.stabx _ O W W' h3 hs hO⟩⟩)
  (fun k O W h=>HC.out.lt _ O W h) (fun c k O W h=>by obtain ⟨_,q,h1,h2,h3⟩:=h; exact HC.out.ltx _ O W h3) (by simpa using HJ1.out)
  (fun i O a' W'=>J (i * (M.length * S.length)) O W'∧∃bx h,H[i]? =some h∧W'.cell? ⟨bx,0,none⟩=some (.int .i64 h)∧¬O bx∧bx < W'.heap.size∧
    a' = {tmps:=#[.func yf yi yc, .pointer (some ⟨bh,0,none⟩), .pointer (some ⟨bm,0,none⟩), .pointer (some ⟨bs,0,none⟩), .pointer (some ⟨W.heap.size,0,none⟩), .pointer (some ⟨bx,0,none⟩),undef,undef, .int .u64 a, .slice (some ⟨W.heap.size+1,0,none⟩) 1 1, .func (.func 198) #[] #[.pointer (some ⟨W.heap.size+1+1,0,none⟩)], .int .i64 h,undef,undef,undef,undef,undef,undef,undef,undef,undef,undef,undef,undef,undef,undef,undef,undef,undef,undef],defers:= []})
  (fun l o k O a' W' hr hn h=>⟨ybM HC.out.stab h.1 hn o,by obtain ⟨bx,h,h0,h1,h2,h3,h4⟩:=h.2; exact ⟨bx,h,h0,yaF hr h1,h2,by rw [World.putObj_size]; exact h3,h4⟩⟩) ?assign ?body ?done ?stop
 case assign=>
  intro l i O2 W2 K hi hJ2 hG2 hK
  have hlt2:=HC.out.lt _ _ _ hJ2
  gi_wp2
  have hbel:Below W2.heap.size W2 (W2.alloc (.cells #[.int .i64 H[i]] 3)):=yaa (Below.refl _ _) (zG _)
  exact hK _ O2 _ (Grow.of_below hbel) ⟨ycb HC.out.stab HC.out.lt hJ2 hbel,W2.heap.size,H[i],zzp hi,by simp [go_sem],fun h=>by have:=hlt2 _ h; omega,by simp,rfl⟩
 case done=>
  intro O2 W2 hG2 hJ2 hD hnD
  have hG:=HG1.out.trans hG2
  have hJ3:J (secs H M S).length O2 W2:=by rw [secs_len]; exact hJ2
  gi_wp2
  rw [Exit.noGoto_normal]
  refine ⟨by simp, .inl ⟨_,_,rfl,run_takeDeferred hD,?_⟩⟩
  exact ⟨_,results_none rfl _ _ _,⟨_,rfl⟩,O2,hG.sub,hG.new,hG.eff.putObj (.inr (by have:=HB1.out.size; omega)) _, .inl (ybM HC.out.stab hJ3 hnD _)⟩
 case stop=>
  rintro c i O2 W2 hi1 hi2 hG2 ⟨rfl,q,hq1,hq2,hJ2⟩ hD hnD
  have hG:=HG1.out.trans hG2
  gi_wp2
  rw [Exit.noGoto_normal]
  refine ⟨by simp, .inl ⟨_,_,rfl,run_takeDeferred hD,?_⟩⟩
  exact ⟨_,results_none rfl _ _ _,⟨_,rfl⟩,O2,hG.sub,hG.new,hG.eff.putObj (.inr (by have:=HB1.out.size; omega)) _, .inr ⟨q,hq1,hq2,ybM HC.out.stabx hJ2 hnD _⟩⟩
 case body=>
  rintro l i O2 a' W2 hi hG2 hl hrec hnl ⟨hJ2,bx,h,eh,ch,nh,lh,rfl⟩
  have hyl:W.heap.size < w1.heap.size:=by omega
  have nO:¬O W.heap.size:=fun h=>by have:=Hlt.out _ h; omega
  have ey2:=(hG2.cell hyl nO 0).trans ey1.out
  have em2:=(hG2.cell (by omega) HN.out.1 0).trans ((HB1.out.cell (p:=⟨bm,0,none⟩) hbm).trans Hm.out)
  have es2:=(hG2.cell (by omega) HN.out.2.1 0).trans ((HB1.out.cell (p:=⟨bs,0,none⟩) hbs).trans Hs.out)
  have hT2:=(HT.out.later HB1.out).eff hG2.eff HN.out.2.2
  have NO2:=hid (And.intro (hG2.not hyl nO) (And.intro (hG2.not (b:=bs) (by omega) HN.out.2.1) (hG2.not (b:=0) (by have:=(HT.out.later HB1.out).1; omega) HN.out.2.2)))
  have hsz2:=hG2.eff.size
  have hlt2:=HC.out.lt _ _ _ hJ2
  have GG2:Hid (Grow O O2 W W2):=HG1.out.trans hG2
  have HM2:=hid (ygI b W2 hb)
  have HJ2:=hid hJ2
  clear HM HG1 tells1 tl1 hG2 hJ2
  gi_wp2_with fail
  refine (wf_calls.mpr HM2.out).mono ?_
  rintro e w3 ⟨rfl,hn1,hn2,hn3⟩
  have hrec3:∃r,w3.heap[l]? =some (.loop r):=by obtain ⟨r,hr⟩:=hrec; exact ⟨r,(hn2.block l (yan hr)).trans hr⟩
  have HG3:Hid (Grow O2 O2 W2 w3):=Grow.of_below hn2
  have tl2:=hid (tells2.out (W2.heap.size+1) O2 w3 hn3 (fun h=>by have:=hlt2 _ h; omega) hn1 (hT2.later hn2) NO2.out.2.2)
  have HJ3:Hid (J (i * (M.length * S.length)) O2 w3):=ycb HC.out.stab HC.out.lt HJ2.out hn2
  have ey3:=hid ((hn2.cell (p:=⟨W.heap.size,0,none⟩) (by simp only []; omega)).trans ey2)
  have es3:=hid ((hn2.cell (p:=⟨bs,0,none⟩) (by simp only []; omega)).trans es2)
  have ch3:=hid ((hn2.cell (p:=⟨bx,0,none⟩) lh).trans ch)
  have HT3:=hid (hT2.later hn2)
  have hsz3:=hn2.size
  clear hn1 hn2 ey2 em2 es2 ch hT2 HM2
  gi_wp2_with fail
  refine yeo (gf:=198) (lb:=#[.pointer (some ⟨W2.heap.size+1,0,none⟩)]) hrec3 rfl ydo M O2 rfl tl2.out
   (fun j O W=>J (i * (M.length * S.length)+j * S.length) O W) (fun c j O W=>c= .exit 0∧∃q,1≤q∧q≤(secs H M S).length∧Jx q O W)
   (fun k O W W' h hs hO=>HC.out.stab _ O W W' h hs hO) (fun c k O W W' h hs hO=>⟨h.1,by obtain ⟨q,h1,h2,h3⟩:=h.2; exact ⟨q,h1,h2,HC.out.stabx _ O W W' h3 hs hO⟩⟩)
   (fun k O W h=>HC.out.lt _ O W h) (fun c k O W h=>by obtain ⟨_,q,h1,h2,h3⟩:=h; exact HC.out.ltx _ O W h3) (by simpa using HJ3.out)
   (fun j O a' W'=>J (i * (M.length * S.length)+j * S.length) O W'∧∃bz m,M[j]? =some m∧W'.cell? ⟨bz,0,none⟩=some (.int .i64 m)∧¬O bz∧bz < W'.heap.size∧
     a' = {tmps:=#[.func yf yi yc, .pointer (some ⟨bh,0,none⟩), .pointer (some ⟨bm,0,none⟩), .pointer (some ⟨bs,0,none⟩), .pointer (some ⟨W.heap.size,0,none⟩), .pointer (some ⟨bx,0,none⟩), .pointer (some ⟨bz,0,none⟩),undef, .int .u64 a, .slice (some ⟨W.heap.size+1,0,none⟩) 1 1, .func (.func 198) #[] #[.pointer (some ⟨W.heap.size+1+1,0,none⟩)], .int .i64 h, .int .u64 b, .slice (some ⟨W2.heap.size,0,none⟩) 1 1, .func (.func 198) #[] #[.pointer (some ⟨W2.heap.size+1,0,none⟩)], .int .i64 m,undef,undef,undef,undef,undef,undef,undef,undef,undef,undef,undef,undef,undef,undef],defers:= []})
   (fun l o k O a' W' hr hn h=>⟨ybM HC.out.stab h.1 hn o,by obtain ⟨bx,h,h0,h1,h2,h3,h4⟩:=h.2; exact ⟨bx,h,h0,yaF hr h1,h2,by rw [World.putObj_size]; exact h3,h4⟩⟩) ?assign2 ?body2 ?done2 ?stop2
  case assign2=>
   intro l j O4 W4 K hj hJ4 hG4 hK
   have hlt4:=HC.out.lt _ _ _ hJ4
   gi_wp2
   have hbel:Below W4.heap.size W4 (W4.alloc (.cells #[.int .i64 M[j]] 3)):=yaa (Below.refl _ _) (zG _)
   exact hK _ O4 _ (Grow.of_below hbel) ⟨ycb HC.out.stab HC.out.lt hJ4 hbel,W4.heap.size,M[j],zzp hj,by simp [go_sem],fun h=>by have:=hlt4 _ h; omega,by simp,rfl⟩
  case done2=>
   intro O4 W4 hG4 hJ4
   gi_wp2
   exact ⟨O4,HG3.out.trans hG4,by show J ((i+1) * (M.length * S.length)) O4 W4; rw [show (i+1) * (M.length * S.length)=i * (M.length * S.length)+M.length * S.length from Nat.succ_mul _ _]; exact hJ4⟩
  case stop2=>
   rintro c j O4 W4 hj1 hj2 hG4 ⟨rfl,q,hq1,hq2,hJ4⟩
   gi_wp2
   exact ⟨O4,HG3.out.trans hG4,rfl,q,hq1,hq2,hJ4⟩
  case body2=>
   rintro l2 j O4 a' W4 hj hG4 hl2 hrec4 hnl2 ⟨hJ4,bz,m,em,cm,nm,lm,rfl⟩
   have ey4:=(hG4.cell (by omega) NO2.out.1 0).trans ey3.out
   have es4:=(hG4.cell (by omega) NO2.out.2.1 0).trans es3.out
   have ch4:=(hG4.cell (b:=bx) (by omega) nh 0).trans ch3.out
   have hT4:=HT3.out.eff hG4.eff NO2.out.2.2
   have NO4:=hid (And.intro (hG4.not (b:=W.heap.size) (by omega) NO2.out.1) (And.intro (hG4.not (b:=bx) (by omega) nh) (hG4.not (b:=0) (by have:=HT3.out.1; omega) NO2.out.2.2)))
   have hsz4:=hG4.eff.size
   have hlt4:=HC.out.lt _ _ _ hJ4
   have GG4:Hid (Grow O O4 W W4):=GG2.out.trans (HG3.out.trans hG4)
   have HM4:=hid (ygI c W4 hc)
   have HJ4:=hid hJ4
   clear tells2 tl2 hG4 hJ4
   gi_wp2_with fail
   refine (wf_calls.mpr HM4.out).mono ?_
   rintro e w5 ⟨rfl,hn1,hn2,hn3⟩
   have hrec5:∃r,w5.heap[l2]? =some (.loop r):=by obtain ⟨r,hr⟩:=hrec4; exact ⟨r,(hn2.block l2 (yan hr)).trans hr⟩
   have HG5:Hid (Grow O4 O4 W4 w5):=Grow.of_below hn2
   have tl3:=hid (tells3.out (W4.heap.size+1) O4 w5 hn3 (fun h=>by have:=hlt4 _ h; omega) hn1 (hT4.later hn2) NO4.out.2.2)
   have HJ5:Hid (J (i * (M.length * S.length)+j * S.length) O4 w5):=ycb HC.out.stab HC.out.lt HJ4.out hn2
   have ey5:=hid ((hn2.cell (p:=⟨W.heap.size,0,none⟩) (by simp only []; omega)).trans ey4)
   have ch5:=hid ((hn2.cell (p:=⟨bx,0,none⟩) (by simp only []; omega)).trans ch4)
   have cm5:=hid ((hn2.cell (p:=⟨bz,0,none⟩) lm).trans cm)
   have hsz5:=hn2.size
   clear hn1 hn2 ey4 es4 ch4 cm hT4 HM4
   gi_wp2_with fail
   refine yeo (gf:=198) (lb:=#[.pointer (some ⟨W4.heap.size+1,0,none⟩)]) hrec5 rfl ydo S O4 rfl tl3.out
    (fun k O W=>J (i * (M.length * S.length)+j * S.length+k) O W) (fun c k O W=>c= .exit 0∧∃q,1≤q∧q≤(secs H M S).length∧Jx q O W)
    (fun k O W W' h hs hO=>HC.out.stab _ O W W' h hs hO) (fun c k O W W' h hs hO=>⟨h.1,by obtain ⟨q,h1,h2,h3⟩:=h.2; exact ⟨q,h1,h2,HC.out.stabx _ O W W' h3 hs hO⟩⟩)
    (fun k O W h=>HC.out.lt _ O W h) (fun c k O W h=>by obtain ⟨_,q,h1,h2,h3⟩:=h; exact HC.out.ltx _ O W h3) (by simpa using HJ5.out)
    (fun k O a' W'=>J (i * (M.length * S.length)+j * S.length+k) O W'∧∃s,S[k]? =some s∧
      a' = {tmps:=#[.func yf yi yc, .pointer (some ⟨bh,0,none⟩), .pointer (some ⟨bm,0,none⟩), .pointer (some ⟨bs,0,none⟩), .pointer (some ⟨W.heap.size,0,none⟩), .pointer (some ⟨bx,0,none⟩), .pointer (some ⟨bz,0,none⟩), .int .i64 s, .int .u64 a, .slice (some ⟨W.heap.size+1,0,none⟩) 1 1, .func (.func 198) #[] #[.pointer (some ⟨W.heap.size+1+1,0,none⟩)], .int .i64 h, .int .u64 b, .slice (some ⟨W2.heap.size,0,none⟩) 1 1, .func (.func 198) #[] #[.pointer (some ⟨W2.heap.size+1,0,none⟩)], .int .i64 m, .int .u64 c, .slice (some ⟨W4.heap.size,0,none⟩) 1 1, .func (.func 198) #[] #[.pointer (some ⟨W4.heap.size+1,0,none⟩)], .int .i64 s,undef,undef,undef,undef,undef,undef,undef,undef,undef,undef],defers:= []})
    (fun l o k O a' W' hr hn h=>⟨ybM HC.out.stab h.1 hn o,h.2⟩) ?assign3 ?body3 ?done3 ?stop3
   case assign3=>
    intro l k O6 W6 K hk hJ6 hG6 hK
    gi_wp2
    exact hK _ O6 _ (Grow.refl _ _) ⟨hJ6,S[k],zzp hk,rfl⟩
   case done3=>
    intro O6 W6 hG6 hJ6
    gi_wp2
    exact ⟨O6,HG5.out.trans hG6,by show J (i * (M.length * S.length)+(j+1) * S.length) O6 W6; rw [show i * (M.length * S.length)+(j+1) * S.length=i * (M.length * S.length)+j * S.length+S.length by rw [Nat.succ_mul]; omega]; exact hJ6⟩
   case stop3=>
    rintro c k O6 W6 hk1 hk2 hG6 ⟨rfl,q,hq1,hq2,hJ6⟩
    gi_wp2
    exact ⟨O6,HG5.out.trans hG6,rfl,q,hq1,hq2,hJ6⟩
   case body3=>
    rintro l3 k O6 a' W6 hk hG6 hl3 hrec6 hnl3 ⟨hJ6,s,es,rfl⟩
    have ey6:=(hG6.cell (b:=W.heap.size) (by omega) NO4.out.1 0).trans ey5.out
    have ch6:=(hG6.cell (b:=bx) (by omega) NO4.out.2.1 0).trans ch5.out
    have cm6:=(hG6.cell (b:=bz) (by omega) nm 0).trans cm5.out
    obtain ⟨hidx,hval⟩:=secs_get H M S i j k hi hj hk
    have hcall:=HC.out.call _ O6 W6 hidx hJ6 (GG4.out.trans (HG5.out.trans hG6))
    obtain ⟨_,eh'⟩:=zzq.1 eh
    obtain ⟨_,em'⟩:=zzq.1 em
    obtain ⟨_,es'⟩:=zzq.1 es
    have bh1:=bH.out i hi
    have bm1:=bM.out j hj
    have bs1:=bS.out k hk
    rw [eh'] at bh1
    rw [em'] at bm1
    rw [es'] at bs1
    rw [hval,eh',em',es',show 3600 * h+60 * m+s=h * 3600+m * 60+s by omega] at hcall
    have Hcall:=hid hcall
    have Hidx:=hid hidx
    obtain ⟨x1,x2⟩:=bh1
    obtain ⟨x3,x4⟩:=bm1
    obtain ⟨x5,x6⟩:=bs1
    clear hcall hidx hval eh' em' es' hJ6 hG6 tells3 tl3
    gi_wp2_with (refine callv (.tmp 20) (.tmp 27) _ rfl rfl rfl rfl Hcall.out ?_)
    rintro e W7 O7 h1 h2 h3 hend
    rcases hend with ⟨rfl,hJ7⟩ | ⟨rfl,hJ7⟩
    ·have HJ7:Hid (Grow O6 O7 W6 W7∧J (i * (M.length * S.length)+j * S.length+(k+1)) O7 W7):=⟨⟨h1,h2,h3⟩,hJ7⟩
     clear h1 h2 h3 hJ7
     refine ⟨_,rfl,?_⟩
     gi_wp2
     exact ⟨O7,HJ7.out.1,HJ7.out.2⟩
    ·have HJ7:Hid (Grow O6 O7 W6 W7∧∃q,1≤q∧q≤(secs H M S).length∧Jx q O7 W7):=⟨⟨h1,h2,h3⟩,_,by omega,Nat.succ_le_of_lt Hidx.out,hJ7⟩
     clear h1 h2 h3 hJ7
     refine ⟨_,rfl,?_⟩
     gi_wp2
     exact ⟨O7,HJ7.out.1,rfl,HJ7.out.2⟩
end
section
open Go.RowKit
theorem yhS (p:Nat→Bool) (a:Nat):∀b,sel p (a+b)=sel p a ++ (sel (fun k=>p (a+k)) b).map (fun x=>(a:Int)+x)
 | 0=>by simp [yiO]
 | b+1=>by
   rw [←Nat.add_assoc]
   by_cases h:p (a+b)=true
   ·rw [ydj h,ydj (p:=fun k=>p (a+k)) h,yhS p a b,List.map_append,List.append_assoc]; simp
   ·have h':p (a+b)=false:=by simpa using h
    rw [yfJ h',yfJ (p:=fun k=>p (a+k)) h',yhS p a b]
theorem ygR {p q:Nat→Bool} {n:Nat} (h:∀i,i < n→p i=q i):sel p n=sel q n:=by
 induction n with
 | zero=>rfl
 | succ n ih=>
   have e:=ih (fun i hi=>h i (by omega))
   cases hp:p n
   ·rw [yfJ hp,yfJ (by rw [←h n (by omega)]; exact hp),e]
   ·rw [ydj hp,ydj (by rw [←h n (by omega)]; exact hp),e]
def wpart (t:Nat→Nat) (i:Nat):List Int:=(sel (t i).testBit 64).map (fun x=>((64 * i:Nat):Int)+x)
def wupto (t:Nat→Nat):Nat→List Int
 | 0=> []
 | n+1=>wupto t n ++ wpart t n
theorem ygK (t:Nat→Nat):∀n,wupto t n=sel (bitW t) (64 * n)
 | 0=>rfl
 | n+1=>by
   rw [wupto,ygK t n,show 64 * (n+1)=64 * n+64 by omega,yhS,wpart]
   congr 1
   congr 1
   refine ygR (fun i hi=>?_)
   rw [bitW,show (64 * n+i) / 64=n by omega,show (64 * n+i) % 64=i by omega]
theorem ygL (t:Nat→Nat):∀n,(wupto t n).length=lenW t n
 | 0=>rfl
 | n+1=>by rw [wupto,List.length_append,ygL t n,wpart,List.length_map,sel_pop,lenW]
end
section
open Go.RowKit
attribute [local go_sem] Oper.semAt_some
def yjT (Ds:List Nat):List Deferred:=Ds.map fun D=>{target:= .collected D,args:=#[]}
theorem ya8 {F:Fence} {n:Nat} {P:Program} {fn:Func} {tmps:Array Value} {R:Ending→World→Prop} {u:FrameMode} (hu:u≠ .run):∀(Ds:List Nat) (w:World),Ds.Nodup→(∀D∈Ds,w.heap[D]? =some (.deferred (some [])))→
  (∀w':World,w'.os=w.os→w'.tape=w.tape→w'.output=w.output→w'.heap.size=w.heap.size→(∀b,b ∉ Ds→w'.heap[b]? =w.heap[b]?)→LeavesInM F n P fn tmps R [] u w')→LeavesInM F n P fn tmps R (yjT Ds) u w
 | [],w,_,_,h=>h w rfl rfl rfl rfl (fun _ _=>rfl)
 | D :: Ds,w,hn,hD,h=>by
   rw [List.nodup_cons] at hn
   refine ⟨hu, .inl ⟨D,_,rfl,run_takeDeferred (hD D (by simp)),?_⟩⟩
   refine ya8 hu Ds _ hn.2 (fun E hE=>(World.putObj_heap_other (fun e=>hn.1 (by rw [←e]; exact hE))).trans (hD E (by simp [hE]))) (fun w' h1 h2 h3 h4 h5=>h w' h1 h2 h3 (by rw [h4,World.putObj_size]) (fun b hb=>?_))
   simp only [List.mem_cons,not_or] at hb
   exact (h5 b hb.2).trans (World.putObj_heap_other hb.1)
theorem ycf {O:Nat→Prop} {W w w':World} {Ds:List Nat} (h:Eff O W w) (hn:∀D∈Ds,W.heap.size≤D) (h1:w'.os=w.os) (h2:w'.tape=w.tape) (h3:w'.output=w.output) (hs:w'.heap.size=w.heap.size) (hb:∀b,b ∉ Ds→w'.heap[b]? =w.heap[b]?):Eff O W w':=
 ⟨h1.trans h.os,h2.trans h.tape,h3.trans h.output,by rw [hs]; exact h.size,fun k hk hno=>(hb k (fun h4=>by have:=hn k h4; omega)).trans (h.block k hk hno)⟩
end
section
open Go.RowKit
def inL (l:List Int) (j:Nat):Bool:=decide ((j:Int)∈l) && decide (j < 400)
def InC (W:World) (b:Nat) (l:List Int):Prop:=∀j,j < 448→W.cell? ⟨b,j,none⟩=some (.bool (inL l j))
theorem InC.below {W W':World} {b B:Nat} {l:List Int} (h:InC W b l) (hb:Below B W W') (hB:b < B):InC W' b l:=fun j hj=>(hb.cell (p:=⟨b,j,none⟩) hB).trans (h j hj)
end
section
open Go.RowKit
abbrev RMS (w:World) (c:Cl) (W:World):Prop:=
 (W.cell? ⟨w.heap.size,8,none⟩=some (.int .i64 c.oin)∧W.cell? ⟨w.heap.size,9,none⟩=some (.bool c.oback)∧W.cell? ⟨w.heap.size,10,none⟩=some (.int .u64 (c.od 0:Nat))∧W.cell? ⟨w.heap.size,11,none⟩=some (.int .u64 (c.od 1:Nat))∧
   W.cell? ⟨w.heap.size,12,none⟩=some (.int .u64 (c.od 2:Nat))∧W.cell? ⟨w.heap.size,13,none⟩=some (.int .u64 (c.od 3:Nat))∧W.cell? ⟨w.heap.size,14,none⟩=some (.int .u64 (c.od 4:Nat))∧W.cell? ⟨w.heap.size,15,none⟩=some (.int .u64 (c.od 5:Nat))∧
   W.cell? ⟨w.heap.size,16,none⟩=some (.int .u64 (c.od 6:Nat))∧W.cell? ⟨w.heap.size,17,none⟩=some (.int .u64 (c.od 7:Nat)))∧
 (W.cell? ⟨w.heap.size,18,none⟩=some (.int .u64 (c.ys 0:Nat))∧W.cell? ⟨w.heap.size,19,none⟩=some (.int .u64 (c.ys 1:Nat))∧W.cell? ⟨w.heap.size,20,none⟩=some (.int .u64 (c.ys 2:Nat))∧W.cell? ⟨w.heap.size,21,none⟩=some (.int .u64 (c.ys 3:Nat))∧
   W.cell? ⟨w.heap.size,22,none⟩=some (.int .u64 (c.ys 4:Nat))∧W.cell? ⟨w.heap.size,23,none⟩=some (.int .u64 (c.ys 5:Nat))∧W.cell? ⟨w.heap.size,24,none⟩=some (.int .u64 (c.ys 6:Nat)))∧
 (W.cell? ⟨w.heap.size,25,none⟩=some (.int .i64 c.unit)∧W.cell? ⟨w.heap.size,26,none⟩=some (.int .i64 c.step)∧W.cell? ⟨w.heap.size,27,none⟩=some (.int .i64 c.anchor))∧
 ClB W w.heap.size c∧Below w.heap.size w W∧w.heap.size < W.heap.size
theorem RMS.of {w W:World} {c:Cl} (h:ClB W w.heap.size c) (hb:Below w.heap.size w W) (hs:w.heap.size < W.heap.size):RMS w c W:=
 ⟨h.ord,h.years,⟨h.tail.1,h.tail.2.1,h.tail.2.2.1⟩,h,hb,hs⟩
theorem RMS.keep {w W W':World} {c:Cl} (h:RMS w c W) (hb:Below W.heap.size W W'):RMS w c W':=
 RMS.of (h.2.2.2.1.below hb h.2.2.2.2.2) (h.2.2.2.2.1.trans (hb.mono (by have:=h.2.2.2.2.2; omega))) (zH h.2.2.2.2.2 hb.size)
end
section
open Go.RowKit
theorem CNth_any (oin:Int) (oback:Bool) (od:Nat→Nat) (s:Nat→Int) (w:World) (ho:oin=0∨oin=1∨oin=2) (h:∀i,i < 8→od i < 18446744073709551616) (hs:1≤s 5∧s 5≤7) :
  Calls Tryz.prog 139 #[ordv oin oback od,shq s] w fun e w'=>e= .returned (.bool (nthB oin oback od s))∧Below w.heap.size w w':=by
 have hm:=hid (fun (k:Nat) (hk:k < 8) (n:Int) W=>yb9 (od k) n W (h k hk))
 have h5:s 5=1∨s 5=2∨s 5=3∨s 5=4∨s 5=5∨s 5=6∨s 5=7:=by omega
 rw [shq]
 clear h hs
 rcases ho with rfl | rfl | rfl
 ·clear h5
  have hr:Hid (nthB 0 oback od s=true):=rfl
  rw [hr.out]
  go_enter Tryz.func139,Tryz.ntmps139
  go_wp2
  go_ret
  exact ⟨rfl,yaa (yaa (Below.refl _ _) (zG _)) (by simp)⟩
 all_goals
  rcases h5 with h5 | h5 | h5 | h5 | h5 | h5 | h5
 all_goals
  rw [nthB,h5]
  clear h5
  cases oback
 all_goals
  go_enter Tryz.func139,Tryz.ntmps139
  go_wp2_with (go_at_call 82; refine (hm.out _ ?_ _ _).mono ?_; decide; rintro e w' ⟨rfl,rfl⟩)
  go_ret
  exact ⟨rfl,yaa (yaa (Below.refl _ _) (zG _)) (by simp)⟩
end
section
open Go.RowKit
end
section
open Go.RowKit
def domB (c:Cl) (s:Nat→Int):Bool:=if c.or then hasB (c.m 4) (s 3) || hasB (c.m 6) (s 5) else hasB (c.m 4) (s 3) && hasB (c.m 6) (s 5)
def dateB (c:Cl) (s:Nat→Int):Bool:=domB c s && (hasB (c.m 3) (s 2) && (hasB (c.m 5) (s 4) && (hasW c.ys (s 1 - 1970) && nthB c.oin c.oback c.od s)))
abbrev DaS (w:World) (c:Cl) (s:Nat→Int) (W:World):Prop:=
 ClB W w.heap.size c∧ShS W (w.heap.size+1) s∧Below w.heap.size w W∧w.heap.size+1 < W.heap.size
theorem DaS.keep {w W W':World} {c:Cl} {s:Nat→Int} (h:DaS w c s W) (hb:Below W.heap.size W W'):DaS w c s W':=by
 obtain ⟨h1,h2,h3,h4⟩:=h
 exact ⟨h1.below hb (by omega),h2.below hb h4,h3.trans (hb.mono (by omega)),zH h4 hb.size⟩
theorem daS_new (w:World) (c:Cl) (s:Nat→Int) (t t':TypeId):DaS w c s ((w.alloc (.cells (yac c).toArray t)).alloc (.cells (yaV s).toArray t')):=by
 have h1:=(yb7 w c t).below (yaa (o:= .cells (yaV s).toArray t') (Below.refl _ _) (zG _)) (by simp)
 have h2:=ycF (w.alloc (.cells (yac c).toArray t)) t' (s 0) (s 1) (s 2) (s 3) (s 4) (s 5) (s 6) (s 7) (s 8) (s 9)
 rw [zzN] at h2
 exact ⟨h1,h2,yaa (yaa (Below.refl _ _) (zG _)) (by simp),by simp⟩
end
section
open Go.RowKit
abbrev D2S (w:World) (c:Cl) (s:Nat→Int) (b1 b2:Nat) (fv:Value) (W:World):Prop:=
 ClB W b1 c∧ShS W w.heap.size s∧W.cell? ⟨b2,0,none⟩=some fv∧Below w.heap.size w W∧w.heap.size < W.heap.size
theorem D2S.keep {w W W':World} {c:Cl} {s:Nat→Int} {b1 b2:Nat} {fv:Value} (h:D2S w c s b1 b2 fv W) (l1:b1 < w.heap.size) (l2:b2 < w.heap.size) (hb:Below W.heap.size W W'):D2S w c s b1 b2 fv W':=by
 obtain ⟨h1,h2,h3,h4,h5⟩:=h
 exact ⟨h1.below hb (by omega),h2.below hb h5,(hb.cell (p:=⟨b2,0,none⟩) (by simp only []; omega)).trans h3,h4.trans (hb.mono (by omega)),zH h5 hb.size⟩
theorem d2S_new (w:World) (c:Cl) (s:Nat→Int) (b1 b2:Nat) (fv:Value) (t:TypeId) (h1:ClB w b1 c) (l1:b1 < w.heap.size) (h2:w.cell? ⟨b2,0,none⟩=some fv) (l2:b2 < w.heap.size):D2S w c s b1 b2 fv (w.alloc (.cells (yaV s).toArray t)):=by
 have hb:=yaa (o:= .cells (yaV s).toArray t) (Below.refl w.heap.size w) (zG _)
 exact ⟨h1.below hb l1,ycF w t _ _ _ _ _ _ _ _ _ _,(hb.cell (p:=⟨b2,0,none⟩) l2).trans h2,hb,by simp⟩
theorem CD2_any (c:Cl) (n:Int) (b1 b2 lo:Nat) (fv:Value) (w:World) (hc:c.Ok) (ho:c.oin=0∨c.oin=1∨c.oin=2) (h0:0≤n) (h1:n < 146097) (hcl:ClB w b1 c) (l1:b1 < w.heap.size)
  (hfv:w.cell? ⟨b2,0,none⟩=some fv) (l2:b2 < w.heap.size) (hu:UDV w lo c.unit c.step c.anchor fv) :
  Calls Tryz.prog 137 #[shN n, .pointer (some ⟨b1,0,none⟩), .pointer (some ⟨b2,0,none⟩)] w fun e w'=>e= .returned (.bool (dateB c (shF n) && ycC c.unit c.step c.anchor n))∧Below w.heap.size w w':=by
 have hcall:∃g cap,fv= .func (.func g) #[] cap∧(g=172∧cap= #[]∨g=173∧cap= #[]∨∃b3 b7 b4:Nat,g=174∧cap= #[.pointer (some ⟨b3,0,none⟩), .pointer (some ⟨b7,0,none⟩), .pointer (some ⟨b4,0,none⟩)])∧
   ∀W,Below w.heap.size w W→Calls Tryz.prog g (#[shq (shF n)] ++ cap) W fun e w'=>e= .returned (.bool (ycC c.unit c.step c.anchor n))∧Below W.heap.size W w':=by
  rw [ybg]
  rcases hu with ⟨h,rfl⟩ | ⟨ha,hb,hz,rfl⟩ | ⟨ha,hb,hz,b3,b7,b4,rfl,hB,-,-,-⟩
  ·refine ⟨_,_,rfl, .inl ⟨rfl,rfl⟩,fun W _=>?_⟩
   have e:ycC c.unit c.step c.anchor n=false:=by
    unfold ycC
    rcases h with h | h
    ·rw [h]; rfl
    ·rw [zzd (by omega:¬1≤c.step)]; simp
   rw [e]
   exact UD1_any n W
  ·refine ⟨_,_,rfl, .inr (.inl ⟨rfl,rfl⟩),fun W _=>?_⟩
   have e:ycC c.unit c.step c.anchor n=true:=by
    unfold ycC
    rw [ha,zzZ hb,zzZ hz]; rfl
   rw [e]
   exact UD2_any n W
  ·refine ⟨_,_,rfl, .inr (.inr ⟨b3,b7,b4,rfl,rfl⟩),fun W hW=>?_⟩
   have hun:0≤c.unit∧c.unit≤6:=by
    have:=ha
    simp only [yaZ,unB,zzX,zzY] at this
    exact this.1
   have hbd:=ydz c.unit c.anchor
   by_cases hs1:c.step=1
   ·have e:ycC c.unit c.step c.anchor n=true:=by
     unfold ycC
     rw [ha,zzZ hb,zzZ (.inr hs1)]; rfl
    have e2:ybR c.step (whD c.unit n - yaM c.unit c.anchor)=true:=by rw [ybR,hs1]; simp
    rw [e,←e2]
    exact UD3_any n c.unit (yaM c.unit c.anchor) c.step b3 b7 b4 W h0 h1 (yeR hz hun.1) hun.2 hb hc.step.2 hbd.1 hbd.2 (hB.below hW)
   ·have e:ycC c.unit c.step c.anchor n=ybR c.step (whD c.unit n - yaM c.unit c.anchor):=by
     unfold ycC
     rw [ha,zzZ hb,zzd (by omega:¬(0 < yav c.unit∨c.step=1))]; simp
    rw [e]
    exact UD3_any n c.unit (yaM c.unit c.anchor) c.step b3 b7 b4 W h0 h1 (yeR hz hun.1) hun.2 hb hc.step.2 hbd.1 hbd.2 (hB.below hW)
 obtain ⟨xd,hxd⟩:∃x,ycC c.unit c.step c.anchor n=x:=⟨_,rfl⟩
 have hyr:=shF_yr h0 h1
 have hwk:=shF_wk n
 rw [hxd] at hcall⊢
 rw [←ybg]
 obtain ⟨s,hs⟩:∃s,shF n=s:=⟨_,rfl⟩
 rw [hs] at hcall hyr hwk⊢
 clear hxd hs h0 h1 hu
 obtain ⟨g,cap,rfl,hg,hcall⟩:=hcall
 have cU:=hid hcall
 clear hcall
 have m3:=hid (fun W=>yb9 (c.m 3) (s 2) W (hc.m 3 (by omega)))
 have m4:=hid (fun W=>yb9 (c.m 4) (s 3) W (hc.m 4 (by omega)))
 have m5:=hid (fun W=>yb9 (c.m 5) (s 4) W (hc.m 5 (by omega)))
 have m6:=hid (fun W=>yb9 (c.m 6) (s 5) W (hc.m 6 (by omega)))
 have cn:=hid (fun W=>CNth_any c.oin c.oback c.od s W ho hc.od hwk)
 have cw:=hid (fun W=>WHas_any c.ys (s 1 - 1970) W hc.ys)
 have hsub:=hid (IntWalk.i64_in (s 1 - 1970) (by omega))
 have hr:Hid (dateB c s= (domB c s && (hasB (c.m 3) (s 2) && (hasB (c.m 5) (s 4) && (hasW c.ys (s 1 - 1970) && nthB c.oin c.oback c.od s))))):=rfl
 rw [hr.out,domB]
 rw [shq] at cn cU⊢
 clear hr hc ho hwk hyr
 obtain ⟨x3,hx3⟩:∃b,hasB (c.m 3) (s 2)=b:=⟨_,rfl⟩
 obtain ⟨x4,hx4⟩:∃b,hasB (c.m 4) (s 3)=b:=⟨_,rfl⟩
 obtain ⟨x5,hx5⟩:∃b,hasB (c.m 5) (s 4)=b:=⟨_,rfl⟩
 obtain ⟨x6,hx6⟩:∃b,hasB (c.m 6) (s 5)=b:=⟨_,rfl⟩
 obtain ⟨xw,hxw⟩:∃b,hasW c.ys (s 1 - 1970)=b:=⟨_,rfl⟩
 obtain ⟨xn,hxn⟩:∃b,nthB c.oin c.oback c.od s=b:=⟨_,rfl⟩
 rw [hx3] at m3⊢
 rw [hx4] at m4⊢
 rw [hx5] at m5⊢
 rw [hx6] at m6⊢
 rw [hxw] at cw⊢
 rw [hxn] at cn⊢
 obtain ⟨xo,hxo⟩:∃b,c.or=b:=⟨_,rfl⟩
 have Hxo:=hid hxo
 rw [hxo]
 clear hx3 hx4 hx5 hx6 hxw hxn hxo
 obtain ⟨W0,hW0⟩:∃W0,w.alloc (.cells (yaV s).toArray 88)=W0:=⟨_,rfl⟩
 have HD:Hid (D2S w c s b1 b2 (.func (.func g) #[] cap) W0):=by rw [←hW0]; exact d2S_new w c s b1 b2 _ _ hcl l1 hfv l2
 have HW0:=hid hW0
 have Hk:Hid (∀W W',D2S w c s b1 b2 (.func (.func g) #[] cap) W→Below W.heap.size W W'→D2S w c s b1 b2 (.func (.func g) #[] cap) W'):=fun W W' h hb=>h.keep l1 l2 hb
 clear hW0 hcl l1 hfv l2
 go_enter Tryz.func137,Tryz.ntmps137
 go_wp2_with fail
 rw [HW0.out]
 have r4:=HD.out.1.at 4 rfl
 have r6:=HD.out.1.at 6 rfl
 obtain ⟨-,-,-,q3,-,q5,-,-,-,-⟩:=HD.out.2.1
 go_quiet (first
  | (go_at_call 82; with_reducible refine (m4.out _).mono ?_; exact fun _ _ h=>⟨h.1,_,h.2.symm⟩)
  | (go_at_call 82; with_reducible refine (m6.out _).mono ?_; exact fun _ _ h=>⟨h.1,_,h.2.symm⟩))
 clear r4 r6 q3 q5 m4 m6
 have HB0:Hid (Below w.heap.size w W0):=HD.out.2.2.2.1
 have r7:=HD.out.1.at 7 rfl
 have r3:=HD.out.1.at 3 rfl
 obtain ⟨-,-,q2,-,-,-,-,-,-,-⟩:=HD.out.2.1
 rw [Hxo.out] at r7
 cases xo <;> cases x4 <;> cases x6
 all_goals go_wp2_with fail
 all_goals try
  go_ret
  exact ⟨rfl,yay HB0.out _⟩
 all_goals
  refine (m3.out _).mono ?_
  rintro e w' ⟨rfl,rfl⟩
  clear r7 r3 q2
  cases x3
  ·go_wp2
   go_ret
   exact ⟨rfl,yay HB0.out _⟩
  have r5:=HD.out.1.at 5 rfl
  obtain ⟨-,-,-,-,q4,-,-,-,-,-⟩:=HD.out.2.1
  go_wp2_with fail
  refine (m5.out _).mono ?_
  rintro e w' ⟨rfl,rfl⟩
  clear r5 q4
  cases x5
  ·go_wp2
   go_ret
   exact ⟨rfl,yay HB0.out _⟩
  obtain ⟨y0,y1,y2,y3,y4,y5,y6⟩:=HD.out.1.years
  obtain ⟨-,q1,-,-,-,-,-,-,-,-⟩:=HD.out.2.1
  have hsu:=hsub.out
  go_wp2_with fail
  refine (cw.out _).mono ?_
  rintro e w1 ⟨rfl,hB1⟩
  have HD1:=hid (Hk.out _ _ HD.out ((yay (Below.refl _ _) _).trans hB1))
  clear y0 y1 y2 y3 y4 y5 y6 q1 hsu hB1
  cases xw
  ·go_wp2
   go_ret
   exact ⟨rfl,HD1.out.2.2.2.1⟩
  obtain ⟨o0,o1,o2,o3,o4,o5,o6,o7,o8,o9⟩:=HD1.out.1.ord
  obtain ⟨q0,q1,q2,q3,q4,q5,q6,q7,q8,q9⟩:=HD1.out.2.1
  go_wp2_with fail
  refine (cn.out _).mono ?_
  rintro e w2 ⟨rfl,hB2⟩
  have HD2:=hid (Hk.out _ _ HD1.out hB2)
  clear hB2 o0 o1 o2 o3 o4 o5 o6 o7 o8 o9 q0 q1 q2 q3 q4 q5 q6 q7 q8 q9
  cases xn
  ·go_wp2
   go_ret
   exact ⟨rfl,HD2.out.2.2.2.1⟩
  have hfu:=HD2.out.2.2.1
  obtain ⟨q0,q1,q2,q3,q4,q5,q6,q7,q8,q9⟩:=HD2.out.2.1
  rcases hg with ⟨rfl,rfl⟩ | ⟨rfl,rfl⟩ | ⟨b3,b7,b4,rfl,rfl⟩
  all_goals
   go_wp2_with fail
   refine (cU.out _ HD2.out.2.2.2.1).mono ?_
   rintro e w3 ⟨rfl,hB3⟩
   have HD3:=hid (Hk.out _ _ HD2.out hB3)
   clear hfu q0 q1 q2 q3 q4 q5 q6 q7 q8 q9 hB3
   go_wp2
   go_ret
   exact ⟨rfl,HD3.out.2.2.2.1⟩
end
end Go.Proofs.YtjahgimnfliooaaGreatDoor
