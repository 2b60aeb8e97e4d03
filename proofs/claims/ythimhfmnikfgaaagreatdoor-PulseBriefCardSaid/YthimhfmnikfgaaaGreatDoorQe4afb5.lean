/-
  The seconds of three lists of hours, minutes and seconds, rising; and that tod.Next's answer is the first one from a second on.
  ferialaw07.lives answers true.
  What feriaref07.Held, tod.Last and tod.Len compute.
  The first second from one on by a search through the list; the last one; how many.
  The function that tod.All makes tells the seconds of its masks: three ranges over functions, one within the other.
  The numbers of a set of seven words, word by word and as one rising list.
  The function that wide.All makes tells a set's numbers, word by word.
-/
import Derived.Test.YthimhfmnikfgaaaGreatDoorQ40fbd4
import Derived.Test.YthimhfmnikfgaaaGreatDoorQ5951d0
import Derived.WalkMore
import Derived.Test.YthimhfmnikfgaaaGreatDoorQ5be90c
namespace Go.Proofs.YthimhfmnikfgaaaGreatDoor
set_option linter.unusedVariables false
section
open Go.RowKit
def secRow (h m:Int) (S:List Int):List Int:=S.map (fun s=>3600 * h+60 * m+s)
def secHour (h:Int) (M S:List Int):List Int:=M.flatMap (fun m=>secRow h m S)
def secs (H M S:List Int):List Int:=H.flatMap (fun h=>secHour h M S)
theorem mem_secs {H M S:List Int} {x:Int}:x∈secs H M S↔∃h m s,h∈H∧m∈M∧s∈S∧x=3600 * h+60 * m+s:=by
 simp only [secs,secHour,secRow,List.mem_flatMap,List.mem_map]
 constructor
 ·rintro ⟨h,hh,m,hm,s,hs,rfl⟩; exact ⟨h,m,s,hh,hm,hs,rfl⟩
 ·rintro ⟨h,m,s,hh,hm,hs,rfl⟩; exact ⟨h,hh,m,hm,s,hs,rfl⟩
theorem secRow_len (h m:Int) (S:List Int):(secRow h m S).length=S.length:=by simp [secRow]
theorem secHour_len (h:Int) (M S:List Int):(secHour h M S).length=M.length * S.length:=by
 induction M with
 | nil=>simp [secHour]
 | cons m M ih=>
   have:secHour h (m :: M) S=secRow h m S ++ secHour h M S:=by simp [secHour]
   rw [this,List.length_append,ih,secRow_len,List.length_cons,Nat.succ_mul]; omega
theorem secs_len (H M S:List Int):(secs H M S).length=H.length * (M.length * S.length):=by
 induction H with
 | nil=>simp [secs]
 | cons h H ih=>
   have:secs (h :: H) M S=secHour h M S ++ secs H M S:=by simp [secs]
   rw [this,List.length_append,ih,secHour_len,List.length_cons,Nat.succ_mul]; omega
theorem secs_rising {H M S:List Int} (hH:H.Pairwise (·< ·)) (hM:M.Pairwise (·< ·)) (hS:S.Pairwise (·< ·)) (bM:∀m∈M,0≤m∧m≤59) (bS:∀s∈S,0≤s∧s≤59):(secs H M S).Pairwise (·< ·):=by
 have row:∀h m,(secRow h m S).Pairwise (·< ·):=fun h m=>List.pairwise_map.mpr (hS.imp (fun {a b} hab=>by omega))
 have inRow:∀h m x,x∈secRow h m S→3600 * h+60 * m≤x∧x < 3600 * h+60 * m+60:=fun h m x hx=>by
  obtain ⟨s,hs,rfl⟩:=List.mem_map.mp hx
  have:=bS s hs
  omega
 have hour:∀h (M':List Int),M'.Pairwise (·< ·)→(secHour h M' S).Pairwise (·< ·):=fun h M' hM'=>by
  induction M' with
  | nil=>simp [secHour]
  | cons m M' ih=>
    have e:secHour h (m :: M') S=secRow h m S ++ secHour h M' S:=by simp [secHour]
    rw [e,List.pairwise_append]
    rw [List.pairwise_cons] at hM'
    refine ⟨row h m,ih hM'.2,fun x hx y hy=>?_⟩
    obtain ⟨m2,hm2,hy⟩:=List.mem_flatMap.mp hy
    have h1:=inRow h m x hx
    have h2:=inRow h m2 y hy
    have:=hM'.1 m2 hm2
    omega
 have inHour:∀h x,x∈secHour h M S→3600 * h≤x∧x < 3600 * h+3600:=fun h x hx=>by
  obtain ⟨m,hm,hx⟩:=List.mem_flatMap.mp hx
  have h1:=inRow h m x hx
  have:=bM m hm
  omega
 induction H with
 | nil=>simp [secs]
 | cons h H ih=>
   have e:secs (h :: H) M S=secHour h M S ++ secs H M S:=by simp [secs]
   rw [e,List.pairwise_append]
   rw [List.pairwise_cons] at hH
   refine ⟨hour h M hM,ih hH.2,fun x hx y hy=>?_⟩
   obtain ⟨h2,hh2,hy⟩:=List.mem_flatMap.mp hy
   have h1:=inHour h x hx
   have h3:=inHour h2 y hy
   have:=hH.1 h2 hh2
   omega
theorem mem_sel {m:Nat} {x:Int}:x∈sel m.testBit 64↔∃k:Nat,k < 64∧m.testBit k=true∧x= (k:Int):=sel_mem
theorem hasB_spec {m:Nat} {n:Int} (hm:m < 18446744073709551616):hasB m n=true↔n∈sel m.testBit 64:=by
 rw [mem_sel]
 simp only [hasB,Bool.and_eq_true,decide_eq_true_eq]
 constructor
 ·rintro ⟨h1,h2⟩
  refine ⟨n.toNat,?_,h2,by omega⟩
  rcases Nat.lt_or_ge n.toNat 64 with h | h
  ·exact h
  ·rw [test_big hm h] at h2; cases h2
 ·rintro ⟨k,_,hb,rfl⟩
  exact ⟨by omega,by simpa using hb⟩
end
section
open Go.RowKit
end
section
open Go.RowKit
theorem held_law (x t:Nat) (ht:t < 64) (hx:x < 18446744073709551616):ofM (sel x.testBit (t+1))=cutM x t:=by
 symm
 refine eq_mk (cutM_lt _ hx) (fun i hi=>?_)
 rw [cutM_test,inB,Bool.eq_iff_iff]
 simp only [Bool.and_eq_true,decide_eq_true_eq,sel_mem]
 constructor
 ·rintro ⟨h1,h2,h3⟩; exact ⟨i,by omega,h1,rfl⟩
 ·rintro ⟨k,h1,h2,h3⟩
  have:i=k:=by omega
  subst this
  exact ⟨h2,hi,by omega⟩
set_option maxHeartbeats 800000 in
theorem RHeld_any (x t:Nat) (w:World) (hx:x < 18446744073709551616) (ht:t < 64) :
  Calls Tryz.prog 134 #[.int .u64 x, .int .i64 t] w fun e w'=>e= .returned (.int .u64 (cutM x t))∧Below w.heap.size w w':=by
 have H1:=hid (fun n W=>RHas_any x n W hx)
 have HL:=hid (held_law x t ht hx)
 go_enter Tryz.func134,Tryz.ntmps134
 go_wp2
 go_loopw [5,6] (fun v i wr=>∃(n m cap:Nat) (a:Option Addr),i= .int .i64 n∧n≤t+1∧v= .slice a m cap∧m= (sel x.testBit n).length∧m≤n∧wr.ownsRow w.heap.size 3 1 (.slice a m cap) m (ints (sel x.testBit n))∧Below w.heap.size w wr) (fun _ i _=>(64 - intOf i).toNat)
 case atStart=>exact ⟨0,0,0,none,rfl,by omega,rfl,rfl,by omega,World.ownsRow_nil _ _ _ _,Below.refl _ _⟩
 case round=>
  obtain ⟨n,m,cap,a,rfl,hn,rfl,hme,hm,hown,hB⟩:=hrel
  have hsz:=hB.size
  by_cases hlt:n≤t
  ·have H2:=hid (hasB_nat x n ▸ H1.out n wr)
   have Hme:=hid hme
   clear hme
   by_cases hb:x.testBit n=true
   ·have Hy:=hid (sel_yes hb)
    rw [hb] at H2
    clear hb
    go_wp2_with fail
    refine H2.out.mono ?_
    rintro e w1 ⟨rfl,rfl⟩
    go_wp2_with (at_builtin; refine app1 eInt (.tmp 15) (.tmp 17) rfl rfl rfl rfl rfl hown rfl (by omega) (by omega) hsz ?_)
    intro a' cap' w' hown2 hg2 hb2 hf2
    have hB2:=hB.trans hb2
    rw [←ints_one,←ints_append,←Hy.out] at hown2
    go_wp2
    exact ⟨⟨n+1,m+1,cap',a',by go_num,by omega,rfl,by rw [Hy.out,List.length_append,←Hme.out]; rfl,by omega,hown2,hB2⟩,by simp [intOf]; omega⟩
   ·have hb':x.testBit n=false:=by simpa using hb
    have Hy:=hid (sel_no hb')
    rw [hb'] at H2
    clear hb hb'
    go_wp2_with (go_at_call 29; refine H2.out.mono ?_; rintro e w1 ⟨rfl,rfl⟩)
    exact ⟨⟨n+1,m,cap,a,by go_num,by omega,rfl,by rw [Hy.out]; exact Hme.out,by omega,by rw [Hy.out]; exact hown,hB⟩,by simp [intOf]; omega⟩
  ·obtain rfl:n=t+1:=by omega
   have HO:=ROf_any a cap (sel x.testBit (t+1)) wr (by omega) (owns_sl hown)
   rw [HL.out,←hme] at HO
   have HO':=hid HO
   have HB:=hid hB
   clear hme hown HO hB
   go_wp2_with fail
   refine HO'.out.mono ?_
   rintro e w1 ⟨rfl,hb⟩
   go_wp2
   go_ret
   exact ⟨rfl,HB.out.trans (hb.mono HB.out.size)⟩
end
section
open Go.RowKit
theorem sel_cut_bd (m:Nat) (t:Nat) {x:Int} (hx:x∈sel (cutM m t).testBit 64):0≤x∧x≤t:=by
 obtain ⟨k,hk,hb,rfl⟩:=sel_mem.mp hx
 rw [cutM_test] at hb
 simp at hb
 omega
def secsOf (hs ms ss:Nat):List Int:=secs (sel (cutM hs 23).testBit 64) (sel (cutM ms 59).testBit 64) (sel (cutM ss 59).testBit 64)
theorem secsOf_rising (hs ms ss:Nat):(secsOf hs ms ss).Pairwise (·< ·):=
 secs_rising (sel_rising _ 64) (sel_rising _ 64) (sel_rising _ 64) (fun x hx=>sel_cut_bd ms 59 hx) (fun x hx=>sel_cut_bd ss 59 hx)
theorem secsOf_bd (hs ms ss:Nat) {x:Int} (hx:x∈secsOf hs ms ss):0≤x∧x < 86400:=by
 obtain ⟨h,m,s,h1,h2,h3,rfl⟩:=mem_secs.mp hx
 have:=sel_cut_bd hs 23 h1
 have:=sel_cut_bd ms 59 h2
 have:=sel_cut_bd ss 59 h3
 omega
end
section
open Go.RowKit
attribute [local go_sem] Oper.semAt_some
theorem secRow_get (h m:Int) (S:List Int) (k:Nat) (hk:k < S.length):(secRow h m S)[k]? =some (3600 * h+60 * m+S[k]):=by
 simp [secRow,List.getElem?_eq_getElem hk]
theorem secHour_get (h:Int) (S:List Int) (k:Nat) (hk:k < S.length):∀(M:List Int) (j:Nat) (hj:j < M.length),(secHour h M S)[j * S.length+k]? =some (3600 * h+60 * M[j]+S[k])
 | m :: M,0,_=>by
   have e:secHour h (m :: M) S=secRow h m S ++ secHour h M S:=by simp [secHour]
   rw [e,List.getElem?_append_left (by rw [secRow_len]; omega),Nat.zero_mul,Nat.zero_add,secRow_get h m S k hk]; rfl
 | m :: M,j+1,hj=>by
   have e:secHour h (m :: M) S=secRow h m S ++ secHour h M S:=by simp [secHour]
   have e2:(j+1) * S.length+k=S.length+(j * S.length+k):=by rw [Nat.succ_mul]; omega
   rw [e,e2,List.getElem?_append_right (by rw [secRow_len]; omega),secRow_len,Nat.add_sub_cancel_left,secHour_get h S k hk M j (by simpa using hj)]; rfl
theorem secs_get' (M S:List Int) (j k:Nat) (hj:j < M.length) (hk:k < S.length):∀(H:List Int) (i:Nat) (hi:i < H.length),(secs H M S)[i * (M.length * S.length)+j * S.length+k]? =some (3600 * H[i]+60 * M[j]+S[k])
 | h :: H,0,_=>by
   have e:secs (h :: H) M S=secHour h M S ++ secs H M S:=by simp [secs]
   have hlt:j * S.length+k < M.length * S.length:=by
    have:(j+1) * S.length≤M.length * S.length:=Nat.mul_le_mul_right _ hj
    rw [Nat.succ_mul] at this; omega
   rw [e,Nat.zero_mul,Nat.zero_add,List.getElem?_append_left (by rw [secHour_len]; exact hlt),secHour_get h S k hk M j hj]; rfl
 | h :: H,i+1,hi=>by
   have e:secs (h :: H) M S=secHour h M S ++ secs H M S:=by simp [secs]
   have e2:(i+1) * (M.length * S.length)+j * S.length+k=M.length * S.length+(i * (M.length * S.length)+j * S.length+k):=by rw [Nat.succ_mul]; omega
   rw [e,e2,List.getElem?_append_right (by rw [secHour_len]; omega),secHour_len,Nat.add_sub_cancel_left,secs_get' M S j k hj hk H i (by simpa using hi)]; rfl
theorem secs_get (H M S:List Int) (i j k:Nat) (hi:i < H.length) (hj:j < M.length) (hk:k < S.length) :
  ∃h:i * (M.length * S.length)+j * S.length+k < (secs H M S).length,(secs H M S)[i * (M.length * S.length)+j * S.length+k]=3600 * H[i]+60 * M[j]+S[k]:=by
 obtain ⟨h,e⟩:=List.getElem?_eq_some_iff.1 (secs_get' M S j k hj hk H i hi)
 exact ⟨h,e⟩
theorem putObj_cell {W:World} {l:Nat} {o:Obj} {b i:Nat} {v:Value} (hr:∃r,W.heap[l]? =some (.loop r)) (h:W.cell? ⟨b,i,none⟩=some v):(W.putObj l o).cell? ⟨b,i,none⟩=some v:=by
 refine (World.cell?_of_block (w:=W) (a:=⟨b,i,none⟩) (World.putObj_heap_other (fun e=>?_))).trans h
 obtain ⟨r,hr⟩:=hr
 simp only at e
 subst e
 rw [World.cell?] at h
 simp [hr] at h
theorem MAll_one (m:Nat) (W:World) (hm:m < 18446744073709551616):Calls Tryz.prog 152 #[.slice (some ⟨W.heap.size,0,none⟩) 1 1] (W.alloc (.cells #[.int .u64 m] 29)) fun e w'=>
  e= .returned (.func (.func 182) #[] #[.pointer (some ⟨W.heap.size+1,0,none⟩)])∧w'.cell? ⟨W.heap.size+1,0,none⟩=some (.int .u64 m)∧Below W.heap.size W w'∧W.heap.size+1 < w'.heap.size:=by
 have h:=MAll_any (some ⟨W.heap.size,0,none⟩) 1 [m] (W.alloc (.cells #[.int .u64 m] 29)) (by simp) (.inr ⟨W.heap.size,0,rfl,by simp,fun j hj=>by simp [u64s] at hj⊢; subst hj; simp [go_sem]⟩) (by simpa using hm)
 rw [andM_one hm,World.size_alloc] at h
 exact h.mono fun e w' ⟨h1,h2,h3,h4⟩=>⟨h1,h2,(below_new (Below.refl _ _) (zG _)).trans (h3.mono (by omega)),h4⟩
theorem Grow.of_below {O:Nat→Prop} {W W':World} (h:Below W.heap.size W W'):Grow O O W W':=⟨fun _ h=>h,fun _ h=> .inl h,Eff.of_below h⟩
theorem stab_below {I:OwnP} (hI:StabO I) (hl:LtO I) {k:Nat} {O:Nat→Prop} {W W':World} (h:I k O W) (hb:Below W.heap.size W W'):I k O W':=hI k O W W' h hb.size (fun b hb2=>hb.block b (hl k O W h b hb2))
theorem stab_put {I:OwnP} (hI:StabO I) {k:Nat} {O:Nat→Prop} {W:World} (h:I k O W) {l:Nat} (hn:¬O l) (o:Obj):I k O (W.putObj l o):=
 hI k O W _ h (by rw [World.putObj_size]; exact zG _) (fun b hb=>World.putObj_heap_other (fun e=>hn (e ▸ hb)))
set_option maxRecDepth 100000 in
set_option maxHeartbeats 3200000 in
theorem TodIter_any (a b c bh bm bs:Nat) (y:Value) (J Jx:OwnP) (O:Nat→Prop) (W:World) (ha:a < 18446744073709551616) (hb:b < 18446744073709551616) (hc:c < 18446744073709551616)
  (hC:Client2 Tryz.prog y (secs (sel a.testBit 64) (sel b.testBit 64) (sel c.testBit 64)) J Jx O W) (hJ:J 0 O W)
  (hbh:bh < W.heap.size) (hbm:bm < W.heap.size) (hbs:bs < W.heap.size) (hnh:¬O bh) (hnm:¬O bm) (hns:¬O bs)
  (hch:W.cell? ⟨bh,0,none⟩=some (.int .u64 a)) (hcm:W.cell? ⟨bm,0,none⟩=some (.int .u64 b)) (hcs:W.cell? ⟨bs,0,none⟩=some (.int .u64 c)) (hT:Tab W) (hTO:¬O 0) :
  Calls Tryz.prog 210 #[y, .pointer (some ⟨bh,0,none⟩), .pointer (some ⟨bm,0,none⟩), .pointer (some ⟨bs,0,none⟩)] W fun e W'=>(∃v,e= .returned v)∧Told (secs (sel a.testBit 64) (sel b.testBit 64) (sel c.testBit 64)) J Jx O W W':=by
 obtain ⟨yf,yi,yc,rfl⟩:=hC.form
 have HC:=hid hC
 have HT:=hid hT
 have hT0:=hT.1
 have HN:=hid (And.intro hnm (And.intro hns hTO))
 obtain ⟨W1,hW1⟩:∃W1,W.alloc (.cells #[.func yf yi yc] 148)=W1:=⟨_,rfl⟩
 have q3:W1.heap.size=W.heap.size+1:=by rw [←hW1]; simp
 have q4:Below W.heap.size W W1:=by rw [←hW1]; exact below_new (Below.refl _ _) (zG _)
 have q5:W1.cell? ⟨W.heap.size,0,none⟩=some (.func yf yi yc):=by rw [←hW1]; simp [go_sem]
 have hMA:=MAll_one a W1 ha
 rw [q3] at hMA
 have HM:=hid hMA
 have HW1:=hid hW1
 have ey:=hid q5
 have hch1:=(q4.cell (p:=⟨bh,0,none⟩) hbh).trans hch
 have Q4:=hid q4
 have Hm:=hid hcm
 have Hs:=hid hcs
 have HJ:=hid hJ
 have hlt:=hC.lt 0 O W hJ
 have Hlt:=hid hlt
 have lH:=sel_len a.testBit 64
 have lM:=sel_len b.testBit 64
 have lS:=sel_len c.testBit 64
 have bH:=hid (fun k hk=>sel_bd (p:=a.testBit) k hk)
 have bM:=hid (fun k hk=>sel_bd (p:=b.testBit) k hk)
 have bS:=hid (fun k hk=>sel_bd (p:=c.testBit) k hk)
 have tells1:=hid (fun b' Ow w (h1:b' < w.heap.size) h2 h3 h4 h5=>mask_tells2 a b' Ow w ha h1 h2 h3 h4 h5)
 have tells2:=hid (fun b' Ow w (h1:b' < w.heap.size) h2 h3 h4 h5=>mask_tells2 b b' Ow w hb h1 h2 h3 h4 h5)
 have tells3:=hid (fun b' Ow w (h1:b' < w.heap.size) h2 h3 h4 h5=>mask_tells2 c b' Ow w hc h1 h2 h3 h4 h5)
 obtain ⟨H,eH⟩:∃l,sel a.testBit 64=l:=⟨_,rfl⟩
 obtain ⟨M,eM⟩:∃l,sel b.testBit 64=l:=⟨_,rfl⟩
 obtain ⟨S,eS⟩:∃l,sel c.testBit 64=l:=⟨_,rfl⟩
 rw [eH] at lH bH tells1 HC⊢
 rw [eM] at lM bM tells2 HC⊢
 rw [eS] at lS bS tells3 HC⊢
 clear eH eM eS hMA hC hT hnh hnm hns hTO q4 q5 hch hcm hcs hW1 hJ hlt
 refine (wf_calls (r:=none) (n:=1)).mp ?_
 refine callsIn_of_wp_marks Tryz.func210 rfl trivial ?_ rfl
 simp only [Tryz.ntmps210,List.size_toArray,List.length_cons,List.length_nil,Nat.reduceAdd,Nat.reduceSub,Array.replicate_succ,Array.replicate_zero,List.push_toArray,List.append_toArray,List.nil_append,List.cons_append]
 gi_wp2_with fail
 refine wpIn_scope ?_
 rw [HW1.out]
 gi_wp2_with fail
 refine wpIn_label ?_
 gi_wp2_with fail
 refine (wf_calls.mpr HM.out).mono ?_
 rintro e w1 ⟨rfl,hm1,hm2,hm3⟩
 have hB1:Below W.heap.size W w1:=Q4.out.trans (hm2.mono (by omega))
 have HB1:=hid hB1
 have HG1:Hid (Grow O O W w1):=Grow.of_below hB1
 have ey1:=hid ((hm2.cell (p:=⟨W.heap.size,0,none⟩) (by simp only []; omega)).trans ey.out)
 have HJ1:Hid (J 0 O w1):=stab_below HC.out.stab HC.out.lt HJ.out hB1
 have tl1:=hid (tells1.out (W.heap.size+2) O w1 hm3 (fun h=>by have:=Hlt.out _ h; omega) hm1 (HT.out.later hB1) HN.out.2.2)
 clear hm1 hm2 hB1
 gi_wp2_with fail
 refine range_outer2 (gf:=182) (lb:=#[.pointer (some ⟨W.heap.size+2,0,none⟩)]) rfl mask_enters H O rfl tl1.out
  (fun i O W=>J (i * (M.length * S.length)) O W) (fun c i O W=>c= .exit 0∧∃q,1≤q∧q≤(secs H M S).length∧Jx q O W)
  (fun k O W W' h hs hO=>HC.out.stab _ O W W' h hs hO) (fun c k O W W' h hs hO=>⟨h.1,by obtain ⟨q,h1,h2,h3⟩:=h.2; exact ⟨q,h1,h2,HC.out.stabx _ O W W' h3 hs hO⟩⟩)
  (fun k O W h=>HC.out.lt _ O W h) (fun c k O W h=>by obtain ⟨_,q,h1,h2,h3⟩:=h; exact HC.out.ltx _ O W h3) (by simpa using HJ1.out)
  (fun i O a' W'=>J (i * (M.length * S.length)) O W'∧∃bx h,H[i]? =some h∧W'.cell? ⟨bx,0,none⟩=some (.int .i64 h)∧¬O bx∧bx < W'.heap.size∧
    a' = {tmps:=#[.func yf yi yc, .pointer (some ⟨bh,0,none⟩), .pointer (some ⟨bm,0,none⟩), .pointer (some ⟨bs,0,none⟩), .pointer (some ⟨W.heap.size,0,none⟩), .pointer (some ⟨bx,0,none⟩),undef,undef, .int .u64 a, .slice (some ⟨W.heap.size+1,0,none⟩) 1 1, .func (.func 182) #[] #[.pointer (some ⟨W.heap.size+1+1,0,none⟩)], .int .i64 h,undef,undef,undef,undef,undef,undef,undef,undef,undef,undef,undef,undef,undef,undef,undef,undef,undef,undef],defers:= []})
  (fun l o k O a' W' hr hn h=>⟨stab_put HC.out.stab h.1 hn o,by obtain ⟨bx,h,h0,h1,h2,h3,h4⟩:=h.2; exact ⟨bx,h,h0,putObj_cell hr h1,h2,by rw [World.putObj_size]; exact h3,h4⟩⟩) ?assign ?body ?done ?stop
 case assign=>
  intro l i O2 W2 K hi hJ2 hG2 hK
  have hlt2:=HC.out.lt _ _ _ hJ2
  gi_wp2
  have hbel:Below W2.heap.size W2 (W2.alloc (.cells #[.int .i64 H[i]] 3)):=below_new (Below.refl _ _) (zG _)
  exact hK _ O2 _ (Grow.of_below hbel) ⟨stab_below HC.out.stab HC.out.lt hJ2 hbel,W2.heap.size,H[i],List.getElem?_eq_getElem hi,by simp [go_sem],fun h=>by have:=hlt2 _ h; omega,by simp,rfl⟩
 case done=>
  intro O2 W2 hG2 hJ2 hD hnD
  have hG:=HG1.out.trans hG2
  have hJ3:J (secs H M S).length O2 W2:=by rw [secs_len]; exact hJ2
  gi_wp2
  rw [Exit.noGoto_normal]
  refine ⟨by simp, .inl ⟨_,_,rfl,run_takeDeferred hD,?_⟩⟩
  exact ⟨_,results_none rfl _ _ _,⟨_,rfl⟩,O2,hG.sub,hG.new,hG.eff.putObj (.inr (by have:=HB1.out.size; omega)) _, .inl (stab_put HC.out.stab hJ3 hnD _)⟩
 case stop=>
  rintro c i O2 W2 hi1 hi2 hG2 ⟨rfl,q,hq1,hq2,hJ2⟩ hD hnD
  have hG:=HG1.out.trans hG2
  gi_wp2
  rw [Exit.noGoto_normal]
  refine ⟨by simp, .inl ⟨_,_,rfl,run_takeDeferred hD,?_⟩⟩
  exact ⟨_,results_none rfl _ _ _,⟨_,rfl⟩,O2,hG.sub,hG.new,hG.eff.putObj (.inr (by have:=HB1.out.size; omega)) _, .inr ⟨q,hq1,hq2,stab_put HC.out.stabx hJ2 hnD _⟩⟩
 case body=>
  rintro l i O2 a' W2 hi hG2 hl hrec hnl ⟨hJ2,bx,h,eh,ch,nh,lh,rfl⟩
  have hyl:W.heap.size < w1.heap.size:=by omega
  have nO:¬O W.heap.size:=fun h=>by have:=Hlt.out _ h; omega
  have ey2:=(hG2.cell hyl nO 0).trans ey1.out
  have em2:=(hG2.cell (by omega) HN.out.1 0).trans ((HB1.out.cell (p:=⟨bm,0,none⟩) hbm).trans Hm.out)
  have es2:=(hG2.cell (by omega) HN.out.2.1 0).trans ((HB1.out.cell (p:=⟨bs,0,none⟩) hbs).trans Hs.out)
  have hT2:=(HT.out.later HB1.out).eff hG2.eff HN.out.2.2
  have NO2:=hid (And.intro (hG2.not hyl nO) (And.intro (hG2.not (b:=bs) (by omega) HN.out.2.1) (hG2.not (b:=0) (by have:=(HT.out.later HB1.out).1; omega) HN.out.2.2)))
  have hsz2:=hG2.eff.size
  have hlt2:=HC.out.lt _ _ _ hJ2
  have GG2:Hid (Grow O O2 W W2):=HG1.out.trans hG2
  have HM2:=hid (MAll_one b W2 hb)
  have HJ2:=hid hJ2
  clear HM HG1 tells1 tl1 hG2 hJ2
  gi_wp2_with fail
  refine (wf_calls.mpr HM2.out).mono ?_
  rintro e w3 ⟨rfl,hn1,hn2,hn3⟩
  have hrec3:∃r,w3.heap[l]? =some (.loop r):=by obtain ⟨r,hr⟩:=hrec; exact ⟨r,(hn2.block l (heap_lt hr)).trans hr⟩
  have HG3:Hid (Grow O2 O2 W2 w3):=Grow.of_below hn2
  have tl2:=hid (tells2.out (W2.heap.size+1) O2 w3 hn3 (fun h=>by have:=hlt2 _ h; omega) hn1 (hT2.later hn2) NO2.out.2.2)
  have HJ3:Hid (J (i * (M.length * S.length)) O2 w3):=stab_below HC.out.stab HC.out.lt HJ2.out hn2
  have ey3:=hid ((hn2.cell (p:=⟨W.heap.size,0,none⟩) (by simp only []; omega)).trans ey2)
  have es3:=hid ((hn2.cell (p:=⟨bs,0,none⟩) (by simp only []; omega)).trans es2)
  have ch3:=hid ((hn2.cell (p:=⟨bx,0,none⟩) lh).trans ch)
  have HT3:=hid (hT2.later hn2)
  have hsz3:=hn2.size
  clear hn1 hn2 ey2 em2 es2 ch hT2 HM2
  gi_wp2_with fail
  refine range_inner2 (gf:=182) (lb:=#[.pointer (some ⟨W2.heap.size+1,0,none⟩)]) hrec3 rfl mask_enters M O2 rfl tl2.out
   (fun j O W=>J (i * (M.length * S.length)+j * S.length) O W) (fun c j O W=>c= .exit 0∧∃q,1≤q∧q≤(secs H M S).length∧Jx q O W)
   (fun k O W W' h hs hO=>HC.out.stab _ O W W' h hs hO) (fun c k O W W' h hs hO=>⟨h.1,by obtain ⟨q,h1,h2,h3⟩:=h.2; exact ⟨q,h1,h2,HC.out.stabx _ O W W' h3 hs hO⟩⟩)
   (fun k O W h=>HC.out.lt _ O W h) (fun c k O W h=>by obtain ⟨_,q,h1,h2,h3⟩:=h; exact HC.out.ltx _ O W h3) (by simpa using HJ3.out)
   (fun j O a' W'=>J (i * (M.length * S.length)+j * S.length) O W'∧∃bz m,M[j]? =some m∧W'.cell? ⟨bz,0,none⟩=some (.int .i64 m)∧¬O bz∧bz < W'.heap.size∧
     a' = {tmps:=#[.func yf yi yc, .pointer (some ⟨bh,0,none⟩), .pointer (some ⟨bm,0,none⟩), .pointer (some ⟨bs,0,none⟩), .pointer (some ⟨W.heap.size,0,none⟩), .pointer (some ⟨bx,0,none⟩), .pointer (some ⟨bz,0,none⟩),undef, .int .u64 a, .slice (some ⟨W.heap.size+1,0,none⟩) 1 1, .func (.func 182) #[] #[.pointer (some ⟨W.heap.size+1+1,0,none⟩)], .int .i64 h, .int .u64 b, .slice (some ⟨W2.heap.size,0,none⟩) 1 1, .func (.func 182) #[] #[.pointer (some ⟨W2.heap.size+1,0,none⟩)], .int .i64 m,undef,undef,undef,undef,undef,undef,undef,undef,undef,undef,undef,undef,undef,undef],defers:= []})
   (fun l o k O a' W' hr hn h=>⟨stab_put HC.out.stab h.1 hn o,by obtain ⟨bx,h,h0,h1,h2,h3,h4⟩:=h.2; exact ⟨bx,h,h0,putObj_cell hr h1,h2,by rw [World.putObj_size]; exact h3,h4⟩⟩) ?assign2 ?body2 ?done2 ?stop2
  case assign2=>
   intro l j O4 W4 K hj hJ4 hG4 hK
   have hlt4:=HC.out.lt _ _ _ hJ4
   gi_wp2
   have hbel:Below W4.heap.size W4 (W4.alloc (.cells #[.int .i64 M[j]] 3)):=below_new (Below.refl _ _) (zG _)
   exact hK _ O4 _ (Grow.of_below hbel) ⟨stab_below HC.out.stab HC.out.lt hJ4 hbel,W4.heap.size,M[j],List.getElem?_eq_getElem hj,by simp [go_sem],fun h=>by have:=hlt4 _ h; omega,by simp,rfl⟩
  case done2=>
   intro O4 W4 hG4 hJ4
   gi_wp2
   exact ⟨O4,HG3.out.trans hG4,by show J ((i+1) * (M.length * S.length)) O4 W4; rw [show (i+1) * (M.length * S.length)=i * (M.length * S.length)+M.length * S.length from Nat.succ_mul _ _]; exact hJ4⟩
  case stop2=>
   rintro c j O4 W4 hj1 hj2 hG4 ⟨rfl,q,hq1,hq2,hJ4⟩
   gi_wp2
   exact ⟨O4,HG3.out.trans hG4,rfl,q,hq1,hq2,hJ4⟩
  case body2=>
   rintro l2 j O4 a' W4 hj hG4 hl2 hrec4 hnl2 ⟨hJ4,bz,m,em,cm,nm,lm,rfl⟩
   have ey4:=(hG4.cell (by omega) NO2.out.1 0).trans ey3.out
   have es4:=(hG4.cell (by omega) NO2.out.2.1 0).trans es3.out
   have ch4:=(hG4.cell (b:=bx) (by omega) nh 0).trans ch3.out
   have hT4:=HT3.out.eff hG4.eff NO2.out.2.2
   have NO4:=hid (And.intro (hG4.not (b:=W.heap.size) (by omega) NO2.out.1) (And.intro (hG4.not (b:=bx) (by omega) nh) (hG4.not (b:=0) (by have:=HT3.out.1; omega) NO2.out.2.2)))
   have hsz4:=hG4.eff.size
   have hlt4:=HC.out.lt _ _ _ hJ4
   have GG4:Hid (Grow O O4 W W4):=GG2.out.trans (HG3.out.trans hG4)
   have HM4:=hid (MAll_one c W4 hc)
   have HJ4:=hid hJ4
   clear tells2 tl2 hG4 hJ4
   gi_wp2_with fail
   refine (wf_calls.mpr HM4.out).mono ?_
   rintro e w5 ⟨rfl,hn1,hn2,hn3⟩
   have hrec5:∃r,w5.heap[l2]? =some (.loop r):=by obtain ⟨r,hr⟩:=hrec4; exact ⟨r,(hn2.block l2 (heap_lt hr)).trans hr⟩
   have HG5:Hid (Grow O4 O4 W4 w5):=Grow.of_below hn2
   have tl3:=hid (tells3.out (W4.heap.size+1) O4 w5 hn3 (fun h=>by have:=hlt4 _ h; omega) hn1 (hT4.later hn2) NO4.out.2.2)
   have HJ5:Hid (J (i * (M.length * S.length)+j * S.length) O4 w5):=stab_below HC.out.stab HC.out.lt HJ4.out hn2
   have ey5:=hid ((hn2.cell (p:=⟨W.heap.size,0,none⟩) (by simp only []; omega)).trans ey4)
   have ch5:=hid ((hn2.cell (p:=⟨bx,0,none⟩) (by simp only []; omega)).trans ch4)
   have cm5:=hid ((hn2.cell (p:=⟨bz,0,none⟩) lm).trans cm)
   have hsz5:=hn2.size
   clear hn1 hn2 ey4 es4 ch4 cm hT4 HM4
   gi_wp2_with fail
   refine range_inner2 (gf:=182) (lb:=#[.pointer (some ⟨W4.heap.size+1,0,none⟩)]) hrec5 rfl mask_enters S O4 rfl tl3.out
    (fun k O W=>J (i * (M.length * S.length)+j * S.length+k) O W) (fun c k O W=>c= .exit 0∧∃q,1≤q∧q≤(secs H M S).length∧Jx q O W)
    (fun k O W W' h hs hO=>HC.out.stab _ O W W' h hs hO) (fun c k O W W' h hs hO=>⟨h.1,by obtain ⟨q,h1,h2,h3⟩:=h.2; exact ⟨q,h1,h2,HC.out.stabx _ O W W' h3 hs hO⟩⟩)
    (fun k O W h=>HC.out.lt _ O W h) (fun c k O W h=>by obtain ⟨_,q,h1,h2,h3⟩:=h; exact HC.out.ltx _ O W h3) (by simpa using HJ5.out)
    (fun k O a' W'=>J (i * (M.length * S.length)+j * S.length+k) O W'∧∃s,S[k]? =some s∧
      a' = {tmps:=#[.func yf yi yc, .pointer (some ⟨bh,0,none⟩), .pointer (some ⟨bm,0,none⟩), .pointer (some ⟨bs,0,none⟩), .pointer (some ⟨W.heap.size,0,none⟩), .pointer (some ⟨bx,0,none⟩), .pointer (some ⟨bz,0,none⟩), .int .i64 s, .int .u64 a, .slice (some ⟨W.heap.size+1,0,none⟩) 1 1, .func (.func 182) #[] #[.pointer (some ⟨W.heap.size+1+1,0,none⟩)], .int .i64 h, .int .u64 b, .slice (some ⟨W2.heap.size,0,none⟩) 1 1, .func (.func 182) #[] #[.pointer (some ⟨W2.heap.size+1,0,none⟩)], .int .i64 m, .int .u64 c, .slice (some ⟨W4.heap.size,0,none⟩) 1 1, .func (.func 182) #[] #[.pointer (some ⟨W4.heap.size+1,0,none⟩)], .int .i64 s,undef,undef,undef,undef,undef,undef,undef,undef,undef,undef],defers:= []})
    (fun l o k O a' W' hr hn h=>⟨stab_put HC.out.stab h.1 hn o,h.2⟩) ?assign3 ?body3 ?done3 ?stop3
   case assign3=>
    intro l k O6 W6 K hk hJ6 hG6 hK
    gi_wp2
    exact hK _ O6 _ (Grow.refl _ _) ⟨hJ6,S[k],List.getElem?_eq_getElem hk,rfl⟩
   case done3=>
    intro O6 W6 hG6 hJ6
    gi_wp2
    exact ⟨O6,HG5.out.trans hG6,by show J (i * (M.length * S.length)+(j+1) * S.length) O6 W6; rw [show i * (M.length * S.length)+(j+1) * S.length=i * (M.length * S.length)+j * S.length+S.length by rw [Nat.succ_mul]; omega]; exact hJ6⟩
   case stop3=>
    rintro c k O6 W6 hk1 hk2 hG6 ⟨rfl,q,hq1,hq2,hJ6⟩
    gi_wp2
    exact ⟨O6,HG5.out.trans hG6,rfl,q,hq1,hq2,hJ6⟩
   case body3=>
    rintro l3 k O6 a' W6 hk hG6 hl3 hrec6 hnl3 ⟨hJ6,s,es,rfl⟩
    have ey6:=(hG6.cell (b:=W.heap.size) (by omega) NO4.out.1 0).trans ey5.out
    have ch6:=(hG6.cell (b:=bx) (by omega) NO4.out.2.1 0).trans ch5.out
    have cm6:=(hG6.cell (b:=bz) (by omega) nm 0).trans cm5.out
    obtain ⟨hidx,hval⟩:=secs_get H M S i j k hi hj hk
    have hcall:=HC.out.call _ O6 W6 hidx hJ6 (GG4.out.trans (HG5.out.trans hG6))
    obtain ⟨_,eh'⟩:=List.getElem?_eq_some_iff.1 eh
    obtain ⟨_,em'⟩:=List.getElem?_eq_some_iff.1 em
    obtain ⟨_,es'⟩:=List.getElem?_eq_some_iff.1 es
    have bh1:=bH.out i hi
    have bm1:=bM.out j hj
    have bs1:=bS.out k hk
    rw [eh'] at bh1
    rw [em'] at bm1
    rw [es'] at bs1
    rw [hval,eh',em',es',show 3600 * h+60 * m+s=h * 3600+m * 60+s by omega] at hcall
    have Hcall:=hid hcall
    have Hidx:=hid hidx
    obtain ⟨x1,x2⟩:=bh1
    obtain ⟨x3,x4⟩:=bm1
    obtain ⟨x5,x6⟩:=bs1
    clear hcall hidx hval eh' em' es' hJ6 hG6 tells3 tl3
    gi_wp2_with (refine callv (.tmp 20) (.tmp 27) _ rfl rfl rfl rfl Hcall.out ?_)
    rintro e W7 O7 h1 h2 h3 hend
    rcases hend with ⟨rfl,hJ7⟩ | ⟨rfl,hJ7⟩
    ·have HJ7:Hid (Grow O6 O7 W6 W7∧J (i * (M.length * S.length)+j * S.length+(k+1)) O7 W7):=⟨⟨h1,h2,h3⟩,hJ7⟩
     clear h1 h2 h3 hJ7
     refine ⟨_,rfl,?_⟩
     gi_wp2
     exact ⟨O7,HJ7.out.1,HJ7.out.2⟩
    ·have HJ7:Hid (Grow O6 O7 W6 W7∧∃q,1≤q∧q≤(secs H M S).length∧Jx q O7 W7):=⟨⟨h1,h2,h3⟩,_,by omega,Nat.succ_le_of_lt Hidx.out,hJ7⟩
     clear h1 h2 h3 hJ7
     refine ⟨_,rfl,?_⟩
     gi_wp2
     exact ⟨O7,HJ7.out.1,rfl,HJ7.out.2⟩
end
section
open Go.RowKit
theorem sel_add (p:Nat→Bool) (a:Nat):∀b,sel p (a+b)=sel p a ++ (sel (fun k=>p (a+k)) b).map (fun x=>(a:Int)+x)
 | 0=>by simp [sel_zero]
 | b+1=>by
   rw [←Nat.add_assoc]
   by_cases h:p (a+b)=true
   ·rw [sel_yes h,sel_yes (p:=fun k=>p (a+k)) h,sel_add p a b,List.map_append,List.append_assoc]; simp
   ·have h':p (a+b)=false:=by simpa using h
    rw [sel_no h',sel_no (p:=fun k=>p (a+k)) h',sel_add p a b]
theorem sel_congr {p q:Nat→Bool} {n:Nat} (h:∀i,i < n→p i=q i):sel p n=sel q n:=by
 induction n with
 | zero=>rfl
 | succ n ih=>
   have e:=ih (fun i hi=>h i (by omega))
   cases hp:p n
   ·rw [sel_no hp,sel_no (by rw [←h n (by omega)]; exact hp),e]
   ·rw [sel_yes hp,sel_yes (by rw [←h n (by omega)]; exact hp),e]
def wpart (t:Nat→Nat) (i:Nat):List Int:=(sel (t i).testBit 64).map (fun x=>((64 * i:Nat):Int)+x)
def wupto (t:Nat→Nat):Nat→List Int
 | 0=> []
 | n+1=>wupto t n ++ wpart t n
theorem wupto_sel (t:Nat→Nat):∀n,wupto t n=sel (bitW t) (64 * n)
 | 0=>rfl
 | n+1=>by
   rw [wupto,wupto_sel t n,show 64 * (n+1)=64 * n+64 by omega,sel_add,wpart]
   congr 1
   congr 1
   refine sel_congr (fun i hi=>?_)
   rw [bitW,show (64 * n+i) / 64=n by omega,show (64 * n+i) % 64=i by omega]
def wsel (s:Nat→Nat):List Int:=sel (bitW s) 400
theorem wupto_at (t:Nat→Nat):∀n i k,i < n→(hk:k < (sel (t i).testBit 64).length)→(wupto t n)[(wupto t i).length+k]? =some (((64 * i:Nat):Int)+(sel (t i).testBit 64)[k])
 | 0,i,k,hi,hk=>by omega
 | n+1,i,k,hi,hk=>by
   have hl:(wpart t i).length= (sel (t i).testBit 64).length:=by simp [wpart]
   rcases Nat.lt_or_ge i n with h | h
   ·have hmono:∀m,(wupto t i).length+(wpart t i).length≤(wupto t (i+1+m)).length:=fun m=>by
     induction m with
     | zero=>rw [Nat.add_zero,wupto,List.length_append]; exact zG _
     | succ m ih=>rw [←Nat.add_assoc,wupto,List.length_append]; omega
    have h2:=hmono (n - i - 1)
    rw [show i+1+(n - i - 1)=n by omega] at h2
    rw [wupto,List.getElem?_append_left (by omega)]
    exact wupto_at t n i k h hk
   ·obtain rfl:i=n:=by omega
    rw [wupto,List.getElem?_append_right (by omega),Nat.add_sub_cancel_left,wpart,List.getElem?_map,List.getElem?_eq_getElem hk]; rfl
end
section
open Go.RowKit
attribute [local go_sem] Oper.semAt_some
def marks (Ds:List Nat):List Deferred:=Ds.map fun D=>{target:= .collected D,args:=#[]}
theorem leaves_marks {F:Fence} {n:Nat} {P:Program} {fn:Func} {tmps:Array Value} {R:Ending→World→Prop} {u:FrameMode} (hu:u≠ .run):∀(Ds:List Nat) (w:World),Ds.Nodup→(∀D∈Ds,w.heap[D]? =some (.deferred (some [])))→
  (∀w':World,w'.os=w.os→w'.tape=w.tape→w'.output=w.output→w'.heap.size=w.heap.size→(∀b,b ∉ Ds→w'.heap[b]? =w.heap[b]?)→LeavesInM F n P fn tmps R [] u w')→LeavesInM F n P fn tmps R (marks Ds) u w
 | [],w,_,_,h=>h w rfl rfl rfl rfl (fun _ _=>rfl)
 | D :: Ds,w,hn,hD,h=>by
   rw [List.nodup_cons] at hn
   refine ⟨hu, .inl ⟨D,_,rfl,run_takeDeferred (hD D (by simp)),?_⟩⟩
   refine leaves_marks hu Ds _ hn.2 (fun E hE=>(World.putObj_heap_other (fun e=>hn.1 (by rw [←e]; exact hE))).trans (hD E (by simp [hE]))) (fun w' h1 h2 h3 h4 h5=>h w' h1 h2 h3 (by rw [h4,World.putObj_size]) (fun b hb=>?_))
   simp only [List.mem_cons,not_or] at hb
   exact (h5 b hb.2).trans (World.putObj_heap_other hb.1)
theorem stab_marks {I:OwnP} (hI:StabO I) {k:Nat} {O:Nat→Prop} {w w':World} {Ds:List Nat} (h:I k O w) (hn:∀D∈Ds,¬O D) (hs:w'.heap.size=w.heap.size) (hb:∀b,b ∉ Ds→w'.heap[b]? =w.heap[b]?):I k O w':=
 hI k O w w' h (by omega) (fun b hb2=>hb b (fun h2=>hn b h2 hb2))
theorem eff_marks {O:Nat→Prop} {W w w':World} {Ds:List Nat} (h:Eff O W w) (hn:∀D∈Ds,W.heap.size≤D) (h1:w'.os=w.os) (h2:w'.tape=w.tape) (h3:w'.output=w.output) (hs:w'.heap.size=w.heap.size) (hb:∀b,b ∉ Ds→w'.heap[b]? =w.heap[b]?):Eff O W w':=
 ⟨h1.trans h.os,h2.trans h.tape,h3.trans h.output,by rw [hs]; exact h.size,fun k hk hno=>(hb k (fun h4=>by have:=hn k h4; omega)).trans (h.block k hk hno)⟩
end
end Go.Proofs.YthimhfmnikfgaaaGreatDoor
