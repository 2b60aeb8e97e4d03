/-
  lap.Laps, of any clause: its function tells the clause's state on a day.
-/
import Derived.Test.YtjahgimnfliooaaGreatDoorQ7a9369
import Derived.Test.YtjahgimnfliooaaGreatDoorQ4951b9
set_option maxRecDepth 100000
set_option maxHeartbeats 25600000
namespace Go.Proofs.YtjahgimnfliooaaGreatDoor
open Go.RowKit
set_option linter.unusedVariables false
attribute [local go_sem ↓] yaC
attribute [local go_sem] ydk
def DVS (W:World) (lo hi:Nat) (c:Cl) (fv:Value):Prop:=
 (mayC c=false∧fv= .func (.func 135) #[] #[])∨
 (mayC c=true∧∃x1 x2:Nat,fv= .func (.func 137) #[] #[.pointer (some ⟨x1,0,none⟩), .pointer (some ⟨x2,0,none⟩)]∧DCS W lo hi c x1 x2)
theorem DVS.form {W:World} {lo hi:Nat} {c:Cl} {fv:Value} (h:DVS W lo hi c fv):∃g cap,fv= .func (.func g) #[] cap:=by
 rcases h with ⟨-,rfl⟩ | ⟨-,x1,x2,rfl,-⟩
 ·exact ⟨_,_,rfl⟩
 ·exact ⟨_,_,rfl⟩
theorem DVS.call {W W':World} {lo hi:Nat} {c:Cl} {fv:Value} (h:DVS W lo hi c fv) (hs:hi≤W'.heap.size) (hb:∀b,lo≤b→b < hi→W'.heap[b]? =W.heap[b]?):DVS W' lo hi c fv:=by
 rcases h with h | ⟨h1,x1,x2,h2,h3⟩
 ·exact .inl h
 ·exact .inr ⟨h1,x1,x2,h2,h3.call hs hb⟩
theorem DVS.below {W W':World} {lo hi:Nat} {c:Cl} {fv:Value} (h:DVS W lo hi c fv) (hs:hi≤W.heap.size) (hb:Below W.heap.size W W'):DVS W' lo hi c fv:=
 h.call (zI hs hb.size) (fun b _ h2=>hb.block b (by omega))
theorem DVS.set {W:World} {lo hi b o:Nat} {v:Value} {c:Cl} {fv:Value} (h:DVS W lo hi c fv) (hs:hi≤W.heap.size) (hb:b < lo∨hi≤b):DVS (W.setCell ⟨b,o,none⟩ v) lo hi c fv:=by
 rcases h with h | ⟨h1,x1,x2,h2,h3⟩
 ·exact .inl h
 ·exact .inr ⟨h1,x1,x2,h2,h3.set hs hb⟩
theorem DVS.wide {W:World} {lo hi lo' hi':Nat} {c:Cl} {fv:Value} (h:DVS W lo hi c fv) (hl:lo'≤lo) (hh:hi≤hi'):DVS W lo' hi' c fv:=by
 rcases h with h | ⟨h1,x1,x2,h2,h3⟩
 ·exact .inl h
 ·exact .inr ⟨h1,x1,x2,h2,fun n W' n0 n1 hs hb=>h3 n W' n0 n1 (zI hh hs) (fun b b1 b2=>hb b (zI hl b1) (zH b2 hh))⟩
theorem CDV.dvs {W:World} {lo:Nat} {c:Cl} {fv:Value} (h:CDV W lo c fv) (hc:c.Ok):DVS W lo W.heap.size c fv:=by
 cases hm:mayC c
 ·rcases h with h | h
  ·exact .inl h
  ·rw [hm] at h; cases h.1
 ·exact .inr ⟨hm,h.dcs hm hc⟩
def lpF (c:Cl):Int:=if yaz c.fr c.un then frD c else 0
def lpU (c:Cl):Int:=if yaz c.fr c.un then unD c else 0
theorem yia (c:Cl):yaz (yaq c.fr c.un) (yap c.fr c.un)=yaz c.fr c.un∧max (yaq c.fr c.un) 0=yaq c.fr c.un∧(yaz c.fr c.un=true→min (yap c.fr c.un) 12622780799=yap c.fr c.un):=by
 rw [yaq,yap]
 cases h:yaz c.fr c.un
 ·exact ⟨by rfl,rfl,fun h=>by cases h⟩
 ·have h':max c.fr 0≤min c.un 12622780799:=of_decide_eq_true h
  rw [if_pos rfl,if_pos rfl]
  exact ⟨zzZ (by omega),by omega,fun _=>by omega⟩
theorem ykq (c:Cl) (w:World):Calls Tryz.prog 146 #[spv (yaq c.fr c.un) (yap c.fr c.un)] w fun e w'=>e= .returned (.tuple #[.int .i64 (lpF c), .int .i64 (lpU c), .bool (yaz c.fr c.un)])∧Below w.heap.size w w':=by
 refine (yfW (yaq c.fr c.un) (yap c.fr c.un) w).mono fun e w' ⟨h,hb⟩=>⟨h.trans ?_,hb⟩
 obtain ⟨h1,h2,h3⟩:=yia c
 rw [h1,lpF,lpU,frD,unD]
 cases h:yaz c.fr c.un
 ·rfl
 ·rw [if_pos rfl,if_pos rfl,if_pos rfl,h2,h3 h]
structure LpB (W:World) (b7 b5 b6 b3 b4 b1:Nat) (fv:Value) (c:Cl):Prop where
 c7:W.cell? ⟨b7,0,none⟩=some (.bool (yaz c.fr c.un))
 c5:W.cell? ⟨b5,0,none⟩=some (.int .i64 (lpF c))
 c6:W.cell? ⟨b6,0,none⟩=some (.int .i64 (lpU c))
 c3:W.cell? ⟨b3,0,none⟩=some fv
 c4:W.cell? ⟨b4,0,none⟩=some (.int .i64 (yaq c.fr c.un))∧W.cell? ⟨b4,1,none⟩=some (.int .i64 (yap c.fr c.un))
 c1:ClB W b1 c
abbrev ydd (b7 b5 b6 b3 b4 b1:Nat):Value:= .func (.func 147) #[] #[.pointer (some ⟨b7,0,none⟩), .pointer (some ⟨b5,0,none⟩), .pointer (some ⟨b6,0,none⟩), .pointer (some ⟨b3,0,none⟩), .pointer (some ⟨b4,0,none⟩), .pointer (some ⟨b1,0,none⟩)]
def LapV (W:World) (lo hi:Nat) (c:Cl) (gv:Value):Prop:=
 ∃(b7 b5 b6 b3 b4 b1:Nat) (fv:Value),gv=ydd b7 b5 b6 b3 b4 b1∧LpB W b7 b5 b6 b3 b4 b1 fv c∧DVS W lo hi c fv∧
  ((lo≤b7∧b7 < hi)∧(lo≤b5∧b5 < hi)∧(lo≤b6∧b6 < hi)∧(lo≤b3∧b3 < hi)∧(lo≤b4∧b4 < hi)∧(lo≤b1∧b1 < hi))
theorem LapV.keep {W W':World} {lo hi:Nat} {c:Cl} {gv:Value} (h:LapV W lo hi c gv) (hs:hi≤W'.heap.size) (hb:∀b,lo≤b→b < hi→W'.heap[b]? =W.heap[b]?):LapV W' lo hi c gv:=by
 obtain ⟨b7,b5,b6,b3,b4,b1,fv,rfl,⟨c7,c5,c6,c3,c4,c1⟩,hd,o7,o5,o6,o3,o4,o1⟩:=h
 have k:∀b i,lo≤b∧b < hi→W'.cell? ⟨b,i,none⟩=W.cell? ⟨b,i,none⟩:=fun b i ho=>zzJ (w:=W) (a:=⟨b,i,none⟩) (hb b ho.1 ho.2)
 exact ⟨b7,b5,b6,b3,b4,b1,fv,rfl,⟨(k _ _ o7).trans c7,(k _ _ o5).trans c5,(k _ _ o6).trans c6,(k _ _ o3).trans c3,⟨(k _ _ o4).trans c4.1,(k _ _ o4).trans c4.2⟩,fun j x hx=>(k _ _ o1).trans (c1 j x hx)⟩,hd.call hs hb,o7,o5,o6,o3,o4,o1⟩
theorem liveD_off {c:Cl} {n:Int} (h:yaz c.fr c.un=false):ya0 c n=false:=by rw [ya0,okD,h]; rfl
theorem LapV.call {W:World} {lo hi:Nat} {c:Cl} {gv:Value} (h:LapV W lo hi c gv) (hc:c.Ok) {n:Int} (h0:0≤n) (h1:n < 146097) :
  ∃y1 y2 y3 y4 y5 y6:Nat,gv=ydd y1 y2 y3 y4 y5 y6∧
   ∀W',hi≤W'.heap.size→(∀b,lo≤b→b < hi→W'.heap[b]? =W.heap[b]?)→
    Calls Tryz.prog 147 #[shN n, .pointer (some ⟨y1,0,none⟩), .pointer (some ⟨y2,0,none⟩), .pointer (some ⟨y3,0,none⟩), .pointer (some ⟨y4,0,none⟩), .pointer (some ⟨y5,0,none⟩), .pointer (some ⟨y6,0,none⟩)] W' fun e w'=>e= .returned (stG c n)∧Below W'.heap.size W' w':=by
 obtain ⟨b7,b5,b6,b3,b4,b1,fv,rfl,⟨c7,c5,c6,c3,c4,c1⟩,hd,o7,o5,o6,o3,o4,o1⟩:=h
 refine ⟨b7,b5,b6,b3,b4,b1,rfl,fun W' hs hb=>?_⟩
 have k:∀b i,lo≤b∧b < hi→W'.cell? ⟨b,i,none⟩=W.cell? ⟨b,i,none⟩:=fun b i ho=>zzJ (w:=W) (a:=⟨b,i,none⟩) (hb b ho.1 ho.2)
 replace c7:=(k _ _ o7).trans c7
 replace c5:=(k _ _ o5).trans c5
 replace c6:=(k _ _ o6).trans c6
 replace c3:=(k _ _ o3).trans c3
 replace c4:W'.cell? ⟨b4,0,none⟩=some (.int .i64 (yaq c.fr c.un))∧W'.cell? ⟨b4,1,none⟩=some (.int .i64 (yap c.fr c.un)):=⟨(k _ _ o4).trans c4.1,(k _ _ o4).trans c4.2⟩
 replace c1:ClB W' b1 c:=fun j x hx=>(k _ _ o1).trans (c1 j x hx)
 replace hd:=hd.call hs hb
 cases hB:yaz c.fr c.un
 ·rw [hB] at c7
  rw [stG,liveD_off hB]
  exact yej n (lpF c) (lpU c) false b7 b5 b6 b3 b4 b1 W' (.inl rfl) (by omega) (by omega) (by omega) c7 c5 c6
 ·rw [hB] at c7
  have eF:lpF c=frD c:=by rw [lpF,hB]; rfl
  have eU:lpU c=unD c:=by rw [lpU,hB]; rfl
  rw [eF] at c5; rw [eU] at c6
  by_cases hlo:frD c≤n
  ·by_cases hhi:n≤unD c
   ·rcases hd with ⟨hm,rfl⟩ | ⟨hm,x1,x2,rfl,hD⟩
    ·have hl:ya0 c n=false:=by rw [ya0,okD,hm,Bool.and_false]; rfl
     rw [stG,hl]
     exact ykw n (frD c) (unD c) b7 b5 b6 b3 b4 b1 W' hlo hhi (by omega) (by omega) (by omega) (by omega) c3 c7 c5 c6
    ·have hl:ya0 c n=dayC c n:=by rw [ya0,okD,onD,hB,hm,zzZ hlo,zzZ hhi]; simp
     rw [stG,hl]
     refine ykx c n (frD c) (unD c) (yaq c.fr c.un) (yap c.fr c.un) (stF c n) (stU c n) b7 b5 b6 b3 b4 b1 x1 x2 W' hc hm h0 h1 hlo hhi (fun hne=>cut_mid hB hlo hhi (fun e=>hne (.inl e)) (fun e=>hne (.inr e)))
      ⟨c7,c5,c6,c3,c4,c1,by omega,by omega,by omega,by omega,by omega,by omega⟩ (fun W2 _=>?_) (fun W2 hB2=>hD n W2 h0 h1 (zI hs hB2.size) (fun b b1' b2'=>hB2.block b (by omega)))
     have hcs:=ygw hB hlo hhi
     have hle:max c.fr 0≤min c.un 12622780799:=of_decide_eq_true hB
     have e1:max (max 0 (yaq c.fr c.un)) (86400 * n)=max (max 0 c.fr) (86400 * n):=by rw [yaq,hB,if_pos rfl]; omega
     have e2:min (min 12622780799 (yap c.fr c.un)) (86400 * n+86399)=min (min 12622780799 c.un) (86400 * n+86399):=by rw [yap,hB,if_pos rfl]; omega
     refine (SCut_any (yaq c.fr c.un) (yap c.fr c.un) n W2 h0 h1 (by rw [e1,e2]; exact hcs)).mono fun e w' ⟨he,hb'⟩=>⟨he.trans ?_,hb'⟩
     obtain ⟨g1,g2⟩:=cut_mod hB hlo hhi
     rw [e1,e2,g1,g2]
   ·have hl:ya0 c n=false:=by rw [ya0,onD,zzd hhi]; simp
    rw [stG,hl]
    exact yej n (frD c) (unD c) true b7 b5 b6 b3 b4 b1 W' (.inr (.inr ⟨rfl,hlo,by omega⟩)) (by omega) (by omega) (by omega) c7 c5 c6
  ·have hl:ya0 c n=false:=by rw [ya0,onD,zzd hlo]; simp
   rw [stG,hl]
   exact yej n (frD c) (unD c) true b7 b5 b6 b3 b4 b1 W' (.inr (.inl ⟨rfl,by omega⟩)) (by omega) (by omega) (by omega) c7 c5 c6
structure LqH (w W:World) (c:Cl) (b3 b4:Nat) (fv:Value):Prop where
 c3:W.cell? ⟨b3,0,none⟩=some fv
 c4:W.cell? ⟨b4,0,none⟩=some (.int .i64 (yaq c.fr c.un))∧W.cell? ⟨b4,1,none⟩=some (.int .i64 (yap c.fr c.un))
 c1:ClB W w.heap.size c
 l:(w.heap.size≤b3∧b3 < W.heap.size)∧(w.heap.size≤b4∧b4 < W.heap.size)∧w.heap.size < W.heap.size
 d:DVS W w.heap.size W.heap.size c fv
 b:Below w.heap.size w W
theorem LqH.below {w W W':World} {c:Cl} {b3 b4:Nat} {fv:Value} (h:LqH w W c b3 b4 fv) (hb:Below W.heap.size W W'):LqH w W' c b3 b4 fv:=by
 have hs:=hb.size
 obtain ⟨l3,l4,l1⟩:=h.l
 exact ⟨(hb.cell (p:=⟨b3,0,none⟩) l3.2).trans h.c3,⟨(hb.cell (p:=⟨b4,0,none⟩) l4.2).trans h.c4.1,(hb.cell (p:=⟨b4,1,none⟩) l4.2).trans h.c4.2⟩,h.c1.below hb l1,
  ⟨by omega,by omega,by omega⟩,(h.d.below (zG _) hb).wide (zG _) hs,h.b.trans (hb.mono (Nat.le_of_lt l1))⟩
theorem ycy {w X:World} {c:Cl} {b3 b4 lo hi:Nat} {fv:Value} (hne:¬b4=b3) (g0:X.cell? ⟨b3,0,none⟩=some .nilFunc) (j0:X.cell? ⟨b4,0,none⟩=some (.int .i64 0)) (j1:X.cell? ⟨b4,1,none⟩=some (.int .i64 0))
  (l3:b3 < X.heap.size) (l4:b4 < X.heap.size) (g3:w.heap.size < b3) (g4:w.heap.size < b4) (hS:LaS w c X) (hD:DVS X lo hi c fv) (hhi:hi≤X.heap.size) (hlo:w.heap.size≤lo) (o3:b3 < lo∨hi≤b3) (o4:b4 < lo∨hi≤b4) :
  LqH w (((X.setCell ⟨b3,0,none⟩ fv).setCell ⟨b4,0,none⟩ (.int .i64 (yaq c.fr c.un))).setCell ⟨b4,1,none⟩ (.int .i64 (yap c.fr c.un))) c b3 b4 fv:=by
 have ne:∀i j:Nat,(⟨b4,i,none⟩:Addr)≠⟨b3,j,none⟩:=fun i j e=>by injection e with e _ _; exact hne e
 have ne4:(⟨b4,1,none⟩:Addr)≠⟨b4,0,none⟩:=fun e=>by injection e with _ e _; cases e
 have hS':=LaS.set (o:=1) (v:= .int .i64 (yap c.fr c.un)) (LaS.set (o:=0) (v:= .int .i64 (yaq c.fr c.un)) (LaS.set (o:=0) (v:=fv) hS g3) g4) g4
 refine ⟨?_,⟨?_,?_⟩,hS'.2.1,⟨⟨by omega,by simpa only [World.size_setCell] using l3⟩,⟨by omega,by simpa only [World.size_setCell] using l4⟩,hS'.2.2.2⟩,?_,hS'.2.2.1⟩
 ·rw [zzL _ _ _ _ (ne _ _),zzL _ _ _ _ (ne _ _)]
  exact zzW _ _ _ g0
 ·rw [zzL _ _ _ _ ne4]
  exact zzW _ _ _ (by rw [zzL _ _ _ _ (ne _ _).symm]; exact j0)
 ·exact zzW _ _ _ (by rw [zzL _ _ _ _ ne4.symm,zzL _ _ _ _ (ne _ _).symm]; exact j1)
 ·exact (((hD.set hhi o3).set (by simpa only [World.size_setCell] using hhi) o4).set (by simpa only [World.size_setCell] using hhi) o4).wide hlo (by simpa only [World.size_setCell] using hhi)
theorem LqH.fin {w W:World} {c:Cl} {b3 b4:Nat} {fv:Value} (h:LqH w W c b3 b4 fv) (t u:TypeId) :
  LapV (((W.alloc (.cells #[.int .i64 (lpF c)] t)).alloc (.cells #[.int .i64 (lpU c)] t)).alloc (.cells #[.bool (yaz c.fr c.un)] u)) w.heap.size (((W.alloc (.cells #[.int .i64 (lpF c)] t)).alloc (.cells #[.int .i64 (lpU c)] t)).alloc (.cells #[.bool (yaz c.fr c.un)] u)).heap.size c
   (ydd (W.heap.size+1+1) W.heap.size (W.heap.size+1) b3 b4 w.heap.size)∧
  Below w.heap.size w (((W.alloc (.cells #[.int .i64 (lpF c)] t)).alloc (.cells #[.int .i64 (lpU c)] t)).alloc (.cells #[.bool (yaz c.fr c.un)] u)):=by
 have hb:=yaa (o:= .cells #[.bool (yaz c.fr c.un)] u) (yaa (o:= .cells #[.int .i64 (lpU c)] t) (yaa (o:= .cells #[.int .i64 (lpF c)] t) (Below.refl W.heap.size W) (zG _)) (by simp only [zzN]; omega)) (by simp only [zzN]; omega)
 have h':=h.below hb
 have l1:=h.l.2.2
 refine ⟨⟨_,_,_,_,_,_,fv,rfl,⟨?_,?_,?_,h'.c3,h'.c4,h'.c1⟩,h'.d,⟨by omega,by simp only [zzN]; omega⟩,⟨by omega,by simp only [zzN]; omega⟩,⟨by omega,by simp only [zzN]; omega⟩,h'.l.1,h'.l.2.1,⟨zG _,h'.l.2.2⟩⟩,h'.b⟩
 ·simp [go_sem]
 ·simp [go_sem]
 ·simp [go_sem]
theorem LapsG_any (c:Cl) (w:World) (hc:c.Ok):Calls Tryz.prog 100 #[clv c] w fun e w'=>(∃gv,e= .returned gv∧LapV w' w.heap.size w'.heap.size c gv)∧Below w.heap.size w w':=by
 have cD:Hid (∀W,LaS w c W→Calls Tryz.prog 87 #[clv c] W fun e w'=>(∃g cap,e= .returned (.func (.func g) #[] cap)∧DVS w' W.heap.size w'.heap.size c (.func (.func g) #[] cap))∧Below W.heap.size W w'):=fun W _=>
  (yhJ c W hc).mono fun e w' ⟨fv,he,hv,hb⟩=>by
    have hd:=hv.dvs hc
    obtain ⟨g,cap,rfl⟩:=hd.form
    exact ⟨⟨g,cap,he,hd⟩,hb⟩
 have cS:=hid (fun W=>yfv c W)
 have HS0:Hid (LaS w c (w.alloc (.cells (yac c).toArray 34)).drew):=(LaS.of (yb7 w c _) (yaa (Below.refl _ _) (zG _)) (by simp)).keep (Below.refl _ _).drew
 have cY:=hid (fun W=>ykq c W)
 have eXYZ:Hid (∃X Y F U B,yaq c.fr c.un=X∧yap c.fr c.un=Y∧lpF c=F∧lpU c=U∧yaz c.fr c.un=B):=⟨_,_,_,_,_,rfl,rfl,rfl,rfl,rfl⟩
 clear hc
 go_enter Tryz.func100,Tryz.ntmps100
 go_wp2_with fail
 refine wp_region_held_drew (S:=fun w'=>LaS w c w') (by kernel_rfl) HS0.out (fun hHeld=>?_)
 refine zhD 0 ?_
 refine zhD 2 ?_
 refine wpAnyH_ready (rs:= [1,4,5]) (by kernel_rfl) (by simp) ?_
 refine AllReadyH.cons rfl (fun K hK=>?_) (AllReadyH.cons rfl (fun K hK=>?_) (AllReadyH.cons rfl (fun K hK=>?_) AllReadyH.nil))
 ·go_simp
  have hLo:=hHeld.2.2.1.size
  refine (cD.out _ (by assumption)).mono ?_
  rintro e wa ⟨⟨g,cap,rfl,hdc⟩,hB⟩
  have HD:=hid hdc
  have HLo:=hid hLo
  clear hLo
  have HZ:Hid (wa.heap.size≤wa.heap.size):=zG _
  have hS:=LaS.keep hHeld hB
  clear hB
  (try go_wp2_with fail)
  refine hK.out _ _ hS (fun hHeld=>?_)
  clear hK K
  try simp only [zP]
  refine wpAnyH_ready (rs:= [3,4,5]) (by kernel_rfl) (by simp) ?_
  refine AllReadyH.cons rfl (fun K hK=>?_) (AllReadyH.cons rfl (fun K hK=>?_) (AllReadyH.cons rfl (fun K hK=>?_) AllReadyH.nil))
  ·go_simp
   refine (cS.out _).mono ?_
   rintro e wb ⟨rfl,hB⟩
   have HD:=hid (HD.out.below (by have:=HZ.out; omega) hB)
   have HZ:Hid (wa.heap.size≤wb.heap.size):=zI HZ.out hB.size
   have hS:=LaS.keep hHeld hB
   clear hB
   (try go_wp2_with fail)
   refine hK.out _ _ hS (fun hHeld=>?_)
   clear hK K
   try simp only [zP]
   refine wpAnyH_ready (rs:= [4,5]) (by kernel_rfl) (by simp) ?_
   refine AllReadyH.cons rfl (fun K hK=>?_) (AllReadyH.cons rfl (fun K hK=>?_) AllReadyH.nil)
   ·go_simp
    have hB:=yaa (o:= .cells #[.nilFunc] 136) (Below.refl wb.heap.size wb) (zG _)
    have N3:=hid (ydO (w:=w) (W:=wb) .nilFunc 136 hHeld.2.2.2)
    have HD:=hid (HD.out.below (by have:=HZ.out; omega) hB)
    have O3:Hid (wa.heap.size≤wb.heap.size):=HZ.out
    have HZ:Hid (wa.heap.size≤(wb.alloc (.cells #[.nilFunc] 136)).heap.size):=zI HZ.out hB.size
    have hS:=LaS.keep hHeld hB
    clear hB
    (try go_wp2_with fail)
    refine hK.out _ _ hS (fun hHeld=>?_)
    clear hK K
    try simp only [zP]
    refine zzK 5 (fun K hK=>?_)
    ·go_simp
     have hB:=yaa (o:= .cells #[.int .i64 0, .int .i64 0] 84) (Below.refl (wb.alloc (.cells #[.nilFunc] 136)).heap.size (wb.alloc (.cells #[.nilFunc] 136))) (zG _)
     have N4:=hid (ydN (w:=w) (W:=(wb.alloc (.cells #[.nilFunc] 136))) (.int .i64 0) (.int .i64 0) 84 hHeld.2.2.2)
     have O34:=hid N3.out.l
     have HD:=hid (HD.out.below (by have:=HZ.out; omega) hB)
     have O4:Hid (wa.heap.size≤(wb.alloc (.cells #[.nilFunc] 136)).heap.size):=HZ.out
     have HZ:Hid (wa.heap.size≤((wb.alloc (.cells #[.nilFunc] 136)).alloc (.cells #[.int .i64 0, .int .i64 0] 84)).heap.size):=zI HZ.out hB.size
     have N3:=hid (N3.out.below hB)
     have hS:=LaS.keep hHeld hB
     clear hB
     (try go_wp2_with fail)
     refine hK.out _ _ hS (fun hHeld=>?_)
     clear hK K
     try simp only [zP]
     obtain ⟨b3,hb3⟩:∃b,wb.heap.size=b:=⟨_,rfl⟩
     obtain ⟨b4,hb4⟩:∃b,(wb.alloc (.cells #[.nilFunc] 136)).heap.size=b:=⟨_,rfl⟩
     rw [hb3] at N3
     rw [hb4] at N4
     have hne:¬b4=b3:=by have:=O34.out; omega
     have p3:=O3.out
     have p4:=O4.out
     rw [hb3] at p3
     rw [hb4] at p4
     have o3:=O3.out
     have o4:=O4.out
     (try simp only [zzN] at hb3 hb4 o3 o4)
     (try rw [hb4])
     (try rw [hb3])
     obtain ⟨X,hX⟩:∃X,((wb.alloc (.cells #[.nilFunc] 136)).alloc (.cells #[.int .i64 0, .int .i64 0] 84))=X:=⟨_,rfl⟩
     rw [hX] at N3 N4 HD HZ hHeld⊢
     obtain ⟨g0,g1,-,g3⟩:=N3.out
     obtain ⟨⟨j0,j1⟩,⟨j2,j3⟩,-,j5⟩:=N4.out
     have hS0:=hHeld
     refine zzK 6 (fun K hK=>?_)
     go_simp
     (try go_wp2_with fail)
     refine hK.out _ _ (LaS.set hHeld g3) (fun hHeld=>?_)
     clear hK K
     try simp only [zP]
     have e0:(X.setCell ⟨b3,0,none⟩ (.func (.func g) #[] cap)).cell? ⟨b4,0,none⟩=some (.int .i64 0):=by rw [zzL _ _ _ _ (by intro e; injection e with e _ _; exact hne e.symm)]; exact j0
     have e1:(X.setCell ⟨b3,0,none⟩ (.func (.func g) #[] cap)).cell? ⟨b4,1,none⟩=some (.int .i64 0):=by rw [zzL _ _ _ _ (by intro e; injection e with e _ _; exact hne e.symm)]; exact j1
     have e2:(X.setCell ⟨b3,0,none⟩ (.func (.func g) #[] cap)).frozen? ⟨b4,0,none⟩=false:=by rw [yae]; exact j2
     have e3:(X.setCell ⟨b3,0,none⟩ (.func (.func g) #[] cap)).frozen? ⟨b4,1,none⟩=false:=by rw [yae]; exact j3
     refine zzK 7 (fun K hK=>?_)
     go_simp
     (try go_wp2_with fail)
     refine hK.out _ _ (LaS.set (LaS.set hHeld j5) j5) (fun hHeld=>?_)
     clear hK K
     try simp only [zP]
     refine wpAnyH_done (by kernel_rfl) ?_ _
     have HH:=hid (ycy hne g0 j0 j1 N3.out.l N4.out.l g3 j5 hS0 HD.out HZ.out HLo.out (by omega) (by omega))
     go_wp2_with fail
     refine (cY.out _).mono ?_
     rintro e w5 ⟨rfl,hB⟩
     have H5:=hid (HH.out.below hB)
     clear hB HH HD HZ HLo N3 N4 O3 O4 O34 e0 e1 e2 e3 hHeld hS0 g0 g1 j0 j1 j2 j3 hX hb3 hb4 o3 o4 p3 p4
     go_wp2
     go_ret
     exact ⟨⟨_,rfl,(H5.out.fin _ _).1⟩,(H5.out.fin _ _).2⟩
   ·go_simp
    have hB:=yaa (o:= .cells #[.int .i64 0, .int .i64 0] 84) (Below.refl wb.heap.size wb) (zG _)
    have N4:=hid (ydN (w:=w) (W:=wb) (.int .i64 0) (.int .i64 0) 84 hHeld.2.2.2)
    have HD:=hid (HD.out.below (by have:=HZ.out; omega) hB)
    have O4:Hid (wa.heap.size≤wb.heap.size):=HZ.out
    have HZ:Hid (wa.heap.size≤(wb.alloc (.cells #[.int .i64 0, .int .i64 0] 84)).heap.size):=zI HZ.out hB.size
    have hS:=LaS.keep hHeld hB
    clear hB
    (try go_wp2_with fail)
    refine hK.out _ _ hS (fun hHeld=>?_)
    clear hK K
    try simp only [zP]
    refine zzK 4 (fun K hK=>?_)
    ·go_simp
     have hB:=yaa (o:= .cells #[.nilFunc] 136) (Below.refl (wb.alloc (.cells #[.int .i64 0, .int .i64 0] 84)).heap.size (wb.alloc (.cells #[.int .i64 0, .int .i64 0] 84))) (zG _)
     have N3:=hid (ydO (w:=w) (W:=(wb.alloc (.cells #[.int .i64 0, .int .i64 0] 84))) .nilFunc 136 hHeld.2.2.2)
     have O34:=hid N4.out.l
     have HD:=hid (HD.out.below (by have:=HZ.out; omega) hB)
     have O3:Hid (wa.heap.size≤(wb.alloc (.cells #[.int .i64 0, .int .i64 0] 84)).heap.size):=HZ.out
     have HZ:Hid (wa.heap.size≤((wb.alloc (.cells #[.int .i64 0, .int .i64 0] 84)).alloc (.cells #[.nilFunc] 136)).heap.size):=zI HZ.out hB.size
     have N4:=hid (N4.out.below hB)
     have hS:=LaS.keep hHeld hB
     clear hB
     (try go_wp2_with fail)
     refine hK.out _ _ hS (fun hHeld=>?_)
     clear hK K
     try simp only [zP]
     obtain ⟨b3,hb3⟩:∃b,(wb.alloc (.cells #[.int .i64 0, .int .i64 0] 84)).heap.size=b:=⟨_,rfl⟩
     obtain ⟨b4,hb4⟩:∃b,wb.heap.size=b:=⟨_,rfl⟩
     rw [hb3] at N3
     rw [hb4] at N4
     have hne:¬b4=b3:=by have:=O34.out; omega
     have p3:=O3.out
     have p4:=O4.out
     rw [hb3] at p3
     rw [hb4] at p4
     have o3:=O3.out
     have o4:=O4.out
     (try simp only [zzN] at hb3 hb4 o3 o4)
     (try rw [hb3])
     (try rw [hb4])
     obtain ⟨X,hX⟩:∃X,((wb.alloc (.cells #[.int .i64 0, .int .i64 0] 84)).alloc (.cells #[.nilFunc] 136))=X:=⟨_,rfl⟩
     rw [hX] at N3 N4 HD HZ hHeld⊢
     obtain ⟨g0,g1,-,g3⟩:=N3.out
     obtain ⟨⟨j0,j1⟩,⟨j2,j3⟩,-,j5⟩:=N4.out
     have hS0:=hHeld
     refine zzK 6 (fun K hK=>?_)
     go_simp
     (try go_wp2_with fail)
     refine hK.out _ _ (LaS.set hHeld g3) (fun hHeld=>?_)
     clear hK K
     try simp only [zP]
     have e0:(X.setCell ⟨b3,0,none⟩ (.func (.func g) #[] cap)).cell? ⟨b4,0,none⟩=some (.int .i64 0):=by rw [zzL _ _ _ _ (by intro e; injection e with e _ _; exact hne e.symm)]; exact j0
     have e1:(X.setCell ⟨b3,0,none⟩ (.func (.func g) #[] cap)).cell? ⟨b4,1,none⟩=some (.int .i64 0):=by rw [zzL _ _ _ _ (by intro e; injection e with e _ _; exact hne e.symm)]; exact j1
     have e2:(X.setCell ⟨b3,0,none⟩ (.func (.func g) #[] cap)).frozen? ⟨b4,0,none⟩=false:=by rw [yae]; exact j2
     have e3:(X.setCell ⟨b3,0,none⟩ (.func (.func g) #[] cap)).frozen? ⟨b4,1,none⟩=false:=by rw [yae]; exact j3
     refine zzK 7 (fun K hK=>?_)
     go_simp
     (try go_wp2_with fail)
     refine hK.out _ _ (LaS.set (LaS.set hHeld j5) j5) (fun hHeld=>?_)
     clear hK K
     try simp only [zP]
     refine wpAnyH_done (by kernel_rfl) ?_ _
     have HH:=hid (ycy hne g0 j0 j1 N3.out.l N4.out.l g3 j5 hS0 HD.out HZ.out HLo.out (by omega) (by omega))
     go_wp2_with fail
     refine (cY.out _).mono ?_
     rintro e w5 ⟨rfl,hB⟩
     have H5:=hid (HH.out.below hB)
     clear hB HH HD HZ HLo N3 N4 O3 O4 O34 e0 e1 e2 e3 hHeld hS0 g0 g1 j0 j1 j2 j3 hX hb3 hb4 o3 o4 p3 p4
     go_wp2
     go_ret
     exact ⟨⟨_,rfl,(H5.out.fin _ _).1⟩,(H5.out.fin _ _).2⟩
  ·go_simp
   have hB:=yaa (o:= .cells #[.nilFunc] 136) (Below.refl wa.heap.size wa) (zG _)
   have N3:=hid (ydO (w:=w) (W:=wa) .nilFunc 136 hHeld.2.2.2)
   have HD:=hid (HD.out.below (by have:=HZ.out; omega) hB)
   have O3:Hid (wa.heap.size≤wa.heap.size):=HZ.out
   have HZ:Hid (wa.heap.size≤(wa.alloc (.cells #[.nilFunc] 136)).heap.size):=zI HZ.out hB.size
   have hS:=LaS.keep hHeld hB
   clear hB
   (try go_wp2_with fail)
   refine hK.out _ _ hS (fun hHeld=>?_)
   clear hK K
   try simp only [zP]
   refine wpAnyH_ready (rs:= [3,5]) (by kernel_rfl) (by simp) ?_
   refine AllReadyH.cons rfl (fun K hK=>?_) (AllReadyH.cons rfl (fun K hK=>?_) AllReadyH.nil)
   ·go_simp
    refine (cS.out _).mono ?_
    rintro e wb ⟨rfl,hB⟩
    have HD:=hid (HD.out.below (by have:=HZ.out; omega) hB)
    have HZ:Hid (wa.heap.size≤wb.heap.size):=zI HZ.out hB.size
    have N3:=hid (N3.out.below hB)
    have hS:=LaS.keep hHeld hB
    clear hB
    (try go_wp2_with fail)
    refine hK.out _ _ hS (fun hHeld=>?_)
    clear hK K
    try simp only [zP]
    refine zzK 5 (fun K hK=>?_)
    ·go_simp
     have hB:=yaa (o:= .cells #[.int .i64 0, .int .i64 0] 84) (Below.refl wb.heap.size wb) (zG _)
     have N4:=hid (ydN (w:=w) (W:=wb) (.int .i64 0) (.int .i64 0) 84 hHeld.2.2.2)
     have O34:=hid N3.out.l
     have HD:=hid (HD.out.below (by have:=HZ.out; omega) hB)
     have O4:Hid (wa.heap.size≤wb.heap.size):=HZ.out
     have HZ:Hid (wa.heap.size≤(wb.alloc (.cells #[.int .i64 0, .int .i64 0] 84)).heap.size):=zI HZ.out hB.size
     have N3:=hid (N3.out.below hB)
     have hS:=LaS.keep hHeld hB
     clear hB
     (try go_wp2_with fail)
     refine hK.out _ _ hS (fun hHeld=>?_)
     clear hK K
     try simp only [zP]
     obtain ⟨b3,hb3⟩:∃b,wa.heap.size=b:=⟨_,rfl⟩
     obtain ⟨b4,hb4⟩:∃b,wb.heap.size=b:=⟨_,rfl⟩
     rw [hb3] at N3
     rw [hb4] at N4
     have hne:¬b4=b3:=by have:=O34.out; omega
     have p3:=O3.out
     have p4:=O4.out
     rw [hb3] at p3
     rw [hb4] at p4
     have o3:=O3.out
     have o4:=O4.out
     (try simp only [zzN] at hb3 hb4 o3 o4)
     (try rw [hb4])
     (try rw [hb3])
     obtain ⟨X,hX⟩:∃X,(wb.alloc (.cells #[.int .i64 0, .int .i64 0] 84))=X:=⟨_,rfl⟩
     rw [hX] at N3 N4 HD HZ hHeld⊢
     obtain ⟨g0,g1,-,g3⟩:=N3.out
     obtain ⟨⟨j0,j1⟩,⟨j2,j3⟩,-,j5⟩:=N4.out
     have hS0:=hHeld
     refine zzK 6 (fun K hK=>?_)
     go_simp
     (try go_wp2_with fail)
     refine hK.out _ _ (LaS.set hHeld g3) (fun hHeld=>?_)
     clear hK K
     try simp only [zP]
     have e0:(X.setCell ⟨b3,0,none⟩ (.func (.func g) #[] cap)).cell? ⟨b4,0,none⟩=some (.int .i64 0):=by rw [zzL _ _ _ _ (by intro e; injection e with e _ _; exact hne e.symm)]; exact j0
     have e1:(X.setCell ⟨b3,0,none⟩ (.func (.func g) #[] cap)).cell? ⟨b4,1,none⟩=some (.int .i64 0):=by rw [zzL _ _ _ _ (by intro e; injection e with e _ _; exact hne e.symm)]; exact j1
     have e2:(X.setCell ⟨b3,0,none⟩ (.func (.func g) #[] cap)).frozen? ⟨b4,0,none⟩=false:=by rw [yae]; exact j2
     have e3:(X.setCell ⟨b3,0,none⟩ (.func (.func g) #[] cap)).frozen? ⟨b4,1,none⟩=false:=by rw [yae]; exact j3
     refine zzK 7 (fun K hK=>?_)
     go_simp
     (try go_wp2_with fail)
     refine hK.out _ _ (LaS.set (LaS.set hHeld j5) j5) (fun hHeld=>?_)
     clear hK K
     try simp only [zP]
     refine wpAnyH_done (by kernel_rfl) ?_ _
     have HH:=hid (ycy hne g0 j0 j1 N3.out.l N4.out.l g3 j5 hS0 HD.out HZ.out HLo.out (by omega) (by omega))
     go_wp2_with fail
     refine (cY.out _).mono ?_
     rintro e w5 ⟨rfl,hB⟩
     have H5:=hid (HH.out.below hB)
     clear hB HH HD HZ HLo N3 N4 O3 O4 O34 e0 e1 e2 e3 hHeld hS0 g0 g1 j0 j1 j2 j3 hX hb3 hb4 o3 o4 p3 p4
     go_wp2
     go_ret
     exact ⟨⟨_,rfl,(H5.out.fin _ _).1⟩,(H5.out.fin _ _).2⟩
   ·go_simp
    have hB:=yaa (o:= .cells #[.int .i64 0, .int .i64 0] 84) (Below.refl (wa.alloc (.cells #[.nilFunc] 136)).heap.size (wa.alloc (.cells #[.nilFunc] 136))) (zG _)
    have N4:=hid (ydN (w:=w) (W:=(wa.alloc (.cells #[.nilFunc] 136))) (.int .i64 0) (.int .i64 0) 84 hHeld.2.2.2)
    have O34:=hid N3.out.l
    have HD:=hid (HD.out.below (by have:=HZ.out; omega) hB)
    have O4:Hid (wa.heap.size≤(wa.alloc (.cells #[.nilFunc] 136)).heap.size):=HZ.out
    have HZ:Hid (wa.heap.size≤((wa.alloc (.cells #[.nilFunc] 136)).alloc (.cells #[.int .i64 0, .int .i64 0] 84)).heap.size):=zI HZ.out hB.size
    have N3:=hid (N3.out.below hB)
    have hS:=LaS.keep hHeld hB
    clear hB
    (try go_wp2_with fail)
    refine hK.out _ _ hS (fun hHeld=>?_)
    clear hK K
    try simp only [zP]
    refine zzK 3 (fun K hK=>?_)
    ·go_simp
     refine (cS.out _).mono ?_
     rintro e wb ⟨rfl,hB⟩
     have HD:=hid (HD.out.below (by have:=HZ.out; omega) hB)
     have HZ:Hid (wa.heap.size≤wb.heap.size):=zI HZ.out hB.size
     have N3:=hid (N3.out.below hB)
     have N4:=hid (N4.out.below hB)
     have hS:=LaS.keep hHeld hB
     clear hB
     (try go_wp2_with fail)
     refine hK.out _ _ hS (fun hHeld=>?_)
     clear hK K
     try simp only [zP]
     obtain ⟨b3,hb3⟩:∃b,wa.heap.size=b:=⟨_,rfl⟩
     obtain ⟨b4,hb4⟩:∃b,(wa.alloc (.cells #[.nilFunc] 136)).heap.size=b:=⟨_,rfl⟩
     rw [hb3] at N3
     rw [hb4] at N4
     have hne:¬b4=b3:=by have:=O34.out; omega
     have p3:=O3.out
     have p4:=O4.out
     rw [hb3] at p3
     rw [hb4] at p4
     have o3:=O3.out
     have o4:=O4.out
     (try simp only [zzN] at hb3 hb4 o3 o4)
     (try rw [hb4])
     (try rw [hb3])
     obtain ⟨X,hX⟩:∃X,wb=X:=⟨_,rfl⟩
     rw [hX] at N3 N4 HD HZ hHeld⊢
     obtain ⟨g0,g1,-,g3⟩:=N3.out
     obtain ⟨⟨j0,j1⟩,⟨j2,j3⟩,-,j5⟩:=N4.out
     have hS0:=hHeld
     refine zzK 6 (fun K hK=>?_)
     go_simp
     (try go_wp2_with fail)
     refine hK.out _ _ (LaS.set hHeld g3) (fun hHeld=>?_)
     clear hK K
     try simp only [zP]
     have e0:(X.setCell ⟨b3,0,none⟩ (.func (.func g) #[] cap)).cell? ⟨b4,0,none⟩=some (.int .i64 0):=by rw [zzL _ _ _ _ (by intro e; injection e with e _ _; exact hne e.symm)]; exact j0
     have e1:(X.setCell ⟨b3,0,none⟩ (.func (.func g) #[] cap)).cell? ⟨b4,1,none⟩=some (.int .i64 0):=by rw [zzL _ _ _ _ (by intro e; injection e with e _ _; exact hne e.symm)]; exact j1
     have e2:(X.setCell ⟨b3,0,none⟩ (.func (.func g) #[] cap)).frozen? ⟨b4,0,none⟩=false:=by rw [yae]; exact j2
     have e3:(X.setCell ⟨b3,0,none⟩ (.func (.func g) #[] cap)).frozen? ⟨b4,1,none⟩=false:=by rw [yae]; exact j3
     refine zzK 7 (fun K hK=>?_)
     go_simp
     (try go_wp2_with fail)
     refine hK.out _ _ (LaS.set (LaS.set hHeld j5) j5) (fun hHeld=>?_)
     clear hK K
     try simp only [zP]
     refine wpAnyH_done (by kernel_rfl) ?_ _
     have HH:=hid (ycy hne g0 j0 j1 N3.out.l N4.out.l g3 j5 hS0 HD.out HZ.out HLo.out (by omega) (by omega))
     go_wp2_with fail
     refine (cY.out _).mono ?_
     rintro e w5 ⟨rfl,hB⟩
     have H5:=hid (HH.out.below hB)
     clear hB HH HD HZ HLo N3 N4 O3 O4 O34 e0 e1 e2 e3 hHeld hS0 g0 g1 j0 j1 j2 j3 hX hb3 hb4 o3 o4 p3 p4
     go_wp2
     go_ret
     exact ⟨⟨_,rfl,(H5.out.fin _ _).1⟩,(H5.out.fin _ _).2⟩
  ·go_simp
   have hB:=yaa (o:= .cells #[.int .i64 0, .int .i64 0] 84) (Below.refl wa.heap.size wa) (zG _)
   have N4:=hid (ydN (w:=w) (W:=wa) (.int .i64 0) (.int .i64 0) 84 hHeld.2.2.2)
   have HD:=hid (HD.out.below (by have:=HZ.out; omega) hB)
   have O4:Hid (wa.heap.size≤wa.heap.size):=HZ.out
   have HZ:Hid (wa.heap.size≤(wa.alloc (.cells #[.int .i64 0, .int .i64 0] 84)).heap.size):=zI HZ.out hB.size
   have hS:=LaS.keep hHeld hB
   clear hB
   (try go_wp2_with fail)
   refine hK.out _ _ hS (fun hHeld=>?_)
   clear hK K
   try simp only [zP]
   refine wpAnyH_ready (rs:= [3,4]) (by kernel_rfl) (by simp) ?_
   refine AllReadyH.cons rfl (fun K hK=>?_) (AllReadyH.cons rfl (fun K hK=>?_) AllReadyH.nil)
   ·go_simp
    refine (cS.out _).mono ?_
    rintro e wb ⟨rfl,hB⟩
    have HD:=hid (HD.out.below (by have:=HZ.out; omega) hB)
    have HZ:Hid (wa.heap.size≤wb.heap.size):=zI HZ.out hB.size
    have N4:=hid (N4.out.below hB)
    have hS:=LaS.keep hHeld hB
    clear hB
    (try go_wp2_with fail)
    refine hK.out _ _ hS (fun hHeld=>?_)
    clear hK K
    try simp only [zP]
    refine zzK 4 (fun K hK=>?_)
    ·go_simp
     have hB:=yaa (o:= .cells #[.nilFunc] 136) (Below.refl wb.heap.size wb) (zG _)
     have N3:=hid (ydO (w:=w) (W:=wb) .nilFunc 136 hHeld.2.2.2)
     have O34:=hid N4.out.l
     have HD:=hid (HD.out.below (by have:=HZ.out; omega) hB)
     have O3:Hid (wa.heap.size≤wb.heap.size):=HZ.out
     have HZ:Hid (wa.heap.size≤(wb.alloc (.cells #[.nilFunc] 136)).heap.size):=zI HZ.out hB.size
     have N4:=hid (N4.out.below hB)
     have hS:=LaS.keep hHeld hB
     clear hB
     (try go_wp2_with fail)
     refine hK.out _ _ hS (fun hHeld=>?_)
     clear hK K
     try simp only [zP]
     obtain ⟨b3,hb3⟩:∃b,wb.heap.size=b:=⟨_,rfl⟩
     obtain ⟨b4,hb4⟩:∃b,wa.heap.size=b:=⟨_,rfl⟩
     rw [hb3] at N3
     rw [hb4] at N4
     have hne:¬b4=b3:=by have:=O34.out; omega
     have p3:=O3.out
     have p4:=O4.out
     rw [hb3] at p3
     rw [hb4] at p4
     have o3:=O3.out
     have o4:=O4.out
     (try simp only [zzN] at hb3 hb4 o3 o4)
     (try rw [hb3])
     (try rw [hb4])
     obtain ⟨X,hX⟩:∃X,(wb.alloc (.cells #[.nilFunc] 136))=X:=⟨_,rfl⟩
     rw [hX] at N3 N4 HD HZ hHeld⊢
     obtain ⟨g0,g1,-,g3⟩:=N3.out
     obtain ⟨⟨j0,j1⟩,⟨j2,j3⟩,-,j5⟩:=N4.out
     have hS0:=hHeld
     refine zzK 6 (fun K hK=>?_)
     go_simp
     (try go_wp2_with fail)
     refine hK.out _ _ (LaS.set hHeld g3) (fun hHeld=>?_)
     clear hK K
     try simp only [zP]
     have e0:(X.setCell ⟨b3,0,none⟩ (.func (.func g) #[] cap)).cell? ⟨b4,0,none⟩=some (.int .i64 0):=by rw [zzL _ _ _ _ (by intro e; injection e with e _ _; exact hne e.symm)]; exact j0
     have e1:(X.setCell ⟨b3,0,none⟩ (.func (.func g) #[] cap)).cell? ⟨b4,1,none⟩=some (.int .i64 0):=by rw [zzL _ _ _ _ (by intro e; injection e with e _ _; exact hne e.symm)]; exact j1
     have e2:(X.setCell ⟨b3,0,none⟩ (.func (.func g) #[] cap)).frozen? ⟨b4,0,none⟩=false:=by rw [yae]; exact j2
     have e3:(X.setCell ⟨b3,0,none⟩ (.func (.func g) #[] cap)).frozen? ⟨b4,1,none⟩=false:=by rw [yae]; exact j3
     refine zzK 7 (fun K hK=>?_)
     go_simp
     (try go_wp2_with fail)
     refine hK.out _ _ (LaS.set (LaS.set hHeld j5) j5) (fun hHeld=>?_)
     clear hK K
     try simp only [zP]
     refine wpAnyH_done (by kernel_rfl) ?_ _
     have HH:=hid (ycy hne g0 j0 j1 N3.out.l N4.out.l g3 j5 hS0 HD.out HZ.out HLo.out (by omega) (by omega))
     go_wp2_with fail
     refine (cY.out _).mono ?_
     rintro e w5 ⟨rfl,hB⟩
     have H5:=hid (HH.out.below hB)
     clear hB HH HD HZ HLo N3 N4 O3 O4 O34 e0 e1 e2 e3 hHeld hS0 g0 g1 j0 j1 j2 j3 hX hb3 hb4 o3 o4 p3 p4
     go_wp2
     go_ret
     exact ⟨⟨_,rfl,(H5.out.fin _ _).1⟩,(H5.out.fin _ _).2⟩
   ·go_simp
    have hB:=yaa (o:= .cells #[.nilFunc] 136) (Below.refl (wa.alloc (.cells #[.int .i64 0, .int .i64 0] 84)).heap.size (wa.alloc (.cells #[.int .i64 0, .int .i64 0] 84))) (zG _)
    have N3:=hid (ydO (w:=w) (W:=(wa.alloc (.cells #[.int .i64 0, .int .i64 0] 84))) .nilFunc 136 hHeld.2.2.2)
    have O34:=hid N4.out.l
    have HD:=hid (HD.out.below (by have:=HZ.out; omega) hB)
    have O3:Hid (wa.heap.size≤(wa.alloc (.cells #[.int .i64 0, .int .i64 0] 84)).heap.size):=HZ.out
    have HZ:Hid (wa.heap.size≤((wa.alloc (.cells #[.int .i64 0, .int .i64 0] 84)).alloc (.cells #[.nilFunc] 136)).heap.size):=zI HZ.out hB.size
    have N4:=hid (N4.out.below hB)
    have hS:=LaS.keep hHeld hB
    clear hB
    (try go_wp2_with fail)
    refine hK.out _ _ hS (fun hHeld=>?_)
    clear hK K
    try simp only [zP]
    refine zzK 3 (fun K hK=>?_)
    ·go_simp
     refine (cS.out _).mono ?_
     rintro e wb ⟨rfl,hB⟩
     have HD:=hid (HD.out.below (by have:=HZ.out; omega) hB)
     have HZ:Hid (wa.heap.size≤wb.heap.size):=zI HZ.out hB.size
     have N3:=hid (N3.out.below hB)
     have N4:=hid (N4.out.below hB)
     have hS:=LaS.keep hHeld hB
     clear hB
     (try go_wp2_with fail)
     refine hK.out _ _ hS (fun hHeld=>?_)
     clear hK K
     try simp only [zP]
     obtain ⟨b3,hb3⟩:∃b,(wa.alloc (.cells #[.int .i64 0, .int .i64 0] 84)).heap.size=b:=⟨_,rfl⟩
     obtain ⟨b4,hb4⟩:∃b,wa.heap.size=b:=⟨_,rfl⟩
     rw [hb3] at N3
     rw [hb4] at N4
     have hne:¬b4=b3:=by have:=O34.out; omega
     have p3:=O3.out
     have p4:=O4.out
     rw [hb3] at p3
     rw [hb4] at p4
     have o3:=O3.out
     have o4:=O4.out
     (try simp only [zzN] at hb3 hb4 o3 o4)
     (try rw [hb3])
     (try rw [hb4])
     obtain ⟨X,hX⟩:∃X,wb=X:=⟨_,rfl⟩
     rw [hX] at N3 N4 HD HZ hHeld⊢
     obtain ⟨g0,g1,-,g3⟩:=N3.out
     obtain ⟨⟨j0,j1⟩,⟨j2,j3⟩,-,j5⟩:=N4.out
     have hS0:=hHeld
     refine zzK 6 (fun K hK=>?_)
     go_simp
     (try go_wp2_with fail)
     refine hK.out _ _ (LaS.set hHeld g3) (fun hHeld=>?_)
     clear hK K
     try simp only [zP]
     have e0:(X.setCell ⟨b3,0,none⟩ (.func (.func g) #[] cap)).cell? ⟨b4,0,none⟩=some (.int .i64 0):=by rw [zzL _ _ _ _ (by intro e; injection e with e _ _; exact hne e.symm)]; exact j0
     have e1:(X.setCell ⟨b3,0,none⟩ (.func (.func g) #[] cap)).cell? ⟨b4,1,none⟩=some (.int .i64 0):=by rw [zzL _ _ _ _ (by intro e; injection e with e _ _; exact hne e.symm)]; exact j1
     have e2:(X.setCell ⟨b3,0,none⟩ (.func (.func g) #[] cap)).frozen? ⟨b4,0,none⟩=false:=by rw [yae]; exact j2
     have e3:(X.setCell ⟨b3,0,none⟩ (.func (.func g) #[] cap)).frozen? ⟨b4,1,none⟩=false:=by rw [yae]; exact j3
     refine zzK 7 (fun K hK=>?_)
     go_simp
     (try go_wp2_with fail)
     refine hK.out _ _ (LaS.set (LaS.set hHeld j5) j5) (fun hHeld=>?_)
     clear hK K
     try simp only [zP]
     refine wpAnyH_done (by kernel_rfl) ?_ _
     have HH:=hid (ycy hne g0 j0 j1 N3.out.l N4.out.l g3 j5 hS0 HD.out HZ.out HLo.out (by omega) (by omega))
     go_wp2_with fail
     refine (cY.out _).mono ?_
     rintro e w5 ⟨rfl,hB⟩
     have H5:=hid (HH.out.below hB)
     clear hB HH HD HZ HLo N3 N4 O3 O4 O34 e0 e1 e2 e3 hHeld hS0 g0 g1 j0 j1 j2 j3 hX hb3 hb4 o3 o4 p3 p4
     go_wp2
     go_ret
     exact ⟨⟨_,rfl,(H5.out.fin _ _).1⟩,(H5.out.fin _ _).2⟩
 ·go_simp
  have hB:=yaa (o:= .cells #[.nilFunc] 136) (Below.refl (w.alloc (.cells (yac c).toArray 34)).drew.heap.size (w.alloc (.cells (yac c).toArray 34)).drew) (zG _)
  have N3:=hid (ydO (w:=w) (W:=(w.alloc (.cells (yac c).toArray 34)).drew) .nilFunc 136 hHeld.2.2.2)
  have hS:=LaS.keep hHeld hB
  clear hB
  (try go_wp2_with fail)
  refine hK.out _ _ hS (fun hHeld=>?_)
  clear hK K
  try simp only [zP]
  refine wpAnyH_ready (rs:= [1,5]) (by kernel_rfl) (by simp) ?_
  refine AllReadyH.cons rfl (fun K hK=>?_) (AllReadyH.cons rfl (fun K hK=>?_) AllReadyH.nil)
  ·go_simp
   have hLo:=hHeld.2.2.1.size
   refine (cD.out _ (by assumption)).mono ?_
   rintro e wa ⟨⟨g,cap,rfl,hdc⟩,hB⟩
   have HD:=hid hdc
   have HLo:=hid hLo
   clear hLo
   have HZ:Hid (wa.heap.size≤wa.heap.size):=zG _
   have O3:=hid N3.out.l
   have N3:=hid (N3.out.below hB)
   have hS:=LaS.keep hHeld hB
   clear hB
   (try go_wp2_with fail)
   refine hK.out _ _ hS (fun hHeld=>?_)
   clear hK K
   try simp only [zP]
   refine wpAnyH_ready (rs:= [3,5]) (by kernel_rfl) (by simp) ?_
   refine AllReadyH.cons rfl (fun K hK=>?_) (AllReadyH.cons rfl (fun K hK=>?_) AllReadyH.nil)
   ·go_simp
    refine (cS.out _).mono ?_
    rintro e wb ⟨rfl,hB⟩
    have HD:=hid (HD.out.below (by have:=HZ.out; omega) hB)
    have HZ:Hid (wa.heap.size≤wb.heap.size):=zI HZ.out hB.size
    have N3:=hid (N3.out.below hB)
    have hS:=LaS.keep hHeld hB
    clear hB
    (try go_wp2_with fail)
    refine hK.out _ _ hS (fun hHeld=>?_)
    clear hK K
    try simp only [zP]
    refine zzK 5 (fun K hK=>?_)
    ·go_simp
     have hB:=yaa (o:= .cells #[.int .i64 0, .int .i64 0] 84) (Below.refl wb.heap.size wb) (zG _)
     have N4:=hid (ydN (w:=w) (W:=wb) (.int .i64 0) (.int .i64 0) 84 hHeld.2.2.2)
     have O34:=hid N3.out.l
     have HD:=hid (HD.out.below (by have:=HZ.out; omega) hB)
     have O4:Hid (wa.heap.size≤wb.heap.size):=HZ.out
     have HZ:Hid (wa.heap.size≤(wb.alloc (.cells #[.int .i64 0, .int .i64 0] 84)).heap.size):=zI HZ.out hB.size
     have N3:=hid (N3.out.below hB)
     have hS:=LaS.keep hHeld hB
     clear hB
     (try go_wp2_with fail)
     refine hK.out _ _ hS (fun hHeld=>?_)
     clear hK K
     try simp only [zP]
     obtain ⟨b3,hb3⟩:∃b,(w.alloc (.cells (yac c).toArray 34)).drew.heap.size=b:=⟨_,rfl⟩
     obtain ⟨b4,hb4⟩:∃b,wb.heap.size=b:=⟨_,rfl⟩
     rw [hb3] at N3
     rw [hb4] at N4
     have hne:¬b4=b3:=by have:=O34.out; omega
     have p3:=O3.out
     have p4:=O4.out
     rw [hb3] at p3
     rw [hb4] at p4
     have o3:=O3.out
     have o4:=O4.out
     (try simp only [zzN,World.size_drew] at hb3 hb4 o3 o4)
     (try rw [hb4])
     (try rw [hb3])
     obtain ⟨X,hX⟩:∃X,(wb.alloc (.cells #[.int .i64 0, .int .i64 0] 84))=X:=⟨_,rfl⟩
     rw [hX] at N3 N4 HD HZ hHeld⊢
     obtain ⟨g0,g1,-,g3⟩:=N3.out
     obtain ⟨⟨j0,j1⟩,⟨j2,j3⟩,-,j5⟩:=N4.out
     have hS0:=hHeld
     refine zzK 6 (fun K hK=>?_)
     go_simp
     (try go_wp2_with fail)
     refine hK.out _ _ (LaS.set hHeld g3) (fun hHeld=>?_)
     clear hK K
     try simp only [zP]
     have e0:(X.setCell ⟨b3,0,none⟩ (.func (.func g) #[] cap)).cell? ⟨b4,0,none⟩=some (.int .i64 0):=by rw [zzL _ _ _ _ (by intro e; injection e with e _ _; exact hne e.symm)]; exact j0
     have e1:(X.setCell ⟨b3,0,none⟩ (.func (.func g) #[] cap)).cell? ⟨b4,1,none⟩=some (.int .i64 0):=by rw [zzL _ _ _ _ (by intro e; injection e with e _ _; exact hne e.symm)]; exact j1
     have e2:(X.setCell ⟨b3,0,none⟩ (.func (.func g) #[] cap)).frozen? ⟨b4,0,none⟩=false:=by rw [yae]; exact j2
     have e3:(X.setCell ⟨b3,0,none⟩ (.func (.func g) #[] cap)).frozen? ⟨b4,1,none⟩=false:=by rw [yae]; exact j3
     refine zzK 7 (fun K hK=>?_)
     go_simp
     (try go_wp2_with fail)
     refine hK.out _ _ (LaS.set (LaS.set hHeld j5) j5) (fun hHeld=>?_)
     clear hK K
     try simp only [zP]
     refine wpAnyH_done (by kernel_rfl) ?_ _
     have HH:=hid (ycy hne g0 j0 j1 N3.out.l N4.out.l g3 j5 hS0 HD.out HZ.out HLo.out (.inl p3) (by omega))
     go_wp2_with fail
     refine (cY.out _).mono ?_
     rintro e w5 ⟨rfl,hB⟩
     have H5:=hid (HH.out.below hB)
     clear hB HH HD HZ HLo N3 N4 O3 O4 O34 e0 e1 e2 e3 hHeld hS0 g0 g1 j0 j1 j2 j3 hX hb3 hb4 o3 o4 p3 p4
     go_wp2
     go_ret
     exact ⟨⟨_,rfl,(H5.out.fin _ _).1⟩,(H5.out.fin _ _).2⟩
   ·go_simp
    have hB:=yaa (o:= .cells #[.int .i64 0, .int .i64 0] 84) (Below.refl wa.heap.size wa) (zG _)
    have N4:=hid (ydN (w:=w) (W:=wa) (.int .i64 0) (.int .i64 0) 84 hHeld.2.2.2)
    have O34:=hid N3.out.l
    have HD:=hid (HD.out.below (by have:=HZ.out; omega) hB)
    have O4:Hid (wa.heap.size≤wa.heap.size):=HZ.out
    have HZ:Hid (wa.heap.size≤(wa.alloc (.cells #[.int .i64 0, .int .i64 0] 84)).heap.size):=zI HZ.out hB.size
    have N3:=hid (N3.out.below hB)
    have hS:=LaS.keep hHeld hB
    clear hB
    (try go_wp2_with fail)
    refine hK.out _ _ hS (fun hHeld=>?_)
    clear hK K
    try simp only [zP]
    refine zzK 3 (fun K hK=>?_)
    ·go_simp
     refine (cS.out _).mono ?_
     rintro e wb ⟨rfl,hB⟩
     have HD:=hid (HD.out.below (by have:=HZ.out; omega) hB)
     have HZ:Hid (wa.heap.size≤wb.heap.size):=zI HZ.out hB.size
     have N3:=hid (N3.out.below hB)
     have N4:=hid (N4.out.below hB)
     have hS:=LaS.keep hHeld hB
     clear hB
     (try go_wp2_with fail)
     refine hK.out _ _ hS (fun hHeld=>?_)
     clear hK K
     try simp only [zP]
     obtain ⟨b3,hb3⟩:∃b,(w.alloc (.cells (yac c).toArray 34)).drew.heap.size=b:=⟨_,rfl⟩
     obtain ⟨b4,hb4⟩:∃b,wa.heap.size=b:=⟨_,rfl⟩
     rw [hb3] at N3
     rw [hb4] at N4
     have hne:¬b4=b3:=by have:=O34.out; omega
     have p3:=O3.out
     have p4:=O4.out
     rw [hb3] at p3
     rw [hb4] at p4
     have o3:=O3.out
     have o4:=O4.out
     (try simp only [zzN,World.size_drew] at hb3 hb4 o3 o4)
     (try rw [hb4])
     (try rw [hb3])
     obtain ⟨X,hX⟩:∃X,wb=X:=⟨_,rfl⟩
     rw [hX] at N3 N4 HD HZ hHeld⊢
     obtain ⟨g0,g1,-,g3⟩:=N3.out
     obtain ⟨⟨j0,j1⟩,⟨j2,j3⟩,-,j5⟩:=N4.out
     have hS0:=hHeld
     refine zzK 6 (fun K hK=>?_)
     go_simp
     (try go_wp2_with fail)
     refine hK.out _ _ (LaS.set hHeld g3) (fun hHeld=>?_)
     clear hK K
     try simp only [zP]
     have e0:(X.setCell ⟨b3,0,none⟩ (.func (.func g) #[] cap)).cell? ⟨b4,0,none⟩=some (.int .i64 0):=by rw [zzL _ _ _ _ (by intro e; injection e with e _ _; exact hne e.symm)]; exact j0
     have e1:(X.setCell ⟨b3,0,none⟩ (.func (.func g) #[] cap)).cell? ⟨b4,1,none⟩=some (.int .i64 0):=by rw [zzL _ _ _ _ (by intro e; injection e with e _ _; exact hne e.symm)]; exact j1
     have e2:(X.setCell ⟨b3,0,none⟩ (.func (.func g) #[] cap)).frozen? ⟨b4,0,none⟩=false:=by rw [yae]; exact j2
     have e3:(X.setCell ⟨b3,0,none⟩ (.func (.func g) #[] cap)).frozen? ⟨b4,1,none⟩=false:=by rw [yae]; exact j3
     refine zzK 7 (fun K hK=>?_)
     go_simp
     (try go_wp2_with fail)
     refine hK.out _ _ (LaS.set (LaS.set hHeld j5) j5) (fun hHeld=>?_)
     clear hK K
     try simp only [zP]
     refine wpAnyH_done (by kernel_rfl) ?_ _
     have HH:=hid (ycy hne g0 j0 j1 N3.out.l N4.out.l g3 j5 hS0 HD.out HZ.out HLo.out (.inl p3) (by omega))
     go_wp2_with fail
     refine (cY.out _).mono ?_
     rintro e w5 ⟨rfl,hB⟩
     have H5:=hid (HH.out.below hB)
     clear hB HH HD HZ HLo N3 N4 O3 O4 O34 e0 e1 e2 e3 hHeld hS0 g0 g1 j0 j1 j2 j3 hX hb3 hb4 o3 o4 p3 p4
     go_wp2
     go_ret
     exact ⟨⟨_,rfl,(H5.out.fin _ _).1⟩,(H5.out.fin _ _).2⟩
  ·go_simp
   have hB:=yaa (o:= .cells #[.int .i64 0, .int .i64 0] 84) (Below.refl ((w.alloc (.cells (yac c).toArray 34)).drew.alloc (.cells #[.nilFunc] 136)).heap.size ((w.alloc (.cells (yac c).toArray 34)).drew.alloc (.cells #[.nilFunc] 136))) (zG _)
   have N4:=hid (ydN (w:=w) (W:=((w.alloc (.cells (yac c).toArray 34)).drew.alloc (.cells #[.nilFunc] 136))) (.int .i64 0) (.int .i64 0) 84 hHeld.2.2.2)
   have O34:=hid N3.out.l
   have N3:=hid (N3.out.below hB)
   have hS:=LaS.keep hHeld hB
   clear hB
   (try go_wp2_with fail)
   refine hK.out _ _ hS (fun hHeld=>?_)
   clear hK K
   try simp only [zP]
   refine zzK 1 (fun K hK=>?_)
   ·go_simp
    have hLo:=hHeld.2.2.1.size
    refine (cD.out _ (by assumption)).mono ?_
    rintro e wa ⟨⟨g,cap,rfl,hdc⟩,hB⟩
    have HD:=hid hdc
    have HLo:=hid hLo
    clear hLo
    have HZ:Hid (wa.heap.size≤wa.heap.size):=zG _
    have O3:=hid N3.out.l
    have O4:=hid N4.out.l
    have N3:=hid (N3.out.below hB)
    have N4:=hid (N4.out.below hB)
    have hS:=LaS.keep hHeld hB
    clear hB
    (try go_wp2_with fail)
    refine hK.out _ _ hS (fun hHeld=>?_)
    clear hK K
    try simp only [zP]
    refine zzK 3 (fun K hK=>?_)
    ·go_simp
     refine (cS.out _).mono ?_
     rintro e wb ⟨rfl,hB⟩
     have HD:=hid (HD.out.below (by have:=HZ.out; omega) hB)
     have HZ:Hid (wa.heap.size≤wb.heap.size):=zI HZ.out hB.size
     have N3:=hid (N3.out.below hB)
     have N4:=hid (N4.out.below hB)
     have hS:=LaS.keep hHeld hB
     clear hB
     (try go_wp2_with fail)
     refine hK.out _ _ hS (fun hHeld=>?_)
     clear hK K
     try simp only [zP]
     obtain ⟨b3,hb3⟩:∃b,(w.alloc (.cells (yac c).toArray 34)).drew.heap.size=b:=⟨_,rfl⟩
     obtain ⟨b4,hb4⟩:∃b,((w.alloc (.cells (yac c).toArray 34)).drew.alloc (.cells #[.nilFunc] 136)).heap.size=b:=⟨_,rfl⟩
     rw [hb3] at N3
     rw [hb4] at N4
     have hne:¬b4=b3:=by have:=O34.out; omega
     have p3:=O3.out
     have p4:=O4.out
     rw [hb3] at p3
     rw [hb4] at p4
     have o3:=O3.out
     have o4:=O4.out
     (try simp only [zzN,World.size_drew] at hb3 hb4 o3 o4)
     (try rw [hb4])
     (try rw [hb3])
     obtain ⟨X,hX⟩:∃X,wb=X:=⟨_,rfl⟩
     rw [hX] at N3 N4 HD HZ hHeld⊢
     obtain ⟨g0,g1,-,g3⟩:=N3.out
     obtain ⟨⟨j0,j1⟩,⟨j2,j3⟩,-,j5⟩:=N4.out
     have hS0:=hHeld
     refine zzK 6 (fun K hK=>?_)
     go_simp
     (try go_wp2_with fail)
     refine hK.out _ _ (LaS.set hHeld g3) (fun hHeld=>?_)
     clear hK K
     try simp only [zP]
     have e0:(X.setCell ⟨b3,0,none⟩ (.func (.func g) #[] cap)).cell? ⟨b4,0,none⟩=some (.int .i64 0):=by rw [zzL _ _ _ _ (by intro e; injection e with e _ _; exact hne e.symm)]; exact j0
     have e1:(X.setCell ⟨b3,0,none⟩ (.func (.func g) #[] cap)).cell? ⟨b4,1,none⟩=some (.int .i64 0):=by rw [zzL _ _ _ _ (by intro e; injection e with e _ _; exact hne e.symm)]; exact j1
     have e2:(X.setCell ⟨b3,0,none⟩ (.func (.func g) #[] cap)).frozen? ⟨b4,0,none⟩=false:=by rw [yae]; exact j2
     have e3:(X.setCell ⟨b3,0,none⟩ (.func (.func g) #[] cap)).frozen? ⟨b4,1,none⟩=false:=by rw [yae]; exact j3
     refine zzK 7 (fun K hK=>?_)
     go_simp
     (try go_wp2_with fail)
     refine hK.out _ _ (LaS.set (LaS.set hHeld j5) j5) (fun hHeld=>?_)
     clear hK K
     try simp only [zP]
     refine wpAnyH_done (by kernel_rfl) ?_ _
     have HH:=hid (ycy hne g0 j0 j1 N3.out.l N4.out.l g3 j5 hS0 HD.out HZ.out HLo.out (.inl p3) (.inl p4))
     go_wp2_with fail
     refine (cY.out _).mono ?_
     rintro e w5 ⟨rfl,hB⟩
     have H5:=hid (HH.out.below hB)
     clear hB HH HD HZ HLo N3 N4 O3 O4 O34 e0 e1 e2 e3 hHeld hS0 g0 g1 j0 j1 j2 j3 hX hb3 hb4 o3 o4 p3 p4
     go_wp2
     go_ret
     exact ⟨⟨_,rfl,(H5.out.fin _ _).1⟩,(H5.out.fin _ _).2⟩
 ·go_simp
  have hB:=yaa (o:= .cells #[.int .i64 0, .int .i64 0] 84) (Below.refl (w.alloc (.cells (yac c).toArray 34)).drew.heap.size (w.alloc (.cells (yac c).toArray 34)).drew) (zG _)
  have N4:=hid (ydN (w:=w) (W:=(w.alloc (.cells (yac c).toArray 34)).drew) (.int .i64 0) (.int .i64 0) 84 hHeld.2.2.2)
  have hS:=LaS.keep hHeld hB
  clear hB
  (try go_wp2_with fail)
  refine hK.out _ _ hS (fun hHeld=>?_)
  clear hK K
  try simp only [zP]
  refine wpAnyH_ready (rs:= [1,4]) (by kernel_rfl) (by simp) ?_
  refine AllReadyH.cons rfl (fun K hK=>?_) (AllReadyH.cons rfl (fun K hK=>?_) AllReadyH.nil)
  ·go_simp
   have hLo:=hHeld.2.2.1.size
   refine (cD.out _ (by assumption)).mono ?_
   rintro e wa ⟨⟨g,cap,rfl,hdc⟩,hB⟩
   have HD:=hid hdc
   have HLo:=hid hLo
   clear hLo
   have HZ:Hid (wa.heap.size≤wa.heap.size):=zG _
   have O4:=hid N4.out.l
   have N4:=hid (N4.out.below hB)
   have hS:=LaS.keep hHeld hB
   clear hB
   (try go_wp2_with fail)
   refine hK.out _ _ hS (fun hHeld=>?_)
   clear hK K
   try simp only [zP]
   refine wpAnyH_ready (rs:= [3,4]) (by kernel_rfl) (by simp) ?_
   refine AllReadyH.cons rfl (fun K hK=>?_) (AllReadyH.cons rfl (fun K hK=>?_) AllReadyH.nil)
   ·go_simp
    refine (cS.out _).mono ?_
    rintro e wb ⟨rfl,hB⟩
    have HD:=hid (HD.out.below (by have:=HZ.out; omega) hB)
    have HZ:Hid (wa.heap.size≤wb.heap.size):=zI HZ.out hB.size
    have N4:=hid (N4.out.below hB)
    have hS:=LaS.keep hHeld hB
    clear hB
    (try go_wp2_with fail)
    refine hK.out _ _ hS (fun hHeld=>?_)
    clear hK K
    try simp only [zP]
    refine zzK 4 (fun K hK=>?_)
    ·go_simp
     have hB:=yaa (o:= .cells #[.nilFunc] 136) (Below.refl wb.heap.size wb) (zG _)
     have N3:=hid (ydO (w:=w) (W:=wb) .nilFunc 136 hHeld.2.2.2)
     have O34:=hid N4.out.l
     have HD:=hid (HD.out.below (by have:=HZ.out; omega) hB)
     have O3:Hid (wa.heap.size≤wb.heap.size):=HZ.out
     have HZ:Hid (wa.heap.size≤(wb.alloc (.cells #[.nilFunc] 136)).heap.size):=zI HZ.out hB.size
     have N4:=hid (N4.out.below hB)
     have hS:=LaS.keep hHeld hB
     clear hB
     (try go_wp2_with fail)
     refine hK.out _ _ hS (fun hHeld=>?_)
     clear hK K
     try simp only [zP]
     obtain ⟨b3,hb3⟩:∃b,wb.heap.size=b:=⟨_,rfl⟩
     obtain ⟨b4,hb4⟩:∃b,(w.alloc (.cells (yac c).toArray 34)).drew.heap.size=b:=⟨_,rfl⟩
     rw [hb3] at N3
     rw [hb4] at N4
     have hne:¬b4=b3:=by have:=O34.out; omega
     have p3:=O3.out
     have p4:=O4.out
     rw [hb3] at p3
     rw [hb4] at p4
     have o3:=O3.out
     have o4:=O4.out
     (try simp only [zzN,World.size_drew] at hb3 hb4 o3 o4)
     (try rw [hb3])
     (try rw [hb4])
     obtain ⟨X,hX⟩:∃X,(wb.alloc (.cells #[.nilFunc] 136))=X:=⟨_,rfl⟩
     rw [hX] at N3 N4 HD HZ hHeld⊢
     obtain ⟨g0,g1,-,g3⟩:=N3.out
     obtain ⟨⟨j0,j1⟩,⟨j2,j3⟩,-,j5⟩:=N4.out
     have hS0:=hHeld
     refine zzK 6 (fun K hK=>?_)
     go_simp
     (try go_wp2_with fail)
     refine hK.out _ _ (LaS.set hHeld g3) (fun hHeld=>?_)
     clear hK K
     try simp only [zP]
     have e0:(X.setCell ⟨b3,0,none⟩ (.func (.func g) #[] cap)).cell? ⟨b4,0,none⟩=some (.int .i64 0):=by rw [zzL _ _ _ _ (by intro e; injection e with e _ _; exact hne e.symm)]; exact j0
     have e1:(X.setCell ⟨b3,0,none⟩ (.func (.func g) #[] cap)).cell? ⟨b4,1,none⟩=some (.int .i64 0):=by rw [zzL _ _ _ _ (by intro e; injection e with e _ _; exact hne e.symm)]; exact j1
     have e2:(X.setCell ⟨b3,0,none⟩ (.func (.func g) #[] cap)).frozen? ⟨b4,0,none⟩=false:=by rw [yae]; exact j2
     have e3:(X.setCell ⟨b3,0,none⟩ (.func (.func g) #[] cap)).frozen? ⟨b4,1,none⟩=false:=by rw [yae]; exact j3
     refine zzK 7 (fun K hK=>?_)
     go_simp
     (try go_wp2_with fail)
     refine hK.out _ _ (LaS.set (LaS.set hHeld j5) j5) (fun hHeld=>?_)
     clear hK K
     try simp only [zP]
     refine wpAnyH_done (by kernel_rfl) ?_ _
     have HH:=hid (ycy hne g0 j0 j1 N3.out.l N4.out.l g3 j5 hS0 HD.out HZ.out HLo.out (by omega) (.inl p4))
     go_wp2_with fail
     refine (cY.out _).mono ?_
     rintro e w5 ⟨rfl,hB⟩
     have H5:=hid (HH.out.below hB)
     clear hB HH HD HZ HLo N3 N4 O3 O4 O34 e0 e1 e2 e3 hHeld hS0 g0 g1 j0 j1 j2 j3 hX hb3 hb4 o3 o4 p3 p4
     go_wp2
     go_ret
     exact ⟨⟨_,rfl,(H5.out.fin _ _).1⟩,(H5.out.fin _ _).2⟩
   ·go_simp
    have hB:=yaa (o:= .cells #[.nilFunc] 136) (Below.refl wa.heap.size wa) (zG _)
    have N3:=hid (ydO (w:=w) (W:=wa) .nilFunc 136 hHeld.2.2.2)
    have O34:=hid N4.out.l
    have HD:=hid (HD.out.below (by have:=HZ.out; omega) hB)
    have O3:Hid (wa.heap.size≤wa.heap.size):=HZ.out
    have HZ:Hid (wa.heap.size≤(wa.alloc (.cells #[.nilFunc] 136)).heap.size):=zI HZ.out hB.size
    have N4:=hid (N4.out.below hB)
    have hS:=LaS.keep hHeld hB
    clear hB
    (try go_wp2_with fail)
    refine hK.out _ _ hS (fun hHeld=>?_)
    clear hK K
    try simp only [zP]
    refine zzK 3 (fun K hK=>?_)
    ·go_simp
     refine (cS.out _).mono ?_
     rintro e wb ⟨rfl,hB⟩
     have HD:=hid (HD.out.below (by have:=HZ.out; omega) hB)
     have HZ:Hid (wa.heap.size≤wb.heap.size):=zI HZ.out hB.size
     have N3:=hid (N3.out.below hB)
     have N4:=hid (N4.out.below hB)
     have hS:=LaS.keep hHeld hB
     clear hB
     (try go_wp2_with fail)
     refine hK.out _ _ hS (fun hHeld=>?_)
     clear hK K
     try simp only [zP]
     obtain ⟨b3,hb3⟩:∃b,wa.heap.size=b:=⟨_,rfl⟩
     obtain ⟨b4,hb4⟩:∃b,(w.alloc (.cells (yac c).toArray 34)).drew.heap.size=b:=⟨_,rfl⟩
     rw [hb3] at N3
     rw [hb4] at N4
     have hne:¬b4=b3:=by have:=O34.out; omega
     have p3:=O3.out
     have p4:=O4.out
     rw [hb3] at p3
     rw [hb4] at p4
     have o3:=O3.out
     have o4:=O4.out
     (try simp only [zzN,World.size_drew] at hb3 hb4 o3 o4)
     (try rw [hb3])
     (try rw [hb4])
     obtain ⟨X,hX⟩:∃X,wb=X:=⟨_,rfl⟩
     rw [hX] at N3 N4 HD HZ hHeld⊢
     obtain ⟨g0,g1,-,g3⟩:=N3.out
     obtain ⟨⟨j0,j1⟩,⟨j2,j3⟩,-,j5⟩:=N4.out
     have hS0:=hHeld
     refine zzK 6 (fun K hK=>?_)
     go_simp
     (try go_wp2_with fail)
     refine hK.out _ _ (LaS.set hHeld g3) (fun hHeld=>?_)
     clear hK K
     try simp only [zP]
     have e0:(X.setCell ⟨b3,0,none⟩ (.func (.func g) #[] cap)).cell? ⟨b4,0,none⟩=some (.int .i64 0):=by rw [zzL _ _ _ _ (by intro e; injection e with e _ _; exact hne e.symm)]; exact j0
     have e1:(X.setCell ⟨b3,0,none⟩ (.func (.func g) #[] cap)).cell? ⟨b4,1,none⟩=some (.int .i64 0):=by rw [zzL _ _ _ _ (by intro e; injection e with e _ _; exact hne e.symm)]; exact j1
     have e2:(X.setCell ⟨b3,0,none⟩ (.func (.func g) #[] cap)).frozen? ⟨b4,0,none⟩=false:=by rw [yae]; exact j2
     have e3:(X.setCell ⟨b3,0,none⟩ (.func (.func g) #[] cap)).frozen? ⟨b4,1,none⟩=false:=by rw [yae]; exact j3
     refine zzK 7 (fun K hK=>?_)
     go_simp
     (try go_wp2_with fail)
     refine hK.out _ _ (LaS.set (LaS.set hHeld j5) j5) (fun hHeld=>?_)
     clear hK K
     try simp only [zP]
     refine wpAnyH_done (by kernel_rfl) ?_ _
     have HH:=hid (ycy hne g0 j0 j1 N3.out.l N4.out.l g3 j5 hS0 HD.out HZ.out HLo.out (by omega) (.inl p4))
     go_wp2_with fail
     refine (cY.out _).mono ?_
     rintro e w5 ⟨rfl,hB⟩
     have H5:=hid (HH.out.below hB)
     clear hB HH HD HZ HLo N3 N4 O3 O4 O34 e0 e1 e2 e3 hHeld hS0 g0 g1 j0 j1 j2 j3 hX hb3 hb4 o3 o4 p3 p4
     go_wp2
     go_ret
     exact ⟨⟨_,rfl,(H5.out.fin _ _).1⟩,(H5.out.fin _ _).2⟩
  ·go_simp
   have hB:=yaa (o:= .cells #[.nilFunc] 136) (Below.refl ((w.alloc (.cells (yac c).toArray 34)).drew.alloc (.cells #[.int .i64 0, .int .i64 0] 84)).heap.size ((w.alloc (.cells (yac c).toArray 34)).drew.alloc (.cells #[.int .i64 0, .int .i64 0] 84))) (zG _)
   have N3:=hid (ydO (w:=w) (W:=((w.alloc (.cells (yac c).toArray 34)).drew.alloc (.cells #[.int .i64 0, .int .i64 0] 84))) .nilFunc 136 hHeld.2.2.2)
   have O34:=hid N4.out.l
   have N4:=hid (N4.out.below hB)
   have hS:=LaS.keep hHeld hB
   clear hB
   (try go_wp2_with fail)
   refine hK.out _ _ hS (fun hHeld=>?_)
   clear hK K
   try simp only [zP]
   refine zzK 1 (fun K hK=>?_)
   ·go_simp
    have hLo:=hHeld.2.2.1.size
    refine (cD.out _ (by assumption)).mono ?_
    rintro e wa ⟨⟨g,cap,rfl,hdc⟩,hB⟩
    have HD:=hid hdc
    have HLo:=hid hLo
    clear hLo
    have HZ:Hid (wa.heap.size≤wa.heap.size):=zG _
    have O3:=hid N3.out.l
    have O4:=hid N4.out.l
    have N3:=hid (N3.out.below hB)
    have N4:=hid (N4.out.below hB)
    have hS:=LaS.keep hHeld hB
    clear hB
    (try go_wp2_with fail)
    refine hK.out _ _ hS (fun hHeld=>?_)
    clear hK K
    try simp only [zP]
    refine zzK 3 (fun K hK=>?_)
    ·go_simp
     refine (cS.out _).mono ?_
     rintro e wb ⟨rfl,hB⟩
     have HD:=hid (HD.out.below (by have:=HZ.out; omega) hB)
     have HZ:Hid (wa.heap.size≤wb.heap.size):=zI HZ.out hB.size
     have N3:=hid (N3.out.below hB)
     have N4:=hid (N4.out.below hB)
     have hS:=LaS.keep hHeld hB
     clear hB
     (try go_wp2_with fail)
     refine hK.out _ _ hS (fun hHeld=>?_)
     clear hK K
     try simp only [zP]
     obtain ⟨b3,hb3⟩:∃b,((w.alloc (.cells (yac c).toArray 34)).drew.alloc (.cells #[.int .i64 0, .int .i64 0] 84)).heap.size=b:=⟨_,rfl⟩
     obtain ⟨b4,hb4⟩:∃b,(w.alloc (.cells (yac c).toArray 34)).drew.heap.size=b:=⟨_,rfl⟩
     rw [hb3] at N3
     rw [hb4] at N4
     have hne:¬b4=b3:=by have:=O34.out; omega
     have p3:=O3.out
     have p4:=O4.out
     rw [hb3] at p3
     rw [hb4] at p4
     have o3:=O3.out
     have o4:=O4.out
     (try simp only [zzN,World.size_drew] at hb3 hb4 o3 o4)
     (try rw [hb3])
     (try rw [hb4])
     obtain ⟨X,hX⟩:∃X,wb=X:=⟨_,rfl⟩
     rw [hX] at N3 N4 HD HZ hHeld⊢
     obtain ⟨g0,g1,-,g3⟩:=N3.out
     obtain ⟨⟨j0,j1⟩,⟨j2,j3⟩,-,j5⟩:=N4.out
     have hS0:=hHeld
     refine zzK 6 (fun K hK=>?_)
     go_simp
     (try go_wp2_with fail)
     refine hK.out _ _ (LaS.set hHeld g3) (fun hHeld=>?_)
     clear hK K
     try simp only [zP]
     have e0:(X.setCell ⟨b3,0,none⟩ (.func (.func g) #[] cap)).cell? ⟨b4,0,none⟩=some (.int .i64 0):=by rw [zzL _ _ _ _ (by intro e; injection e with e _ _; exact hne e.symm)]; exact j0
     have e1:(X.setCell ⟨b3,0,none⟩ (.func (.func g) #[] cap)).cell? ⟨b4,1,none⟩=some (.int .i64 0):=by rw [zzL _ _ _ _ (by intro e; injection e with e _ _; exact hne e.symm)]; exact j1
     have e2:(X.setCell ⟨b3,0,none⟩ (.func (.func g) #[] cap)).frozen? ⟨b4,0,none⟩=false:=by rw [yae]; exact j2
     have e3:(X.setCell ⟨b3,0,none⟩ (.func (.func g) #[] cap)).frozen? ⟨b4,1,none⟩=false:=by rw [yae]; exact j3
     refine zzK 7 (fun K hK=>?_)
     go_simp
     (try go_wp2_with fail)
     refine hK.out _ _ (LaS.set (LaS.set hHeld j5) j5) (fun hHeld=>?_)
     clear hK K
     try simp only [zP]
     refine wpAnyH_done (by kernel_rfl) ?_ _
     have HH:=hid (ycy hne g0 j0 j1 N3.out.l N4.out.l g3 j5 hS0 HD.out HZ.out HLo.out (.inl p3) (.inl p4))
     go_wp2_with fail
     refine (cY.out _).mono ?_
     rintro e w5 ⟨rfl,hB⟩
     have H5:=hid (HH.out.below hB)
     clear hB HH HD HZ HLo N3 N4 O3 O4 O34 e0 e1 e2 e3 hHeld hS0 g0 g1 j0 j1 j2 j3 hX hb3 hb4 o3 o4 p3 p4
     go_wp2
     go_ret
     exact ⟨⟨_,rfl,(H5.out.fin _ _).1⟩,(H5.out.fin _ _).2⟩
end Go.Proofs.YtjahgimnfliooaaGreatDoor
