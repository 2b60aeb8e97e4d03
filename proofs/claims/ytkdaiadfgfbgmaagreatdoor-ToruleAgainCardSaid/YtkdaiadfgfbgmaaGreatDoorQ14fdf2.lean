/- cast.times -/
import Derived.Test.YtkdaiadfgfbgmaaGreatDoorQ83eb4a
import Derived.Shelf.Strconv.Itoa0
set_option maxRecDepth 100000
set_option maxHeartbeats 25600000
set_option linter.unusedSimpArgs false
open Option renaming none -> N, some -> G
open Go.Value renaming int -> E, pointer -> R, slice -> Xs, bool -> Xb, func -> Xf, tuple -> Xt
open Go.IntKind renaming i64 -> T, u64 -> Y
open Go.Addr renaming mk -> Z
open Go renaming Calls -> H
open Go.Proofs.Tryz renaming prog -> I
open Go.Obj renaming cells -> J
open Go.Ending renaming returned -> Q
namespace Go.Proofs.YtkdaiadfgfbgmaaGreatDoor
open Go.RowKit Go.Maps
set_option linter.unusedVariables false
section
attribute [local go_sem] Yw
variable {b x y z:Nat} {O:Nat->Prop} {W:World}
structure ydO (b:Nat) (x y z:Nat) (O:Nat->Prop) (W:World):Prop where
 c0:W.cell? (Z b 0 N)=G (E Y x)
 c1:W.cell? (Z (b+1) 0 N)=G (E Y y)
 c2:W.cell? ⟨b+1+1,0,N⟩=G (E Y z)
 f0:W.frozen? (Z b 0 N)=false
 f1:W.frozen? (Z (b+1) 0 N)=false
 f2:W.frozen? ⟨b+1+1,0,N⟩=false
 o0:O b
 o1:O (b+1)
 o2:O (b+1+1)
 lt:∀c,O c->c<W.heap.size
theorem ydO.keep {W':World} (h:ydO b x y z O W) (hs:W.heap.size<=W'.heap.size) (hb:∀c,O c->W'.heap[c]? =W.heap[c]?):ydO b x y z O W':=
 ⟨(zzJ (w:=W) (a:=Z b 0 N) (hb _ h.o0)).trans h.c0,(zzJ (w:=W) (a:=Z (b+1) 0 N) (hb _ h.o1)).trans h.c1,(zzJ (w:=W) (a:=⟨b+1+1,0,N⟩) (hb _ h.o2)).trans h.c2,
  (zzM (w:=W) (a:=Z b 0 N) (hb _ h.o0)).trans h.f0,(zzM (w:=W) (a:=Z (b+1) 0 N) (hb _ h.o1)).trans h.f1,(zzM (w:=W) (a:=⟨b+1+1,0,N⟩) (hb _ h.o2)).trans h.f2,h.o0,h.o1,h.o2,λ c hc=>zH (h.lt c hc) hs⟩
theorem ydO.set {x' y' z':Nat} (h:ydO b x y z O W):ydO b x' y' z' O (((W.setCell (Z b 0 N) (E Y x')).setCell (Z (b+1) 0 N) (E Y y')).setCell ⟨b+1+1,0,N⟩ (E Y z')):=by
 obtain ⟨h1,h2,h3,h4,h5,h6,h7,h8,h9,ae⟩:=h;refine ⟨?_,?_,?_,?_,?_,?_,h7,h8,h9,λ c hc=>by simpa using ae c hc⟩ <;> simp [go_sem,h1,h2,h3,h4,h5,h6]
theorem ydO.set0 (x':Nat) (h:ydO b x y z O W):ydO b x' y z O (W.setCell (Z b 0 N) (E Y x')):=by
 obtain ⟨h1,h2,h3,h4,h5,h6,h7,h8,h9,ae⟩:=h;refine ⟨?_,?_,?_,?_,?_,?_,h7,h8,h9,λ c hc=>by simpa using ae c hc⟩ <;> simp [go_sem,h1,h2,h3,h4,h5,h6]
theorem ydO.set1 (x':Nat) (h:ydO b x y z O W):ydO b x x' z O (W.setCell (Z (b+1) 0 N) (E Y x')):=by
 obtain ⟨h1,h2,h3,h4,h5,h6,h7,h8,h9,ae⟩:=h;refine ⟨?_,?_,?_,?_,?_,?_,h7,h8,h9,λ c hc=>by simpa using ae c hc⟩ <;> simp [go_sem,h1,h2,h3,h4,h5,h6]
theorem ydO.set2 (x':Nat) (h:ydO b x y z O W):ydO b x y x' O (W.setCell ⟨b+1+1,0,N⟩ (E Y x')):=by
 obtain ⟨h1,h2,h3,h4,h5,h6,h7,h8,h9,ae⟩:=h;refine ⟨?_,?_,?_,?_,?_,?_,h7,h8,h9,λ c hc=>by simpa using ae c hc⟩ <;> simp [go_sem,h1,h2,h3,h4,h5,h6]
theorem ydO.drew (h:ydO b x y z O W):ydO b x y z O W.drew:=h.keep zg (λ _ _=>rfl)
def TmI (b:Nat) (X:List Int):ycQ:=λ k O W=>ydO b (ofM (hrL (X.take k))) (ofM (mnL (X.take k))) (ofM (scL (X.take k))) O W
theorem ymE (b:Nat) (X:List Int):ybI (TmI b X):=λ k O W W' h hs hO=>h.keep hs hO
theorem yir (d:Nat) (q:Nat->Bool) (w:World) (hT:Tab w) (h:DiscAt w d q) :
  H I 79 #[R (G (Z d 0 N))] w λ e w'=>e=Q (Xt #[E Y (ofM (hrL (yak q))),E Y (ofM (mnL (yak q))),E Y (ofM (scL (yak q)))])/\Bw w w':=by
 obtain ⟨W1,al⟩:=zx (((w.alloc (J #[E Y 0] 39)).alloc (J #[E Y 0] 39)).alloc (J #[E Y 0] 39));have au:Bw w W1:=by rw [<- al];exact yaa (yaa (yaa (Ye _ _) zg) zs) (by simp only [zzN];omega)
 have s1:W1.heap.size=w.heap.size+3:=by rw [<- al];simp
 have aD:ydO w.heap.size 0 0 0 (λ b=>b=w.heap.size\/ b=w.heap.size+1\/ b=w.heap.size+1+1) W1:=by
  refine ⟨?_,?_,?_,?_,?_,?_, .inl rfl, .inr (.inl rfl), .inr (.inr rfl),λ c hc=>by omega⟩ <;> (rw [<- al];simp [go_sem])
 have cA:=hid (yip (G d) q W1 (h.below au h.lt));have HT:=hid hT;have aI:=hid au;have aN:=hid al;have S1:=hid s1;have aG:=hid aD;have ar:=ygb q;have ak:Hid (∀x∈yak q,0<=x/\x<86400):=ygf q;generalize hX:yak q=X at ar ak cA⊢
 clear al au s1 aD hT h hX;refine (wf_calls (r:=N) (n:=1)).mp ?_;refine callsIn_of_wp_marks Tryz.func79 rfl trivial ?_ rfl;simp only [Tryz.ntmps79,Yp,Yu,YS,Nat.reduceAdd,Nat.reduceSub,YE,YD,YQ,YJ,Y0,YH];gi_wp2_with fail
 rw [aN];refine (wf_calls.mpr cA).mono ?_;rintro e w2 ⟨rfl,ht,am,aB⟩;obtain ⟨t,t1,t2,t3⟩:=ht.out;have ab:Bw w w2:=zu aI am;have aC:ydO w.heap.size 0 0 0 (λ b=>b=w.heap.size\/ b=w.heap.size+1\/ b=w.heap.size+1+1) w2:=aG.keep am.size (λ c hc=>am.block c (aG.lt c hc));have tl:yfV I 186 #[R (G (Z W1.heap.size 0 N))] X (λ b=>b=w.heap.size\/ b=w.heap.size+1\/ b=w.heap.size+1+1) w2:=by
  intro y Jq Jx O W hO hB hC hJ;rw [<- t3] at hC⊢;have aK:¬O W1.heap.size:=λ h=>by
   rcases hO _ h with h | h
   ·have:=S1.out;omega
   ·omega
  exact yfW t W1.heap.size y Jq Jx O W t2 hC hJ (zH aB hB.size) aK (t1.below hB aB) (HT.later (zu ab hB)) (λ h=>by
   have h0:=HT.1;rcases hO _ h with h | h
   ·omega
   ·have:=ab.size;omega)
 have TL:=hid tl;have af:=hid ab;have aP:=hid aC;have S2:Hid (w.heap.size+3<=w2.heap.size):=by have:=am.size;have:=S1.out;show _<=_;omega
 clear tl ab aC ht t1 t3 am cA;gi_wp2_with fail
 refine ybj (gf:=186) (lb:=#[R (G (Z W1.heap.size 0 N))]) rfl yg7 X (λ b=>b=w.heap.size\/ b=w.heap.size+1\/ b=w.heap.size+1+1) rfl TL
  (TmI w.heap.size X) (λ _ _ _ _=>False) (ymE _ _) (λ _ _ _ _ _ h _ _=>h.elim) (λ k O W h=>h.lt) (λ _ _ _ _ h=>h.elim) aP
  (λ k O a' W=>TmI w.heap.size X k O W/\∀hk:k<X.length,a' = {tmps:=#[R (G (Z d 0 N)),undef,R (G (Z w.heap.size 0 N)),R (G (Z (w.heap.size+1) 0 N)),R (G ⟨w.heap.size+1+1,0,N⟩),E T X[k],undef,undef,undef,undef,R (G (Z d 0 N)),Xf (.func 186) #[] #[R (G (Z W1.heap.size 0 N))],E T X[k],undef,undef,undef,undef,undef,undef,undef,undef,undef,undef,undef,undef,undef,undef,undef,undef,undef,undef,undef,undef,undef,undef],defers:= []})
  (λ l o k O a' W hr hn h=>⟨ybJ (ymE _ _) h.1 hn o,h.2⟩) ?assign ?body ?done ?stop
 case assign=>
  intro l k O W K hk hI hG hK;gi_wp2
  exact hK _ O W (yaM.refl _ _) ⟨hI,λ _=>rfl⟩
 case stop=>
  rintro c k O' W' h1 h2 hG h;exact h.elim
 case body=>
  rintro l k O a' W hk hG hl ai az ⟨hI,ha⟩;rw [ha hk];have hx:=ak _ (zzr hk);have ah:=yvX hk hx.1 hx.2;generalize aJ:X[k]=x at hx ah⊢
  obtain ⟨x0,x1⟩:=hx;have cP:=hid (yhg x W x0 x1);obtain ⟨h,hh⟩:∃n:Nat,x/3600=n:=⟨(x/3600).toNat,by omega⟩;obtain ⟨m,hm⟩:∃n:Nat,x/60%60=n:=⟨(x/60%60).toNat,by omega⟩;obtain ⟨z,hz⟩:∃n:Nat,x%60=n:=⟨(x%60).toNat,by omega⟩;rw [hh,hm,hz] at cP;rw [hh,hm,hz,YL,YL,YL] at ah;have aE:h<64:=zo;have ay:m<64:=zo;have z64:z<64:=zo;have aq:Hid (ofM (hrL (X.take k))<18446744073709551616/\ofM (mnL (X.take k))<18446744073709551616/\ofM (scL (X.take k))<18446744073709551616):=⟨yaG _,yaG _,yaG _⟩;change ydO w.heap.size (ofM (hrL (X.take k))) (ofM (mnL (X.take k))) (ofM (scL (X.take k))) O W at hI
  obtain ⟨A,hA⟩:=zx (ofM (hrL (X.take k)));obtain ⟨B,hB⟩:=zx (ofM (mnL (X.take k)));obtain ⟨C,hC⟩:=zx (ofM (scL (X.take k)));rw [hA,hB,hC] at ah hI aq;have HI:=hid hI;have EI:Hid (Eff O W W):=Eff.refl _ _;have HS:=hid ah;have aL:=hid ai;have aU:=hid az;clear aJ ha hA hB hC hI ah hG ai az hl hk hh hm hz x0 x1;gi_wp2_with fail
  refine (wf_calls.mpr cP).mono ?_;rintro e w4 ⟨rfl,rfl⟩;clear cP;have c0:=HI.drew.c0;have z0:=HI.drew.f0;have aj:bits .or Y (A:Int) ((2:Int) ^ h)= ((A|||2 ^ h:Nat):Int):=by have h:=ybD (a:=A) aq.1 (ycD aE);rw [Int.natCast_pow] at h;exact h
  have ag:=yb9 aE;have an:¬(h:Int)<0:=zo;have ac:(h:Int)<64:=zo;have HN:=hid (HI.drew.set0 (A|||2 ^ h));have HE:Hid (Eff O W (W.drew.setCell (Z w.heap.size 0 N) (E Y ((A|||2 ^ h:Nat):Int)))):=EI.drew.set HN.o0 _ _;gi_upto_region 4 with fail
  refine yte [4] (S:=λ W=>W.cell? (Z w.heap.size 0 N)=G (E Y (A:Nat))) zk zk (by rintro ⟨_,_,h⟩;exact h) c0 (λ aa=>?_);refine zfA 0 ?_;refine zfE 1 ?_;refine zfE 2 ?_;refine zfE 3 ?_;refine rgO 4 (λ K hK=>?_);rw [Yd (by rfl)];go_simp;refine hK _ _ (λ h=>absurd h zd) ?_;clear hK;refine OrdF.done zk ?_ _;obtain ⟨W5,hW⟩:=zx ((W.setCell (Z w.heap.size 0 N) (E Y ((A|||2 ^ h:Nat):Int))).drew);have aw:Hid (ydO w.heap.size (A|||2 ^ h) B C O W5):=by show ydO _ _ _ _ _ _;rw [<- hW];exact HN
  have aT:Hid (Eff O W W5):=by show Eff _ _ _;rw [<- hW];exact HE
  (try rw [hW]);clear c0 z0 aj ag an ac HN HE aa hW;have c0:=aw.drew.c1;have z0:=aw.drew.f1;have aj:bits .or Y (B:Int) ((2:Int) ^ m)= ((B|||2 ^ m:Nat):Int):=by have h:=ybD (a:=B) aq.2.1 (ycD ay);rw [Int.natCast_pow] at h;exact h
  have ag:=yb9 ay;have an:¬(m:Int)<0:=zo;have ac:(m:Int)<64:=zo;have HN:=hid (aw.drew.set1 (B|||2 ^ m));have HE:Hid (Eff O W (W5.drew.setCell (Z (w.heap.size+1) 0 N) (E Y ((B|||2 ^ m:Nat):Int)))):=aT.drew.set HN.o1 _ _;gi_upto_region 5 with fail
  refine yte [4] (S:=λ W=>W.cell? (Z (w.heap.size+1) 0 N)=G (E Y (B:Nat))) zk zk (by rintro ⟨_,_,h⟩;exact h) c0 (λ aa=>?_);refine zfA 0 ?_;refine zfE 1 ?_;refine zfE 2 ?_;refine zfE 3 ?_;refine rgO 4 (λ K hK=>?_);rw [Yd (by rfl)];go_simp;refine hK _ _ (λ h=>absurd h zd) ?_;clear hK;refine OrdF.done zk ?_ _;obtain ⟨W6,hW⟩:=zx ((W5.setCell (Z (w.heap.size+1) 0 N) (E Y ((B|||2 ^ m:Nat):Int))).drew);have av:Hid (ydO w.heap.size (A|||2 ^ h) (B|||2 ^ m) C O W6):=by show ydO _ _ _ _ _ _;rw [<- hW];exact HN
  have aS:Hid (Eff O W W6):=by show Eff _ _ _;rw [<- hW];exact HE
  (try rw [hW]);clear c0 z0 aj ag an ac HN HE aa hW;have c0:=av.drew.c2;have z0:=av.drew.f2;have aj:bits .or Y (C:Int) ((2:Int) ^ z)= ((C|||2 ^ z:Nat):Int):=by have h:=ybD (a:=C) aq.2.2 (ycD z64);rw [Int.natCast_pow] at h;exact h
  have ag:=yb9 z64;have an:¬(z:Int)<0:=zo;have ac:(z:Int)<64:=zo;have HN:=hid (av.drew.set2 (C|||2 ^ z));have HE:Hid (Eff O W (W6.drew.setCell ⟨w.heap.size+1+1,0,N⟩ (E Y ((C|||2 ^ z:Nat):Int)))):=aS.drew.set HN.o2 _ _;gi_upto_region 6 with fail
  refine yte [4] (S:=λ W=>W.cell? ⟨w.heap.size+1+1,0,N⟩=G (E Y (C:Nat))) zk zk (by rintro ⟨_,_,h⟩;exact h) c0 (λ aa=>?_);refine zfA 0 ?_;refine zfE 1 ?_;refine zfE 2 ?_;refine zfE 3 ?_;refine rgO 4 (λ K hK=>?_);rw [Yd (by rfl)];go_simp;refine hK _ _ (λ h=>absurd h zd) ?_;clear hK;refine OrdF.done zk ?_ _;obtain ⟨W7,hW⟩:=zx ((W6.setCell ⟨w.heap.size+1+1,0,N⟩ (E Y ((C|||2 ^ z:Nat):Int))).drew);have aM:Hid (ydO w.heap.size (A|||2 ^ h) (B|||2 ^ m) (C|||2 ^ z) O W7):=by show ydO _ _ _ _ _ _;rw [<- hW];exact HN
  have aR:Hid (Eff O W W7):=by show Eff _ _ _;rw [<- hW];exact HE
  (try rw [hW]);clear c0 z0 aj ag an ac HN HE aa hW;gi_wp2
  exact ⟨O,⟨λ _ h=>h,λ _ h=> .inl h,aR⟩,by rw [TmI,HS.1,HS.2.1,HS.2.2];exact aM⟩
 case done=>
  rintro O' W' hG hI hD aA;rw [TmI,YW] at hI;obtain ⟨A,hA⟩:=zx (ofM (hrL X));obtain ⟨B,hB⟩:=zx (ofM (mnL X));obtain ⟨C,hC⟩:=zx (ofM (scL X));rw [hA,hB,hC] at hI;have HE:Hid (A=ofM (hrL X)/\B=ofM (mnL X)/\C=ofM (scL X)):=⟨hA.symm,hB.symm,hC.symm⟩;have HI:Hid (ydO w.heap.size A B C O' W'.drew/\Eff O' W' W'.drew):=⟨hI.drew,Eff.of_below (Ye _ _).drew⟩;have aH:Hid (Bw w W'):=af.trans (hG.eff.below (λ b hb=>by omega) af.size);have HO:Hid (∀b,O' b->w.heap.size<=b):=λ b hb=>by
   rcases hG.new b hb with h | h
   ·omega
   ·have:=S2.out;omega
  have HD:=hid hD;have aF:=hid aA;clear hA hB hC hI hG hD aA;gi_upto_region 7 with fail
  refine wf_wp.mpr (wp_region_noPanic ?_);refine ysJ [] (S:=λ W=>Hid (ydO w.heap.size A B C O' W/\Eff O' W' W)) zk HI (λ aa=>?_);refine rgT 0 (v:=?_) ?_ ?_;rotate_left
  ·intro w ad;obtain ⟨⟨f0,f1,f2,-⟩,-⟩:=ad.out;clear ad;go_simp;(try with_reducible rfl)
  refine rgT 1 (v:=?_) ?_ ?_;rotate_left
  ·intro w ad;obtain ⟨⟨f0,f1,f2,-⟩,-⟩:=ad.out;clear ad;go_simp;(try with_reducible rfl)
  refine rgT 2 (v:=?_) ?_ ?_;rotate_left
  ·intro w ad;obtain ⟨⟨f0,f1,f2,-⟩,-⟩:=ad.out;clear ad;go_simp;(try with_reducible rfl)
  have c0:=HI.1.c0;have z0:=HI.1.f0;have HN:Hid (ydO w.heap.size A B C O' (W'.drew.setCell (Z w.heap.size 0 N) (E Y (A:Nat)))/\Eff O' W' (W'.drew.setCell (Z w.heap.size 0 N) (E Y (A:Nat)))):=⟨HI.1.set0 A,HI.2.set HI.1.o0 _ _⟩;refine rgO 3 (λ K hK=>?_);rw [Yd (by rfl)];go_simp;refine hK _ _ (λ _=>HN) ?_;clear hK;obtain ⟨V0,hW⟩:=zx ((W'.setCell (Z w.heap.size 0 N) (E Y (A:Nat))).drew);replace HN:Hid (ydO w.heap.size A B C O' V0/\Eff O' W' V0):=by show _/\_;rw [<- hW];exact HN
  (try rw [hW]);have ap:=HN;clear c0 z0 HN hW;have c0:=ap.1.c1;have z0:=ap.1.f1;have HN:Hid (ydO w.heap.size A B C O' (V0.setCell (Z (w.heap.size+1) 0 N) (E Y (B:Nat)))/\Eff O' W' (V0.setCell (Z (w.heap.size+1) 0 N) (E Y (B:Nat)))):=⟨ap.1.set1 B,ap.2.set ap.1.o1 _ _⟩;refine rgO 4 (λ K hK=>?_);rw [Yd (by rfl)];go_simp;refine hK _ _ (λ _=>HN) ?_;clear hK;obtain ⟨V1,hW⟩:=zx (V0.setCell (Z (w.heap.size+1) 0 N) (E Y (B:Nat)));rw [hW] at HN;(try rw [hW]);have ao:=HN;clear c0 z0 HN hW;have c0:=ao.1.c2;have z0:=ao.1.f2;have HN:Hid (ydO w.heap.size A B C O' (V1.setCell ⟨w.heap.size+1+1,0,N⟩ (E Y (C:Nat)))/\Eff O' W' (V1.setCell ⟨w.heap.size+1+1,0,N⟩ (E Y (C:Nat)))):=⟨ao.1.set2 C,ao.2.set ao.1.o2 _ _⟩;refine rgO 5 (λ K hK=>?_);rw [Yd (by rfl)];go_simp;refine hK _ _ (λ _=>HN) ?_;clear hK;obtain ⟨V2,hW⟩:=zx (V1.setCell ⟨w.heap.size+1+1,0,N⟩ (E Y (C:Nat)));rw [hW] at HN;(try rw [hW]);have ax:=HN;clear c0 z0 HN hW;refine OrdF.done zk (NoPanic.normal ?_) _;have aO:Hid (V2.heap[w2.heap.size]? =G (.deferred (G []))):=by
   show _ = _;rw [ax.2.block _ (YZ.1 HD).1 aF];exact HD
  have HX:Hid (ydO w.heap.size A B C O' (V2.putObj w2.heap.size (.deferred N))):=ax.1.keep (by rw [Yg];exact zG _) (λ b hb=>Yc (λ e=>aF (e ▸ hb)));have aQ:Hid (Bw w (V2.putObj w2.heap.size (.deferred N))):=yaF (aH.trans (ax.2.below (λ b hb=>HO b hb) aH.size)) af.size _;clear aa;gi_wp2
  refine ⟨by simp, .inl ⟨_,_,rfl,YM aO,?_⟩⟩;obtain ⟨c0,c1,c2,-⟩:=HX.out;refine ⟨Xt #[E Y A,E Y B,E Y C],?_,by rw [HE.1,HE.2.1,HE.2.2],aQ⟩;simp [results,Tryz.results79,go_sem,c0,c1,c2]
end
section
variable {F F' M:Blk} {bm bx:Nat} {W W':World}
def ywB (v x:Value):Sem Value:=Instr.lookup 217 v x false
theorem yyl (v x:Value):Instr.lookup 217 v x false=ywB v x:=rfl
def lnF (v:Value):Sem Value:=Builtin.len_ #[217] 3 #[v]
theorem yAr (v:Value):Builtin.len_ #[217] 3 #[v]=lnF v:=rfl
def yz8 (v x y:Value):Sem Unit:=Instr.mapUpdate 217 v x y
theorem yzs (v x y:Value):Instr.mapUpdate 217 v x y=yz8 v x y:=rfl
attribute [local go_sem ↓] yyl yAr yzs
def FrG (W:World) (F M:Blk) (P:List Int->Prop) (x v:Value):Prop:=∃d q,x=R (G (Z d 0 N))/\DiF W F M d q/\v=Xb true/\P (yak q)
theorem FrG.keep {P:List Int->Prop} {x v:Value} (h:FrG W F M P x v) (hs:W.heap.size<=W'.heap.size) (hF:∀b,F b->F' b) (hb:∀b,F b/\¬M b->W'.heap[b]? =W.heap[b]?):FrG W' F' M P x v:=by
 obtain ⟨d,q,h1,h2,h3,h4⟩:=h;exact ⟨d,q,h1,h2.keepI hs hF hb,h3,h4⟩
structure FrW (bx bm:Nat) (F M:Blk) (P:List Int->Prop) (W:World):Prop where
 c:W.cell? (Z bx 0 N)=G (.map (G bm))
 m:MapS (DiK W F M) (FrG W F M P) W bm 512
theorem FrW.keep {P:List Int->Prop} (h:FrW bx bm F M P W) (hs:W.heap.size<=W'.heap.size) (hF:∀b,F b->F' b) (hb:∀b,F b/\¬M b->W'.heap[b]? =W.heap[b]?) (hx:W'.heap[bx]? =W.heap[bx]?) (hm:W'.heap[bm]? =W.heap[bm]?):FrW bx bm F' M P W':=
 ⟨(zzJ (w:=W) (a:=Z bx 0 N) hx).trans h.c,(h.m.keep hm).mono zg (λ v hv=>hv.keep hs hF hb) (λ x v hv=>hv.keep hs hF hb)⟩
theorem FrW.mono {P P':List Int->Prop} (h:FrW bx bm F M P W) (hp:∀L,P L->P' L):FrW bx bm F M P' W:=
 ⟨h.c,h.m.mono zg zi (λ x v ⟨d,q,h1,h2,h3,h4⟩=>⟨d,q,h1,h2,h3,hp _ h4⟩)⟩
attribute [local go_sem] run_makeMap
theorem yis (w:World):H I 78 #[] w λ e w'=>e=Q (Xf (.func 135) #[] #[R (G (Z (w.heap.size+1) 0 N))])/\w' = (w.alloc (.map #[] 0)).alloc (J #[.map (G w.heap.size)] 217):=by
 go_enter Tryz.func78,Tryz.ntmps78
 go_wp2;go_ret;exact ⟨rfl,rfl⟩
theorem FrW.made {w w5:World} {P:List Int->Prop} (h:w5.heap[w.heap.size]? = ((w.alloc (.map #[] 0)).heap)[w.heap.size]?) (hc:w5.cell? (Z (w.heap.size+1) 0 N)=G (.map (G w.heap.size))):FrW (w.heap.size+1) w.heap.size F M P w5:=
 ⟨hc,((MapS.made w (DiK w5 F M) (FrG w5 F M P)).keep h).mono zo zi (λ _ _ h=>h)⟩
theorem yho {d:Nat} {P:List Int->Prop} {q:Nat->Bool} (h:FrW bx bm F M P W) (nx:¬F bx) (nm:¬F bm) (ne:bx≠bm) (lx:bx<W.heap.size) (lt:∀b,F b->b<W.heap.size) (hd:DiF W F M d q) :
  H I 135 #[R (G (Z d 0 N)),R (G (Z bx 0 N))] W λ e W'=>((e=Q (Xb false)/\P (yak q)/\FrW bx bm F M P W')\/ (e=Q (Xb true)/\FrW bx bm F M (λ L=>P L\/ L=yak q) W'))/\Eff (λ c=>c=bm) W W':=by
 have hL:=h.m.lookup (yui W F M) (t:=217) Tryz.underlying217 (z:=Xb false) zk false (x:=R (G (Z d 0 N))) ⟨d,q,rfl,hd⟩;have c1:=h.c;obtain ⟨k,hk,ai,ql⟩:=h.m.count (t:=217) Tryz.underlying217 3;replace ql:(lnF (.map (G bm))).run I W= .ok (E T k) W:=ql;have ak:=hid ai;have Hk:=hid hk;have HH:=hid h;have HD:=hid hd;have HN:=hid (Ya nx (Ya nm (Ya ne (Ya lx lt))));clear ai hk h hd nx nm ne lx lt;go_enter Tryz.func135,Tryz.ntmps135
 rcases hL with hl | ⟨v,hv,hl⟩;rotate_left
 ·obtain ⟨d',q',e1,ag,rfl,hP⟩:=hv;have hq:yak q' =yak q:=by
   injection e1 with e1;injection e1 with e1;injection e1 with e1
   subst e1;have e:(List.range 86400).filter q' = (List.range 86400).filter q:=List.filter_congr λ k hk=>DiscAt.unique ag.2.2 HD.2.2 k (YT.1 hk);rw [yak,yak,sel,sel,e]
  rw [hq] at hP;replace hl:(ywB (.map (G bm)) (R (G (Z d 0 N)))).run I W= .ok (Xb true) W:=hl;have HP:=hid hP;clear ag hq e1 hP ql;go_wp2;go_ret;exact ⟨.inl ⟨rfl,HP,HH⟩,Eff.refl _ _⟩
 ·replace hl:(ywB (.map (G bm)) (R (G (Z d 0 N)))).run I W= .ok (Xb false) W:=hl;go_upto_region 3 with fail
  iterate 13 go_step
  (try dsimp only);go_cut [9] from 10 (λ _ wx=>Hid (MapS (DiK wx F M) (FrG wx F M P) wx bm 511/\Eff (λ c=>c=bm) W wx))
  case first=>
   by_cases h5:(k:Int)=512
   ·have ae:((k:Int)==512)=true:=(by rw [h5];rfl);clear h5;go_wp2_with (with_reducible refine ybU (t:=217) (.tmp 10) rfl rfl Tryz.underlying217 HH.out.m rfl ?_)
    intro w3 aj af;have aa:Eff (λ c=>c=bm) W w3:=Eff.of_grown af rfl;have hb:∀b,F b/\¬M b->w3.heap[b]? =W.heap[b]?:=λ b hb=>aa.block b (HN.2.2.2.2 b hb.1) (λ e=>HN.2.1 (e ▸ hb.1));have ac:Hid (MapS (DiK w3 F M) (FrG w3 F M P) w3 bm 511/\Eff (λ c=>c=bm) W w3):=⟨aj.mono zo (λ v hv=>hv.keep aa.size zi hb) (λ x v hv=>hv.keep aa.size zi hb),aa⟩;clear ql ae c1 aj af aa hb;go_wp2;go_meet;exact ac
   ·have ae:((k:Int)==512)=false:=(by simpa using h5);have ac:Hid (MapS (DiK W F M) (FrG W F M P) W bm 511/\Eff (λ c=>c=bm) W W):=⟨ak.mono (zp Hk.out) zi (λ _ _ h=>h),Eff.refl _ _⟩;clear h5;go_wp2;go_meet;exact ac
  case rest=>
   obtain ⟨m5,e5⟩:=hcut.out;have l5:=e5.size;have ah:∀b,F b/\¬M b->wc.heap[b]? =W.heap[b]?:=λ b hb=>e5.block b (HN.2.2.2.2 b hb.1) (λ e=>HN.2.1 (e ▸ hb.1));have d5:DiF wc F M d q:=HD.keepI l5 zi ah;have c5:wc.cell? (Z bx 0 N)=G (.map (G bm)):=(e5.cell (p:=Z bx 0 N) HN.2.2.2.1 HN.2.2.1).trans c1;have ad:MapS (DiK wc F M) (FrG wc F M (λ L=>P L\/ L=yak q)) wc bm 511:=m5.mono zg zi (λ x v ⟨d,q,h1,h2,h3,h4⟩=>⟨d,q,h1,h2,h3, .inl h4⟩);obtain ⟨w6,q6,m6,g6⟩:=ad.update (yui wc F M) (t:=217) (e:=4) Tryz.underlying217 (x:=R (G (Z d 0 N))) ⟨d,q,rfl,d5⟩ (v:=Xb true) ⟨d,q,rfl,d5,rfl, .inr rfl⟩;replace q6:(yz8 (.map (G bm)) (R (G (Z d 0 N))) (Xb true)).run I wc= .ok () w6:=q6;have e6:Eff (λ c=>c=bm) wc w6:=Eff.of_grown g6 rfl;have ab:∀b,F b/\¬M b->w6.heap[b]? =wc.heap[b]?:=λ b hb=>e6.block b (zH (HN.2.2.2.2 b hb.1) l5) (λ e=>HN.2.1 (e ▸ hb.1));have c6:w6.cell? (Z bx 0 N)=G (.map (G bm)):=(e6.cell (p:=Z bx 0 N) (zH HN.2.2.2.1 l5) HN.2.2.1).trans c5;have H6:Hid (FrW bx bm F M (λ L=>P L\/ L=yak q) w6):=⟨c6,m6.mono zg (λ v hv=>hv.keep e6.size zi ab) (λ x v hv=>hv.keep e6.size zi ab)⟩;have E6:=hid (e5.trans e6 (λ _ h=> .inl h));clear m5 e5 ah d5 ad m6 g6 e6 ab c6 hcut ql hl l5;go_wp2;go_ret;exact ⟨.inr ⟨rfl,H6⟩,E6⟩
end
section
attribute [local irreducible] yak
attribute [local go_sem] Yw
attribute [local go_sem ↓] yaz
variable {F M O:Blk} {c:Cl} {D s:Int} {cs:List Cl} {d k:Nat} {u u':Nat->Nat} {W:World}
theorem ys9 (hu:∀i k,i<3->(c.m i).testBit k=true->(u i).testBit k=true) (hs:s∈yak (yax [c] D)):(0<=s/\s<86400)/\ynM u s:=by
 obtain ⟨j,hj,hq,rfl⟩:=yaH.1 hs;have h1:yhv c (86400*D+(j:Int))=true:=by simpa [yax] using hq
 rw [yhv,zzX,zzX,zzX,zzX] at h1;have h2:=h1.2.2.2.1;rw [show (86400*D+(j:Int))%86400=j by omega,ydc,zzX,zzX,zzX,ya8,ya8,ya8,zzX,zzX,zzX] at h2;exact ⟨by omega,hu 2 _ zo h2.2.1.2,hu 1 _ zo h2.2.2.1.2,hu 0 _ zo h2.2.2.2.2⟩
def PkA (c:Cl) (P:Int->Prop) (k:Nat) (s:Int):Prop:=P s\/ ∃i D,i<k/\(yaN [c] (yag 0 146096))[i]? =G D/\s∈yak (yax [c] D)
def PaA (c:Cl) (P:Int->Prop) (s:Int):Prop:=P s\/ ∃D,s∈yak (yax [c] D)
theorem yiM {P:Int->Prop} (h:(yaN [c] (yag 0 146096))[k]? =G D) (s:Int):PkA c P (k+1) s↔PkA c P k s\/ s∈yak (yax [c] D):=by
 constructor
 ·rintro (hp | ⟨i,Eq1,hi,he,hs⟩)
  ·exact .inl (.inl hp)
  ·by_cases e:i=k
   ·subst e;rw [h] at he;cases he;exact .inr hs
   ·exact .inl (.inr ⟨i,Eq1,by omega,he,hs⟩)
 ·rintro ((hp | ⟨i,Eq1,hi,he,hs⟩) | hs)
  ·exact .inl hp
  ·exact .inr ⟨i,Eq1,by omega,he,hs⟩
  ·exact .inr ⟨k,D,by omega,h,hs⟩
theorem yqk {P:Int->Prop} (h:PkA c P k s):PaA c P s:=h.elim .inl λ ⟨i,D,_,_,hs⟩=> .inr ⟨D,hs⟩
theorem yx7 {P:Int->Prop} (s:Int):PkA c P (yaN [c] (yag 0 146096)).length s↔PaA c P s:=by
 refine ⟨yqk,λ h=>h.elim .inl λ ⟨D,hs⟩=>?_⟩;obtain ⟨j,hj,hq,rfl⟩:=yaH.1 hs;have h1:yhv c (86400*D+(j:Int))=true:=by simpa [yax] using hq
 have hw:ycb (86400*D+(j:Int))=true:=by rw [yhv,zzX] at h1;exact h1.1
 rw [ycb,zzY] at hw;have hm:D∈yaN [c] (yag 0 146096):=by
  rw [yaN,Y5,ybH];refine ⟨by omega,?_⟩;rw [yl1,Yk];exact ⟨j,YT.2 hj,hq⟩
 obtain ⟨i,hi,he⟩:=Zt hm;exact .inr ⟨i,D,hi,by rw [zzp hi,he],hs⟩
theorem yxf {x:Nat->Nat} (h:ynM u s) (e:∀i,i<3->u' i=u i|||x i):ynM u' s:=by
 rw [ynM,e 0 zo,e 1 zo,e 2 zo,Y2,Y2,Y2,h.1,h.2.1,h.2.2];simp
theorem yjp {a b:Nat} (ha:a<18446744073709551616) (h:mk (λ k=>a.testBit k && !b.testBit k)=0) (k:Nat) (hk:a.testBit k=true):b.testBit k=true:=by
 have h1:=yaW (λ k=>a.testBit k && !b.testBit k) k;rw [h,YV] at h1;have a7:k<64:=by
  apply Classical.byContradiction;intro hn;rw [ydT ha zo] at hk;cases hk
 rw [zzZ a7,hk] at h1;simpa using h1.symm
def orU (u:Nat->Nat) (h m s:Nat) (i:Nat):Nat:=if i=0 then u 0|||s else if i=1 then u 1|||m else if i=2 then u 2|||h else u i
structure AfC (bf b2 b3 b6 bx bm:Nat) (c:Cl) (u:Nat->Nat) (fi la n:Int) (ev sq:Bool) (O:Blk) (W:World):Prop where
 fc:FcB bf u fi la n ev sq W
 p2:W.cell? (Z b2 0 N)=G (R (G (Z bf 0 N)))
 cl:ClB W b3 c
 fn:W.cell? (Z b6 0 N)=G (Xf (.func 135) #[] #[R (G (Z bx 0 N))])
 os:O bf/\O b2/\O b3/\O b6/\O bx/\O bm
 lt:∀b,O b->b<W.heap.size
 ne:(bf≠b2/\bf≠b3/\bf≠b6/\bf≠bx/\bf≠bm)/\bm≠b2/\bm≠b3/\bm≠b6/\bm≠bx
section
variable {bf b2 b3 b6 bx bm:Nat} {c:Cl} {u:Nat->Nat} {fi la n:Int} {ev sq:Bool} {O:Blk} {W W':World}
theorem AfC.keep (h:AfC bf b2 b3 b6 bx bm c u fi la n ev sq O W) (hs:W.heap.size<=W'.heap.size) (hb:∀b,O b->W'.heap[b]? =W.heap[b]?):AfC bf b2 b3 b6 bx bm c u fi la n ev sq O W':=
 ⟨h.fc.block hs (hb _ h.os.1),(zzJ (w:=W) (a:=Z b2 0 N) (hb _ h.os.2.1)).trans h.p2,λ j v hv=>(zzJ (w:=W) (a:=Z b3 (0+j) N) (hb _ h.os.2.2.1)).trans (h.cl j v hv),(zzJ (w:=W) (a:=Z b6 0 N) (hb _ h.os.2.2.2.1)).trans h.fn,h.os,λ b hb=>zH (h.lt b hb) hs,h.ne⟩
theorem AfC.map (h:AfC bf b2 b3 b6 bx bm c u fi la n ev sq O W) (hE:Eff (λ b=>b=bm) W W'):AfC bf b2 b3 b6 bx bm c u fi la n ev sq O W':=
 ⟨h.fc.block hE.size (hE.block _ (h.lt _ h.os.1) h.ne.1.2.2.2.2),(hE.cell (p:=Z b2 0 N) (h.lt _ h.os.2.1) (λ e=>h.ne.2.1 (Zx e))).trans h.p2,λ j v hv=>(hE.cell (p:=Z b3 (0+j) N) (h.lt _ h.os.2.2.1) (λ e=>h.ne.2.2.1 (Zx e))).trans (h.cl j v hv),(hE.cell (p:=Z b6 0 N) (h.lt _ h.os.2.2.2.1) (λ e=>h.ne.2.2.2.1 (Zx e))).trans h.fn,h.os,λ b hb=>zH (h.lt b hb) hE.size,h.ne⟩
theorem AfC.face {b0 bF n':Int} {b1 bE:Bool} (h:AfC bf b2 b3 b6 bx bm c u fi la n ev sq O W) (hE:Eff (λ b=>b=bf) W W') (hf:FcB bf u' b0 bF n' b1 bE W'):AfC bf b2 b3 b6 bx bm c u' b0 bF n' b1 bE O W':=
 ⟨hf,(hE.cell (p:=Z b2 0 N) (h.lt _ h.os.2.1) (λ e=>h.ne.1.1 (Zx e))).trans h.p2,λ j v hv=>(hE.cell (p:=Z b3 (0+j) N) (h.lt _ h.os.2.2.1) (λ e=>h.ne.1.2.1 (Zx e))).trans (h.cl j v hv),(hE.cell (p:=Z b6 0 N) (h.lt _ h.os.2.2.2.1) (λ e=>h.ne.1.2.2.1 (Zx e))).trans h.fn,h.os,λ b hb=>zH (h.lt b hb) hE.size,h.ne⟩
end
def AfI (c:Cl) (P:Int->Prop) (u0:Nat->Nat) (M:Blk) (bf b2 b3 b6 bx bm:Nat) (fi la n:Int) (ev sq:Bool):ydt:=λ k O F W=>
 ∃u,AfC bf b2 b3 b6 bx bm c u fi la n ev sq O W/\(∀i,3<=i->u i=u0 i)/\HmP u (PkA c P k)/\FrW bx bm F M (λ L=>∀s∈L,ynM u s) W
def AfX (c:Cl) (P:Int->Prop) (u0:Nat->Nat) (bf b2 b3 b6 bx bm:Nat) (fi la n:Int) (ev sq:Bool) (e:Code):ydt:=λ k O F W=>
 e= .ret/\∃u,AfC bf b2 b3 b6 bx bm c u fi la n ev sq O W/\(∀i,3<=i->u i=u0 i)/\HmP u (PaA c P)
theorem ynO (c:Cl) (P:Int->Prop) (u0:Nat->Nat) (M:Blk) (bf b2 b3 b6 bx bm:Nat) (fi la n:Int) (ev sq:Bool):StabF M (AfI c P u0 M bf b2 b3 b6 bx bm fi la n ev sq):=λ k O F F' W W' ⟨u,h1,h2,h3,h4⟩ hs hF hO=>
 ⟨u,h1.keep hs (λ b hb=>hO b (.inl hb)),h2,h3,h4.keep hs hF (λ b hb=>hO b (.inr hb)) (hO _ (.inl h1.os.2.2.2.2.1)) (hO _ (.inl h1.os.2.2.2.2.2))⟩
theorem yuD (c:Cl) (P:Int->Prop) (u0:Nat->Nat) (M:Blk) (bf b2 b3 b6 bx bm:Nat) (fi la n:Int) (ev sq:Bool) (e:Code):StabF M (AfX c P u0 bf b2 b3 b6 bx bm fi la n ev sq e):=λ k O F F' W W' ⟨h0,u,h1,h2,h3⟩ hs hF hO=>
 ⟨h0,u,h1.keep hs (λ b hb=>hO b (.inl hb)),h2,h3⟩
theorem yy7 (c:Cl) (P:Int->Prop) (u0:Nat->Nat) (M:Blk) (bf b2 b3 b6 bx bm:Nat) (fi la n:Int) (ev sq:Bool):LtF (AfI c P u0 M bf b2 b3 b6 bx bm fi la n ev sq):=λ k O F W ⟨_,h,_⟩=>h.lt
theorem yy6 (c:Cl) (P:Int->Prop) (u0:Nat->Nat) (bf b2 b3 b6 bx bm:Nat) (fi la n:Int) (ev sq:Bool) (e:Code):LtF (AfX c P u0 bf b2 b3 b6 bx bm fi la n ev sq e):=λ k O F W ⟨_,_,h,_⟩=>h.lt
structure DkA (cs:List Cl) (M:Blk) (D:Int) (d:Nat) (O F:Blk) (W:World):Prop where
 dj:∀b,F b->¬O b
 di:DiF W F M d (yax cs D)
 tab:Tab W/\F 0
 lt:∀b,F b->b<W.heap.size
theorem DkA.put {l:Nat} {o:Obj} (h:DkA cs M D d O F W) (hF:¬F l):DkA cs M D d O F (W.putObj l o):=by
 have ps:(W.putObj l o).heap.size=W.heap.size:=Yg;have ko:∀b,F b->(W.putObj l o).heap[b]? =W.heap[b]?:=λ b hb=>Yc (λ e=>hF (e ▸ hb));exact ⟨h.dj,⟨h.di.1,h.di.2.1,h.di.2.2.block (by rw [ps];exact zG _) (ko _ h.di.1)⟩,⟨⟨by rw [ps];exact h.tab.1.1,λ i hi=>(zzJ (w:=W) (a:=⟨0,i,N⟩) (ko _ h.tab.2)).trans (h.tab.1.2 i hi)⟩,h.tab.2⟩,by rw [ps];exact h.lt⟩
theorem DkA.eff {W':World} (h:DkA cs M D d O F W) (hE:Eff O W W'):DkA cs M D d O F W':=
 ⟨h.dj,h.di.keepI hE.size zi (λ b hb=>hE.block b (h.lt b hb.1) (h.dj b hb.1)),⟨h.tab.1.eff hE (h.dj _ h.tab.2),h.tab.2⟩,λ b hb=>zH (h.lt b hb) hE.size⟩
def AfT (h0 h1 h2 h3 h4 h5 h6 h8:Value) (ds:List Deferred) (a:Act):Prop:=∃V:Nat->Value,a= {tmps:=#[h0,h1,h2,h3,h4,h5,h6,V 7,h8,V 9,V 10,V 11,V 12,V 13,V 14,V 15,V 16,V 17,V 18,V 19,V 20,V 21,V 22,V 23,V 24,V 25,V 26,V 27,V 28,V 29,V 30,V 31,V 32,V 33,V 34,V 35,V 36,V 37,V 38,V 39,V 40,V 41,V 42,V 43,V 44,V 45,V 46,V 47,V 48,V 49,V 50,V 51,V 52,V 53,V 54,V 55,V 56,V 57,V 58,V 59,V 60,V 61,V 62,V 63,V 64,V 65,V 66,V 67,V 68,V 69,V 70,V 71,V 72,V 73,V 74,V 75,V 76,V 77,V 78,V 79,V 80,V 81,V 82,V 83],defers:=ds}
theorem AfT.of {t:Array Value} {h0 h1 h2 h3 h4 h5 h6 h8:Value} {ds:List Deferred} (hs:t.size=84:=by rfl) (k0:tg t 0=h0:=by rfl) (k1:tg t 1=h1:=by rfl) (k2:tg t 2=h2:=by rfl) (k3:tg t 3=h3:=by rfl) (k4:tg t 4=h4:=by rfl) (k5:tg t 5=h5:=by rfl) (k6:tg t 6=h6:=by rfl) (k8:tg t 8=h8:=by rfl):AfT h0 h1 h2 h3 h4 h5 h6 h8 ds {tmps:=t,defers:=ds}:=⟨tg t,by subst_vars;exact tgE hs ds⟩
theorem ymp {bf:Nat} {fi la n:Int} {ev sq:Bool} {P:Int->Prop} (c:Cl) {w:World} (h:FcB bf u fi la n ev sq w) (hc:c.Ok) (hm:yb2 c=true) (hT:Tab w) (bN:bf≠0) (hP:HmP u P) :
  H I 30 #[R (G (Z bf 0 N)),clv c] w λ e w'=>(∃v,e=Q v)/\(∃u',FcB bf u' fi la n ev sq w'/\(∀i,3<=i->u' i=u i)/\HmP u' (PaA c P))/\Eff (λ b=>b=bf) w w':=by
 obtain ⟨W1,ax⟩:=zx ((w.alloc (J #[R (G (Z bf 0 N))] 147)).alloc (J (yae c).toArray 59));have bq:Bw w W1:=by rw [<- ax];exact yaa (yaa (Ye _ _) zg) zs
 have s1:W1.heap.size=w.heap.size+1+1:=by rw [<- ax];simp
 have bK:W1.cell? (Z w.heap.size 0 N)=G (R (G (Z bf 0 N))):=by rw [<- ax];simp [go_sem]
 have bo:ClB W1 (w.heap.size+1) c:=by
  have e:=yap (w.alloc (J #[R (G (Z bf 0 N))] 147)) (yae c) 59;(try unfold Bw at e);rw [zzN] at e
  rw [<- ax];exact e
 have ce:=bo.ld;obtain ⟨W2,aG⟩:=zx (W1.alloc (J (yae c).toArray 59));have ai:Bw W1 W2:=by rw [<- aG];exact yaa (Ye _ _) zg
 have s2:W2.heap.size=W1.heap.size+1:=by rw [<- aG];simp
 have bM:cls [c]=yae c:=by simp [cls]
 have bJ:Sl W2 (G (Z W1.heap.size 0 N)) (cls [c]):=by
  rw [bM,<- aG];exact ybV (cs:=yae c) (yap W1 _ _) zs
 have bp:=zu bq ai;have cN:=hid (yd5 (G (Z W1.heap.size 0 N)) 1 [c] W2 zs zs bJ (λ h=>by cases h) (λ x hx=>by rw [Yy] at hx;subst hx;exact hc) (hT.later bp));have HF:=hid (ykl hm);have b8:=hid bp;have ct:=hid ax;have cr:=hid aG;have S1:=hid s1;have S2:=hid s2;have cC:=hid h;have cp:=hid ((ai.cell (p:=Z w.heap.size 0 N) (by show _<_;rw [s1];simp only [];omega)).trans bK);have cE:=hid (show ClB W2 (w.heap.size+1) c from ybK bo ai zo);have bs:Hid (0<w.heap.size):=hT.1;have b4:Hid (bf<w.heap.size/\bf≠0):=⟨h.lt,bN⟩;have cz:=hid hP;have ay:=hid hc;clear ax aG bq bp ai hc hT s1 s2 bJ bM hm h bK bo bN hP;refine (wf_calls (r:=N) (n:=1)).mp ?_;refine callsIn_of_wp_marks Tryz.func30 rfl trivial ?_ rfl;simp only [Tryz.ntmps30,Yp,Yu,YS,Nat.reduceAdd,Nat.reduceSub,YE,YD,YQ,YJ,Y0,YH];gi_upto_region 1 with fail
 rw [ct];gi_wp2_with fail
 rw [cr];refine (wf_calls.mpr cN).mono ?_;rintro e w3 ⟨hN,aX⟩;have aj:=hid (zu b8 aX);have S3:Hid (w.heap.size+3<=w3.heap.size/\W2.heap.size=w.heap.size+3):=by have:=aX.size;have:=S1.out;have:=S2.out;show _/\_;omega
 rcases hN with ⟨hf,rfl⟩ | ⟨-,br,bk,bps,rfl,hR,hM⟩
 ·exact absurd HF.out hf
 have HR:=hid hR;have HM:=hid hM;have aQ:=hid aX;clear aX hR hM cN ce;have cI:=hid (yis w3);gi_wp2_with fail
 refine (wf_calls.mpr cI).mono ?_;rintro e w4 ⟨rfl,au⟩;obtain ⟨w5,an⟩:=zx (w4.alloc (J #[Xf (.func 135) #[] #[R (G (Z (w3.heap.size+1) 0 N))]] 148));obtain ⟨b6,aU⟩:=zx w4.heap.size;have s4:b6=w3.heap.size+1+1:=by rw [<- aU,au];simp
 have s5:w5.heap.size=w3.heap.size+1+1+1:=by rw [<- an,au];simp
 have B5:Bw w3 w5:=by rw [<- an,au];exact yaa (yaa (yaa (Ye _ _) zg) zs) (by simp only [zzN];omega)
 have bD:Bw W2 w5:=zu aQ B5;have bV:AfC bf w.heap.size (w.heap.size+1) b6 (w3.heap.size+1) w3.heap.size c u fi la n ev sq (λ b=>b=bf\/ b=w.heap.size\/ b=w.heap.size+1\/ b=b6\/ b=w3.heap.size+1\/ b=w3.heap.size) w5:=by
  have cG:=S3.out;have cj:=b4.1;have ca:Bw w w5:=zu aj B5;refine ⟨cC.block ca.size (ca.block _ cj),(bD.cell (p:=Z w.heap.size 0 N) (by simp only [];omega)).trans cp,ybK cE bD zo,?_,⟨.inl rfl, .inr (.inl rfl), .inr (.inr (.inl rfl)), .inr (.inr (.inr (.inl rfl))), .inr (.inr (.inr (.inr (.inl rfl)))), .inr (.inr (.inr (.inr (.inr rfl))))⟩,λ b hb=>by omega,by omega⟩;rw [<- an,<- aU];simp [go_sem]
 have bU:FrW (w3.heap.size+1) w3.heap.size (yed W2 w3) (RM br bk bps) (λ L=>∀s∈L,ynM u s) w5:=by
  refine FrW.made ?_ ?_
  ·rw [<- an,au];exact (Y4 _ _ _ (by simp only [zzN];omega)).trans (Y4 _ _ _ zs)
  ·rw [<- an,au];simp [go_sem]
 have cx:Hid (yar w5 [c] br bk bps (yed W2 w3) (λ _=>false) 0):=HR.keep B5.size (λ b hb=>B5.block b (by have:=S3.out;have:=bs.out;rcases hb with hb | hb <;> omega));have bA:=hid bV;have b5:=hid bU;have b7:=hid (zu aj B5);have S5:=hid s5;have S4:=hid s4;have cm:=hid an;have cq:=hid aU;clear B5 bD bV bU s4 an aU s5 au cI;gi_wp2_with fail
 rw [cq,cm];obtain ⟨b2,aF⟩:=zx w.heap.size;have bu:=hid aF;obtain ⟨b3,aE⟩:=zx (w.heap.size+1);have bt:=hid aE;obtain ⟨bm,aT⟩:=zx w3.heap.size;have aY:=hid aT;rw [aT,aE,aF] at bA;rw [aT] at b5 S4 S5;rw [aE,aF];rw [aF] at aE;clear aT aF aE;have cA:=hid (yeX 0 146096 cx (ymn 0) (zG 0));have aw:=yjn [c] (f:=0) (t:=146096) zo zo;have ag:=yeU [c] 0 146096;obtain ⟨X1,bP⟩:=zx (ynL [c] 0);obtain ⟨X2,bO⟩:=zx (ynK [c] 146096);rw [bP,bO] at cA aw ag;have tl:=yeW (cs:= [c]) (br:=br) (bk:=bk) (bps:=bps) ymn (w5.heap.size+1) (w5.heap.size+2) w5.heap.size X1 X2 aw.1 aw.2.1 aw.2.2.1 aw.2.2.2
  (λ j n ws m cF m' hn hi hs=>yeJ hi hs) (λ j ws m hi hj=>by rw [ybg] at hj;rw [ymn] at hi;omega)
 rw [ag] at tl;obtain ⟨LL,bS⟩:=zx ((yag X1 X2).length);rw [bS] at tl;have TL:=hid tl;clear aw ag tl bS bP bO;refine (wf_calls.mpr cA).mono ?_;rintro e w6 ⟨rfl,am,cf,bT⟩;have a0:=hid (zu b7 am);have A6:=hid (bA.keep am.size (λ b hb=>am.block b (bA.lt b hb)));have P6:Hid (FrW (bm+1) bm (F3 (yed W2 w3) w5.heap.size) (RM br bk bps) (λ L=>∀s∈L,ynM u s) w6):=by
  have l5:=S5.out;have lm:=aY.out;refine b5.keep am.size (λ b h=> .inl h) (λ b hb=>am.block b ?_) (am.block _ zo) (am.block _ zo);rcases hb.1 with h | h
  ·omega
  ·have:=bs.out;have:=S3.out;omega
 have cB:=hid bT;have cD:Hid (∀b,F3 (yed W2 w3) w5.heap.size b->¬(b=bf\/ b=b2\/ b=b3\/ b=b6\/ b=bm+1\/ b=bm)):=λ b hb=>by
  have:=S3.out;have:=S5.out;have:=S4.out;have:=bs.out;have:=bu.out;have:=bt.out;have:=aY.out;have:=b4.out;rcases hb with hb | hb
  ·rcases hb with hb | hb <;> omega
  ·omega
 clear am bT cA cf;gi_wp2_with fail
 refine ybu (F:=F3 (yed W2 w3) w5.heap.size) (M:=RM br bk bps) (gf:=85) (lb:=#[R (G (Z (w5.heap.size+1) 0 N)),R (G (Z (w5.heap.size+2) 0 N)),R (G (Z w5.heap.size 0 N))]) rfl yca (λ b=>b=bf\/ b=b2\/ b=b3\/ b=b6\/ b=bm+1\/ b=bm)
  (λ k vs F W h=>by obtain ⟨_,_,_,_,_,rfl,_⟩:=h;rfl) TL HA.host HA.host HA.hostE cB (λ b hb=>cD b hb)
  (AfI c P u (RM br bk bps) bf b2 b3 b6 (bm+1) bm fi la n ev sq) (AfX c P u bf b2 b3 b6 (bm+1) bm fi la n ev sq) (ynO _ _ _ _ _ _ _ _ _ _ _ _ _ _ _) (yuD _ _ _ _ _ _ _ _ _ _ _ _ _ _ _) (yy7 _ _ _ _ _ _ _ _ _ _ _ _ _ _ _) (yy6 _ _ _ _ _ _ _ _ _ _ _ _ _ _)
  ⟨u,A6,λ _ _=>rfl,cz.same (λ s h=> .inl h) (λ s h=> .inl (h.elim id λ ⟨i,_,hi,_⟩=>absurd hi (Nat.not_lt_zero i))),P6⟩
  (λ k O F a' W=>AfI c P u (RM br bk bps) bf b2 b3 b6 (bm+1) bm fi la n ev sq k O F W/\∃D d,(yaN [c] (yag 0 146096))[k]? =G D/\DkA [c] (RM br bk bps) D d O F W/\AfT (R (G (Z bf 0 N))) (clv c) (R (G (Z b2 0 N))) (R (G (Z b3 0 N))) (R (G (Z br 0 N))) (E T 0) (R (G (Z b6 0 N))) (R (G (Z d 0 N))) [] a')
  ?putl ?assign ?body ?done ?stop
 case putl=>
  rintro l' o k O F a' W hr cd av ⟨h1,D,d,h3,h4,h5⟩;have ko:∀b,O b\/ (F b/\¬RM br bk bps b)->(W.putObj l' o).heap[b]? =W.heap[b]?:=λ b hb=>Yc (λ e=>hb.elim (λ h=>cd (e ▸ h)) (λ h=>av (e ▸ h.1)));exact ⟨ynO _ _ _ (RM br bk bps) _ _ _ _ _ _ _ _ _ _ _ k O F F W _ h1 (by rw [Yg];exact zG _) zi ko,D,d,h3,h4.put av,h5⟩
 case assign=>
  rintro l' k O6 F6 W6 vs K hk aV aW ⟨D,d,hn,h0,h1,rfl,hd,ht,hlt⟩ aL hK;have HP:=hid (Ya aV (Ya aW (Ya hn (Ya hd (Ya ht (Ya hlt aL))))));clear aV aW hn hd ht hlt aL h0 h1;gi_wp2
  obtain ⟨aV,aW,hn,hd,ht,hlt,aL⟩:=HP.out;exact hK _ O6 W6 (yaM.refl _ _) ⟨aV,D,d,hn,⟨λ b hb=>(aW b hb).1,hd,⟨ht.1,ht.2.1⟩,hlt⟩,AfT.of⟩
 case stop=>
  rintro e k O9 F9 w9 cO cM aK bg bh bi ao ⟨rfl,u9,ap,aM,aI⟩ hD aD av;have bb:Hid (∀b,(b=bf\/ b=b2\/ b=b3\/ b=b6\/ b=bm+1\/ b=bm)\/ RM br bk bps b->b=bf\/ w.heap.size<=b):=λ b hb=>by
   have:=S3.out;have:=S4.out;have:=bu.out;have:=bt.out;have:=aY.out;have:=S1.out;have:=S2.out;rcases hb with (h | h | h | h | h | h) | h
   ·exact .inl h
   ·omega
   ·omega
   ·omega
   ·omega
   ·omega
   ·have:=HM b h;omega
  have bz:Hid (Eff (λ b=>b=bf) w (w9.putObj w6.heap.size (.deferred N))):=((Eff.of_below a0).trans aK.eff (λ b hb=>bb b hb)).putObj (.inr a0.size) _;have HX:Hid (FcB bf u9 fi la n ev sq (w9.putObj w6.heap.size (.deferred N))):=ap.fc.block (by rw [Yg];exact zG _) (Yc (λ e=>aD (e ▸ ap.os.1)));have aR:=hid (Ya aM aI);have HD:=hid hD;clear aK bg bh bi ao aD av hD ap aM aI;gi_wp2
  refine ⟨by simp, .inl ⟨_,_,rfl,YM HD,?_⟩⟩;exact ⟨_,YO rfl _ _ _,⟨_,rfl⟩,⟨u9,HX,aR.1,aR.2⟩,bz⟩
 case done=>
  rintro O9 F9 w9 aK bg bh bi ao ⟨u9,ap,aM,ck,-⟩ hD aD av;have aI:HmP u9 (PaA c P):=ck.same (λ s h=>yqk h) (λ s h=> .inl (yx7 s |>.2 h));have bb:Hid (∀b,(b=bf\/ b=b2\/ b=b3\/ b=b6\/ b=bm+1\/ b=bm)\/ RM br bk bps b->b=bf\/ w.heap.size<=b):=λ b hb=>by
   have:=S3.out;have:=S4.out;have:=bu.out;have:=bt.out;have:=aY.out;have:=S1.out;have:=S2.out;rcases hb with (h | h | h | h | h | h) | h
   ·exact .inl h
   ·omega
   ·omega
   ·omega
   ·omega
   ·omega
   ·have:=HM b h;omega
  have bz:Hid (Eff (λ b=>b=bf) w (w9.putObj w6.heap.size (.deferred N))):=((Eff.of_below a0).trans aK.eff (λ b hb=>bb b hb)).putObj (.inr a0.size) _;have HX:Hid (FcB bf u9 fi la n ev sq (w9.putObj w6.heap.size (.deferred N))):=ap.fc.block (by rw [Yg];exact zG _) (Yc (λ e=>aD (e ▸ ap.os.1)));have aR:=hid (Ya aM aI);have HD:=hid hD;clear aK bg bh bi ao aD av hD ap aM aI;gi_wp2
  refine ⟨by simp, .inl ⟨_,_,rfl,YM HD,?_⟩⟩;exact ⟨_,YO rfl _ _ _,⟨_,rfl⟩,⟨u9,HX,aR.1,aR.2⟩,bz⟩
 case body=>
  rintro l3 k O6 F6 a' W6 hk aL cL ak aC a3 ⟨⟨u6,ah,bZ,aJ,bQ⟩,D,d,en,hD,V,rfl⟩;obtain ⟨D0,D1,j0,cg,cb⟩:=yg6 en;have q2:W6.cell? (Z b3 2 N)=G (E Y (c.m 2:Nat)):=by have:=ah.cl 2 (E Y (c.m 2:Nat)) rfl;rwa [zzn] at this
  have q1:W6.cell? (Z b3 1 N)=G (E Y (c.m 1:Nat)):=by have:=ah.cl 1 (E Y (c.m 1:Nat)) rfl;rwa [zzn] at this
  have q0:W6.cell? (Z b3 0 N)=G (E Y (c.m 0:Nat)):=by have:=ah.cl 0 (E Y (c.m 0:Nat)) rfl;rwa [zzn] at this
  have k2:=ah.fc.c 2 zo;have k1:=ah.fc.c 1 zo;have k0:=ah.fc.c 0 zo;have aa:=ycL (ay.m 2 zo) (aJ.lt 2 zo);have ab:=ycL (ay.m 1 zo) (aJ.lt 1 zo);have ac:=ycL (ay.m 0 zo) (aJ.lt 0 zo);have aO:Hid (∀N2 N1 N0,mk (λ k=>(c.m 2).testBit k && !(u6 2).testBit k)=N2->mk (λ k=>(c.m 1).testBit k && !(u6 1).testBit k)=N1->mk (λ k=>(c.m 0).testBit k && !(u6 0).testBit k)=N0->N2=0->N1=0->N0=0->∀i k,i<3->(c.m i).testBit k=true->(u6 i).testBit k=true):=λ N2 N1 N0 e2 e1 e0 z2 z1 z0 i k hi=>by
   have:i=0\/ i=1\/ i=2:=zo
   rcases this with rfl | rfl | rfl
   ·exact yjp (ay.m 0 zo) (e0.trans z0) k
   ·exact yjp (ay.m 1 zo) (e1.trans z1) k
   ·exact yjp (ay.m 2 zo) (e2.trans z2) k
  obtain ⟨N2,bc⟩:=zx (mk (λ k=>(c.m 2).testBit k && !(u6 2).testBit k));obtain ⟨N1,bd⟩:=zx (mk (λ k=>(c.m 1).testBit k && !(u6 1).testBit k));obtain ⟨N0,be⟩:=zx (mk (λ k=>(c.m 0).testBit k && !(u6 0).testBit k));have aN:=hid (aO N2 N1 N0 bc bd be);rw [bc] at aa;rw [bd] at ab;rw [be] at ac;obtain ⟨A2,bW⟩:=zx (c.m 2);obtain ⟨A1,bX⟩:=zx (c.m 1);obtain ⟨A0,bY⟩:=zx (c.m 0);obtain ⟨U2,a8⟩:=zx (u6 2);obtain ⟨U1,a9⟩:=zx (u6 1);obtain ⟨U0,ba⟩:=zx (u6 0);rw [bW] at q2 aa;rw [bX] at q1 ab;rw [bY] at q0 ac;rw [a8] at k2 aa;rw [a9] at k1 ab;rw [ba] at k0 ac;have HU:=hid (Ya a8 (Ya a9 ba));have hS:Hid (W6.drew.cell? (Z b2 0 N)=G (R (G (Z bf 0 N)))/\W6.drew.cell? (Z b3 2 N)=G (E Y (A2:Nat))/\W6.drew.cell? (Z b3 1 N)=G (E Y (A1:Nat))/\W6.drew.cell? (Z b3 0 N)=G (E Y (A0:Nat))/\W6.drew.cell? (Z bf 2 N)=G (E Y (U2:Nat))/\W6.drew.cell? (Z bf 1 N)=G (E Y (U1:Nat))/\W6.drew.cell? (Z bf 0 N)=G (E Y (U0:Nat))):=⟨ah.p2,q2,q1,q0,k2,k1,k0⟩;have aA:=hid ah;have bB:=hid bZ;have az:=hid aJ;have cw:=hid bQ;have aq:=hid hD;have aZ:=hid en;have co:=hid ak;have cP:=hid aC;clear aL hk ah bZ aJ bQ hD en ak aC a3 cg cb D0 D1 q2 q1 q0 k2 k1 k0 bc bd be bW bX bY a8 a9 ba aO;gi_upto_region 5 with fail
  (try dsimp only);gi_cut [50] from 23 (λ v wx=>∃g,v=Xb g/\Hid ((g=true->∀i k,i<3->(c.m i).testBit k=true->(u6 i).testBit k=true)/\wx=W6.drew))
  case first=>
   refine yte [] (S:=λ W=>Hid (W.cell? (Z b2 0 N)=G (R (G (Z bf 0 N)))/\W.cell? (Z b3 2 N)=G (E Y (A2:Nat))/\W.cell? (Z b3 1 N)=G (E Y (A1:Nat))/\W.cell? (Z b3 0 N)=G (E Y (A0:Nat))/\W.cell? (Z bf 2 N)=G (E Y (U2:Nat))/\W.cell? (Z bf 1 N)=G (E Y (U1:Nat))/\W.cell? (Z bf 0 N)=G (E Y (U0:Nat)))) zk zk (by rintro ⟨_,_,h⟩;exact h) hS (λ ae=>?_);by_cases z2:N2=0
   ·have e2:((N2:Int)==0)=true:=(by rw [z2];rfl);have Z2:=hid z2;clear z2;by_cases z1:N1=0
    ·have e1:((N1:Int)==0)=true:=(by rw [z1];rfl);have Z1:=hid z1;clear z1;by_cases z0:N0=0
     ·have e0:((N0:Int)==0)=true:=(by rw [z0];rfl);have Z0:=hid z0;clear z0;refine zfA 0 ?_;refine zfA 1 ?_;refine zfA 2 ?_;refine zfA 3 ?_;refine zfA 4 ?_;refine zfA 5 ?_;refine zfA 6 ?_;refine zfA 7 ?_;refine zfA 8 ?_;refine zfA 9 ?_;refine zfA 10 ?_;refine zfA 11 ?_;refine zfA 12 ?_;refine zfA 13 ?_;refine zfA 14 ?_;refine zfA 15 ?_;refine zfA 16 ?_;refine zfA 17 ?_;refine zfA 18 ?_;refine zfA 19 ?_;refine zfA 20 ?_;refine zfA 21 ?_;refine zfA 22 ?_;refine zfA 23 ?_;refine zfA 24 ?_;refine zfA 25 ?_;refine zfA 26 ?_;refine zfA 27 ?_;refine OrdF.done zk ?_ _;clear ae aa ab ac;gi_wp2
      gi_meet
      exact ⟨true,rfl,λ _=>aN Z2 Z1 Z0,rfl⟩
     ·have e0:((N0:Int)==0)=false:=(by simp;omega);clear z0;refine zfA 0 ?_;refine zfA 1 ?_;refine zfA 2 ?_;refine zfA 3 ?_;refine zfA 4 ?_;refine zfA 5 ?_;refine zfA 6 ?_;refine zfA 7 ?_;refine zfA 8 ?_;refine zfA 9 ?_;refine zfA 10 ?_;refine zfA 11 ?_;refine zfA 12 ?_;refine zfA 13 ?_;refine zfA 14 ?_;refine zfA 15 ?_;refine zfA 16 ?_;refine zfA 17 ?_;refine zfA 18 ?_;refine zfA 19 ?_;refine zfA 20 ?_;refine zfA 21 ?_;refine zfA 22 ?_;refine zfA 23 ?_;refine zfA 24 ?_;refine zfA 25 ?_;refine zfA 26 ?_;refine zfA 27 ?_;refine OrdF.done zk ?_ _;clear ae aa ab ac;gi_wp2
      gi_meet
      exact ⟨false,rfl,λ h=>(by cases h),rfl⟩
    ·have e1:((N1:Int)==0)=false:=(by simp;omega);clear z1;refine zfA 0 ?_;refine zfA 1 ?_;refine zfA 2 ?_;refine zfA 3 ?_;refine zfA 4 ?_;refine zfA 5 ?_;refine zfA 6 ?_;refine zfA 7 ?_;refine zfA 8 ?_;refine zfA 9 ?_;refine zfA 10 ?_;refine zfA 11 ?_;refine zfA 12 ?_;refine zfA 13 ?_;refine zfA 14 ?_;refine zfA 15 ?_;refine zfA 16 ?_;refine zfA 17 ?_;refine zfA 18 ?_;refine zfS 19 ?_;refine zfS 20 ?_;refine zfS 21 ?_;refine zfS 22 ?_;refine zfS 23 ?_;refine zfS 24 ?_;refine zfS 25 ?_;refine zfS 26 ?_;refine zfA 27 ?_;refine OrdF.done zk ?_ _;clear ae aa ab ac;gi_wp2
     gi_meet
     exact ⟨false,rfl,λ h=>(by cases h),rfl⟩
   ·have e2:((N2:Int)==0)=false:=(by simp;omega);clear z2;refine zfA 0 ?_;refine zfA 1 ?_;refine zfA 2 ?_;refine zfA 3 ?_;refine zfA 4 ?_;refine zfA 5 ?_;refine zfA 6 ?_;refine zfA 7 ?_;refine zfA 8 ?_;refine zfS 9 ?_;refine zfS 10 ?_;refine zfS 11 ?_;refine zfS 12 ?_;refine zfS 13 ?_;refine zfS 14 ?_;refine zfS 15 ?_;refine zfS 16 ?_;refine zfA 17 ?_;refine zfA 18 ?_;refine zfS 19 ?_;refine zfS 20 ?_;refine zfS 21 ?_;refine zfS 22 ?_;refine zfS 23 ?_;refine zfS 24 ?_;refine zfS 25 ?_;refine zfS 26 ?_;refine zfA 27 ?_;refine OrdF.done zk ?_ _;clear ae aa ab ac;gi_wp2
    gi_meet
    exact ⟨false,rfl,λ h=>(by cases h),rfl⟩
  case rest=>
   obtain ⟨g,rfl,hcut⟩:=hcut;obtain ⟨aB,aS⟩:=hcut.out;have bC:Hid (Eff O6 W6 wc):=(by show Eff _ _ _;rw [aS];exact Eff.of_below (Ye _ _).drew);have aP:Hid (AfC bf b2 b3 b6 (bm+1) bm c u6 fi la n ev sq O6 wc):=(by show AfC _ _ _ _ _ _ _ _ _ _ _ _ _ _ _;rw [aS];exact aA.keep zg (λ _ _=>rfl));have cv:Hid (FrW (bm+1) bm F6 (RM br bk bps) (λ L=>∀s∈L,ynM u6 s) wc):=(by show FrW _ _ _ _ _ _;rw [aS];exact cw.keep zg zi (λ _ _=>rfl) rfl rfl);have cn:=hid aB;clear hcut aB aS hS aa ab ac;cases g;rotate_left
   ·gi_wp2
    refine ⟨O6,⟨λ _ h=>h,λ _ h=> .inl h,bC⟩,rfl,u6,aP,bB,az.same (λ s h=>yqk h) (λ s h=>?_)⟩;exact h.elim (λ h=> .inl (.inl h)) (λ ⟨D,hs⟩=> .inr (ys9 (cn trivial) hs))
   ·have bn:=aq.eff bC.out;have cI:=hid (yho cv (λ h=>aq.dj _ h aA.os.2.2.2.2.1) (λ h=>aq.dj _ h aA.os.2.2.2.2.2) zo (aP.lt _ aP.os.2.2.2.2.1) bn.lt bn.di);have ch:=aP.fn;clear bn;gi_wp2_with fail
    refine (wf_calls.mpr cI).mono ?_;rintro e w8 ⟨ci,bj⟩;have ar:=hid (aP.map bj);have a1:=hid (bC.trans bj (λ b hb=>by subst hb;exact .inl aA.os.2.2.2.2.2));clear bj cI ch;rcases ci with ⟨rfl,bR,aH⟩ | ⟨rfl,aH⟩
    ·have bv:=hid aH;have cy:=hid bR;clear aH bR;gi_wp2
     refine ⟨O6,⟨λ _ h=>h,λ _ h=> .inl h,a1⟩,u6,ar,bB,az.same (λ s h=>(yiM aZ s).2 (.inl h)) (λ s h=>?_),bv⟩;exact ((yiM aZ s).1 h).elim .inl (λ hs=> .inr ⟨ygf _ _ hs,cy s hs⟩)
    ·have bv:=hid aH;have bl:=aq.eff a1.out;have cT:=hid (yir d (yax [c] D) w8 bl.tab.1 bl.di.2.2);have bL:=ygf (yax [c] D);have HN:=hid (λ (u':Nat->Nat) h2 h1 h0=>az.or (u':=u') bL h2 h1 h0);obtain ⟨X,hX⟩:=zx (yak (yax [c] D));have HX:=hid hX;rw [hX] at cT HN;have a4:ofM (hrL X)<18446744073709551616:=yaG _;have a5:ofM (mnL X)<18446744073709551616:=yaG _;have a6:ofM (scL X)<18446744073709551616:=yaG _;obtain ⟨x2,bG⟩:=zx (ofM (hrL X));obtain ⟨x1,bH⟩:=zx (ofM (mnL X));obtain ⟨x0,bI⟩:=zx (ofM (scL X));rw [bG] at cT a4 HN;rw [bH] at cT a5 HN;rw [bI] at cT a6 HN;clear aH hX bG bH bI bl bL;gi_wp2_with fail
     refine (wf_calls.mpr cT).mono ?_;rintro e w9 ⟨rfl,al⟩;have ad:=hid (ar.keep al.size (λ b hb=>al.block b (ar.lt b hb)));have b9:=hid (a1.trans (Eff.of_below (O:=O6) al) (λ _ h=> .inl h));have cu:Hid (FrW (bm+1) bm F6 (RM br bk bps) (λ L=>(∀s∈L,ynM u6 s)\/ L=yak (yax [c] D)) w9):=bv.keep al.size zi (λ b hb=>al.block b ((aq.eff a1).lt b hb.1)) (al.block _ (ar.lt _ ar.os.2.2.2.2.1)) (al.block _ (ar.lt _ ar.os.2.2.2.2.2));have p2:=ad.p2;have k2:=ad.fc.c 2 zo;have k1:=ad.fc.c 1 zo;have k0:=ad.fc.c 0 zo;have z2:=ad.fc.z 2;have z1:=ad.fc.z 1;have z0:=ad.fc.z 0;rw [HU.1] at k2;rw [HU.2.1] at k1;rw [HU.2.2] at k0;have a2:=ad.ne.1.1;have cc:b2≠bf:=λ e=>a2 e.symm;have cH:bits .or Y (U2:Int) (x2:Int)= ((U2|||x2:Nat):Int):=ybD (by have:=az.lt 2 zo;rw [HU.1] at this;exact this) a4;have cJ:bits .or Y (U1:Int) (x1:Int)= ((U1|||x1:Nat):Int):=ybD (by have:=az.lt 1 zo;rw [HU.2.1] at this;exact this) a5;have cK:bits .or Y (U0:Int) (x0:Int)= ((U0|||x0:Nat):Int):=ybD (by have:=az.lt 0 zo;rw [HU.2.2] at this;exact this) a6;have af:Hid (Eff (λ b=>b=bf) w9 (((w9.setCell (Z bf 2 N) (E Y ((U2|||x2:Nat):Int))).setCell (Z bf 1 N) (E Y ((U1|||x1:Nat):Int))).setCell (Z bf 0 N) (E Y ((U0|||x0:Nat):Int)))):=(((Eff.refl (λ b=>b=bf) w9).set rfl _ _).set rfl _ _).set rfl _ _;have bw:Hid (FcB bf (orU u6 x2 x1 x0) fi la n ev sq (((w9.setCell (Z bf 2 N) (E Y ((U2|||x2:Nat):Int))).setCell (Z bf 1 N) (E Y ((U1|||x1:Nat):Int))).setCell (Z bf 0 N) (E Y ((U0|||x0:Nat):Int)))):=by
      have hU:=HU.out;refine ((ad.fc.set (k:=2) zo (U2|||x2) (λ i _=>rfl)).set (k:=1) zo (U1|||x1) (λ i _=>rfl)).set (k:=0) zo (U0|||x0) (λ i _=>?_);rw [orU,hU.1,hU.2.1,hU.2.2]
     clear al cT a4 a5 a6;gi_wp2
     refine ⟨O6,⟨λ _ h=>h,λ _ h=> .inl h,b9.trans af (λ b hb=>by subst hb;exact .inl aA.os.1)⟩,orU u6 x2 x1 x0,ad.face af bw,λ i hi=>by rw [orU,Yb zo,Yb zo,Yb zo];exact bB i hi,?_,?_⟩
     ·have hn:=HN (orU u6 x2 x1 x0) rfl rfl rfl;rw [<- HX] at hn;exact hn.same (λ s h=>(yiM aZ s).2 h) (λ s h=> .inl ((yiM aZ s).1 h))
     ·have hn:=HN (orU u6 x2 x1 x0) rfl rfl rfl;have hl:=ad.fc.lt;refine (cu.keep af.size zi (λ b hb=>af.block b ((aq.eff b9).lt b hb.1) (λ e=>aq.dj b hb.1 (e ▸ aA.os.1))) (af.block _ (ad.lt _ ad.os.2.2.2.2.1) (λ e=>ad.ne.1.2.2.2.1 e.symm)) (af.block _ (ad.lt _ ad.os.2.2.2.2.2) (λ e=>ad.ne.1.2.2.2.2 e.symm))).mono (λ L hL=>?_);rcases hL with hL | rfl
      ·exact λ s hs=>yxf (hL s hs) (x:=λ i=>if i=0 then x0 else if i=1 then x1 else x2) (λ i hi=>by
        have:i=0\/ i=1\/ i=2:=zo
        rcases this with rfl | rfl | rfl <;> rfl)
      ·exact λ s hs=>hn.inn s (.inr (by rw [<- HX];exact hs))
end
section
attribute [local irreducible] yak
variable {F M:Blk} {L L':List Int} {d:Nat} {p q:Nat->Bool} {fd:Option Nat} {W:World}
theorem ytb (h:yak p=yak q) (k:Nat) (hk:k<86400):p k=q k:=by
 have e:∀r:Nat->Bool,r k=true↔(k:Int)∈yak r:=λ r=>by
  constructor
  ·exact λ hr=>yaH.2 ⟨k,hk,hr,rfl⟩
  ·intro hm;obtain ⟨j,hj,hr,e⟩:=yaH.1 hm;have:j=k:=zo
   rw [<- this];exact hr
 exact zze.2 ((e p).trans (by rw [h];exact (e q).symm))
theorem yoh (h:∀k,k<86400->p k=q k):yak p=yak q:=by
 have e:(List.range 86400).filter p= (List.range 86400).filter q:=List.filter_congr λ k hk=>h k (YT.1 hk);rw [yak,yak,sel,sel,e]
theorem yu7 (d e:Nat) (p q:Nat->Bool) (w:World) (hT:Tab w) (hd:DiscAt w d p) (he:DiscAt w e q) :
  H I 81 #[R (G (Z d 0 N)),R (G (Z e 0 N))] w λ r w'=>r=Q (Xb (decide (yak q=yak p)))/\w=w':=by
 have h1:=(show DiscO w (G d) p from hd).v;have h2:=(show DiscO w (G e) q from he).v;have h:=ypn (G d) (G e) _ _ w hT h1.1 h2.1;rw [h1.2,h2.2] at h;refine h.mono ?_;rintro r w' ⟨⟨n,ok,rfl,hF⟩,h3⟩;refine ⟨?_,h3⟩;rcases hF with ⟨rfl,k,-,hk,hp,-⟩ | ⟨rfl,-,hn⟩
 ·rw [zzd (λ e=>by have az:(p k != q k)=true:=hp;rw [ytb e k hk] at az;simp at az)];rfl
 ·rw [zzZ (yoh λ k hk=>(show p k=q k by have:=hn k hk;simpa using this).symm)];rfl
structure TmC (b1 b3 b4 bx bm bf:Nat) (u:Nat->Nat) (fi la n:Int) (ev sq:Bool) (fd:Option Nat) (W:World):Prop where
 fc:FcB bf u fi la n ev sq W
 c1:W.cell? (Z b1 0 N)=G (R (G (Z bf 0 N)))
 c3:W.cell? (Z b3 0 N)=G (ybA fd)
 z3:W.frozen? (Z b3 0 N)=false
 c4:W.cell? (Z b4 0 N)=G (Xf (.func 135) #[] #[R (G (Z bx 0 N))])
 lt:b1<W.heap.size/\b3<W.heap.size/\b4<W.heap.size/\bx<W.heap.size/\bm<W.heap.size
 ne:(bf≠b1/\bf≠b3/\bf≠b4/\bf≠bx/\bf≠bm)/\(b3≠b1/\b3≠b4/\b3≠bx/\b3≠bm)/\bm≠b1/\bm≠b4/\bm≠bx
section
variable {b1 b3 b4 bx bm bf:Nat} {u:Nat->Nat} {fi la n:Int} {ev sq:Bool} {fd:Option Nat} {W W':World}
theorem TmC.keep (h:TmC b1 b3 b4 bx bm bf u fi la n ev sq fd W) (hs:W.heap.size<=W'.heap.size) (hb:∀b,b=bf\/ b=b1\/ b=b3\/ b=b4->W'.heap[b]? =W.heap[b]?):TmC b1 b3 b4 bx bm bf u fi la n ev sq fd W':=
 ⟨h.fc.block hs (hb _ (.inl rfl)),(zzJ (w:=W) (a:=Z b1 0 N) (hb _ (.inr (.inl rfl)))).trans h.c1,(zzJ (w:=W) (a:=Z b3 0 N) (hb _ (.inr (.inr (.inl rfl))))).trans h.c3,(zzM (w:=W) (a:=Z b3 0 N) (hb _ (.inr (.inr (.inl rfl))))).trans h.z3,(zzJ (w:=W) (a:=Z b4 0 N) (hb _ (.inr (.inr (.inr rfl))))).trans h.c4,by have:=h.lt;omega,h.ne⟩
theorem TmC.below (h:TmC b1 b3 b4 bx bm bf u fi la n ev sq fd W) (hB:Bw W W'):TmC b1 b3 b4 bx bm bf u fi la n ev sq fd W':=
 h.keep hB.size (λ b hb=>hB.block b (by have:=h.lt;have:=h.fc.lt;omega))
theorem TmC.map (h:TmC b1 b3 b4 bx bm bf u fi la n ev sq fd W) (hE:Eff (λ b=>b=bm) W W'):TmC b1 b3 b4 bx bm bf u fi la n ev sq fd W':=
 h.keep hE.size (λ b hb=>hE.block b (by have:=h.lt;have:=h.fc.lt;omega) (zp h.ne))
theorem TmC.fst (h:TmC b1 b3 b4 bx bm bf u fi la n ev sq fd W) (ac:Option Nat):TmC b1 b3 b4 bx bm bf u fi la n ev sq ac (W.setCell (Z b3 0 N) (ybA ac)):=by
 have hE:Eff (λ b=>b=b3) W (W.setCell (Z b3 0 N) (ybA ac)):=(Eff.refl (λ b=>b=b3) W).set rfl _ _;have hl:=h.lt;have hn:=h.ne;exact ⟨h.fc.block hE.size (hE.block _ h.fc.lt hn.1.2.1),(hE.cell (p:=Z b1 0 N) hl.1 (λ e=>hn.2.1.1 (Zx e))).trans h.c1,zzW _ _ _ (by rw [h.c3]),by simpa [go_sem] using h.z3,(hE.cell (p:=Z b4 0 N) hl.2.2.1 (λ e=>hn.2.1.2.1 (Zx e))).trans h.c4,by have:=hE.size;omega,hn⟩
theorem TmC.face {u':Nat->Nat} {aF av n':Int} {aG au:Bool} (h:TmC b1 b3 b4 bx bm bf u fi la n ev sq fd W) (hE:Eff (λ b=>b=bf) W W') (hf:FcB bf u' aF av n' aG au W'):TmC b1 b3 b4 bx bm bf u' aF av n' aG au fd W':=by
 have hl:=h.lt;have hn:=h.ne;exact ⟨hf,(hE.cell (p:=Z b1 0 N) hl.1 (λ e=>hn.1.1 (Zx e))).trans h.c1,(hE.cell (p:=Z b3 0 N) hl.2.1 (λ e=>hn.1.2.1 (Zx e))).trans h.c3,(hE.frozen (p:=Z b3 0 N) hl.2.1 (λ e=>hn.1.2.1 (Zx e))).trans h.z3,(hE.cell (p:=Z b4 0 N) hl.2.2.1 (λ e=>hn.1.2.2.1 (Zx e))).trans h.c4,by have:=hE.size;omega,hn⟩
end
def Pf (ls:List (List Int)) (L:List Int):Prop:=ls≠ []/\(evB ls=true->L=ls.headD [])/\(sqA ls=true->sqB L=true)
def FdP (F M:Blk) (ls:List (List Int)) (fd:Option Nat) (W:World):Prop:=(ls= []/\fd=N)\/ ∃d q,fd=G d/\DiF W F M d q/\ls≠ []/\yak q=ls.headD []
theorem yfp (ls:List (List Int)) (L:List Int):evB (ls ++ [L])= (evB ls&&decide (L= (ls ++ [L]).headD [])):=by
 cases ls with
 | nil=>simp [evB]
 | cons L0 ls=>rw [yud];rfl
theorem yeM {ls:List (List Int)} (h:ls≠ []) (L:List Int):(ls ++ [L]).headD []=ls.headD []:=by
 cases ls with
 | nil=>exact absurd rfl h
 | cons L0 ls=>rfl
theorem ywc {ls:List (List Int)} (h:Pf ls L):evB (ls ++ [L])=evB ls/\sqA (ls ++ [L])=sqA ls:=by
 obtain ⟨h0,h1,h2⟩:=h;rw [yfp,ydW,yeM h0];constructor
 ·cases e:evB ls
  ·rfl
  ·rw [zzZ (h1 e)];rfl
 ·cases e:sqA ls
  ·rfl
  ·rw [h2 e];rfl
theorem yqm {ls:List (List Int)} (h:Pf ls L'):Pf (ls ++ [L]) L':=by
 obtain ⟨h0,h1,h2⟩:=h;refine ⟨by simp,λ e=>?_,λ e=>?_⟩
 ·rw [yeM h0];rw [yfp,zzX] at e;exact h1 e.1
 ·rw [ydW,zzX] at e;exact h2 e.1
theorem yx9 (ls:List (List Int)) (L:List Int):Pf (ls ++ [L]) L:=
 ⟨by simp,λ e=>by rw [yfp,zzX,zzY] at e;exact e.2,λ e=>by rw [ydW,zzX] at e;exact e.2⟩
theorem yx8 {ls:List (List Int)} (h1:evB ls=false) (h2:sqA ls=false):Pf (ls ++ [L]) L':=
 ⟨by simp,λ e=>(by rw [yfp,h1] at e;cases e),λ e=>(by rw [ydW,h2] at e;cases e)⟩
theorem FdP.keep {F':Blk} {ls:List (List Int)} {W':World} (h:FdP F M ls fd W) (hs:W.heap.size<=W'.heap.size) (hF:∀b,F b->F' b) (hb:∀b,F b/\¬M b->W'.heap[b]? =W.heap[b]?):FdP F' M ls fd W':=
 h.imp id λ ⟨d,q,h1,h2,h3⟩=>⟨d,q,h1,h2.keepI hs hF hb,h3⟩
theorem FdP.add {ls:List (List Int)} (h:DiF W F M d q) (L:List Int) (e:yak q= (ls ++ [L]).headD []):FdP F M (ls ++ [L]) (G d) W:=
 .inr ⟨d,q,rfl,h,by simp,e⟩
def yAe (a b:Value):Sem Value:=binOp .eql 84 a b
theorem yyN (a b:Value):binOp .eql 84 a b=yAe a b:=rfl
attribute [local go_sem ↓] yyN
theorem ywX (fd:Option Nat) (W:World):(yAe (ybA fd) (R N)).run I W= .ok (Xb fd.isNone) W:=by
 cases fd with
 | none=>kernel_rfl
 | some d=>kernel_rfl
theorem yuf (fd:Option Nat) (W:World):(eqGuard .eql 84 (.tmp 26) (.const (R N)) (ybA fd) (R N)).run I W= .ok () W:=by
 cases fd with
 | none=>kernel_rfl
 | some d=>kernel_rfl
theorem ymo {b1 b3 b4 bx bm bf:Nat} {u:Nat->Nat} {fi la n:Int} {ls:List (List Int)} (h:TmC b1 b3 b4 bx bm bf u fi la n (evB ls) (sqA ls) fd W)
  (hf:FdP F M ls fd W) (hR:FrW bx bm F M (Pf ls) W) (hF:∀b,F b->b≠bf/\b≠b3/\b≠bx/\b≠bm/\b<W.heap.size) (hd:DiF W F M d q) (hT:Tab W) (aC:F 0) :
  H I 80 #[R (G (Z d 0 N)),R (G (Z b1 0 N)),R (G (Z b4 0 N)),R (G (Z b3 0 N))] W λ e W'=>(∃v,e=Q v)/\
   (∃ac,TmC b1 b3 b4 bx bm bf u fi la n (evB (ls ++ [yak q])) (sqA (ls ++ [yak q])) ac W'/\FdP F M (ls ++ [yak q]) ac W'/\FrW bx bm F M (Pf (ls ++ [yak q])) W')/\Eff (λ b=>b=bf\/ b=b3\/ b=bm) W W':=by
 have cI:=hid (yho hR (λ h=>(hF _ h).2.2.1 rfl) (λ h=>(hF _ h).2.2.2.1 rfl) (λ e=>h.ne.2.2.2.2 e.symm) h.lt.2.2.2.1 (λ b hb=>(hF b hb).2.2.2.2) hd);have HK:Hid (∀W',Eff (λ b=>b=bf\/ b=b3\/ b=bm) W W'->DiF W' F M d q/\FdP F M ls fd W'/\Tab W'):=λ W' hE=>
  have hb:∀b,F b/\¬M b->W'.heap[b]? =W.heap[b]?:=λ b hb=>hE.block b (hF b hb.1).2.2.2.2 (zp (hF b hb.1))
  ⟨hd.keepI hE.size zi hb,hf.keep hE.size zi hb,hT.eff hE (zp (hF _ aC))⟩
 have aS:Hid (∀P W1 W2,FrW bx bm F M P W1->W.heap.size<=W1.heap.size->Eff (λ b=>b=bf\/ b=b3) W1 W2->FrW bx bm F M P W2):=λ P W1 W2 hr hs hE=>
  hr.keep hE.size zi (λ b hb=>hE.block b (zH (hF b hb.1).2.2.2.2 hs) (zp (hF b hb.1))) (hE.block _ (zH h.lt.2.2.2.1 hs) (zp h.ne)) (hE.block _ (zH h.lt.2.2.2.2 hs) (zp h.ne))
 have aI:=hid hF;have HH:=hid h;have HR:=hid hR;have aJ:=hid hf;have c1:=h.c1;have c3:=h.c3;have c4:=h.c4;have ah:=h.fc.c49;have ad:=h.fc.c50;obtain ⟨ev,ai⟩:=zx (evB ls);obtain ⟨sq,an⟩:=zx (sqA ls);rw [ai] at ah HH;rw [an] at ad HH;generalize hL:yak q=L at cI⊢
 have HE:=hid (Ya ai (Ya an hL));clear h hf hR hF hd hT ai an hL aC;go_enter Tryz.func80,Tryz.ntmps80
 by_cases aa:ev=false/\sq=false
 ·obtain ⟨rfl,rfl⟩:=aa;have HD:Hid (evB (ls ++ [L])=false/\sqA (ls ++ [L])=false/\∀L',Pf (ls ++ [L]) L'):=⟨by rw [yfp,HE.1];rfl,by rw [ydW,HE.2.1];rfl,λ L'=>yx8 HE.1 HE.2.1⟩;have aT:Hid (FdP F M (ls ++ [L]) fd W):=by
   rcases aJ.out with ⟨rfl,-⟩ | ⟨d0,q0,h1,h2,h3,h4⟩
   ·have:=HE.1;cases this
   ·exact .inr ⟨d0,q0,h1,h2,by simp,by rw [yeM h3];exact h4⟩
  clear c3 c4 cI;go_wp2;refine Yh (YO rfl _ _ _) rfl ?_;exact ⟨⟨_,rfl⟩,⟨fd,by rw [HD.1,HD.2.1];exact HH,aT,HR.mono (λ L' _=>HD.2.2 L')⟩,Eff.refl _ _⟩
 ·have HO:=hid aa;go_upto_region 0 with fail
  go_cut [25] from 8 (λ v wx=>Hid ((v=Xb true/\Pf ls L/\FrW bx bm F M (Pf ls) wx/\Eff (λ b=>b=bm) W wx)\/ (v=Xb false/\FrW bx bm F M (λ L'=>Pf ls L'\/ L' =L) wx/\Eff (λ b=>b=bm) W wx)))
  case first=>
   cases ev
   ·cases sq
    ·exact absurd ⟨rfl,rfl⟩ aa
    ·clear aa;go_wp2_with fail
     refine cI.mono ?_;rintro e w1 ⟨⟨rfl,hP,hr⟩ | ⟨rfl,hr⟩,hE⟩
     ·have HN:Hid (Pf ls L/\FrW bx bm F M (Pf ls) w1/\Eff (λ b=>b=bm) W w1):=⟨hP,hr,hE⟩;clear hP hr hE cI;go_wp2;go_meet;exact .inl ⟨rfl,HN⟩
     ·have HN:Hid (FrW bx bm F M (λ L'=>Pf ls L'\/ L' =L) w1/\Eff (λ b=>b=bm) W w1):=⟨hr,hE⟩;clear hr hE cI;go_wp2;go_meet;exact .inr ⟨rfl,HN⟩
   ·clear aa;go_wp2_with fail
    refine cI.mono ?_;rintro e w1 ⟨⟨rfl,hP,hr⟩ | ⟨rfl,hr⟩,hE⟩
    ·have HN:Hid (Pf ls L/\FrW bx bm F M (Pf ls) w1/\Eff (λ b=>b=bm) W w1):=⟨hP,hr,hE⟩;clear hP hr hE cI;go_wp2;go_meet;exact .inl ⟨rfl,HN⟩
    ·have HN:Hid (FrW bx bm F M (λ L'=>Pf ls L'\/ L' =L) w1/\Eff (λ b=>b=bm) W w1):=⟨hr,hE⟩;clear hr hE cI;go_wp2;go_meet;exact .inr ⟨rfl,HN⟩
  case rest=>
   rcases hcut.out with ⟨rfl,hP,hr,hE⟩ | ⟨rfl,hr,hE⟩
   ·have hx:=ywc (L:=L) hP;rw [HE.1,HE.2.1] at hx;have HN:Hid (TmC b1 b3 b4 bx bm bf u fi la n (evB (ls ++ [L])) (sqA (ls ++ [L])) fd wc/\FdP F M (ls ++ [L]) fd wc/\FrW bx bm F M (Pf (ls ++ [L])) wc):=by
     refine ⟨by rw [hx.1,hx.2];exact HH.map hE,?_,hr.mono (λ L' h=>yqm h)⟩;rcases (HK wc (hE.wide (λ b hb=> .inr (.inr hb)))).2.1 with ⟨e,-⟩ | ⟨d0,q0,h1,h2,h3,h4⟩
     ·exact absurd e hP.1
     ·exact .inr ⟨d0,q0,h1,h2,by simp,by rw [yeM h3];exact h4⟩
    have aU:=hid hE;clear hx hP hr hE hcut cI c1 c3 c4 ah ad aa;go_wp2;refine Yh (YO rfl _ _ _) rfl ?_;exact ⟨⟨_,rfl⟩,⟨fd,HN⟩,aU.wide (λ b hb=> .inr (.inr hb))⟩
   ·have aH:=hid hr;have E1:=hid hE;have H1:=hid (HH.map hE);generalize aN:wc=w1 at aH E1 H1⊢
    clear hr hE hcut cI c1 c3 c4 ah ad aa aN HR;have c3:=H1.c3;have aD:=ywX fd w1;have aE:=yuf fd w1;go_upto_region 1 with fail
    iterate 10 go_step
    (try dsimp only);go_cut [27] from 28 (λ _ wx=>Hid (∃d1 q1,TmC b1 b3 b4 bx bm bf u fi la n ev sq (G d1) wx/\DiF wx F M d1 q1/\yak q1= (ls ++ [L]).headD []/\Eff (λ b=>b=b3) w1 wx))
    case first=>
     clear aD aE;cases fd with
     | none=>
       have z3:=H1.z3;have HN:Hid (TmC b1 b3 b4 bx bm bf u fi la n ev sq (G d) (w1.setCell (Z b3 0 N) (ybA (G d)))/\Eff (λ b=>b=b3) w1 (w1.setCell (Z b3 0 N) (ybA (G d)))):=⟨H1.fst (G d),(Eff.refl (λ b=>b=b3) w1).set rfl _ _⟩;have aO:Hid (ls= []):=(by rcases aJ.out with ⟨e,-⟩ | ⟨d0,q0,h1,-⟩;exact e;cases h1);replace c3:w1.cell? (Z b3 0 N)=G (R N):=c3;simp only [Option.isNone_none];go_wp2;go_meet;refine ⟨d,q,HN.1,(HK _ ((E1.wide (λ b hb=> .inr (.inr hb))).trans HN.2 (λ b hb=> .inl (.inr (.inl hb))))).1,?_,HN.2⟩;rw [aO,HE.2.2];rfl
     | some d1=>
       simp only [Option.isNone_some];clear c3;go_wp2;go_meet;rcases (HK w1 (E1.wide (λ b hb=> .inr (.inr hb)))).2.1 with ⟨-,e⟩ | ⟨d0,q0,h1,h2,h3,h4⟩
       ·cases e
       ·cases h1;exact ⟨d1,q0,H1,h2,by rw [yeM h3];exact h4,Eff.refl _ _⟩
    case rest=>
     obtain ⟨d1,q1,h2,ap,ao,aq⟩:=hcut.out;have H2:=hid h2;have E2:Hid (Eff (λ b=>b=bf\/ b=b3) w1 wc):=aq.wide (λ b hb=> .inr hb);have am:Hid (Eff (λ b=>b=bf\/ b=b3\/ b=bm) W wc):=(E1.wide (λ b hb=> .inr (.inr hb))).trans aq (λ b hb=> .inl (.inr (.inl hb)));obtain ⟨ae,-,ag⟩:=HK wc am;have cE:=hid (yu7 d1 d q1 q wc.drew (ag.later (Ye _ _).drew) ap.2.2 ae.2.2);have aK:=hid ap;have Hh:=hid ao;rw [HE.2.2,ao] at cE;generalize aM:wc=w2 at H2 E2 am cE aK⊢
     obtain ⟨g,hg⟩:=zx (decide (L= (ls ++ [L]).headD []));rw [hg] at cE;have HG:=hid hg;clear h2 ap ao aq ae ag hcut aM c3 aD aE hg;go_upto_region 3 with fail
     go_cut [] from 29 (λ wx=>Hid (TmC b1 b3 b4 bx bm bf u fi la n (ev&&g) sq (G d1) wx/\Eff (λ b=>b=bf) w2 wx))
     case first=>
      have hS:Hid (w2.drew.cell? (Z b1 0 N)=G (R (G (Z bf 0 N)))/\w2.drew.cell? (Z bf 49 N)=G (Xb ev)/\w2.drew.cell? (Z b3 0 N)=G (R (G (Z d1 0 N)))):=⟨H2.c1,H2.fc.c49,H2.c3⟩;have HN:Hid (TmC b1 b3 b4 bx bm bf u fi la n (ev&&g) sq (G d1) (w2.drew.setCell (Z bf 49 N) (Xb (ev&&g)))/\Eff (λ b=>b=bf) w2 (w2.drew.setCell (Z bf 49 N) (Xb (ev&&g)))):=
       have hE:=((Eff.of_below (O:=λ b=>b=bf) (Ye w2.heap.size w2).drew).set rfl 49 (Xb (ev&&g)))
       ⟨H2.face hE ((H2.fc.block (W':=w2.drew) zg rfl).set49 (ev&&g)),hE⟩
      have hz:Hid (w2.drew.frozen? (Z bf 49 N)=false):=H2.fc.z 49;refine ysJ [12] (S:=λ W=>Hid (W.cell? (Z b1 0 N)=G (R (G (Z bf 0 N)))/\W.cell? (Z bf 49 N)=G (Xb ev)/\W.cell? (Z b3 0 N)=G (R (G (Z d1 0 N))))) zk hS (λ ab=>?_);cases ev;focus
       refine zfA 0 ?_;refine zfA 1 ?_;refine zfA 2 ?_;refine zfA 3 ?_;refine zfA 4 ?_;refine zfA 5 ?_;refine zfS 6 ?_;refine zfS 7 ?_;refine rgS 8 ?_
      rotate_left;focus
       refine zfA 0 ?_;refine zfA 1 ?_;refine zfA 2 ?_;refine zfA 3 ?_;refine zfA 4 ?_;refine zfA 5 ?_;refine zfA 6 ?_;refine zfE 7 ?_;refine rgO 8 (λ K hK=>?_);rw [Yd (by rfl)];go_simp;refine zm cE ?_;rintro w3 rfl;refine hK _ _ (λ _=>hS) ?_;clear hK
      rotate_left;all_goals
       refine zfE 9 ?_;refine zfE 10 (U:= [10,11,12]) ?_;refine zfE 11 (U:= [11,12]) ?_;have ah:=hS.2.1;have z49:=hz.out;refine rgO 12 (λ K hK=>?_);rw [Yd (by rfl)];go_simp;refine hK _ _ (λ h=>absurd h zd) ?_;clear hK;refine OrdF.done zk ?_ _;clear ab hS hz ah z49 cE;go_wp2;go_meet;exact HN
     case rest=>
      obtain ⟨h3,ak⟩:=hcut.out;have aj:=hid ak;have aV:Hid (∀W',Eff (λ b=>b=bf\/ b=b3\/ b=bm) W W'->Eff (λ b=>b=bf) w2 W'->DiF W' F M d1 q1):=λ W' _ hE=>aK.keepI hE.size zi (λ b hb=>hE.block b (zH (aI b hb.1).2.2.2.2 am.size) (aI b hb.1).1);have H3:=hid h3;have E3:Hid (Eff (λ b=>b=bf\/ b=b3) w1 wc):=E2.trans ak (λ b hb=> .inl (.inl hb));have ar:Hid (Eff (λ b=>b=bf\/ b=b3\/ b=bm) W wc):=am.trans ak (λ b hb=> .inl (.inl hb));generalize aL:wc=w3 at H3 E3 ar aj⊢
      have ai:Hid (evB (ls ++ [L])= (ev&&g)):=(by show _ = _;rw [yfp,HE.1,HG]);have af:Hid (∀W',Eff (λ b=>b=bf) w3 W'->TmC b1 b3 b4 bx bm bf u fi la n (ev&&g) (sq&&sqB L) (G d1) W'->(∃ac,TmC b1 b3 b4 bx bm bf u fi la n (evB (ls ++ [L])) (sqA (ls ++ [L])) ac W'/\FdP F M (ls ++ [L]) ac W'/\FrW bx bm F M (Pf (ls ++ [L])) W')/\Eff (λ b=>b=bf\/ b=b3\/ b=bm) W W'):=λ W' hE hT=>by
       have e1:=ar.trans hE (λ b hb=> .inl (.inl hb));have e2:Eff (λ b=>b=bf\/ b=b3) w1 W':=E3.trans hE (λ b hb=> .inl (.inl hb));have e3:Eff (λ b=>b=bf) w2 W':=aj.trans hE (λ b hb=> .inl hb);refine ⟨⟨G d1,by rw [ai,ydW,HE.2.1];exact hT,FdP.add ?_ L Hh,(aS _ _ _ aH E1.size e2).mono (λ L' h=>h.elim yqm (λ h=>h ▸ yx9 ls L'))⟩,e1⟩;exact aV W' e1 e3
      clear h3 ak hcut aL cE;have c1:=H3.c1;have ad:=H3.fc.c50;cases sq
      ·go_wp2;refine bodyPost_end (YO rfl _ _ _) rfl ?_;exact ⟨⟨_,rfl⟩,af _ (Eff.refl _ _) H3⟩
      ·obtain ⟨ae,-,ag⟩:=HK w3 ar;have cT:=hid (yir d q w3 ag ae.2.2);rw [HE.2.2] at cT;have aP:Hid (∀W2,Bw w3 W2->Tab W2/\DiscAt W2 d q):=λ W2 hB=>⟨ag.later hB,ae.2.2.below hB ae.2.2.lt⟩;have cL:=hid (λ W=>yuO (ofM (hrL L)) (ofM (mnL L)) (ofM (scL L)) W (yaG _) (yaG _) (yaG _));rw [yoe] at cL;have cD:=hid (λ W (h:DiscAt W d q)=>ykV (G d) q W h);rw [HE.2.2] at cD;have HQ:Hid (sqB L=decide ((ycC (ofM (hrL L)) (ofM (mnL L)) (ofM (scL L))).length=L.length)):=rfl;obtain ⟨A,hA⟩:=zx ((ycC (ofM (hrL L)) (ofM (mnL L)) (ofM (scL L))).length);obtain ⟨x2,aw⟩:=zx (ofM (hrL L));obtain ⟨x1,ax⟩:=zx (ofM (mnL L));obtain ⟨x0,ay⟩:=zx (ofM (scL L));rw [hA] at cL HQ;rw [aw,ax,ay] at cT cL;obtain ⟨Nq,hN⟩:=zx L.length;rw [hN] at cD HQ;obtain ⟨g2,aA⟩:=zx (sqB L);rw [aA] at HQ af;have aW:((A:Int)==(Nq:Int))=g2:=by
        rw [HQ];by_cases e:A=Nq
        ·rw [e];simp
        ·rw [zzd e];simp;omega
       clear ae ag hA aw ax ay hN aA;go_wp2_with fail
       refine zm cT ?_;rintro w4 al;have H4:=hid (H3.below al);have E4:Hid (Eff (λ b=>b=bf) w3 w4):=Eff.of_below al;obtain ⟨-,aB⟩:=aP w4 al;have aQ:=hid (cL w4.drew);have aR:=hid (cD w4.drew aB);have hS:Hid (w4.drew.cell? (Z b1 0 N)=G (R (G (Z bf 0 N)))/\w4.drew.cell? (Z bf 50 N)=G (Xb true)):=⟨H4.c1,H4.fc.c50⟩;have HN:Hid (TmC b1 b3 b4 bx bm bf u fi la n (ev&&g) g2 (G d1) (w4.drew.setCell (Z bf 50 N) (Xb g2))/\Eff (λ b=>b=bf) w3 (w4.drew.setCell (Z bf 50 N) (Xb g2))):=
        have hE:=((Eff.of_below (O:=λ b=>b=bf) (Ye w4.heap.size w4).drew).set rfl 50 (Xb g2))
        ⟨H4.face hE ((H4.fc.block (W':=w4.drew) zg rfl).set50 g2),E4.trans hE (λ b hb=> .inl hb)⟩
       have hz:Hid (w4.drew.frozen? (Z bf 50 N)=false):=H4.fc.z 50;clear al cT c1 ad aB;go_upto_region 6 with fail
       refine ysJ [16] (S:=λ W=>Hid (W.cell? (Z b1 0 N)=G (R (G (Z bf 0 N)))/\W.cell? (Z bf 50 N)=G (Xb true))) zk hS (λ ab=>?_);refine zfA 0 ?_;refine zfA 1 ?_;refine zfA 2 ?_;refine zfA 3 ?_;refine zfA 4 ?_;refine zfA 5 ?_;refine zfA 6 ?_;refine zfA 7 ?_;refine zfA 8 ?_;refine zfA 10 ?_;refine rgO 9 (λ K hK=>?_);rw [Yd (by rfl)];go_simp;refine zm aQ ?_;rintro w5 rfl;refine hK _ _ (λ _=>hS) ?_;clear hK;refine rgO 11 (λ K hK=>?_);rw [Yd (by rfl)];go_simp;refine zm aR ?_;rintro w5 rfl;refine hK _ _ (λ _=>hS) ?_;clear hK;refine zfE 12 ?_;refine zfE 13 ?_;refine zfE 14 (U:= [14,15,16]) ?_;refine zfE 15 (U:= [15,16]) ?_;have ad:=hS.2;have z50:=hz.out;refine rgO 16 (λ K hK=>?_);rw [Yd (by rfl)];go_simp;refine hK _ _ (λ h=>absurd h zd) ?_;clear hK ad z50;refine OrdF.done zk ?_ _;clear ab hS hz;go_wp2;refine bodyPost_end (YO rfl _ _ _) rfl ?_;exact ⟨⟨_,rfl⟩,af _ HN.2 HN.1⟩
end
section
variable {ev sq:Bool} {fi la:Int} {bf bx i k n:Nat} {s:Nat->Int} {u:Nat->Nat} {W w:World}
def dtU (s:Nat->Int) (u:Nat->Nat) (k i:Nat):Nat:=if i<k then dyU s u i else u i
theorem yvE (h:k<=i):dtU s u k i=u i:=by rw [dtU,Yb zo]
theorem yjh (i:Nat):dtU s u (k+1) i=if i=k then dyU s u k else dtU s u k i:=by
 rw [dtU,dtU];by_cases e:i=k
 ·subst e;rw [Yd zo,Yd rfl]
 ·rw [Yb e];by_cases e2:i<k
  ·rw [Yd zo,Yd e2]
  ·rw [Yb zo,Yb e2]
theorem yeO {j:Nat} (hj:j<n) (ho:∀i,k<=i->i<k+n->i≠k+j->dyU s u i=u i) (i:Nat):dtU s u (k+n) i=if i=k+j then dyU s u (k+j) else dtU s u k i:=by
 rw [dtU,dtU];by_cases e:i=k+j
 ·subst e;rw [Yd zo,Yd rfl]
 ·rw [Yb e];by_cases e2:i<k
  ·rw [Yd zo,Yd e2]
  ·rw [Yb e2];by_cases e3:i<k+n
   ·rw [Yd e3];exact ho i zo e3 e
   ·rw [Yb e3]
theorem yuh (h:s 5= (k:Int)) (hk:k<8):dyU s u (14+k)=u (14+k)|||ofM [s 6]/\dyU s u (22+k)=u (22+k)|||ofM [s 7]/\dyU s u (30+k)=u (30+k)|||ofM [s 8]/\dyU s u (38+k)=u (38+k)|||ofM [s 9]:=by
 refine ⟨?_,?_,?_,?_⟩
 ·rw [dyU,Yb zo,Yb zo,Yb zo,Yd zo,Yd (by rw [h];omega)]
 ·rw [dyU,Yb zo,Yb zo,Yb zo,Yb zo,Yd zo,Yd (by rw [h];omega)]
 ·rw [dyU,Yb zo,Yb zo,Yb zo,Yb zo,Yb zo,Yd zo,Yd (by rw [h];omega)]
 ·rw [dyU,Yb zo,Yb zo,Yb zo,Yb zo,Yb zo,Yb zo,Yd (by rw [h];omega)]
theorem ynw (h:s 5= (k:Int)) (h0:14<=i) (h1:i<46) (n1:i≠14+k) (n2:i≠22+k) (n3:i≠30+k) (n4:i≠38+k):dyU s u i=u i:=by
 rw [dyU,Yb zo,Yb zo,Yb zo];split
 ·rw [Yb (by rw [h];omega)]
 ·split
  ·rw [Yb (by rw [h];omega)]
  ·split
   ·rw [Yb (by rw [h];omega)]
   ·rw [Yb (by rw [h];omega)]
theorem yzR (h:s 1-1970= (n:Int)) (hn:n<400):dyU s u (7+n/64)=u (7+n/64)|||2 ^ (n%64):=by
 rw [dyU,Yb zo,Yb zo,Yd zo,h,YL,Yd zo]
theorem yyP (h:s 1-1970= (n:Int)) (h0:7<=i) (h1:i<14) (hi:i≠7+n/64):dyU s u i=u i:=by
 rw [dyU,Yb zo,Yb zo,Yd zo,h,YL,Yb zo]
structure ShX (b:Nat) (s:Nat->Int) (W:World):Prop where
 c:∀i,i<10->W.cell? (Z b i N)=G (E T (s i))
 lt:b<W.heap.size
theorem ShX.block {b:Nat} {W':World} (h:ShX b s W) (hs:W.heap.size<=W'.heap.size) (hb:W'.heap[b]? =W.heap[b]?):ShX b s W':=
 ⟨λ i hi=>(zzJ (w:=W) (a:=Z b i N) hb).trans (h.c i hi),zH h.lt hs⟩
structure DtI (w:World) (bf bx:Nat) (s:Nat->Int) (u:Nat->Nat) (fi la n:Int) (ev sq:Bool) (W:World):Prop where
 f:FcB bf u fi la n ev sq W
 x:ShX bx s W
 e:Eff (λ b=>b=bf) w W
theorem DtI.step {n:Int} {W2:World} (h:DtI w bf bx s u fi la n ev sq W) (ao:bx≠bf) (hB:Bw W W2) (hk:k<46) (v:Nat) {u':Nat->Nat} (e:∀i,u' i=if i=k then v else u i) :
  DtI w bf bx s u' fi la n ev sq (W2.setCell (Z bf k N) (E Y (v:Nat))):=by
 have hf:=(h.f.block hB.size (hB.block _ h.f.lt)).set hk v (u':=u') (λ i _=>e i);have he:Eff (λ b=>b=bf) W2 (W2.setCell (Z bf k N) (E Y (v:Nat))):=(Eff.refl (λ b=>b=bf) W2).set rfl _ _;have hx:=h.x.block hB.size (hB.block _ h.x.lt);exact ⟨hf,hx.block he.size (he.block _ hx.lt ao),(h.e.trans (Eff.of_below (O:=λ b=>b=bf) hB) (λ _ h=> .inl h)).trans he (λ _ h=> .inl h)⟩
theorem yuY (x:Int) (W:World) (t:TypeId):H I 92 #[Xs (G (Z W.heap.size 0 N)) 1 1] (W.alloc (J #[E T x] t)).drew λ e w'=>e=Q (E Y (ofM [x]))/\Bw W w':=by
 have hb:Bw W (W.alloc (J #[E T x] t)):=yaa (Ye _ _) zg;have hd:Below (W.alloc (J #[E T x] t)).heap.size (W.alloc (J #[E T x] t)) (W.alloc (J #[E T x] t)).drew:=(Ye _ _).drew;exact (yev (G (Z W.heap.size 0 N)) 1 [x] (W.alloc (J #[E T x] t)).drew zs ((ybV (yap W [E T x] t) zs).below hd)).mono λ e w' ⟨he,h⟩=>⟨he,(zu hb hd).trans (h.mono (zI hb.size hd.size))⟩
abbrev DtC (bf kx bx j k5 U0:Nat) (x:Int) (W:World):Prop:=Hid (W.cell? (Z bf kx N)=G (E Y (U0:Nat))/\W.cell? (Z bx j N)=G (E T x)/\W.cell? (Z bx 5 N)=G (E T k5))
theorem yfR {k5:Nat} {n:Int} (HI:Hid (DtI w bf bx s (dtU s u k) fi la n ev sq W)) (ao:Hid (bx≠bf)) (Hu:Hid (∀i,i<46->u i<18446744073709551616)) (H5:Hid (s 5= (k5:Int))) (kx j k':Nat) (h:k<=kx/\kx<46/\j<10) (hs:∀i,dtU s u k' i=if i=kx then u kx|||ofM [s j] else dtU s u k i) :
  ∃(U0 V0:Nat) (x:Int),Hid (bits .or Y (U0:Int) ((V0:Nat):Int)= ((U0|||V0:Nat):Int))/\
   Hid (∀W2,Bw W W2->DtI w bf bx s (dtU s u k') fi la n ev sq (W2.setCell (Z bf kx N) (E Y ((U0|||V0:Nat):Int))))/\
   Hid (∀W2,Bw W W2->W2.frozen? (Z bf kx N)=false)/\
   Hid (H I 92 #[Xs (G (Z W.heap.size 0 N)) 1 1] (W.alloc (J #[E T x] 3)).drew λ e w'=>e=Q (E Y (V0:Nat))/\Bw W w')/\
   Hid (∀W2,Bw W W2->DtC bf kx bx j k5 U0 x W2):=by
 obtain ⟨hf,hx,he⟩:=HI.out;have c0:=hf.c kx h.2.1;rw [yvE h.1] at c0;have x5:=hx.c 5 zo;rw [H5] at x5;exact ⟨u kx,ofM [s j],s j,ybD (Hu kx h.2.1) (yaG _),λ W2 hB=>HI.step ao hB h.2.1 _ hs,λ W2 hB=>(hB.frozen (p:=Z bf kx N) hf.lt).trans (hf.z kx),yuY (s j) W _,
  λ W2 hB=>⟨(hB.cell (p:=Z bf kx N) hf.lt).trans c0,(hB.cell (p:=Z bx j N) hx.lt).trans (hx.c j h.2.2),(hB.cell (p:=Z bx 5 N) hx.lt).trans x5⟩⟩
theorem ypl (s:Nat->Int) (h:FcB bf u fi la n ev sq w) (hu:∀i,i<46->u i<18446744073709551616) (hy:1970<=s 1/\s 1<2370) (hw:0<=s 5/\s 5<8) (hn:n<1000000) :
  H I 35 #[R (G (Z bf 0 N)),shq s] w λ e w'=>(∃v,e=Q v)/\FcB bf (dyU s u) fi la ((n+1:Nat):Int) ev sq w'/\Eff (λ b=>b=bf) w w':=by
 obtain ⟨W1,ak⟩:=zx (w.alloc (J #[E T (s 0),E T (s 1),E T (s 2),E T (s 3),E T (s 4),E T (s 5),E T (s 6),E T (s 7),E T (s 8),E T (s 9)] 83));have al:Bw w W1:=by rw [<- ak];exact yaa (Ye _ _) zg
 have s1:W1.heap.size=w.heap.size+1:=by rw [<- ak];simp
 have hI:Hid (DtI w bf w.heap.size s (dtU s u 3) fi la n ev sq W1):=by
  refine ⟨(h.block al.size (al.block _ h.lt)).as (λ i _=>by rw [dtU,dyU];split <;> rfl),⟨λ i hi=>?_,by omega⟩,Eff.of_below al⟩;have ap:i=0\/ i=1\/ i=2\/ i=3\/ i=4\/ i=5\/ i=6\/ i=7\/ i=8\/ i=9:=zo;rw [<- ak];rcases ap with rfl | rfl | rfl | rfl | rfl | rfl | rfl | rfl | rfl | rfl <;> simp [go_sem]
 have hlt:bf<w.heap.size:=h.lt;obtain ⟨bx,aq⟩:=zx w.heap.size;have ae:Hid (bx≠bf):=by show _≠_;omega
 rw [aq] at hI;have aE:=hid aq;have HI:=hI;have aF:=hid ak;have Hu:=hid hu;obtain ⟨k5,aw⟩:∃k:Nat,s 5= (k:Int):=⟨(s 5).toNat,by omega⟩;obtain ⟨ny,an⟩:∃k:Nat,s 1-1970= (k:Int):=⟨(s 1-1970).toNat,by omega⟩;have H5:=hid aw;have au:=hid an;have aD:(k5:Int)<8:=zo;have aa:k5<8:=zo;have aC:(ny:Int)<400:=zo;have am:ny<400:=zo;clear h hu ak al s1 hI aq hlt aw an hw hy;unfold shq;go_enter Tryz.func35,Tryz.ntmps35
 go_upto_region 1 with fail
 rw [aF,aE];focus go_cut [] from 5 to 16 (λ wx=>Hid (DtI w bf bx s (dtU s u 4) fi la n ev sq wx))
 case' first=>obtain ⟨U0,V0,x,ad,HN,hz,ac,hC⟩:=yfR HI ae Hu H5 (3) 2 4 zo (λ i=>by rw [yjh,show dyU s u 3=u 3|||ofM [s 2] from rfl])
 rotate_left;go_upto_region 2 with fail
 focus go_cut [] from 16 to 27 (λ wx=>Hid (DtI w bf bx s (dtU s u 5) fi la n ev sq wx))
 case' first=>obtain ⟨U0,V0,x,ad,HN,hz,ac,hC⟩:=yfR hcut ae Hu H5 (4) 3 5 zo (λ i=>by rw [yjh,show dyU s u 4=u 4|||ofM [s 3] from rfl])
 rotate_left;go_upto_region 3 with fail
 focus go_cut [] from 27 to 38 (λ wx=>Hid (DtI w bf bx s (dtU s u 6) fi la n ev sq wx))
 case' first=>obtain ⟨U0,V0,x,ad,HN,hz,ac,hC⟩:=yfR hcut ae Hu H5 (5) 4 6 zo (λ i=>by rw [yjh,show dyU s u 5=u 5|||ofM [s 4] from rfl])
 rotate_left;go_upto_region 4 with fail
 focus go_cut [] from 38 to 49 (λ wx=>Hid (DtI w bf bx s (dtU s u 7) fi la n ev sq wx))
 case' first=>obtain ⟨U0,V0,x,ad,HN,hz,ac,hC⟩:=yfR hcut ae Hu H5 (6) 5 7 zo (λ i=>by rw [yjh,show dyU s u 6=u 6|||ofM [s 5] from rfl])
 rotate_left;obtain ⟨hf,hx,he⟩:=hcut.out;have x1:=hx.c 1 zo;have an:IntKind.i64.wrap (s 1-1970)= (ny:Int):=by rw [au];exact Yn _ zo
 clear hf hx he;go_upto_region 6 with fail
 focus go_cut [4] from 52 to 66 (λ n4 wx=>n4=E T (ny:Nat)/\Hid (DtI w bf bx s (dtU s u 14) fi la n ev sq wx))
 case first=>
  obtain ⟨hf,hx,he⟩:=hcut.out;obtain ⟨q,hq⟩:=zx (ny/64);obtain ⟨m,hm⟩:=zx (ny%64);have aA:q<7:=zo;have aj:m<64:=zo;have c0:=hf.c (7+q) zo;rw [yvE zo] at c0;have ai:bits .or Y (u (7+q):Int) ((2 ^ m:Nat):Int)= ((u (7+q)|||2 ^ m:Nat):Int):=ybD (Hu (7+q) zo) (ycD aj);have HN:Hid (DtI w bf bx s (dtU s u 14) fi la n ev sq (wc.drew.setCell (Z bf (7+q) N) (E Y ((u (7+q)|||2 ^ m:Nat):Int)))):=hcut.step ae (Ye _ _).drew (k:=7+q) zo _ (λ i=>(yeO (k:=7) (n:=7) (j:=q) aA (λ i h1 h2 h3=>yyP au h1 h2 zo) i).trans (by rw [<- hq,yzR au am,hq,hm]));have aP:=hf.lt;have z7:wc.drew.frozen? (Z bf (7+q) N)=false:=hf.z (7+q);obtain ⟨U0,ax⟩:=zx (u (7+q));rw [ax] at c0 ai HN;have hC:Hid (wc.drew.cell? (Z bf (7+q) N)=G (E Y (U0:Nat))):=c0;have aB:bits .or Y (U0:Int) ((2:Int) ^ m)= ((U0|||2 ^ m:Nat):Int):=by have h:=ai;rw [Int.natCast_pow] at h;exact h
  have aI:IntKind.i64.wrap (Int.tdiv (ny:Int) 64)= (q:Int):=by rw [Int.tdiv_eq_ediv_of_nonneg zo];exact (Yn _ zo).trans zo
  have aN:IntKind.i64.wrap (Int.tmod (ny:Int) 64)= (m:Int):=by rw [Int.tmod_eq_emod_of_nonneg zo];exact (Yn _ zo).trans zo
  have aM:Int.tmod (ny:Int) 64= (m:Int):=by rw [Int.tmod_eq_emod_of_nonneg zo];omega
  have aH:IntKind.i64.wrap ((ny:Int)/64)= (q:Int):=(Yn _ zo).trans zo;have aL:IntKind.i64.wrap ((ny:Int)%64)= (m:Int):=(Yn _ zo).trans zo;have aK:(ny:Int)%64= (m:Int):=zo;have ay:=yb9 aj;have aJ:(0:Int)<=(q:Int):=zo;have az:(q:Int)<7:=zo;have aO:¬(m:Int)<0:=zo;have av:(m:Int)<64:=zo;clear hf hx he ax c0 hq hm hcut;refine ysJ [14] (S:=λ W=>Hid (W.cell? (Z bf (7+q) N)=G (E Y (U0:Nat)))) zk hC (λ ab=>?_);refine zfA 0 ?_;refine zfA 1 ?_;refine zfA 2 ?_;refine zfA 3 ?_;refine zfA 4 ?_;refine zfA 5 ?_;refine zfA 6 ?_;refine zfA 7 ?_;refine zfA 8 ?_;refine zfA 9 ?_;refine zfA 10 ?_;refine rgO 11 (λ K hK=>?_);rw [Yd (by rfl)];go_simp;refine hK _ _ (λ _=>hC) ?_;clear hK;refine rgO 12 (λ K hK=>?_);rw [Yd (by rfl)];go_simp;refine hK _ _ (λ _=>hC) ?_;clear hK;refine rgO 13 (λ K hK=>?_);rw [Yd (by rfl)];go_simp;refine hK _ _ (λ _=>hC) ?_;clear hK;have c7:=hC.out;refine rgO 14 (λ K hK=>?_);rw [Yd (by rfl)];go_simp;refine hK _ _ (λ h=>absurd h zd) ?_;clear hK;refine OrdF.done zk ?_ _;clear ai hC ay c7 z7 ab;go_wp2;go_meet;exact ⟨rfl,HN⟩
 obtain ⟨rfl,hcut⟩:=hcut;go_upto_region 7 with fail
 focus go_cut [] from 66 to 81 (λ wx=>Hid (DtI w bf bx s (dtU s u 22) fi la n ev sq wx))
 case' first=>obtain ⟨U0,V0,x,ad,HN,hz,ac,hC⟩:=yfR hcut ae Hu H5 (14+k5) 6 22 zo (λ i=>(yeO (k:=14) (n:=8) (j:=k5) aa (λ i h1 h2 h3=>ynw H5 zo zo zo zo zo zo) i).trans (by rw [(yuh H5 aa).1]))
 rotate_left;go_upto_region 8 with fail
 focus go_cut [] from 81 to 96 (λ wx=>Hid (DtI w bf bx s (dtU s u 30) fi la n ev sq wx))
 case' first=>obtain ⟨U0,V0,x,ad,HN,hz,ac,hC⟩:=yfR hcut ae Hu H5 (22+k5) 7 30 zo (λ i=>(yeO (k:=22) (n:=8) (j:=k5) aa (λ i h1 h2 h3=>ynw H5 zo zo zo zo zo zo) i).trans (by rw [(yuh H5 aa).2.1]))
 rotate_left;go_upto_region 9 with fail
 focus go_cut [] from 96 to 111 (λ wx=>Hid (DtI w bf bx s (dtU s u 38) fi la n ev sq wx))
 case' first=>obtain ⟨U0,V0,x,ad,HN,hz,ac,hC⟩:=yfR hcut ae Hu H5 (30+k5) 8 38 zo (λ i=>(yeO (k:=30) (n:=8) (j:=k5) aa (λ i h1 h2 h3=>ynw H5 zo zo zo zo zo zo) i).trans (by rw [(yuh H5 aa).2.2.1]))
 rotate_left;go_upto_region 10 with fail
 focus go_cut [] from 111 to 126 (λ wx=>Hid (DtI w bf bx s (dtU s u 46) fi la n ev sq wx))
 case' first=>obtain ⟨U0,V0,x,ad,HN,hz,ac,hC⟩:=yfR hcut ae Hu H5 (38+k5) 9 46 zo (λ i=>(yeO (k:=38) (n:=8) (j:=k5) aa (λ i h1 h2 h3=>ynw H5 zo zo zo zo zo zo) i).trans (by rw [(yuh H5 aa).2.2.2]))
 rotate_left
 ·obtain ⟨hf,hx,he⟩:=hcut.out;have c48:=hf.c48;have z48:=hf.z 48;have aG:IntKind.i64.wrap ((n:Int)+1)= (n:Int)+1:=Yn _ zo;have HN:Hid (FcB bf (dyU s u) fi la ((n+1:Nat):Int) ev sq (wc.setCell (Z bf 48 N) (E T ((n:Int)+1)))):=by
   show FcB bf (dyU s u) fi la ((n+1:Nat):Int) ev sq _;rw [show ((n+1:Nat):Int)= (n:Int)+1 from rfl];exact (hf.set48 ((n:Int)+1)).as (λ i hi=>by rw [dtU,Yd hi])
  have HE:Hid (Eff (λ b=>b=bf) w (wc.setCell (Z bf 48 N) (E T ((n:Int)+1)))):=he.set rfl _ _;clear hf hx he hcut;go_wp2;refine bodyPost_end (YO rfl _ _ _) rfl ?_;exact ⟨⟨_,rfl⟩,HN,HE⟩
 iterate 4
  ·refine ysJ [11] (S:=DtC bf _ bx _ k5 U0 x) zk (hC _ (Ye _ _).drew) (λ ab=>?_);refine zfA 0 ?_;refine zfA 1 ?_;refine zfA 2 ?_;refine zfA 3 ?_;refine zfA 4 ?_;refine zfA 5 ?_;refine rgO 6 (λ K hK=>?_);rw [Yd (by rfl)];go_simp;refine hK _ _ (λ _=>hC _ (yaa (Ye _ _) zg).drew) ?_;clear hK;refine rgO 7 (λ K hK=>?_);rw [Yd (by rfl)];go_simp;refine zm ac ?_;rintro w7 ag;refine hK _ _ (λ _=>hC _ ag) ?_;clear hK;have ah:=hid ag;clear ag ac;have af:=hC _ ah.out;refine rgT 8 (v:=?_) ?_ ?_;rotate_left
   ·intro w ar;have ai:=ad.out;clear ar;go_simp;(try with_reducible rfl)
   refine rgO 9 (λ K hK=>?_);rw [Yd (by rfl)];go_simp;refine hK _ _ (λ _=>af) ?_;clear hK;refine rgO 10 (λ K hK=>?_);rw [Yd (by rfl)];go_simp;refine hK _ _ (λ _=>af) ?_;clear hK;have c7:=af.1;have z7:=hz _ ah.out;clear ad hC hz af;refine rgO 11 (λ K hK=>?_);rw [Yd (by rfl)];go_simp;refine hK _ _ (λ h=>absurd h zd) ?_;clear hK;refine OrdF.done zk ?_ _;go_wp2;go_meet;exact hid (HN _ ah)
 iterate 4
  ·refine ysJ [15] (S:=DtC bf _ bx _ k5 U0 x) zk (hC _ (Ye _ _).drew) (λ ab=>?_);refine zfA 0 ?_;refine zfA 1 ?_;refine zfA 2 ?_;refine zfA 3 ?_;refine zfA 4 ?_;refine zfA 5 ?_;refine zfA 6 ?_;refine zfA 7 ?_;refine zfA 8 ?_;refine zfA 12 (U:= [12,13,14,15]) ?_;refine zfA 13 (U:= [13,14,15]) ?_;refine rgO 9 (λ K hK=>?_);rw [Yd (by rfl)];go_simp;refine hK _ _ (λ _=>hC _ (yaa (Ye _ _) zg).drew) ?_;clear hK;refine rgO 10 (λ K hK=>?_);rw [Yd (by rfl)];go_simp;refine zm ac ?_;rintro w7 ag;refine hK _ _ (λ _=>hC _ ag) ?_;clear hK;have ah:=hid ag;clear ag ac;have af:=hC _ ah.out;refine rgT 11 (v:=?_) ?_ ?_;rotate_left
   ·intro w ar;have ai:=ad.out;clear ar;go_simp;(try with_reducible rfl)
   refine rgO 14 (λ K hK=>?_);rw [Yd (by rfl)];go_simp;refine hK _ _ (λ _=>af) ?_;clear hK;have c7:=af.1;have z7:=hz _ ah.out;clear ad hC hz af;refine rgO 15 (λ K hK=>?_);rw [Yd (by rfl)];go_simp;refine hK _ _ (λ h=>absurd h zd) ?_;clear hK;refine OrdF.done zk ?_ _;go_wp2;go_meet;exact hid (HN _ ah)
end
section
open Go.RowKit Go.Shelf
def yxY:Ren:={f:=λ n=>if n=129 then 91 else 0,t:=λ n=>if n=3 then 3 else if n=4 then 4 else if n=5 then 5 else if n=9 then 9 else if n=46 then 236 else if n=53 then 39 else 0,g:=λ _=>0}
theorem yoz:Tryz.f91=Body.n129 yxY:=by kernel_rfl
theorem yyr:Lays.n129 I yxY where
 mixed:=rfl
 f129:=by
  show Tryz.prog.funcs[91]? = _;rw [Tryz.func91,yoz]
 t3:=Tryz.underlying3
 a3:=Tryz.isAgg3
 z3:=Tryz.sizeOf3
 v3:=Tryz.zeroValue3
 t4:=Tryz.underlying4
 a4:=Tryz.isAgg4
 z4:=Tryz.sizeOf4
 v4:=Tryz.zeroValue4
 t5:=Tryz.underlying5
 a5:=Tryz.isAgg5
 z5:=Tryz.sizeOf5
 v5:=Tryz.zeroValue5
 t9:=Tryz.underlying9
 a9:=Tryz.isAgg9
 z9:=Tryz.sizeOf9
 v9:=Tryz.zeroValue9
 t46:=Tryz.underlying236
 a46:=Tryz.isAgg236
 z46:=Tryz.sizeOf236
 v46:=Tryz.zeroValue236
 t53:=Tryz.underlying39
 a53:=Tryz.isAgg39
 z53:=Tryz.sizeOf39
 v53:=Tryz.zeroValue39
theorem ysq (x:Nat) (w:World) (hx:x<18446744073709551616):H I 91 #[E Y (x:Nat)] w λ e w'=>e=Q (E T ((Lib.bitLen x:Nat):Int))/\w' =w:=by
 exact Any.bits_Len64 yyr (x:Nat) w zo zo
theorem yfv:∀(n x:Nat),x<2 ^ n->n<=64->x≠0->1<=Lib.bitLen x/\Lib.bitLen x<=n/\x.testBit (Lib.bitLen x-1)=true/\∀j,Lib.bitLen x<=j->x.testBit j=false
 | 0,x,h,_,h0=>by simp at h;omega
 | n+1,x,h,hn,h0=>by
   have aa:x<2 ^ 64:=zH h (Nat.pow_le_pow_right zo hn);have e:=Lib.bitLen_half x h0 aa;by_cases h1:x/2=0
   ·have:x=1:=zo
    subst this;refine ⟨by decide,by rw [e];rw [h1];simp [show Lib.bitLen 0=0 from rfl],by decide,λ j hj=>?_⟩;have:Lib.bitLen 1=1:=by decide
    rw [this] at hj;obtain ⟨k,rfl⟩:∃k,j=k+1:=⟨j-1,by omega⟩;rw [Nat.testBit_succ];simp
   ·have h2:x/2<2 ^ n:=(by rw [Nat.pow_succ] at h;omega);obtain ⟨g1,g2,g3,g4⟩:=yfv n (x/2) h2 zo h1;rw [e];refine ⟨by omega,by omega,?_,λ j hj=>?_⟩
    ·rw [show 1+Lib.bitLen (x/2)-1= (Lib.bitLen (x/2)-1)+1 by omega,Nat.testBit_succ];exact g3
    ·obtain ⟨k,rfl⟩:∃k,j=k+1:=⟨j-1,by omega⟩;rw [Nat.testBit_succ];exact g4 k zo
end
def LastOf (p:Nat->Bool) (n:Int) (ok:Bool):Prop:=
 (ok=true/\∃k:Nat,n=k/\k<86400/\p k=true/\∀j,k<j->j<86400->p j=false)\/ (ok=false/\n=0/\∀j,j<86400->p j=false)
theorem LastOf.congr {p q:Nat->Bool} {n:Int} {ok:Bool} (h:LastOf p n ok) (e:∀k,k<86400->p k=q k):LastOf q n ok:=by
 rcases h with ⟨rfl,k,rfl,hk,h1,h2⟩ | ⟨rfl,rfl,h2⟩
 ·exact .inl ⟨rfl,k,rfl,hk,by rw [<- e k hk];exact h1,λ j hj h=>by rw [<- e j h];exact h2 j hj h⟩
 ·exact .inr ⟨rfl,rfl,λ j h=>by rw [<- e j h];exact h2 j h⟩
theorem yq8 (h:Nat->Nat) (k:Nat) (hk:k<1350) (hz:∀j,k<j->j<1350->h j=0) (hb:h k<18446744073709551616) (h0:h k≠0):LastOf (ybM h) ((k:Int)*64+(Lib.bitLen (h k):Nat)-1) true:=by
 obtain ⟨h1,h2,h3,h4⟩:=yfv 64 (h k) (by simpa using hb) zo h0;generalize Lib.bitLen (h k)=L at *
 refine .inl ⟨rfl,k*64+(L-1),by omega,by omega,?_,λ j hj aa=>?_⟩
 ·rw [ybM,show (k*64+(L-1))/64=k by omega,show (k*64+(L-1))%64=L-1 by omega];exact h3
 ·rw [ybM];by_cases e:j/64=k
  ·rw [e];exact h4 _ zo
  ·rw [hz (j/64) zo zo,YV]
theorem yq9 (h:Nat->Nat) (hz:∀j,j<1350->h j=0):LastOf (ybM h) 0 false:= .inr ⟨rfl,rfl,λ j hj=>by rw [ybM,hz (j/64) zo,YV]⟩
def ycT (f:Nat->Nat) (s j:Nat):Nat:=mk (λ t=>(f j).testBit t&&decide (64*j+t<=s))
theorem ysW (f:Nat->Nat) (s j:Nat):ycT f s j<18446744073709551616:=yaG _
theorem yn5 (f:Nat->Nat) (s j:Nat) (h:s/64<j):ycT f s j=0:=by
 rw [ycT,<- yct];exact ybm λ k hk=>by rw [zzd zo,Y3]
theorem ypN (f:Nat->Nat) (s j:Nat) (h:j<s/64) (hf:f j<18446744073709551616):ycT f s j=f j:=by
 refine (yf4 hf λ k hk=>?_).symm;rw [zzZ zo,Y7]
theorem ypO (f:Nat->Nat) (s k:Nat):ybM (ycT f s) k= (ybM f k&&decide (k<=s)):=by
 rw [ybM,ycT,yaW,ybM,zzZ (Nat.mod_lt _ zo),zzo];have:64*(k/64)+k%64=k:=Nat.div_add_mod k 64
 rw [this]
theorem ysX (f:Nat->Nat) (s:Nat) (hf:f (s/64)<18446744073709551616):ycT f s (s/64)=f (s/64)*2 ^ (63-s%64)%18446744073709551616/2 ^ (63-s%64):=by
 have h1:f (s/64)*2 ^ (63-s%64)%18446744073709551616/2 ^ (63-s%64)<=f (s/64)*2 ^ (63-s%64)%18446744073709551616:=Nat.div_le_self _ _;have h2:f (s/64)*2 ^ (63-s%64)%18446744073709551616<18446744073709551616:=Nat.mod_lt _ zo;refine (yf4 zo λ k hk=>?_).symm;rw [<- Nat.shiftRight_eq_div_pow,Nat.testBit_shiftRight,show (18446744073709551616:Nat)=2 ^ 64 from rfl,Nat.testBit_mod_two_pow,<- Nat.shiftLeft_eq,Nat.testBit_shiftLeft];by_cases h:k<=s%64
 ·rw [zzZ (show 63-s%64+k<64 by omega),zzZ (show 63-s%64+k ≥ 63-s%64 by omega),zzZ (show 64*(s/64)+k<=s by omega),show 63-s%64+k-(63-s%64)=k by omega,zzo,zzo,Y7]
 ·rw [zzd (show¬63-s%64+k<64 by omega),zzd (show¬64*(s/64)+k<=s by omega),Yv,Y3]
theorem ymq (b:Nat) (q:Nat->Bool) (a:Int) (s:Nat) (w:World) (au:min a 86399= (s:Int)) (hs:s<86400) (hd:DiscAt w b q) :
  H I 34 #[R (G (Z b 0 N)),E T a] w λ r w'=>(∃n ok,r=Q (Xt #[E T n,Xb ok])/\LastOf (λ k=>q k&&decide (k<=s)) n ok)/\w' =w:=by
 obtain ⟨f,f1,f2,f3,f4,f5⟩:=hd;have c1:=hid (yeZ (s:Int) w);rw [yeP,zzZ hs] at c1;have c2:=hid (λ m (hm:m<18446744073709551616)=>ysq m w hm);have HC:=hid f1;have Hf:=hid f3;have hlt:=hid (λ j=>ysW f s j);have ab:=hid (λ j h=>yn5 f s j h);have ae:=hid (λ j h hf=>ypN f s j h hf);have aj:Hid (IntKind.u64.wrap ((f (s/64):Int)*2 ^ (63-s%64))/2 ^ (63-s%64)= ((ycT f s (s/64):Nat):Int)):=by
  show _ = _;have h2:=f3 (s/64) zo;rw [ysX f s h2,IntKind.wrap_u64];simp
 have ac:Hid (∀k,k<86400->ybM (ycT f s) k= (q k&&decide (k<=s))):=λ k hk=>by rw [ypO,f4 k hk]
 have aq:(s:Int)<86400:=zo;have hi:s/64<1350:=zo;have e1:=f1 (s/64) hi;have ar:(0:Int)<=s:=zo;clear hs f1 f2 f3 f4 f5;go_enter Tryz.func34,Tryz.ntmps34
 go_wp2_with fail
 refine zm c1 ?_;rintro w' rfl;go_wp2_with fail
 rw [aj];clear aj e1;go_loopw [7,8] (λ m i wr=>∃k:Nat,i=E T k/\m=E Y (ycT f s k:Nat)/\Hid (k<=s/64)/\k<1350/\Hid (∀j,k<j->j<1350->ycT f s j=0)/\wr=w) (λ _ i _=>(intOf i).toNat)
 case atStart=>exact ⟨s/64,by simp,rfl,zG _,hi,λ j h _=>ab j h,rfl⟩
 case round=>
  obtain ⟨k,rfl,rfl,ai,am,hz,rfl⟩:=hrel;have d4:=hid (c2 _ (hlt k));by_cases hB:ycT f s k=0
  ·have ah:Hid (∀j,k<=j->j<1350->ycT f s j=0):=λ j hj an=>by
    by_cases e:j=k
    ·rw [e];exact hB
    ·exact hz j zo an
   have ao:(((ycT f s k:Nat):Int) != 0)=false:=(by simp [hB]);have ag:(((ycT f s k:Nat):Int)==0)=true:=(by simp [hB]);clear hB;by_cases aa:k=0
   ·have ap:decide ((k:Int)-1<0)=true:=zzZ zo;have al:Hid (LastOf (ybM (ycT f s)) 0 false):=yq9 _ (λ j hj=>ah j zo hj);clear aa;go_wp2;go_ret2
    exact ⟨⟨_,_,rfl,al.congr ac⟩,rfl⟩
   ·have af:k-1<1350:=zo;have ap:decide ((k:Int)-1<0)=false:=zzd zo;have e5:=HC (k-1) af;have e6:=ae (k-1) (zp ai.out) (Hf _ af);rw [<- e6] at e5;have ad:Hid (k-1<=s/64):=(by have:=ai.out;show _<=_;omega);have ax:0<=(k:Int)-1:=zo;have aw:(k:Int)-1<1350:=zo;have av:((k:Int)-1).toNat=k-1:=zo;clear e6;go_wp2;exact ⟨⟨k-1,by congr 1;omega,rfl,ad,af,λ j h1 h2=>ah j zo h2,by trivial⟩,by simp [intOf];omega⟩
  ·have hr:=hid (yq8 (ycT f s) k am hz (hlt k) hB);have ao:(((ycT f s k:Nat):Int) != 0)=true:=(by simp [hB]);have ag:(((ycT f s k:Nat):Int)==0)=false:=(by simp [hB]);obtain ⟨-,hL,-,-⟩:=yfv 64 (ycT f s k) (by simpa using hlt.out k) zo hB;obtain ⟨L,ak⟩:=zx (Lib.bitLen (ycT f s k));rw [ak] at d4 hr hL;clear ak hB;go_wp2_with fail
   refine zm d4 ?_;rintro w' rfl;go_wp2;go_ret2
   exact ⟨⟨_,_,rfl,hr.congr ac⟩,rfl⟩
section
attribute [local irreducible] yak
variable {ok:Bool} {D n:Int} {l:List Cl} {X:List Int} {j:Nat} {q:Nat->Bool} {u0:Nat->Nat}
def yh4 (L:List Int):Int:=(L[0]?).getD 0
def yhX (L:List Int):Int:=(L[L.length-1]?).getD 0
def fiV (l:List Cl) (X:List Int):Int:=match X[0]? with
 | none=>0
 | some D=>86400*D+yh4 (yak (yax l D))
def laV (l:List Cl) (X:List Int):Int:=match X[X.length-1]? with
 | none=>0
 | some D=>86400*D+yhX (yak (yax l D))
theorem ywQ (l:List Cl) (D:Int):fiV l ([] ++ [D])=86400*D+yh4 (yak (yax l D)):=rfl
theorem yua (l:List Cl) (h:X≠ []) (D:Int):fiV l (X ++ [D])=fiV l X:=by
 cases X with
 | nil=>exact absurd rfl h
 | cons Eq1 X=>rfl
theorem ytN (l:List Cl) (X:List Int) (D:Int):laV l (X ++ [D])=86400*D+yhX (yak (yax l D)):=by
 have e:(X ++ [D])[(X ++ [D]).length-1]? =G D:=by simp
 rw [laV,e]
theorem yeC (q:Nat->Bool):(yak q).Pairwise (·< ·):=by
 rw [yak,sel];exact List.Pairwise.map _ (λ a b h=>by omega) ((List.pairwise_lt_range).filter _)
theorem yv5 (hj:j<86400) (hq:q j=true):0<(yak q).length:=List.length_pos_of_mem (yaH.2 ⟨j,hj,hq,rfl⟩)
theorem yt8 (h:FirstOf (λ k=>q k&&decide (0<=k)) n ok) (hj:j<86400) (hq:q j=true):n=yh4 (yak q)/\0<=n/\n<86400:=by
 rcases h with ⟨-,k,rfl,hk,hp,aa⟩ | ⟨-,-,aa⟩
 ·have ac:q k=true:=by simpa using hp
  have hm:(k:Int)∈yak q:=yaH.2 ⟨k,hk,ac,rfl⟩;obtain ⟨i,hi,he⟩:=Zt hm;refine ⟨?_,by omega,by omega⟩;have h0:=yv5 hj hq;rw [yh4,zzp h0,ZP];obtain ⟨m,af,ab,e0⟩:=yaH.1 (zzr h0);have ai:(k:Int)<=(yak q)[0]:=by
   rw [e0];apply Classical.byContradiction;intro hn;have:=aa m zo;simp [ab] at this
  by_cases i0:i=0
  ·subst i0;exact he.symm
  ·have:=(Za.1 (yeC q)) 0 i h0 hi zo;omega
 ·have:=aa j hj;simp [hq] at this
theorem ywE (h:LastOf (λ k=>q k&&decide (k<=86399)) n ok) (hj:j<86400) (hq:q j=true):n=yhX (yak q)/\0<=n/\n<86400:=by
 rcases h with ⟨-,k,rfl,hk,hp,aa⟩ | ⟨-,-,aa⟩
 ·have ac:q k=true:=by rw [zzX] at hp;exact hp.1
  have hm:(k:Int)∈yak q:=yaH.2 ⟨k,hk,ac,rfl⟩;obtain ⟨i,hi,he⟩:=Zt hm;refine ⟨?_,by omega,by omega⟩;have h0:(yak q).length-1<(yak q).length:=zo;rw [yhX,zzp h0,ZP];obtain ⟨m,af,ab,e0⟩:=yaH.1 (zzr h0);have ai:(yak q)[(yak q).length-1]<=(k:Int):=by
   rw [e0];apply Classical.byContradiction;intro hn;have:=aa m zo af;simp [ab] at this;omega
  by_cases i0:i= (yak q).length-1
  ·subst i0;exact he.symm
  ·have:=(Za.1 (yeC q)) i ((yak q).length-1) hi h0 zo;omega
 ·have:=aa j hj;simp [hq] at this;omega
def cuU (u0:Nat->Nat) (X:List Int) (i:Nat):Nat:=if i<3 then u0 i else fcU 0 0 0 X i
theorem yyT (h:∀i,i<3->u0 i<18446744073709551616) (X:List Int) (i:Nat):cuU u0 X i<18446744073709551616:=by
 rw [cuU];by_cases e:i<3
 ·rw [Yd e];exact h i e
 ·rw [Yb e,fcU,Yb zo,Yb zo,Yb zo];split
  ·exact yaG _
  ·split
   ·exact yva _ _
   ·split
    ·exact yaG _
    ·split
     ·exact yaG _
     ·split
      ·exact yaG _
      ·exact yaG _
theorem yuo (h0:1970<=shF D 1) (h1:shF D 1<2370) (i:Nat):cuU u0 (X ++ [D]) i=dyU (shF D) (cuU u0 X) i:=by
 by_cases e:i<3
 ·rw [cuU,Yd e,dyU,Yd e,cuU,Yd e]
 ·rw [cuU,Yb e,yub 0 0 0 X h0 h1,dyU,dyU,Yb e,Yb e,cuU,Yb e]
def lsL (l:List Cl) (X:List Int):List (List Int):=X.map λ D=>yak (yax l D)
theorem yiW (l:List Cl) (X:List Int) (D:Int):lsL l (X ++ [D])=lsL l X ++ [yak (yax l D)]:=by rw [lsL,lsL,Zl];rfl
structure ybN (l:List Cl) (u:Nat->Nat) (fi la n:Int) (ev sq:Bool):Prop where
 hm:HmP u (λ s=>∃D,s∈yak (yax l D))
 us:∀i,3<=i->i<46->u i=fcU 0 0 0 (yaN l (yag 0 146096)) i
 n:n= ((yaN l (yag 0 146096)).length:Nat)
 fi:fi=fiV l (yaN l (yag 0 146096))
 la:la=laV l (yaN l (yag 0 146096))
 ev:ev=evB (lsL l (yaN l (yag 0 146096)))
 sq:sq=sqA (lsL l (yaN l (yag 0 146096)))
theorem ybN.unique {u u':Nat->Nat} {fi la ag ae n':Int} {ev sq ah ad:Bool} (h:ybN l u fi la n ev sq) (k:ybN l u' ag ae n' ah ad):(∀i,i<46->u i=u' i)/\fi=ag/\la=ae/\n=n'/\ev=ah/\sq=ad:=by
 refine ⟨λ i hi=>?_,h.fi.trans k.fi.symm,h.la.trans k.la.symm,h.n.trans k.n.symm,h.ev.trans k.ev.symm,h.sq.trans k.sq.symm⟩;by_cases e:i<3
 ·exact h.hm.eq k.hm (λ s=>Y6) e
 ·rw [h.us i zo hi,k.us i zo hi]
theorem yrE {s:Int}:s∈yak (yax l D)↔∃c∈l,s∈yak (yax [c] D):=by
 constructor
 ·intro h;obtain ⟨j,hj,hq,rfl⟩:=yaH.1 h;rw [yax,Yk] at hq;obtain ⟨c,hc,hh⟩:=hq;exact ⟨c,hc,yaH.2 ⟨j,hj,by simpa [yax] using hh,rfl⟩⟩
 ·rintro ⟨c,hc,h⟩;obtain ⟨j,hj,hq,rfl⟩:=yaH.1 h;refine yaH.2 ⟨j,hj,?_,rfl⟩;rw [yax,Yk];exact ⟨c,hc,by simpa [yax] using hq⟩
end
section
attribute [local irreducible] yak
theorem yji {l:List Cl} {D:Int}:D∈yaN l (yag 0 146096)↔∃s,s∈yak (yax l D):=by
 rw [yaN,Y5,ydL,ybH];constructor
 ·rintro ⟨-,k,hk,hq⟩;exact ⟨k,yaH.2 ⟨k,hk,hq,rfl⟩⟩
 ·rintro ⟨s,hs⟩;obtain ⟨k,hk,hq,rfl⟩:=yaH.1 hs;refine ⟨?_,k,hk,hq⟩;rw [yax,Yk] at hq;obtain ⟨c,-,hc⟩:=hq;rw [yhv,zzX] at hc;have:=hc.1;rw [ycb,zzY] at this;omega
end
theorem yrT:Tryz.prog.cellsOf 43=51:=by kernel_rfl
theorem yzK:Tryz.prog.keyTypeAt 4 43=true:=by kernel_rfl
def yAu (u:Nat->Nat) (fi la n:Int) (ev sq:Bool):List Lit:=((List.range 46).map λ i=> .int Y (u i:Nat)) ++ [.int T fi, .int T la, .int T n, .bool ev, .bool sq]
theorem yvA (u:Nat->Nat) (fi la n:Int) (ev sq:Bool):(fcv u fi la n ev sq).formed I 43=true:=by
 unfold Value.formed;rw [fcv];simp only [Tryz.underlying43,yrT];rfl
theorem yq0 (d:Nat) (u:Nat->Nat) (fi la n:Int) (ev sq:Bool) (hu:∀i,i<46->u i<18446744073709551616) (h1:yaA fi) (h2:yaA la) (h3:yaA n):Tryz.prog.keyLits (d+3) 43 (fcL u fi la n ev sq)=G (yAu u fi la n ev sq):=by
 have e:fcL u fi la n ev sq= [.int Y (u 0:Nat), .int Y (u 1:Nat), .int Y (u 2:Nat), .int Y (u 3:Nat), .int Y (u 4:Nat), .int Y (u 5:Nat), .int Y (u 6:Nat), .int Y (u 7:Nat), .int Y (u 8:Nat), .int Y (u 9:Nat), .int Y (u 10:Nat), .int Y (u 11:Nat), .int Y (u 12:Nat), .int Y (u 13:Nat), .int Y (u 14:Nat), .int Y (u 15:Nat), .int Y (u 16:Nat), .int Y (u 17:Nat), .int Y (u 18:Nat), .int Y (u 19:Nat), .int Y (u 20:Nat), .int Y (u 21:Nat), .int Y (u 22:Nat), .int Y (u 23:Nat), .int Y (u 24:Nat), .int Y (u 25:Nat), .int Y (u 26:Nat), .int Y (u 27:Nat), .int Y (u 28:Nat), .int Y (u 29:Nat), .int Y (u 30:Nat), .int Y (u 31:Nat), .int Y (u 32:Nat), .int Y (u 33:Nat), .int Y (u 34:Nat), .int Y (u 35:Nat), .int Y (u 36:Nat), .int Y (u 37:Nat), .int Y (u 38:Nat), .int Y (u 39:Nat), .int Y (u 40:Nat), .int Y (u 41:Nat), .int Y (u 42:Nat), .int Y (u 43:Nat), .int Y (u 44:Nat), .int Y (u 45:Nat), .int T fi, .int T la, .int T n, .bool ev, .bool sq]:=rfl;rw [e];unfold Program.keyLits;simp only [Tryz.underlying43];simp [yrT,ynH,yvI,ynG,ygn,yrP,ylW,ynl,ynk,yqX,yq1,hu,h1,h2,h3];rw [yyo d (λ i=>u (7+i)) (λ i hi=>hu (7+i) zo),ygR d (λ i=>u (14+i)) (λ i hi=>hu (14+i) zo),ygR d (λ i=>u (22+i)) (λ i hi=>hu (22+i) zo),ygR d (λ i=>u (30+i)) (λ i hi=>hu (30+i) zo),ygR d (λ i=>u (38+i)) (λ i hi=>hu (38+i) zo)];rfl
def yrC (a b:Value):Sem Value:=binOp .eql 43 a b
theorem yrB (u:Nat->Nat) (fi la n:Int) (ev sq:Bool) (w:World) (hu:∀i,i<46->u i<18446744073709551616) (h1:yaA fi) (h2:yaA la) (h3:yaA n):(yrC (fcv u fi la n ev sq) (fcv u fi la n ev sq)).run I w= .ok (.bool true) w:=by
 obtain ⟨r,hr,hi⟩:=run_equalIn_deep 9996 4 43 yzK w 4 4 _ _ _ _ (yvA u fi la n ev sq) (yvA u fi la n ev sq) (yq0 1 u fi la n ev sq hu h1 h2 h3) (yq0 1 u fi la n ev sq hu h1 h2 h3);have e:r=true:=hi.2 rfl;rw [e] at hr;rw [yrC,fcv,run_eql_struct];rw [fcv] at hr;rw [hr];rfl
section
attribute [local irreducible] yak
variable {ev sq:Bool} {fi la n:Int} {l:List Cl} {X:List Int} {u:Nat->Nat}
theorem yul (l:List Cl) (a b:Int):(yaN l (yag a b)).Pairwise (·< ·):=by
 rw [yaN,yag];exact (List.Pairwise.map _ (λ a b h=>by omega) (List.pairwise_lt_range)).filter _
theorem ymP {q:Nat->Bool} {x:Int} (h:x∈yak q):0<=x/\x<86400:=by
 obtain ⟨j,hj,-,rfl⟩:=yaH.1 h;omega
theorem ywO (q:Nat->Bool):0<=yh4 (yak q)/\yh4 (yak q)<86400:=by
 rw [yh4];cases e:(yak q)[0]? with
 | none=>exact ⟨by simp,by simp⟩
 | some x=>exact ymP (YN e)
theorem ywv (q:Nat->Bool):0<=yhX (yak q)/\yhX (yak q)<86400:=by
 rw [yhX];cases e:(yak q)[(yak q).length-1]? with
 | none=>exact ⟨by simp,by simp⟩
 | some x=>exact ymP (YN e)
theorem yyG (h:∀D∈X,0<=D/\D<=146096):0<=fiV l X/\fiV l X<=12622780799:=by
 unfold fiV;cases e:X[0]? with
 | none=>exact ⟨by simp,by simp⟩
 | some D=>
   have h1:=h D (YN e);have h2:=ywO (yax l D);simp only [];omega
theorem yyt (h:∀D∈X,0<=D/\D<=146096):0<=laV l X/\laV l X<=12622780799:=by
 unfold laV;cases e:X[X.length-1]? with
 | none=>exact ⟨by simp,by simp⟩
 | some D=>
   have h1:=h D (YN e);have h2:=ywv (yax l D);simp only [];omega
theorem yyI (X:List Int) {i:Nat} (h:3<=i):fcU 0 0 0 X i<18446744073709551616:=by
 rw [fcU,Yb zo,Yb zo,Yb zo];split
 ·exact yaG _
 ·split
  ·exact yva _ _
  ·split
   ·exact yaG _
   ·split
    ·exact yaG _
    ·split
     ·exact yaG _
     ·exact yaG _
theorem ybN.lt (h:ybN l u fi la n ev sq):∀i,i<46->u i<18446744073709551616:=λ i hi=>by
 by_cases e:i<3
 ·exact h.hm.lt i e
 ·rw [h.us i zo hi];exact yyI _ zo
theorem yrF (l:List Cl):∀D∈yaN l (yag 0 146096),0<=D/\D<=146096:=λ D h=>by
 rw [yaN,Y5,ybH] at h;exact h.1
theorem ybN.bd (h:ybN l u fi la n ev sq):yaA fi/\yaA la/\yaA n/\0<=fi/\0<=la/\0<=n:=by
 have h1:=yyG (l:=l) (yrF l);have h2:=yyt (l:=l) (yrF l);have h3:(yaN l (yag 0 146096)).length<=146097:=by rw [yaN];exact zI (List.length_filter_le _ _) (by rw [ybg];decide)
 rw [<- h.fi] at h1;rw [<- h.la] at h2;have h4:=h.n;unfold yaA;omega
theorem ybN.eql (h:ybN l u fi la n ev sq) (W:World):(yrC (fcv u fi la n ev sq) (fcv u fi la n ev sq)).run I W= .ok (Xb true) W:=by
 obtain ⟨h1,h2,h3,-⟩:=h.bd;exact yrB u fi la n ev sq W h.lt h1 h2 h3
theorem yvC (w1:World) (u:Nat->Nat) (fi la n:Int) (ev sq:Bool):∃w3,(ydU (R (G (Z w1.heap.size 0 N))) (fcv u fi la n ev sq)).run I (w1.alloc (J zl2 43))= .ok () w3/\Hid (FcB w1.heap.size u fi la n ev sq w3)/\Hid (Bw w1 w3):=by
 have e8:=ylO w1 43;exact ⟨_,e8.st u fi la n ev sq,e8.put u fi la n ev sq,(yaa (Ye _ _) zg).trans ((Eff.setCells (O:=λ x=>x=w1.heap.size) rfl (fcL u fi la n ev sq) 0 _ (Eff.refl _ _)).below (by rintro b rfl;exact zG _) zs)⟩
end
section
attribute [local irreducible] yak
variable {l:List Cl} {L X:List Int}
abbrev ykv (l:List Cl):List Int:=yaN l (yag 0 146096)
theorem yk4 {t:Int} (h:yai l t=true):0<=t/\t<12622780800/\t%86400∈yak (yax l (t/86400))/\t/86400∈ykv l:=by
 obtain ⟨h0,h1⟩:=yaK h;have hm:t%86400∈yak (yax l (t/86400)):=yaH.2 ⟨(t%86400).toNat,by omega,by
  rw [yce,show 86400*(t/86400)+(((t%86400).toNat:Nat):Int)=t by omega];exact h,by omega⟩
 exact ⟨h0,h1,hm,yji.2 ⟨_,hm⟩⟩
theorem yzd {D s:Int} (h:s∈yak (yax l D)):yai l (86400*D+s)=true/\0<=s/\s<86400:=by
 obtain ⟨j,hj,hq,rfl⟩:=yaH.1 h;rw [yce] at hq;exact ⟨hq,by omega,by omega⟩
section
variable {l:List Cl} {u:Nat->Nat} {fi la n:Int} {ev sq:Bool}
theorem yAd (h:ybN l u fi la n ev sq) {i:Nat} (h3:3<=i) (h7:i<7) (k:Nat):(u i).testBit k=true↔k<64/\∃D∈ykv l,shF D (i-1)= (k:Int):=by
 rw [h.us i h3 zo,fcU,Yb zo,Yb zo,Yb zo,Yd h7,ygN,zzX,zzY,zzY,YA]
theorem ydy (t:Int):ycb t=true↔0<=t/\t<12622780800:=by rw [ycb,zzY]
theorem yei (h:L.Pairwise (·< ·)) {x:Int} (hx:x∈L):yh4 L<=x/\x<=yhX L:=by
 obtain ⟨i,hi,rfl⟩:=Zt hx;have h0:0<L.length:=zo;have hl:L.length-1<L.length:=zo;rw [yh4,yhX,zzp h0,zzp hl,ZP,ZP];constructor
 ·by_cases e:i=0
  ·subst e;exact Zv _
  ·exact Int.le_of_lt ((Za.1 h) 0 i h0 hi zo)
 ·by_cases e:i=L.length-1
  ·subst e;exact Zv _
  ·exact Int.le_of_lt ((Za.1 h) i (L.length-1) hi hl zo)
theorem ylM (h:0<L.length):yh4 L∈L/\yhX L∈L:=by
 have hl:L.length-1<L.length:=zo;rw [yh4,yhX,zzp h,zzp hl,ZP,ZP];exact ⟨zzr _,zzr _⟩
theorem yzN (h:0<X.length):fiV l X=86400*yh4 X+yh4 (yak (yax l (yh4 X))):=by
 unfold fiV;rw [yh4,zzp h];rfl
theorem yzG (h:0<X.length):laV l X=86400*yhX X+yhX (yak (yax l (yhX X))):=by
 unfold laV;rw [yhX,zzp (show X.length-1<X.length by omega)];rfl
theorem yzM (h:ybN l u fi la n ev sq) (h0:0<(ykv l).length):yai l fi=true/\yai l la=true/\∀t,yai l t=true->fi<=t/\t<=la:=by
 have e1:fi=86400*yh4 (ykv l)+yh4 (yak (yax l (yh4 (ykv l)))):=h.fi.trans (yzN h0);have e2:la=86400*yhX (ykv l)+yhX (yak (yax l (yhX (ykv l)))):=h.la.trans (yzG h0);obtain ⟨hf,hl⟩:=ylM h0;have aa:∀D∈ykv l,0<(yak (yax l D)).length:=λ D hD=>by
  obtain ⟨s,hs⟩:=yji.1 hD;exact List.length_pos_of_mem hs
 have f1:=yzd (ylM (aa _ hf)).1;have f2:=yzd (ylM (aa _ hl)).2;refine ⟨by rw [e1];exact f1.1,by rw [e2];exact f2.1,λ t ht=>?_⟩;obtain ⟨t0,t1,hs,hD⟩:=yk4 ht;have hd:yh4 (ykv l)<=t/86400/\t/86400<=yhX (ykv l):=yei (yul l 0 146096) hD;constructor
 ·rw [e1];by_cases e:yh4 (ykv l)=t/86400
  ·have:=(yei (yeC _) hs).1;rw [e];omega
  ·have:=hd.1;omega
 ·rw [e2];by_cases e:yhX (ykv l)=t/86400
  ·have:=(yei (yeC _) hs).2;rw [e];omega
  ·have:=hd.2;omega
end
end
def ylm (l:List Cl) (t:Int):Int × Int:=if yaf l≠0 then (0,yaf l) else yyB (ycJ l 0 (yfn t-1)).reverse
def yz4 (cs:List Cl) (Tq x:Int):Prop:=yai cs x=true/\x<Tq/\∀y,x<y->y<Tq->yai cs y=false
section
attribute [local go_sem] Yw
structure PvC (b:Nat) (Tq x y:Int) (O:Blk) (W:World):Prop where
 two:yoZ (b+1) x y O W
 c3:W.cell? (Z b 0 N)=G (E T Tq)
 o3:O b
theorem PvC.keep {b:Nat} {Tq x y:Int} {O:Blk} {W W':World} (h:PvC b Tq x y O W) (hs:W.heap.size<=W'.heap.size) (hb:∀c,O c->W'.heap[c]? =W.heap[c]?):PvC b Tq x y O W':=
 ⟨h.two.keep hs hb,(zzJ (w:=W) (a:=Z b 0 N) (hb _ h.o3)).trans h.c3,h.o3⟩
def PvT (h0 h1 h2 h3 h4 h5 h6 h7 h8 h9:Value) (ds:List Deferred) (a:Act):Prop:=∃u:Nat->Value,a= {tmps:=#[h0,h1,h2,h3,h4,h5,h6,h7,h8,h9,u 0,u 1,u 2,u 3,u 4,u 5,u 6,u 7,u 8,u 9,u 10,u 11,u 12,u 13,u 14,u 15,u 16,u 17,u 18,u 19,u 20,u 21,u 22,u 23,u 24,u 25,u 26,u 27,u 28,u 29,u 30,u 31,u 32,u 33,u 34,u 35,u 36,u 37,u 38],defers:=ds}
theorem PvT.of {h0 h1 h2 h3 h4 h5 h6 h7 h8 h9 aO aN aM aL aK aJ aI aH aG aF aE aD aC aB aA az ay ax aw av au ar aq ap ao an am al ak aj ai ah ag af ae ad ac ab aa:Value} {ds:List Deferred}:PvT h0 h1 h2 h3 h4 h5 h6 h7 h8 h9 ds {tmps:=#[h0,h1,h2,h3,h4,h5,h6,h7,h8,h9,aO,aN,aM,aL,aK,aJ,aI,aH,aG,aF,aE,aD,aC,aB,aA,az,ay,ax,aw,av,au,ar,aq,ap,ao,an,am,al,ak,aj,ai,ah,ag,af,ae,ad,ac,ab,aa],defers:=ds}:=
 ⟨λ i=>(#[aO,aN,aM,aL,aK,aJ,aI,aH,aG,aF,aE,aD,aC,aB,aA,az,ay,ax,aw,av,au,ar,aq,ap,ao,an,am,al,ak,aj,ai,ah,ag,af,ae,ad,ac,ab,aa]:Array Value).getD i undef,rfl⟩
end
section
variable {t y:Int} {l:List Cl}
theorem you (h:yaf l≠0):yhu l t= (0,yaf l):=by rw [yhu,Yd h]
theorem yoo (h:yaf l≠0):ylm l t= (0,yaf l):=by rw [ylm,Yd h]
theorem yri (h0:0<=y) (h1:y<12622780800):yfn t+1<=y↔t<y:=by rw [yfn];omega
theorem yrj (h0:0<=y) (h1:y<12622780800):y<=yfn t-1↔y<t:=by rw [yfn];omega
def yzb (cs:List Cl) (t x:Int):Prop:=yai cs x=true/\t<x/\∀y,t<y->y<x->yai cs y=false
theorem yhT (h:yaf l=0):(∃x,yhu l t= (x,0)/\yzb l t x)\/ (yhu l t= (0,15)/\∀y,t<y->yai l y=false):=by
 rw [yhu,Yb (by simp [h])];have hp:=yd1 l (yfn t+1) 12622780799;have hm:∀y,y∈ycJ l (yfn t+1) 12622780799↔t<y/\yai l y=true:=λ y=>by
  rw [yc5];constructor
  ·rintro ⟨h1,h2,h3⟩;have:=yaK h3;exact ⟨(yri this.1 this.2).1 h1,h3⟩
  ·rintro ⟨h1,h3⟩;have:=yaK h3;exact ⟨(yri this.1 this.2).2 h1,by omega,h3⟩
 generalize ycJ l (yfn t+1) 12622780799=L at *
 cases L with
 | nil=>
   refine .inr ⟨rfl,λ y hy=>?_⟩;cases e:yai l y
   ·rfl
   ·have:=(hm y).2 ⟨hy,e⟩;cases this
 | cons x L=>
   have hx:=(hm x).1 zs;refine .inl ⟨x,rfl,hx.2,hx.1,λ y h1 h2=>?_⟩;cases e:yai l y
   ·rfl
   ·rcases YF.1 ((hm y).2 ⟨h1,e⟩) with h3 | h3
    ·omega
    ·have:=(ZI.1 hp).1 y h3;omega
theorem yhP (h:yaf l=0):(∃x,ylm l t= (x,0)/\yz4 l t x)\/ (ylm l t= (0,15)/\∀y,y<t->yai l y=false):=by
 rw [ylm,Yb (by simp [h])];have hp:(ycJ l 0 (yfn t-1)).reverse.Pairwise (·> ·):=List.pairwise_reverse.2 (yd1 l 0 (yfn t-1));have hm:∀y,y∈(ycJ l 0 (yfn t-1)).reverse↔y<t/\yai l y=true:=λ y=>by
  rw [List.mem_reverse,yc5];constructor
  ·rintro ⟨h1,h2,h3⟩;have:=yaK h3;exact ⟨(yrj this.1 this.2).1 h2,h3⟩
  ·rintro ⟨h1,h3⟩;have:=yaK h3;exact ⟨this.1,(yrj this.1 this.2).2 h1,h3⟩
 generalize (ycJ l 0 (yfn t-1)).reverse=L at *
 cases L with
 | nil=>
   refine .inr ⟨rfl,λ y hy=>?_⟩;cases e:yai l y
   ·rfl
   ·have:=(hm y).2 ⟨hy,e⟩;cases this
 | cons x L=>
   have hx:=(hm x).1 zs;refine .inl ⟨x,rfl,hx.2,hx.1,λ y h1 h2=>?_⟩;cases e:yai l y
   ·rfl
   ·rcases YF.1 ((hm y).2 ⟨h2,e⟩) with h3 | h3
    ·omega
    ·have:=(ZI.1 hp).1 y h3;omega
theorem ytB {x:Int} (h:yaf l=0) (hx:yzb l t x):yhu l t= (x,0):=by
 obtain ⟨h1,h2,h3⟩:=hx;rcases yhT (t:=t) h with ⟨y,e,g1,g2,g3⟩ | ⟨e,g⟩
 ·rw [e];by_cases h4:x<y
  ·have:=g3 x h2 h4;rw [h1] at this;cases this
  ·by_cases h5:y<x
   ·have:=h3 y g2 h5;rw [g1] at this;cases this
   ·rw [show x=y by omega]
 ·have:=g x h2;rw [h1] at this;cases this
theorem yAv:((yhu l (-1)).2=0↔(ylm l 12622780800).2=0)/\(yhu l (-1)).1<=(ylm l 12622780800).1:=by
 by_cases h:yaf l=0
 ·rcases yhT (t:=-1) h with ⟨x,e1,g1,g2,g3⟩ | ⟨e1,g⟩
  ·rcases yhP (t:=12622780800) h with ⟨y,e2,f1,f2,f3⟩ | ⟨e2,f⟩
   ·rw [e1,e2];refine ⟨Y6,?_⟩;show x<=y;apply Int.le_of_not_gt;intro h3;have:=f3 x h3 (yaK g1).2;rw [g1] at this;cases this
   ·have:=f x (yaK g1).2;rw [g1] at this;cases this
  ·rcases yhP (t:=12622780800) h with ⟨y,e2,f1,f2,f3⟩ | ⟨e2,f⟩
   ·have:=g y (zp ((yaK f1).1));rw [f1] at this;cases this
   ·rw [e1,e2];exact ⟨Y6,Zv _⟩
 ·rw [you h,yoo h];exact ⟨Y6,Zv _⟩
end
theorem yn6 {L:List Int} (hp:L.Pairwise (·< ·)) {i j:Nat} (hi:i<L.length) (hj:j<L.length):L[i]<L[j]↔i<j:=by
 rw [Za] at hp;constructor
 ·intro h;rcases Nat.lt_trichotomy i j with h1 | h1 | h1
  ·exact h1
  ·subst h1;omega
  ·have:=hp j i hj hi h1;omega
 ·exact hp i j hi hj
section
variable {ok:Bool} {at' d:Int} {l:List Cl} {j k:Nat} {q:Nat->Bool}
def yhc (l:List Cl):List Int:=ycJ l 0 12622780799
def yiR (l:List Cl) (n:Int):Int × Int:=if yaf l≠0 then (0,yaf l) else if n<1 then (0,1) else if n<=(yhc l).length then ((yhc l).getD (n.toNat-1) 0,0) else (0,15)
theorem ygp {y:Int}:y∈yhc l↔yai l y=true:=by
 rw [yhc,yc5];exact ⟨λ h=>h.2.2,λ h=>by have:=yaK h;exact ⟨this.1,by omega,h⟩⟩
theorem ylu (hf:yaf l=0) (h:0<(yhc l).length):yhu l (-1)= ((yhc l)[0],0):=by
 have hp:(yhc l).Pairwise (·< ·):=yd1 l 0 12622780799;refine ytB hf ⟨ygp.1 (zzr h),?_,λ y h1 h2=>?_⟩
 ·have:=(yaK (ygp.1 (zzr h))).1;omega
 ·cases e:yai l y
  ·rfl
  ·obtain ⟨j,hj,rfl⟩:=ZO.1 (ygp.2 e);have:=(yn6 hp hj h).1 h2;omega
theorem ysY {L:List Int} (hp:L.Pairwise (·< ·)) {m:Nat} (h0:0<L.length) (hm:m<L.length):L[m]=L[0]↔m=0:=by
 constructor
 ·intro h;rcases ZT m with h3 | h3
  ·exact h3
  ·have:=(yn6 hp h0 hm).2 h3;omega
 ·intro h;simp only [h]
theorem yrM {i:Nat} (h:i<(yhc l).length):yxE l 0 (yhc l)[i]=i+1:=yrL l h
theorem yqA {n:Int} (hf:yaf l=0) (hn:1<=n) :
  (∃x,yiR l n= (x,0)/\yai l x=true/\(yxE l 0 x:Int)=n/\n<=yxE l 0 12622780799/\∃y,yhu l (-1)= (y,0)/\(n=1↔x=y))\/ (yiR l n= (0,15)/\(yxE l 0 12622780799:Int)<n):=by
 rw [yiR,Yb (by simp [hf]),Yb zo];by_cases h:n<=(yhc l).length
 ·rw [Yd h];have h1:n.toNat-1<(yhc l).length:=zo;have e:(yhc l).getD (n.toNat-1) 0= (yhc l)[n.toNat-1]:=by rw [Yz,zzp h1];rfl
  rw [e];have hp:(yhc l).Pairwise (·< ·):=yd1 l 0 12622780799;refine .inl ⟨_,rfl,ygp.1 (zzr h1),?_,h,_,ylu hf zo,?_⟩
  ·rw [yrM h1];omega
  ·rw [ysY hp zo h1];omega
 ·rw [Yb h];exact .inr ⟨rfl,by show ((yhc l).length:Int)<n;omega⟩
theorem ynu {s:Int} (hj:j<(yak q).length) (hs:∀x∈yak q,s<=x↔(yak q)[j]<=x) (h:FirstOf (λ k=>q k&&decide (s<=(k:Int))) at' ok):at' = (yak q)[j]/\ok=true:=by
 have hm:∀x,x∈yak q↔∃k:Nat,k<86400/\q k=true/\x=k:=λ x=>by rw [yak,sel_mem]
 obtain ⟨k0,ac,ab,e0⟩:=(hm _).1 (zzr hj);have ad:=(hs _ (zzr hj)).2 (Zv _);rcases h with ⟨rfl,k,rfl,hk,hp,aa⟩ | ⟨rfl,-,aa⟩
 ·rw [zzX,zzY] at hp;refine ⟨?_,rfl⟩;have h1:=(hs _ ((hm _).2 ⟨k,hk,hp.1,rfl⟩)).1 hp.2;rcases ZK k0 k with h2 | h2
  ·have h3:(q k0&&decide (s<=(k0:Int)))=false:=aa k0 h2;rw [ab,zzZ zo] at h3;cases h3
  ·omega
 ·have h3:(q k0&&decide (s<=(k0:Int)))=false:=aa k0 ac;rw [ab,zzZ zo] at h3;cases h3
theorem yh5 (hj:0<(yak q).length) (h:FirstOf (λ k=>q k&&decide ((0:Int)<=(k:Int))) at' ok):at' = (yak q)[0]/\ok=true:=by
 refine ynu hj (λ x hx=>?_) h;have hp:(yak q).Pairwise (·< ·):=yaO _ _;constructor
 ·intro _;obtain ⟨i,hi,rfl⟩:=ZO.1 hx;rcases ZT i with h1 | h1
  ·subst h1;exact Zv _
  ·have:=(yn6 hp hj hi).2 h1;omega
 ·intro _;rw [yak,sel_mem] at hx;obtain ⟨k,-,-,rfl⟩:=hx;omega
theorem yoJ (hj:j+1<(yak q).length) (h:FirstOf (λ k=>q k&&decide ((yak q)[j]+1<=(k:Int))) at' ok):at' = (yak q)[j+1]/\ok=true:=by
 refine ynu hj (λ x hx=>?_) h;have hp:(yak q).Pairwise (·< ·):=yaO _ _;obtain ⟨i,hi,rfl⟩:=ZO.1 hx;have h1:=yn6 hp (show j<(yak q).length by omega) hi;have h2:=yn6 hp hi hj;constructor
 ·intro h3;have:=h1.1 zo;apply Int.le_of_not_gt;intro h4;have:=h2.1 h4;omega
 ·intro h3;have:¬i<j+1:=λ h4=>by have:=h2.2 h4;omega
  have:=h1.2 zo;omega
theorem ywl {p:Nat} (hd:(yaN l (yag 0 146096))[k]? =G d) (hp:p<(yak (yax l d)).length) (h0:0<=d) (h1:d<146097):(yhc l)[yh9 l 0 12622780799 (yaN l (yag 0 146096)) k+p]? =G (86400*d+(yak (yax l d))[p]):=by
 have e:yhc l=ydv l 0 12622780799 (yaN l (yag 0 146096)):=rfl;rw [e];refine ywJ hd ?_;rw [yun l zo zo,Y9,zzp hp];rfl
theorem yty (hd:(yaN l (yag 0 146096))[k]? =G d) (h0:0<=d) (h1:d<146097):yh9 l 0 12622780799 (yaN l (yag 0 146096)) (k+1)=yh9 l 0 12622780799 (yaN l (yag 0 146096)) k+(yak (yax l d)).length:=by
 rw [yrN hd,yoS l zo zo]
theorem ywm (l:List Cl):yh9 l 0 12622780799 (yaN l (yag 0 146096)) (yaN l (yag 0 146096)).length= (yhc l).length:=by rw [yur];rfl
end
section
attribute [local irreducible] yak
attribute [local go_sem ↓] yaz ya3 yc4 ydV yj7 yhH
attribute [local go_sem] yaE
variable {l:List Cl} {u:Nat}
def unT (u:Nat) (t:Int):Int:=unN (t/86400) (t%86400).toNat u
def PuU (l:List Cl) (u:Nat) (x:Int):Prop:=∃t,yai l t=true/\x=unT u t
theorem yr5 (cs:List Cl) (u:Nat) (x:Int):UD cs (yaN cs (yag 0 146096)).length u x↔PuU cs u x:=by
 constructor
 ·rintro ⟨i,D,j,-,-,hj,hq,rfl⟩;refine ⟨86400*D+j,hq,?_⟩;rw [unT,show (86400*D+(j:Int))/86400=D by omega,show ((86400*D+(j:Int))%86400).toNat=j by omega]
 ·rintro ⟨t,ht,rfl⟩;have hw:=yaK ht;have e:86400*(t/86400)+(((t%86400).toNat:Nat):Int)=t:=zo;have hq:yax cs (t/86400) (t%86400).toNat=true:=by rw [yce,e];exact ht
  have hm:t/86400∈yaN cs (yag 0 146096):=by
   rw [yaN,Y5,ybH];refine ⟨by omega,?_⟩;rw [yl1,Yk];exact ⟨_,YT.2 zo,hq⟩
  obtain ⟨i,hi,he⟩:=Zt hm;exact ⟨i,t/86400,(t%86400).toNat,hi,by rw [zzp hi,he],by omega,hq,rfl⟩
theorem PuU.rng {x:Int} (h:PuU l u x):0<=x/\x<=12622780799:=((yr5 l u x).2 h).rng
theorem PuU.snoc (l:List Cl) (c:Cl) (u:Nat) (x:Int):PuU (l ++ [c]) u x↔PuU l u x\/ PuU [c] u x:=by
 constructor
 ·rintro ⟨t,h,rfl⟩;rw [yai,List.any_append,Ys] at h;exact h.imp (λ h=>⟨t,h,rfl⟩) (λ h=>⟨t,h,rfl⟩)
 ·rintro (⟨t,h,rfl⟩ | ⟨t,h,rfl⟩)
  ·exact ⟨t,by rw [yai,List.any_append,Ys];exact .inl h,rfl⟩
  ·exact ⟨t,by rw [yai,List.any_append,Ys];exact .inr h,rfl⟩
def PQ (l:List Cl) (B:Nat->Bt):Prop:=∀u,u<7->BeatQ (PuU l u) (B u)
theorem PQ.zero:PQ [] (λ _=>(false,0,0)):=λ u _=>ya2.congr ya2.empty λ x=>⟨λ h=>h.elim,λ ⟨t,h,_⟩=>by cases h⟩
theorem PQ.bd {B:Nat->Bt} (h:PQ l B) (hu:u<7):M62 (B u).2.1/\M62 (B u).2.2:=by
 have:=ya2.bd (M:=12622780799) (h u hu) zo λ x hx=>hx.rng;simp only [M62];omega
theorem PQ.next {c:Cl} {B X:Nat->Bt} (h:PQ l B) (k:BQ [c] (yaN [c] (yag 0 146096)).length X):PQ (l ++ [c]) (λ u=>yf2 (B u) (X u)):=λ u hu=>
 ya2.congr ((h u hu).join (k u hu)) λ x=>by rw [PuU.snoc,yr5]
def yi4 (v i:Value):Sem Value:=Instr.index 90 v i
theorem ytR (v i:Value):Instr.index 90 v i=yi4 v i:=rfl
attribute [local go_sem ↓] ytR
theorem yvu (Nq:Nat->Bt) (v:Nat) (hv:v<7) (W:World):(yi4 (bv7 Nq) (E T (v:Nat))).run I W= .ok (.agg #[Xb (Nq v).1,E T (Nq v).2.1,E T (Nq v).2.2]) W:=by
 have e:∀a0 a1 a2 a3 a4 a5 a6 a7 a8 b0 b1 b2 b3 b4 b5 b6 b7 b8 c0 c1 c2:Value,∀W:World,(yi4 (.agg #[a0,a1,a2,a3,a4,a5,a6,a7,a8,b0,b1,b2,b3,b4,b5,b6,b7,b8,c0,c1,c2]) (E T 0)).run I W= .ok (.agg #[a0,a1,a2]) W/\(yi4 (.agg #[a0,a1,a2,a3,a4,a5,a6,a7,a8,b0,b1,b2,b3,b4,b5,b6,b7,b8,c0,c1,c2]) (E T 1)).run I W= .ok (.agg #[a3,a4,a5]) W/\(yi4 (.agg #[a0,a1,a2,a3,a4,a5,a6,a7,a8,b0,b1,b2,b3,b4,b5,b6,b7,b8,c0,c1,c2]) (E T 2)).run I W= .ok (.agg #[a6,a7,a8]) W/\(yi4 (.agg #[a0,a1,a2,a3,a4,a5,a6,a7,a8,b0,b1,b2,b3,b4,b5,b6,b7,b8,c0,c1,c2]) (E T 3)).run I W= .ok (.agg #[b0,b1,b2]) W/\(yi4 (.agg #[a0,a1,a2,a3,a4,a5,a6,a7,a8,b0,b1,b2,b3,b4,b5,b6,b7,b8,c0,c1,c2]) (E T 4)).run I W= .ok (.agg #[b3,b4,b5]) W/\(yi4 (.agg #[a0,a1,a2,a3,a4,a5,a6,a7,a8,b0,b1,b2,b3,b4,b5,b6,b7,b8,c0,c1,c2]) (E T 5)).run I W= .ok (.agg #[b6,b7,b8]) W/\(yi4 (.agg #[a0,a1,a2,a3,a4,a5,a6,a7,a8,b0,b1,b2,b3,b4,b5,b6,b7,b8,c0,c1,c2]) (E T 6)).run I W= .ok (.agg #[c0,c1,c2]) W:=λ _ _ _ _ _ _ _ _ _ _ _ _ _ _ _ _ _ _ _ _ _ _=>⟨by kernel_rfl,by kernel_rfl,by kernel_rfl,by kernel_rfl,by kernel_rfl,by kernel_rfl,by kernel_rfl⟩;have h7:v=0\/ v=1\/ v=2\/ v=3\/ v=4\/ v=5\/ v=6:=zo;rcases h7 with h | h | h | h | h | h | h <;> subst h
 ·exact (e _ _ _ _ _ _ _ _ _ _ _ _ _ _ _ _ _ _ _ _ _ W).1
 ·exact (e _ _ _ _ _ _ _ _ _ _ _ _ _ _ _ _ _ _ _ _ _ W).2.1
 ·exact (e _ _ _ _ _ _ _ _ _ _ _ _ _ _ _ _ _ _ _ _ _ W).2.2.1
 ·exact (e _ _ _ _ _ _ _ _ _ _ _ _ _ _ _ _ _ _ _ _ _ W).2.2.2.1
 ·exact (e _ _ _ _ _ _ _ _ _ _ _ _ _ _ _ _ _ _ _ _ _ W).2.2.2.2.1
 ·exact (e _ _ _ _ _ _ _ _ _ _ _ _ _ _ _ _ _ _ _ _ _ W).2.2.2.2.2.1
 ·exact (e _ _ _ _ _ _ _ _ _ _ _ _ _ _ _ _ _ _ _ _ _ W).2.2.2.2.2.2
def yz0 (l:List Cl) (e:Ending):Prop:=∃g:Nat->Int,e=Q (Xt #[yjC g,E T (yaf l)])/\(yaf l≠0->∀u,g u=0)/\(yaf l=0->∀u,u<7->∃y f,ya2 (PuU l u) y f (g u))
theorem yqL (h:yaf l=0):∀c∈l,yb2 c=true:=by
 have h1:=ycG l;rw [h,zzZ rfl,yhV,zzX,List.all_eq_true] at h1;exact h1.2
def otF (B:Nat->Bt) (n:Nat) (i:Nat):Int:=if i<n then (B i).2.2 else 0
theorem Ar7.set {b:Nat} {f:Nat->Int} {W:World} (h:Ar7 b f W) (hu:u<7) (v:Int):Ar7 b (λ i=>if i=u then v else f i) (W.setCell (Z b u N) (E T v)):=
 ⟨λ i hi=>by
  by_cases e:i=u
  ·subst e;have:=h.c i hi;simp [go_sem,this]
  ·rw [zzL _ _ _ _ (λ e2=>by injection e2 with _ e3;exact e e3.symm),h.c i hi,Yb e],λ i=>by simpa [go_sem] using h.z i,by simpa using h.lt⟩
theorem yxq (a:Option Addr) (cap:Nat) (l:List Cl) (w:World) (hl:l.length<=9223372036854775807) (bB:l.length<=cap) (hs:Sl w a (cls l)) (bc:a=N->cap=0) (aI:∀c∈l,c.Ok) (hT:Tab w) :
  H I 14 #[Xs a l.length cap] w λ e w'=>yz0 l e/\Bw w w':=by
 obtain ⟨W1,an⟩:=zx ((w.alloc (J zl1 46)).alloc (J zl1 46));have aQ:Bw w W1:=by rw [<- an];exact yaa (yaa (Ye _ _) zg) zs
 have s1:W1.heap.size=w.heap.size+1+1:=by rw [<- an];simp
 have bk:Ar7 w.heap.size (λ _=>0) W1:=by
  have e:=yha w 46;rw [<- an];exact e.block zs (Y4 _ _ _ zs)
 have bj:Ar7 (w.heap.size+1) (λ _=>0) W1:=by
  have e:=yha (w.alloc (J zl1 46)) 46;(try unfold Bw at e);rw [zzN] at e
  rw [<- an];exact e
 have cO:=hid (ysu a cap l W1 hl bB (hs.below aQ) bc aI);have cA:=hid (λ (c:Cl) (hc:c.Ok) (hm:yb2 c=true) W (hB:Bw w W)=>yo7 c W hc hm (hT.later hB));have bG:=hid aI;have bq:=hid aQ;have bK:=hid an;have S1:=hid s1;have bs:=hid bk;have br:=hid bj;clear an aQ s1 bk bj hs bc aI hT;go_enter Tryz.func14,Tryz.ntmps14
 go_upto_region 2 with fail
 rw [bK];go_wp2_with fail
 refine cO.mono ?_;rintro e w2 ⟨⟨v,rfl,hv⟩,ak⟩;have aD:=hid (zu bq ak);have aF:=hid (bs.block ak.size (ak.block _ bs.lt));have aE:=hid (br.block ak.size (ak.block _ br.lt));by_cases hf:yaf l=0;rotate_left
 ·obtain ⟨X,hX⟩:=zx (yaf l);have HR:Hid (yz0 l (Q (Xt #[yjC (λ _=>0),E T (yaf l)]))):=⟨_,rfl,λ _ _=>rfl,λ h=>absurd h hf⟩;rw [hX] at hf HR⊢;have bR:(X==0)=false:=by simpa using hf
  have bQ:(X != 0)=true:=by simpa using hf
  have aL:=aE.ld;have ar:=aF.st (λ _=>0);have HP:=hid (aF.put (λ _=>0));have HE:Hid (Eff (λ x=>x=w.heap.size) w2 (w2.setCells w.heap.size 0 (L7 (λ _=>0)))):=Eff.setCells (O:=λ x=>x=w.heap.size) rfl (L7 (λ _=>0)) 0 w2 (Eff.refl _ w2);clear hX hf ak hv cO cA;go_wp2;exact Yh (yaq (p:=2) (t:=3) rfl _ _ w.heap.size 0 _ _ rfl HP.range Tryz.underlying46 rfl (by rw [yec];exact ykd)) rfl ⟨HR,aD.trans (HE.below (by rintro b rfl;exact zG _) aD.size)⟩
 ·have e9:yqq l=l:=by rw [yqq,Yd hf]
  rw [e9] at hv;obtain ⟨a1,bE,rfl,a9,-⟩:=ya5 hv;have HS:=hid a9;have Hm:=hid (yqL hf);have Hf:=hid hf;rw [hf];have bP:l.length<=8:=by
   have h1:=ycG l;rw [hf,zzZ rfl,yhV,zzX,zzY] at h1;exact h1.1
  obtain ⟨w3,ay⟩:=zx (w2.alloc (J zl3 90));have aj:Bw w2 w3:=by rw [<- ay];exact yaa (Ye _ _) zg
  have aR:BtS w2.heap.size 7 (λ _=>(false,0,0)) w3:=by rw [<- ay];exact yep w2 90 7
  have s3:w3.heap.size=w2.heap.size+1:=by rw [<- ay];simp
  have bp:=hid (zu aD aj);have bv:=hid (aF.block aj.size (aj.block _ aF.lt));have bu:=hid (aE.block aj.size (aj.block _ aE.lt));have aC:=hid (λ (k:Nat) (hk:k<l.length)=>(show∃b off,a1=G (Z b off N)/\b<w2.heap.size/\w3.rangeAt b (off+k*30) (yae l[k]) from by
   obtain ⟨b,off,h1,h2,h3⟩:=HS.atCl hk;exact ⟨b,off,h1,h2,ybK h3 aj h2⟩))
  obtain ⟨ba,aA⟩:=zx w2.heap.size;rw [aA] at aR s3 aC;have bO:=hid aR;have S3:=hid s3;have bS:=hid aA;have L2:Hid (w.heap.size+1<ba):=by show _<_;rw [<- aA];exact aE.lt
  clear ak hv a9 aj aR s3 cO e9;go_upto_region 6 with fail
  clear ay aA HS;go_wp2_with fail
  go_loopw [25] (λ iv wr=>∃k:Nat,iv=E T k/\k<=l.length/\Hid (∃B,BtS ba 7 B wr/\PQ (l.take k) B/\Eff (λ x=>x=ba) w3 wr)) (λ iv _=>l.length-(intOf iv).toNat)
  case atStart=>exact ⟨0,rfl,Zm _,_,bO,PQ.zero,Eff.refl _ _⟩
  case round=>
   obtain ⟨k,rfl,hk,HI⟩:=hrel;obtain ⟨B,hB,hQ,hE⟩:=HI.out;have av:Hid (Bw w wr):=bp.trans (hE.below (λ b hb=>by have:=L2.out;omega) bp.size);by_cases hlt:k<l.length
   ·have aJ:(k:Int)<l.length:=zo;obtain ⟨b,off,rfl,bD,hr⟩:=aC k hlt;have aN:=Hm _ (zzr hlt);have aM:=bG _ (zzr hlt);have az:=λ X (hb:BQ [l[k]'hlt] (yaN [l[k]'hlt] (yag 0 146096)).length X)=>(hQ.next (c:=l[k]'hlt) (X:=X) hb);rw [<- yal l k hlt] at az;obtain ⟨c,hc⟩:=zx (l[k]);rw [hc] at hr aN aM az;have bb:wr.rangeAt b (off+k*30) (yae c):=λ j v hv=>(hE.cell (p:=⟨b,off+k*30+j,N⟩) (by have:=S3.out;simp only [];omega) (by simp only [];omega)).trans (hr j v hv);have le:=ylE bb;have aq:(wr.alloc (J zL.toArray 59)).there wr.heap.size 0 30:=yaL wr _ _;have bf:=yaa (o:=J zL.toArray 59) (Ye wr.heap.size wr) zg;have bh:ClB (yaV (wr.alloc (J zL.toArray 59)) wr.heap.size (yae c)) wr.heap.size c:=yaI _ rfl aq;have aY:=bh.ld;have aB:Bw wr (yaV (wr.alloc (J zL.toArray 59)) wr.heap.size (yae c)):=yaD bf zg _;obtain ⟨w4,aG⟩:=zx (yaV (wr.alloc (J zL.toArray 59)) wr.heap.size (yae c));rw [aG] at aB aY;have bF:=hid aG;have bo:=hid aB;have bl:=hid (cA c aM aN w4 (zu av aB));have HN:=hid az;have HQ:=hid hQ;have HB:=hid hB;have HE:=hid hE;clear hr bb bf bh aG aB hc aN aM az hQ hB hE hk cA aC bD;go_upto_region 9 with fail
    rw [bF];clear le aq;go_wp2_with fail
    refine bl.mono ?_;rintro e w5 ⟨⟨X,rfl,hX⟩,bi⟩;have am:=hid (zu bo bi);have bN:=hid (HB.block am.size (am.block _ HB.lt));have bM:=hid (HE.trans (Eff.of_below (O:=λ x=>x=ba) am) (λ _ h=> .inl h));have bL:=hid (HN X hX);have bI:=hid (λ u (hu:u<7)=>hX.bd hu);have bJ:=hid (λ u (hu:u<7)=>HQ.bd hu);clear bi hX aY bl HN HQ;go_wp2_with fail
    go_loopw [31] (λ iv aW=>∃u:Nat,iv=E T u/\u<=7/\Hid (BtS ba 7 (λ i=>if i<u then yf2 (B i) (X i) else B i) aW/\Eff (λ x=>x=ba) w3 aW)) (λ iv _=>7-(intOf iv).toNat)
    case atStart=>exact ⟨0,rfl,by omega,bN.congr (λ i _=>by rw [Yb zo]),bM⟩
    case round=>
     obtain ⟨u,rfl,aH,HJ⟩:=hrel;by_cases ad:u<7
     ·have bz:(u:Int)<7:=zo;have bA:(0:Int)<=(u:Int):=zo;have ag:=yvu X u ad wr;have aO:=HJ.1.at' u ad;rw [Yb zo] at aO;have ap:=bI u ad;have aP:=bJ u ad;have ar:Hid (∀W2 W',Bw wr W2->Bt1 ba (u*3) (yf2 (B u) (X u)) W'->ycg ba (u*3) W2 W'->BtS ba 7 (λ i=>if i<u+1 then yf2 (B i) (X i) else B i) W'/\Eff (λ x=>x=ba) w3 W'):=λ W2 W' e2 h1 h2=>
       ⟨((HJ.1.block e2.size (e2.block _ HJ.1.lt)).step h1 h2).congr (λ i hi=>by
         by_cases e:i=u
         ·subst e;rw [Yd zo,Yd rfl]
         ·rw [Yb e];by_cases e2:i<u
          ·rw [Yd zo,Yd e2]
          ·rw [Yb zo,Yb e2]),(HJ.2.trans (Eff.of_below (O:=λ x=>x=ba) e2) (λ _ h=> .inl h)).trans h2.eff (λ _ h=> .inl h)⟩
      obtain ⟨y,f,g,ao⟩:∃y f g,X u= (y,f,g):=⟨_,_,_,rfl⟩;rw [ao] at ag ar ap;simp only at ag ap;have cJ:=hid (λ W' (hb:Bt1 ba (u*3) (B u) W')=>ysH (y,f,g) hb aP.1 aP.2 ap.1 ap.2);unfold btv at cJ;simp only at cJ;have bm:=hid aO;clear aO ao ap aP;go_upto_region 12 with fail
      obtain ⟨ac,aa⟩:=zx (wr.alloc (J #[Xb y,E T f,E T g] 89));have ab:Bw wr ac:=(by rw [<- aa];exact yaa (Ye _ _) zg);have hx:ac.cell? (Z wr.heap.size 0 N)=G (Xb y)/\ac.cell? (Z wr.heap.size 1 N)=G (E T f)/\ac.cell? (Z wr.heap.size 2 N)=G (E T g):=by
       rw [<- aa];exact ⟨by simp [go_sem],by simp [go_sem],by simp [go_sem]⟩
      have lb:wr.heap.size<ac.heap.size:=(by rw [<- aa];simp);obtain ⟨al,ah⟩:=zx wr.heap.size;have be:ba≠al:=(by have:=bm.lt;omega);rw [aa,ah];rw [ah] at hx lb;have aw:=hid ab;have Lb:=hid lb;have bH:=hid be;have HX:=hid hx;clear aa ah ab lb be ag hx;refine Yj (S:=λ W=>Hid (W.cell? (Z al 0 N)=G (Xb y)/\W.cell? (Z al 1 N)=G (E T f)/\W.cell? (Z al 2 N)=G (E T g))) zk (hid HX) (λ af=>?_);refine zT 0 (v:=?_) ?_ ?_;rotate_left
      ·intro w' ae;obtain ⟨f0,f1,f2⟩:=ae.out;clear ae;go_simp;(try with_reducible rfl)
      refine zT 1 (v:=?_) ?_ ?_;rotate_left
      ·intro w' ae;obtain ⟨f0,f1,f2⟩:=ae.out;clear ae;go_simp;(try with_reducible rfl)
      refine zT 2 (v:=?_) ?_ ?_;rotate_left
      ·intro w' ae;obtain ⟨f0,f1,f2⟩:=ae.out;clear ae;go_simp;(try with_reducible rfl)
      refine zzK 3 (λ K hK=>?_);go_simp;refine (cJ _ (bm.below aw.drew)).mono ?_;rintro e aX ⟨⟨vv,rfl⟩,au,ai⟩;have aS:=hid (ar ac.drew aX aw.drew au ai);have ax:∀j,aX.cell? (Z al j N)=ac.cell? (Z al j N):=λ j=>ai.eff.cell (p:=Z al j N) Lb (λ e=>bH (Zx e));(try go_wp2_with fail);refine hK _ _ (hid ⟨(ax 0).trans HX.1,(ax 1).trans HX.2.1,(ax 2).trans HX.2.2⟩) (λ af=>?_);clear hK K au ai cJ ar ax;refine Yt zk ?_ _;clear af;go_wp2;exact ⟨⟨u+1,by go_num,by omega,aS⟩,by simp [intOf];omega⟩
     ·obtain rfl:u=7:=zo;have HR:Hid (∃B,BtS ba 7 B wr/\PQ (l.take (k+1)) B/\Eff (λ x=>x=ba) w3 wr):=⟨_,HJ.1.congr (C:=λ i=>yf2 (B i) (X i)) (λ i hi=>by rw [Yd hi]),bL,HJ.2⟩;clear aH ad;go_wp2;exact ⟨⟨k+1,by go_num,by omega,HR⟩,by simp [intOf];omega⟩
   ·obtain rfl:k=l.length:=zo;have aJ:¬(l.length:Int)<l.length:=zo;have aL:=hB.ld7;rw [YW] at hQ;have HQ:=hid hQ;have bt:=hid (bu.block hE.size (hE.block _ bu.lt (zp L2.out)));have aU:=hid (bv.block hE.size (hE.block _ bv.lt (zp L2.out)));generalize bx:wr=w6 at aL bt aU av⊢
    clear hB hQ hE hk hlt cA aC HI bx;go_wp2_with fail
    go_loopw [42] (λ iv aV=>∃u:Nat,iv=E T u/\u<=7/\Hid (Ar7 (w.heap.size+1) (otF B u) aV/\Eff (λ x=>x=w.heap.size+1) w6 aV)) (λ iv _=>7-(intOf iv).toNat)
    case atStart=>
     refine ⟨0,rfl,by omega,?_,Eff.refl _ _⟩;have e:otF B 0=λ _=>0:=funext λ i=>(by rw [otF,Yb zo]);rw [e];exact bt
    case round=>
     obtain ⟨u,rfl,aH,HJ⟩:=hrel;by_cases ad:u<7
     ·have bz:(u:Int)<7:=zo;have bA:(0:Int)<=(u:Int):=zo;have ag:=yvu B u ad wr;have hn:Hid (∀W2,Bw wr W2->Ar7 (w.heap.size+1) (otF B (u+1)) (W2.setCell (Z (w.heap.size+1) u N) (E T (B u).2.2))/\Eff (λ x=>x=w.heap.size+1) w6 (W2.setCell (Z (w.heap.size+1) u N) (E T (B u).2.2))):=λ W2 e2=>by
       have h1:=(HJ.1.block e2.size (e2.block _ HJ.1.lt)).set ad (B u).2.2;have e:(λ i=>if i=u then (B u).2.2 else otF B u i)=otF B (u+1):=funext λ i=>by
        rw [otF,otF];by_cases e:i=u
        ·subst e;rw [Yd rfl,Yd zo]
        ·rw [Yb e];by_cases e2:i<u
         ·rw [Yd e2,Yd zo]
         ·rw [Yb e2,Yb zo]
       rw [e] at h1;exact ⟨h1,(HJ.2.trans (Eff.of_below (O:=λ x=>x=w.heap.size+1) e2) (λ _ h=> .inl h)).set rfl _ _⟩
      obtain ⟨y,f,g,ao⟩:∃y f g,B u= (y,f,g):=⟨_,_,_,rfl⟩;rw [ao] at ag hn;simp only at ag hn;have aK:=HJ.1.lt;have bg:=HJ.1.c u ad;have aZ:=HJ.1.z u;clear ao;go_upto_region 18 with fail
      obtain ⟨ac,aa⟩:=zx (wr.alloc (J #[Xb y,E T f,E T g] 89));have ab:Bw wr ac:=(by rw [<- aa];exact yaa (Ye _ _) zg);have x2:ac.cell? (Z wr.heap.size 2 N)=G (E T g):=(by rw [<- aa];simp [go_sem]);have bC:=(ab.cell (p:=Z (w.heap.size+1) u N) aK).trans bg;have bw:=(ab.frozen (p:=Z (w.heap.size+1) u N) aK).trans aZ;have aT:=hid (hn ac ab);rw [aa];clear aa ab bg aZ hn ag aK;go_wp2;exact ⟨⟨u+1,by go_num,by omega,aT⟩,by simp [intOf];omega⟩
     ·obtain rfl:u=7:=zo;have hA:=HJ.1;have aL:=hA.ld;have h0:=aU.block HJ.2.size (HJ.2.block _ aU.lt zo);have ar:=h0.st (otF B 7);have HP:=hid (h0.put (otF B 7));have HE:Hid (Eff (λ x=>x=w.heap.size) wr (wr.setCells w.heap.size 0 (L7 (otF B 7)))):=Eff.setCells (O:=λ x=>x=w.heap.size) rfl (L7 (otF B 7)) 0 wr (Eff.refl _ wr);have HR:Hid (yz0 l (Q (Xt #[yjC (otF B 7),E T 0]))):=⟨_,by rw [Hf],λ h=>absurd Hf.out h,λ _ u hu=>⟨_,_,by rw [otF,Yd hu];exact HQ u hu⟩⟩;have bn:Hid (Bw w wr):=av.trans (HJ.2.below (λ b hb=>by omega) av.size);clear hA h0 aH ad;go_wp2;exact Yh (yaq (p:=2) (t:=3) rfl _ _ w.heap.size 0 _ _ rfl HP.range Tryz.underlying46 rfl (by rw [yec];exact ykd)) rfl ⟨HR,bn.trans (HE.below (by rintro b rfl;exact zG _) bn.size)⟩
end
section
attribute [local irreducible] yak
attribute [local go_sem] Yw
attribute [local go_sem ↓] yaz ya3 ycd yhG
attribute [local go_sem] yaE
attribute [local go_sem] run_makeMap
variable {bq bb:Bool} {bo bc n':Int} {u':Nat->Nat}
theorem ypk (bf:Nat) (w:World):H I 31 #[R (G (Z bf 0 N))] w λ e w'=>e=Q (Xf (.func 80) #[] #[R (G (Z w.heap.size 0 N)),R (G ⟨w.heap.size+1+1+1+1,0,N⟩),R (G (Z (w.heap.size+1) 0 N))])/\
  w' = ((((w.alloc (J #[R (G (Z bf 0 N))] 147)).alloc (J #[R N] 84)).alloc (.map #[] 0)).alloc (J #[.map (G (w.heap.size+1+1))] 217)).alloc (J #[Xf (.func 135) #[] #[R (G ⟨w.heap.size+1+1+1,0,N⟩)]] 148):=by
 have cF:=hid (yis ((w.alloc (J #[R (G (Z bf 0 N))] 147)).alloc (J #[R N] 84)));simp only [zzN] at cF;go_enter Tryz.func31,Tryz.ntmps31
 go_wp2_with fail
 refine zm cF ?_;rintro w1 rfl;go_wp2;go_ret;refine ⟨?_,rfl⟩;simp
def yz6 (l:List Cl) (e:Ending):Prop:=
 (yaf l≠0/\e=Q (Xt #[fcv (λ _=>0) 0 0 0 false false,E T (yaf l)]))\/
 (yaf l=0/\∃u fi la n ev sq,e=Q (Xt #[fcv u fi la n ev sq,E T 0])/\ybN l u fi la n ev sq)
structure OfC (b1 b3 b4 bx bm bf b9:Nat) (u:Nat->Nat) (fi la n:Int) (ev sq:Bool) (fd:Option Nat) (O:Blk) (W:World):Prop where
 tm:TmC b1 b3 b4 bx bm bf u fi la n ev sq fd W
 c9:W.cell? (Z b9 0 N)=G (Xf (.func 80) #[] #[R (G (Z b1 0 N)),R (G (Z b4 0 N)),R (G (Z b3 0 N))])
 os:O b1/\O b3/\O b4/\O bx/\O bm/\O bf/\O b9
 lt:∀b,O b->b<W.heap.size
 ne:b9≠bf/\b9≠b3/\b9≠bm
section
variable {b1 b3 b4 bx bm bf b9:Nat} {u:Nat->Nat} {fi la n:Int} {ev sq:Bool} {fd:Option Nat} {O:Blk} {W W':World}
theorem OfC.keep (h:OfC b1 b3 b4 bx bm bf b9 u fi la n ev sq fd O W) (hs:W.heap.size<=W'.heap.size) (hb:∀b,O b->W'.heap[b]? =W.heap[b]?):OfC b1 b3 b4 bx bm bf b9 u fi la n ev sq fd O W':=
 ⟨h.tm.keep hs (λ b aq=>hb b (by have:=h.os;rcases aq with rfl | rfl | rfl | rfl <;> simp [this])),(zzJ (w:=W) (a:=Z b9 0 N) (hb _ h.os.2.2.2.2.2.2)).trans h.c9,h.os,λ b aq=>zH (h.lt b aq) hs,h.ne⟩
theorem OfC.face (h:OfC b1 b3 b4 bx bm bf b9 u fi la n ev sq fd O W) (hE:Eff (λ b=>b=bf) W W') (hf:FcB bf u' bo bc n' bq bb W'):OfC b1 b3 b4 bx bm bf b9 u' bo bc n' bq bb fd O W':=
 ⟨h.tm.face hE hf,(hE.cell (p:=Z b9 0 N) (h.lt _ h.os.2.2.2.2.2.2) h.ne.1).trans h.c9,h.os,λ b aq=>zH (h.lt b aq) hE.size,h.ne⟩
theorem OfC.time {bp:Option Nat} (h:OfC b1 b3 b4 bx bm bf b9 u fi la n ev sq fd O W) (hE:Eff (λ b=>b=bf\/ b=b3\/ b=bm) W W') (hf:TmC b1 b3 b4 bx bm bf u' bo bc n' bq bb bp W'):OfC b1 b3 b4 bx bm bf b9 u' bo bc n' bq bb bp O W':=
 ⟨hf,(hE.cell (p:=Z b9 0 N) (h.lt _ h.os.2.2.2.2.2.2) (λ e=>by have:=h.ne;simp only [] at e;omega)).trans h.c9,h.os,λ b aq=>zH (h.lt b aq) hE.size,h.ne⟩
end
def CoI (l:List Cl) (u0:Nat->Nat) (M:Blk) (b1 b3 b4 bx bm bf b9:Nat):ydt:=λ k O F W=>
 ∃fd,OfC b1 b3 b4 bx bm bf b9 (cuU u0 ((yaN l (yag 0 146096)).take k)) (fiV l ((yaN l (yag 0 146096)).take k)) (laV l ((yaN l (yag 0 146096)).take k)) (k:Nat) (evB (lsL l ((yaN l (yag 0 146096)).take k))) (sqA (lsL l ((yaN l (yag 0 146096)).take k))) fd O W/\
  FdP F M (lsL l ((yaN l (yag 0 146096)).take k)) fd W/\FrW bx bm F M (Pf (lsL l ((yaN l (yag 0 146096)).take k))) W
theorem yp5 {W W':World} {b:Nat} {s:Nat->Int} (h:ShS W b s) (hb:W'.heap[b]? =W.heap[b]?):ShS W' b s:=by
 obtain ⟨a0,a1,a2,a3,a4,a5,a6,a7,a8,a9⟩:=h;have e:=λ i=>zzJ (w:=W) (w':=W') (a:=Z b i N) hb;exact ⟨(e 0).trans a0,(e 1).trans a1,(e 2).trans a2,(e 3).trans a3,(e 4).trans a4,(e 5).trans a5,(e 6).trans a6,(e 7).trans a7,(e 8).trans a8,(e 9).trans a9⟩
def CoX:Code->ydt:=λ _ _ _ _ _=>False
theorem yjk (l:List Cl) (u0:Nat->Nat) (M:Blk) (b1 b3 b4 bx bm bf b9:Nat):StabF M (CoI l u0 M b1 b3 b4 bx bm bf b9):=λ k O F F' W W' ⟨fd,h1,h2,h3⟩ hs hF hO=>
 ⟨fd,h1.keep hs (λ b hb=>hO b (.inl hb)),h2.keep hs hF (λ b hb=>hO b (.inr hb)),h3.keep hs hF (λ b hb=>hO b (.inr hb)) (hO _ (.inl h1.os.2.2.2.1)) (hO _ (.inl h1.os.2.2.2.2.1))⟩
theorem yup (M:Blk) (c:Code):StabF M (CoX c):=λ k O F F' W W' h _ _ _=>h.elim
theorem yvH (l:List Cl) (u0:Nat->Nat) (M:Blk) (b1 b3 b4 bx bm bf b9:Nat):LtF (CoI l u0 M b1 b3 b4 bx bm bf b9):=λ k O F W ⟨_,h,_⟩=>h.lt
theorem yyU (c:Code):LtF (CoX c):=λ k O F W h=>h.elim
def CoT (h0 h2 h3 h4 h5 h6 h9 bn bl:Value) (ds:List Deferred) (a:Act):Prop:=∃V:Nat->Value,a= {tmps:=#[h0,V 1,h2,h3,h4,h5,h6,V 7,V 8,h9,bn,bl,V 12,V 13,V 14,V 15,V 16,V 17,V 18,V 19,V 20,V 21,V 22,V 23,V 24,V 25,V 26,V 27,V 28,V 29,V 30,V 31,V 32,V 33,V 34,V 35,V 36,V 37,V 38,V 39,V 40,V 41,V 42,V 43,V 44,V 45,V 46,V 47,V 48,V 49,V 50,V 51,V 52,V 53,V 54,V 55,V 56,V 57,V 58,V 59,V 60,V 61,V 62,V 63,V 64,V 65,V 66,V 67,V 68,V 69,V 70],defers:=ds}
theorem CoT.of {t:Array Value} {h0 h2 h3 h4 h5 h6 h9 bn bl:Value} {ds:List Deferred} (hs:t.size=71:=by rfl) (k0:tg t 0=h0:=by rfl) (k2:tg t 2=h2:=by rfl) (k3:tg t 3=h3:=by rfl) (k4:tg t 4=h4:=by rfl) (k5:tg t 5=h5:=by rfl) (k6:tg t 6=h6:=by rfl) (k9:tg t 9=h9:=by rfl) (dK:tg t 10=bn:=by rfl) (dJ:tg t 11=bl:=by rfl):CoT h0 h2 h3 h4 h5 h6 h9 bn bl ds {tmps:=t,defers:=ds}:=⟨tg t,by subst_vars;exact tgE hs ds⟩
theorem yxt (a:Option Addr) (cap:Nat) (l:List Cl) (w:World) (hl:l.length<=9223372036854775807) (cm:l.length<=cap) (hs:Sl w a (cls l)) (cj:a=N->cap=0) (bw:∀c∈l,c.Ok) (hT:Tab w) :
  H I 13 #[Xs a l.length cap] w λ e w'=>yz6 l e/\Bw w w':=by
 have aS:=yaa (o:=(J zl2 43)) (Ye w.heap.size w) zg;have bI:FcB w.heap.size (λ _=>0) 0 0 0 false false (w.alloc (J zl2 43)):=ylO w 43;obtain ⟨W1,bi⟩:=zx (w.alloc (J zl2 43));rw [bi] at aS bI;have s1:W1.heap.size=w.heap.size+1:=by rw [<- bi];simp
 have cN:=hid (yd5 a cap l W1 hl cm (hs.below aS) cj bw (hT.later aS));have bZ:=hid aS;have c0:=hid bI;have dx:=hid bi;have S1:=hid s1;have Hs:=hid hs;have dr:=hid bw;have HT:=hid hT;have ay:Hid (0<w.heap.size):=hT.1;clear aS bI bi s1 hs cj bw hT;refine (wf_calls (r:=N) (n:=1)).mp ?_;refine callsIn_of_wp_marks Tryz.func13 rfl trivial ?_ rfl;simp only [Tryz.ntmps13,Yp,Yu,YS,Nat.reduceAdd,Nat.reduceSub,YE,YD,YQ,YJ,Y0,YH];gi_upto_region 1 with fail
 rw [dx];gi_wp2_with fail
 refine (wf_calls.mpr cN).mono ?_;rintro e w3 ⟨hN,aC⟩;have ag:=hid (zu bZ aC);have A3:=hid (c0.block aC.size (aC.block _ c0.lt));rcases hN with ⟨hf,rfl⟩ | ⟨hf,br,bk,bps,rfl,hR,hM⟩
 ·obtain ⟨X,hX⟩:=zx (yaf l);have cS:Hid (yz6 l (Q (Xt #[fcv (λ _=>0) 0 0 0 false false,E T (yaf l)]))):= .inl ⟨hf,rfl⟩;rw [hX] at hf cS⊢;have dP:(X==0)=false:=by simpa using hf
  have bE:(X != 0)=true:=by simpa using hf
  have be:(ydU (R (G (Z w.heap.size 0 N))) (.agg zl2)).run I w3= .ok () (w3.setCells w.heap.size 0 (fcL (λ _=>0) 0 0 0 false false)):=A3.st (λ _=>0) 0 0 0 false false;have HP:=hid (A3.put (λ _=>0) 0 0 0 false false);have HE:Hid (Eff (λ x=>x=w.heap.size) w3 (w3.setCells w.heap.size 0 (fcL (λ _=>0) 0 0 0 false false))):=Eff.setCells (O:=λ x=>x=w.heap.size) rfl _ 0 w3 (Eff.refl _ w3);clear hX hf aC cN;gi_wp2
  refine ⟨_,yaq (p:=2) (t:=3) rfl _ _ w.heap.size 0 _ _ rfl HP.range Tryz.underlying43 rfl (by rw [ydJ];exact ynn),cS,ag.trans (HE.below (by rintro b rfl;exact zG _) ag.size)⟩
 have Hf:=hid hf;have HR:=hid hR;have HM:=hid hM;have ab:=hid aC;have du:=hid (yqL hf);clear aC cN hf hR hM;have bH:FcB w3.heap.size (λ _=>0) 0 0 0 false false (w3.alloc (J zl2 43)):=ylO w3 43;have be:(ydU (R (G (Z w3.heap.size 0 N))) (.agg #[E Y 0,E Y 0,E Y 0,E Y 0,E Y 0,E Y 0,E Y 0,E Y 0,E Y 0,E Y 0,E Y 0,E Y 0,E Y 0,E Y 0,E Y 0,E Y 0,E Y 0,E Y 0,E Y 0,E Y 0,E Y 0,E Y 0,E Y 0,E Y 0,E Y 0,E Y 0,E Y 0,E Y 0,E Y 0,E Y 0,E Y 0,E Y 0,E Y 0,E Y 0,E Y 0,E Y 0,E Y 0,E Y 0,E Y 0,E Y 0,E Y 0,E Y 0,E Y 0,E Y 0,E Y 0,E Y 0,E T 0,E T 0,E T 0,Xb true,Xb true])).run I (w3.alloc (J zl2 43))= .ok () ((w3.alloc (J zl2 43)).setCells w3.heap.size 0 (fcL (λ _=>0) 0 0 0 true true)):=bH.st (λ _=>0) 0 0 0 true true;have aM:=bH.put (λ _=>0) 0 0 0 true true;have aw:Bw w3 ((w3.alloc (J zl2 43)).setCells w3.heap.size 0 (fcL (λ _=>0) 0 0 0 true true)):=(yaa (Ye _ _) zg).trans ((Eff.setCells (O:=λ x=>x=w3.heap.size) rfl _ 0 _ (Eff.refl _ _)).below (by rintro b rfl;exact zG _) zs);obtain ⟨w4,cb⟩:=zx ((w3.alloc (J zl2 43)).setCells w3.heap.size 0 (fcL (λ _=>0) 0 0 0 true true));rw [cb] at be aM aw;obtain ⟨bf,bD⟩:=zx w3.heap.size;rw [bD] at aM;have ak:=hid bD;have de:=aM.lt;have cU:=hid aM;have bY:=hid (zu ag aw);have A4:=hid (A3.block aw.size (aw.block _ A3.lt));have dB:Hid (yar w4 l br bk bps (yed W1 w3) (λ _=>false) 0):=HR.keep aw.size (λ b hb=>aw.block b (by have h1:=ag.size;have h2:=ab.size;have:=ay.out;have:=S1.out;rcases hb with hb | hb <;> omega));have dy:=hid (λ (k:Nat) (hk:k<l.length)=>(show∃b off,a=G (Z b off N)/\b<w.heap.size/\w.rangeAt b (off+k*30) (yae l[k]) from Hs.atCl hk));clear cb bH aw aM bD;have dh:IntKind.i64.wrap (l.length:Int)=l.length:=Yn _ zo;gi_upto_region 5 with fail
 rw [ak];clear be;gi_wp2_with fail
 gi_loopw [29] (λ iv wr=>∃k:Nat,iv=E T k/\k<=l.length/\Hid (∃u,FcB bf u 0 0 0 true true wr/\(∀i,3<=i->u i=0)/\HmP u (λ s=>∃c∈l.take k,∃D,s∈yak (yax [c] D))/\Eff (λ x=>x=bf) w4 wr)) (λ iv _=>l.length-(intOf iv).toNat)
 case atStart=>
  refine ⟨0,rfl,Zm _,λ _=>0,cU,λ _ _=>rfl,⟨λ _ _=>by omega,λ s h=>?_,λ s h=>?_,λ i h=>?_,λ i h=>?_,λ i h=>?_⟩,Eff.refl _ _⟩
  ·obtain ⟨c,hc,-⟩:=h;cases hc
  ·obtain ⟨c,hc,-⟩:=h;cases hc
  ·rw [YV] at h;cases h
  ·rw [YV] at h;cases h
  ·rw [YV] at h;cases h
 case round=>
  obtain ⟨k,rfl,hk,HI⟩:=hrel;obtain ⟨u,hF,bd,hH,hE⟩:=HI.out;have az:Hid (Bw w wr):=bY.trans (hE.below (λ b hb=>by have:=ak.out;have:=ag.size;omega) bY.size);have af:bf<wr.heap.size:=hF.lt;by_cases hlt:k<l.length
  ·have aH:(k:Int)<l.length:=zo;obtain ⟨b,off,rfl,cr,hr⟩:=dy k hlt;have bC:=du _ (zzr hlt);have bB:=dr _ (zzr hlt);have bN:Hid (∀s,(∃c∈l.take (k+1),∃D,s∈yak (yax [c] D))↔PaA l[k] (λ s=>∃c∈l.take k,∃D,s∈yak (yax [c] D)) s):=λ s=>by
    rw [yal l k hlt];constructor
    ·rintro ⟨c,hc,D,hs⟩;rcases YC.1 hc with hc | hc
     ·exact .inl ⟨c,hc,D,hs⟩
     ·rw [Yy] at hc;subst hc;exact .inr ⟨D,hs⟩
    ·rintro (⟨c,hc,D,hs⟩ | ⟨D,hs⟩)
     ·exact ⟨c,YC.2 (.inl hc),D,hs⟩
     ·exact ⟨_,YC.2 (.inr (Yy.2 rfl)),D,hs⟩
   obtain ⟨c,hc⟩:=zx (l[k]);rw [hc] at hr bC bB bN;have ch:wr.rangeAt b (off+k*30) (yae c):=ybK hr az cr;have le:=ylE ch;have aE:(wr.alloc (J zL.toArray 59)).there wr.heap.size 0 30:=yaL wr _ _;have cl:=yaa (o:=J zL.toArray 59) (Ye wr.heap.size wr) zg;have cM:ClB (yaV (wr.alloc (J zL.toArray 59)) wr.heap.size (yae c)) wr.heap.size c:=yaI _ rfl aE;have b0:=cM.ld;have aa:Bw wr (yaV (wr.alloc (J zL.toArray 59)) wr.heap.size (yae c)):=yaD cl zg _;obtain ⟨w5,aD⟩:=zx (yaV (wr.alloc (J zL.toArray 59)) wr.heap.size (yae c));rw [aD] at aa b0;have dm:=hid aD;have dG:=hid aa;have cJ:=hF.block aa.size (aa.block _ hF.lt);have cA:=hid (ymp c cJ bB bC (HT.later (zu az aa)) (by have:=ak.out;have:=ag.size;have:=ay.out;omega) hH);have bL:=hid bd;have HE:=hid hE;clear hr ch cl cM aD aa hc bC bB hF cJ bd hH hE hk cr HI;gi_upto_region 8 with fail
   rw [dm];clear le aE;gi_wp2_with fail
   refine (wf_calls.mpr cA).mono ?_;rintro e w6 ⟨⟨v,rfl⟩,⟨u',cI,cd,cB⟩,cK⟩;have HN:Hid (∃u,FcB bf u 0 0 0 true true w6/\(∀i,3<=i->u i=0)/\HmP u (λ s=>∃c∈l.take (k+1),∃D,s∈yak (yax [c] D))/\Eff (λ x=>x=bf) w4 w6):=
    ⟨u',cI,λ i hi=>(cd i hi).trans (bL i hi),cB.same (λ s h=>(bN s).2 h) (λ s h=> .inl ((bN s).1 h)),(HE.trans (Eff.of_below (O:=λ x=>x=bf) dG) (λ _ h=> .inl h)).trans cK (λ _ h=> .inl h)⟩
   clear cI cd cB cK cA b0;gi_wp2
   exact ⟨⟨k+1,by go_num,by omega,HN⟩,by simp [intOf];omega⟩
  ·obtain rfl:k=l.length:=zo;have aH:¬(l.length:Int)<l.length:=zo;rw [YW] at hH;have cW:=hid hH;have cY:=hid hF;have bL:=hid bd;have aX:=hid hE;generalize c8:wr=w6 at cY aX az af⊢
   clear hF bd hH hE hk hlt HI c8;have A6:=hid (A4.block aX.size (aX.block _ A4.lt (by have:=ak.out;have h1:=bZ.size;have:=ab.size;have:=S1.out;omega)));have dA:Hid (yar w6 l br bk bps (yed W1 w3) (λ _=>false) 0):=dB.keep aX.size (λ b hb=>aX.block b (by
    have h1:=ag.size;have h2:=ab.size;have:=ay.out;have:=S1.out;have:=ak.out;have:=bY.size;have:=cU.lt;rcases hb with hb | hb <;> omega) (by
    have h1:=ag.size;have h2:=ab.size;have:=ay.out;have:=S1.out;have:=ak.out;rcases hb with hb | hb <;> omega))
   have cT:=hid (ypk bf w6);obtain ⟨b1,aa⟩:=zx w6.heap.size;have dw:=hid aa;rw [aa] at cT af;gi_wp2_with fail
   refine (wf_calls.mpr cT).mono ?_;rintro e w7 ⟨rfl,al⟩;obtain ⟨w8,aA⟩:=zx (w7.alloc (J #[Xf (.func 80) #[] #[R (G (Z b1 0 N)),R (G ⟨b1+1+1+1+1,0,N⟩),R (G (Z (b1+1) 0 N))]] 77));have s7:w7.heap.size=b1+1+1+1+1+1:=(by rw [al];simp [aa]);have s8:w8.heap.size=b1+1+1+1+1+1+1:=(by rw [<- aA];simp [s7]);have B7:Bw w6 w7:=by
    rw [al];exact yaa (yaa (yaa (yaa (yaa (Ye _ _) zg) zs) (by simp only [zzN];omega)) (by simp only [zzN];omega)) (by simp only [zzN];omega)
   have B8:Bw w6 w8:=(by rw [<- aA];exact yaa B7 B7.size);have bs:Bw w7 w8:=(by rw [<- aA];exact yaa (Ye _ _) zg);have aK:TmC b1 (b1+1) (b1+1+1+1+1) (b1+1+1+1) (b1+1+1) bf u 0 0 0 true true N w7:=by
    have dg:bf<b1:=af;refine ⟨cY.block B7.size (B7.block _ (by rw [aa];exact af)),?_,?_,?_,?_,by omega,by omega⟩ <;> (rw [al,<- aa];simp [go_sem,ybA])
   have cv:OfC b1 (b1+1) (b1+1+1+1+1) (b1+1+1+1) (b1+1+1) bf (b1+1+1+1+1+1) u 0 0 0 true true N (λ b=>b=b1\/ b=b1+1\/ b=b1+1+1+1+1\/ b=b1+1+1+1\/ b=b1+1+1\/ b=bf\/ b=b1+1+1+1+1+1) w8:=by
    have dg:bf<b1:=af;refine ⟨aK.below bs,?_,by simp,λ b hb=>by omega,by omega⟩;rw [<- aA,<- s7];simp [go_sem]
   have cE:FrW (b1+1+1+1) (b1+1+1) (yed W1 w3) (RM br bk bps) (Pf []) w8:=by
    have e:=FrW.made (w:=(w6.alloc (J #[R (G (Z bf 0 N))] 147)).alloc (J #[R N] 84)) (w5:=w8) (F:=yed W1 w3) (M:=RM br bk bps) (P:=Pf []) ?_ ?_
    ·simp only [zzN,aa] at e;exact e
    ·simp only [zzN,aa];rw [bs.block _ zo,al];exact (Y4 _ _ _ (by simp only [zzN];omega)).trans (Y4 _ _ _ (by simp only [zzN];omega))
    ·simp only [zzN,aa];refine (bs.cell (p:=⟨b1+1+1+1,0,N⟩) (by simp only [];omega)).trans ?_;rw [al,<- aa];simp [go_sem]
   have dz:Hid (yar w8 l br bk bps (yed W1 w3) (λ _=>false) 0):=dA.keep B8.size (λ b hb=>B8.block b (by
    have h1:=ag.size;have h2:=ab.size;have:=ay.out;have:=S1.out;have:=ak.out;have:=dw.out;have:=az.size;rcases hb with hb | hb <;> omega))
   have cV:=hid cv;have dD:=hid cE;have cZ:=hid (zu az B8);have A8:=hid (A6.block B8.size (B8.block _ A6.lt));have S7:=hid s7;have S8:=hid s8;have dl:=hid aA;have bO:Hid (bf<b1):=af;clear B7 B8 bs aK cv cE s7 s8 aA al cT aa;gi_wp2_with fail
   rw [S7,dl];have cA:=hid (yeX 0 146096 dz (ymn 0) (zG 0));have aB:=yjn l (f:=0) (t:=146096) zo zo;have ah:=yeU l 0 146096;obtain ⟨X1,bE⟩:=zx (ynL l 0);obtain ⟨X2,cu⟩:=zx (ynK l 146096);rw [bE,cu] at cA aB ah;have tl:=yeW (cs:=l) (br:=br) (bk:=bk) (bps:=bps) ymn (w8.heap.size+1) (w8.heap.size+2) w8.heap.size X1 X2 aB.1 aB.2.1 aB.2.2.1 aB.2.2.2
    (λ j n ws m dI m' hn hi hs=>yeJ hi hs) (λ j ws m hi hj=>by rw [ybg] at hj;rw [ymn] at hi;omega)
   rw [ah] at tl;obtain ⟨LL,cx⟩:=zx ((yag X1 X2).length);rw [cx] at tl;have TL:=hid tl;clear aB ah tl cx bE cu;refine (wf_calls.mpr cA).mono ?_;rintro e w9 ⟨rfl,aj,dk,cz⟩;have bX:=hid (zu cZ aj);have C9:=hid (cV.keep aj.size (λ b hb=>aj.block b (cV.lt b hb)));have A9:=hid (A8.block aj.size (aj.block _ A8.lt));have P9:Hid (FrW (b1+1+1+1) (b1+1+1) (F3 (yed W1 w3) w8.heap.size) (RM br bk bps) (Pf []) w9):=by
    have l8:=S8.out;refine dD.keep aj.size (λ b h=> .inl h) (λ b hb=>aj.block b ?_) (aj.block _ zo) (aj.block _ zo);have h1:=ag.size;have h2:=ab.size;have:=ay.out;have:=S1.out;have:=ak.out;have:=bO.out;rcases hb.1 with h | h <;> omega
   have dC:=hid cz;have dE:Hid (∀b,F3 (yed W1 w3) w8.heap.size b->¬(b=b1\/ b=b1+1\/ b=b1+1+1+1+1\/ b=b1+1+1+1\/ b=b1+1+1\/ b=bf\/ b=b1+1+1+1+1+1)/\b≠w.heap.size):=λ b hb=>by
    have l8:=S8.out;have h1:=ag.size;have h2:=ab.size;have:=ay.out;have:=S1.out;have:=ak.out;have:=bO.out;rcases hb with hb | hb
    ·rcases hb with hb | hb <;> omega
    ·omega
   clear aj cz cA dk;gi_wp2_with fail
   refine ybu (F:=F3 (yed W1 w3) w8.heap.size) (M:=RM br bk bps) (gf:=85) (lb:=#[R (G (Z (w8.heap.size+1) 0 N)),R (G (Z (w8.heap.size+2) 0 N)),R (G (Z w8.heap.size 0 N))]) rfl yca (λ b=>b=b1\/ b=b1+1\/ b=b1+1+1+1+1\/ b=b1+1+1+1\/ b=b1+1+1\/ b=bf\/ b=b1+1+1+1+1+1)
    (λ k vs F W h=>by obtain ⟨_,_,_,_,_,rfl,_⟩:=h;rfl) TL HA.host HA.host HA.hostE dC (λ b hb=>(dE b hb).1)
    (CoI l u (RM br bk bps) b1 (b1+1) (b1+1+1+1+1) (b1+1+1+1) (b1+1+1) bf (b1+1+1+1+1+1)) CoX (yjk _ _ _ _ _ _ _ _ _ _) (yup _) (yvH _ _ _ _ _ _ _ _ _ _) yyU ?start
    (λ k O F a' W=>CoI l u (RM br bk bps) b1 (b1+1) (b1+1+1+1+1) (b1+1+1+1) (b1+1+1) bf (b1+1+1+1+1+1) k O F W/\∃aT D d,(yaN l (yag 0 146096))[k]? =G D/\SkD l (RM br bk bps) D d aT O F W/\CoT (Xs a l.length cap) (R (G (Z w.heap.size 0 N))) (E T 0) (R (G (Z br 0 N))) (E T 0) (R (G (Z bf 0 N))) (R (G ⟨b1+1+1+1+1+1,0,N⟩)) (R (G (Z aT 0 N))) (R (G (Z d 0 N))) [] a')
    ?putl ?assign ?body ?done ?stop
   case start=>
    have h:=C9.out;have hf:=h.tm.fc.as (u':=cuU u []) (λ i hi=>by
     rw [cuU];by_cases e:i<3
     ·rw [Yd e]
     ·rw [Yb e,bL i zo,fcU,Yb zo,Yb zo,Yb zo];simp only [ZS,List.filter_nil,yqy,yvT,ite_self])
    exact ⟨N,h.face (Eff.refl _ _) hf, .inl ⟨rfl,rfl⟩,P9⟩
   case putl=>
    rintro l' o k O F a' W hr db bh ⟨h1,bx,D,d,h3,h4,h5⟩;have ko:∀b,O b\/ (F b/\¬RM br bk bps b)->(W.putObj l' o).heap[b]? =W.heap[b]?:=λ b hb=>Yc (λ e=>hb.elim (λ h=>db (e ▸ h)) (λ h=>bh (e ▸ h.1)));exact ⟨yjk _ _ (RM br bk bps) _ _ _ _ _ _ _ k O F F W _ h1 (by rw [Yg];exact zG _) zi ko,bx,D,d,h3,h4.put hr bh,h5⟩
   case assign=>
    rintro l' k O6 F6 W6 vs K hk aN bj ⟨D,d,hn,h0,h1,rfl,hd,ht,hlt⟩ aP hK;rw [<- ya7];obtain ⟨s,hs⟩:=zx (shF D);rw [hs,shq];have dn:=hid hs;have HP:=hid (Ya aN (Ya bj (Ya hn (Ya hd (Ya ht (Ya hlt aP))))));clear hs aN bj hn hd ht hlt aP h0 h1;gi_wp2
    obtain ⟨aN,bj,hn,hd,ht,hlt,aP⟩:=HP.out;have ac:=yaa (o:=J (ybi s).toArray 83) (Ye W6.heap.size W6) zg;have cn:=yvH _ _ _ _ _ _ _ _ _ _ _ _ _ _ aN;refine hK _ O6 _ (yaM.of_below ac) ⟨yjk _ _ (RM br bk bps) _ _ _ _ _ _ _ _ O6 F6 F6 W6 _ aN ac.size zi (λ b hb=>ac.block b (hb.elim (cn b) (λ h=>hlt b h.1))),W6.heap.size,D,d,hn,
     ⟨λ b hb=>(bj b hb).1,⟨hd.1,hd.2.1,hd.2.2.block ac.size (ac.block d (hlt d hd.1))⟩,⟨ht.1.later ac,ht.2.1⟩,λ b hb=>zH (hlt b hb) ac.size,by simp,⟨λ h=>by have:=cn _ h;omega,λ h=>by have:=hlt _ h;omega⟩,by rw [dn];exact ycB W6 83 _ _ _ _ _ _ _ _ _ _⟩,CoT.of⟩
   case stop=>
    rintro c k O9 F9 bt dO dN aO cy cC cG aQ h;exact h.elim
   case done=>
    rintro O9 F9 ai aO cy cC cG aQ ⟨fd,hC,-,-⟩ hD dc bh;rw [YW] at hC;have cw:Hid (∀b,(b=b1\/ b=b1+1\/ b=b1+1+1+1+1\/ b=b1+1+1+1\/ b=b1+1+1\/ b=bf\/ b=b1+1+1+1+1+1)\/ RM br bk bps b->w.heap.size+1<=b):=λ b hb=>by
     have l8:=S8.out;have h1:=ag.size;have h2:=ab.size;have:=S1.out;have:=ak.out;have:=bO.out;rcases hb with h | h
     ·omega
     ·have:=HM b h;omega
    have ba:Hid (Bw w ai):=bX.trans (aO.eff.below (λ b hb=>by have:=cw b hb;omega) bX.size);have ax:FcB w.heap.size (λ _=>0) 0 0 0 false false ai:=A9.block aO.eff.size (aO.eff.block _ A9.lt (λ hb=>by have:=cw _ hb;omega));have df:=hC.tm.fc.ld;have cX:Hid (yz6 l (Q (Xt #[fcv (cuU u (yaN l (yag 0 146096))) (fiV l (yaN l (yag 0 146096))) (laV l (yaN l (yag 0 146096))) ((yaN l (yag 0 146096)).length:Nat) (evB (lsL l (yaN l (yag 0 146096)))) (sqA (lsL l (yaN l (yag 0 146096)))),E T 0]))):=by
     refine .inr ⟨Hf,_,_,_,_,_,_,rfl,⟨?_,λ i h3 dQ=>by rw [cuU,Yb zo],rfl,rfl,rfl,rfl,rfl⟩⟩;refine (cW.as (u':=cuU u (yaN l (yag 0 146096))) (λ i hi=>by rw [cuU,Yd hi])).same (λ s h=>?_) (λ s h=> .inl ?_)
     ·obtain ⟨c,hc,D,hs⟩:=h;exact ⟨D,yrE.2 ⟨c,hc,hs⟩⟩
     ·obtain ⟨D,hs⟩:=h;obtain ⟨c,hc,da⟩:=yrE.1 hs;exact ⟨c,hc,D,da⟩
    obtain ⟨uu,cc⟩:=zx (cuU u (yaN l (yag 0 146096)));obtain ⟨x1,ca⟩:=zx (fiV l (yaN l (yag 0 146096)));obtain ⟨x2,b8⟩:=zx (laV l (yaN l (yag 0 146096)));obtain ⟨x3,b7⟩:=zx (((yaN l (yag 0 146096)).length:Int));obtain ⟨x4,b6⟩:=zx (evB (lsL l (yaN l (yag 0 146096))));obtain ⟨x5,b5⟩:=zx (sqA (lsL l (yaN l (yag 0 146096))));rw [cc,ca,b8,b7,b6,b5] at df cX;have be:=ax.st uu x1 x2 x3 x4 x5;have bQ:=hid (ax.put uu x1 x2 x3 x4 x5);have aY:Hid (Eff (λ x=>x=w.heap.size) ai (ai.setCells w.heap.size 0 (fcL uu x1 x2 x3 x4 x5))):=Eff.setCells (O:=λ x=>x=w.heap.size) rfl _ 0 ai (Eff.refl _ ai);have bz:w9.heap.size≠w.heap.size:=λ e=>(by have:=A9.lt;omega);have dF:Hid ((ai.setCells w.heap.size 0 (fcL uu x1 x2 x3 x4 x5)).heap[w9.heap.size]? =G (.deferred (G []))):=by
     show _ = _;rw [aY.block w9.heap.size (YZ.1 hD).1 bz];exact hD
    have dt:=hid bz;clear aO cy cC cG aQ dc bh hD hC ax bz cc ca b8 b7 b6 b5;gi_wp2
    refine ⟨by simp, .inl ⟨_,_,rfl,YM dF,?_⟩⟩;have hX:=bQ.block (W':=(ai.setCells w.heap.size 0 (fcL uu x1 x2 x3 x4 x5)).putObj w9.heap.size (.deferred N)) (by rw [Yg];exact zG _) (Yc (λ e=>dt e.symm));exact ⟨_,yaq (p:=2) (t:=3) rfl _ _ w.heap.size 0 _ _ rfl hX.range Tryz.underlying43 rfl (by rw [ydJ];exact ynn),cX,yaF (ba.trans (aY.below (by rintro b rfl;exact zG _) ba.size)) bX.size _⟩
   case body=>
    rintro l3 k O6 F6 a' W6 hk aP dM am aG bA ⟨⟨fd,aR,au,ar⟩,aT,D,d,en,hD,V,rfl⟩;obtain ⟨D0,D1,j0,cq,ci⟩:=yg6 en;clear hl cm aH dh de;have hy:=yaQ D0 D1;have aD:=ygA D;have co:k<146097:=by
     have h1:(yaN l (yag 0 146096)).length<=(yag 0 146096).length:=List.length_filter_le _ _;rw [ybg] at h1;omega
    have bv:(yaN l (yag 0 146096)).take (k+1)= (yaN l (yag 0 146096)).take k ++ [D]:=by
     rw [yal _ k hk,(zzq.1 en).2]
    have bu:((yaN l (yag 0 146096)).take k).length=k:=(by rw [YX];omega);obtain ⟨Xk,ct⟩:=zx ((yaN l (yag 0 146096)).take k);rw [ct] at bv bu aR au ar;have bM:=hid bv;have cO:=hid bu;have dv:=hid co;have bK:Hid (∀i,i<46->cuU u Xk i<18446744073709551616):=λ i _=>yyT cW.lt Xk i;have HQ:Hid (∃j,j<86400/\yax l D j=true):=⟨j0,cq,ci⟩;have cQ:Hid (∀i,cuU u (Xk ++ [D]) i=dyU (shF D) (cuU u Xk) i):=yuo hy.1 (by have h2:=hy.2;show fY D<2370;omega);have bg:=hD.sh;obtain ⟨s,hs⟩:=zx (shF D);have cg:s 0=D:=(by rw [<- hs];rfl);have cf:1970<=s 1/\s 1<2370:=(by rw [<- hs];exact ⟨hy.1,by have h2:=hy.2;show fY D<2370;omega⟩);have ce:0<=s 5/\s 5<8:=(by rw [<- hs];omega);rw [hs] at bg cQ;obtain ⟨t0,-⟩:=id bg;rw [cg] at t0;have aU:=hid (Ya cf ce);have dp:=hid bg;have aJ:aT≠bf:=λ e=>hD.nx.1 (e ▸ aR.os.2.2.2.2.2.1);have bP:=hid aJ;have ae:=hid aR;have bS:=hid au;have bR:=hid ar;have ad:=hid hD;have dq:=hid am;have dR:=hid aG;have b2:=aR.tm.fc.c48;have dd:0<=D*86400/\D*86400<=12622694400:=zo;obtain ⟨B,hB⟩:=zx (D*86400);have HB:=hid hB;have dL:IntKind.i64.wrap (D*86400)=B:=(by rw [<- hB];exact Yn _ zo);rw [hB] at dd;clear aP hs hk en aR au ar hD hy aD bg aJ cg cf ce ct bv bu co cq ci D0 D1 am aG bA hB;obtain ⟨kb,cp⟩:=zx (((k:Int)==0));have cR:=hid cp;gi_upto_if 46 with fail
    clear cp;(try dsimp only);gi_cut [46] from 47 (λ _ wx=>Hid (OfC b1 (b1+1) (b1+1+1+1+1) (b1+1+1+1) (b1+1+1) bf (b1+1+1+1+1+1) (cuU u Xk) (fiV l (Xk ++ [D])) (laV l Xk) (k:Nat) (evB (lsL l Xk)) (sqA (lsL l Xk)) fd O6 wx/\Eff (λ b=>b=bf) W6 wx))
    case first=>
     clear t0 b2;cases kb;rotate_left
     ·have aI:k=0:=(by have:=cR.out;simp at this;exact this);have c6:Hid (Xk= []):=List.length_eq_zero_iff.mp (cO.trans aI);have cN:Hid (H I 33 #[R (G (Z d 0 N)),E T 0] W6 λ r w'=>(∃n ok,r=Q (Xt #[E T n,Xb ok])/\FirstOf (λ k=>yax l D k&&decide (0<=k)) n ok)/\W6=w'):=yio d (yax l D) 0 W6 zo ad.tab.1 ad.di.2.2;clear aI;gi_wp2_with fail
      refine (wf_calls.mpr cN).mono ?_;rintro e w ⟨⟨n,ok,rfl,hF⟩,rfl⟩;obtain ⟨j,hj,hq⟩:=HQ.out;obtain ⟨hn,n0,n1⟩:=yt8 hF hj hq;have c7:IntKind.i64.wrap (B+n)=B+n:=Yn _ zo;have c46:=ae.tm.fc.c46;have z46:=ae.tm.fc.z 46;have HN:Hid (OfC b1 (b1+1) (b1+1+1+1+1) (b1+1+1+1) (b1+1+1) bf (b1+1+1+1+1+1) (cuU u Xk) (fiV l (Xk ++ [D])) (laV l Xk) (k:Nat) (evB (lsL l Xk)) (sqA (lsL l Xk)) fd O6 (W6.setCell (Z bf 46 N) (E T (B+n)))/\Eff (λ b=>b=bf) W6 (W6.setCell (Z bf 46 N) (E T (B+n)))):=by
       have hE:=(Eff.refl (λ b=>b=bf) W6).set rfl 46 (E T (B+n));refine ⟨ae.face hE ?_,hE⟩;have e:fiV l (Xk ++ [D])=B+n:=(by rw [c6,ywQ,hn,<- HB];omega);rw [e];exact ae.tm.fc.set46 _
      clear hF hj hq hn n0 n1 cN;gi_wp2
      gi_meet
      exact HN
     ·have aI:¬k=0:=(by have:=cR.out;simp at this;exact this);have HN:Hid (OfC b1 (b1+1) (b1+1+1+1+1) (b1+1+1+1) (b1+1+1) bf (b1+1+1+1+1+1) (cuU u Xk) (fiV l (Xk ++ [D])) (laV l Xk) (k:Nat) (evB (lsL l Xk)) (sqA (lsL l Xk)) fd O6 W6/\Eff (λ b=>b=bf) W6 W6):=by
       refine ⟨?_,Eff.refl _ _⟩;rw [yua l (λ e=>aI (by rw [<- cO,e];rfl))];exact ae
      clear aI;gi_wp2
      gi_meet
      exact HN
    case rest=>
     obtain ⟨cL,bG⟩:=hcut.out;have aZ:=hid cL;have E7:=hid bG;have bT:Hid (∀W',Eff (λ b=>b=bf) W6 W'->DiF W' F6 (RM br bk bps) d (yax l D)/\Tab W'/\(∀b,F6 b->b<W'.heap.size)/\FdP F6 (RM br bk bps) (lsL l Xk) fd W'/\FrW (b1+1+1+1) (b1+1+1) F6 (RM br bk bps) (Pf (lsL l Xk)) W'/\ShS W' aT s):=λ W' hE=>by
      have ck:∀b,F6 b->b≠bf:=λ b hb e=>ad.dj b hb (e ▸ ae.os.2.2.2.2.2.1);have hb:∀b,F6 b/\¬RM br bk bps b->W'.heap[b]? =W6.heap[b]?:=λ b hb=>hE.block b (ad.lt b hb.1) (ck b hb.1);have hn:=ae.tm.ne;refine ⟨ad.di.keepI hE.size zi hb,ad.tab.1.eff hE (ck _ ad.tab.2),λ b hb=>zH (ad.lt b hb) hE.size,bS.keep hE.size zi hb,bR.keep hE.size zi hb (hE.block _ (ae.lt _ ae.os.2.2.2.1) (λ e=>hn.1.2.2.2.1 e.symm)) (hE.block _ (ae.lt _ ae.os.2.2.2.2.1) (λ e=>hn.1.2.2.2.2 e.symm)),yp5 dp (hE.block _ ad.lx bP)⟩
     have cP:=hid (ymq d (yax l D) 86400 86399 wc rfl zo (bT wc bG).1.2.2);clear cL bG hcut t0 b2;gi_wp2_with fail
     refine (wf_calls.mpr cP).mono ?_;rintro e c5 ⟨⟨n,ok,rfl,hF⟩,rfl⟩;obtain ⟨j,hj,hq⟩:=HQ.out;obtain ⟨hn,n0,n1⟩:=ywE hF hj hq;have c7:IntKind.i64.wrap (B+n)=B+n:=Yn _ zo;generalize al:c5=w7 at aZ E7⊢
     have c47:=aZ.tm.fc.c47;have z47:=aZ.tm.fc.z 47;have bV:Hid (OfC b1 (b1+1) (b1+1+1+1+1) (b1+1+1+1) (b1+1+1) bf (b1+1+1+1+1+1) (cuU u Xk) (fiV l (Xk ++ [D])) (laV l (Xk ++ [D])) (k:Nat) (evB (lsL l Xk)) (sqA (lsL l Xk)) fd O6 (w7.setCell (Z bf 47 N) (E T (B+n)))):=by
      have hE:=(Eff.refl (λ b=>b=bf) w7).set rfl 47 (E T (B+n));refine aZ.face hE ?_;have e:laV l (Xk ++ [D])=B+n:=(by rw [ytN,hn,<- HB];omega);rw [e];exact aZ.tm.fc.set47 _
     have E8:Hid (Eff (λ b=>b=bf) W6 (w7.setCell (Z bf 47 N) (E T (B+n)))):=E7.set rfl _ _;obtain ⟨c2,ap⟩:=zx (w7.setCell (Z bf 47 N) (E T (B+n)));rw [ap] at bV E8;have bJ:=hid ap;have cD:=hid (ypl (n:=k) s bV.tm.fc bK aU.1 aU.2 (zp dv.out));unfold shq at cD;clear hF hj hq hn n0 n1 cP al ap;gi_upto_region 20 with fail
     rw [bJ];obtain ⟨-,-,-,-,-,t0,t1,t2,t3,t4,t5,t6,t7,t8,t9⟩:=bT c2 E8;clear c47 z47;gi_wp2_with fail
     refine (wf_calls.mpr cD).mono ?_;rintro e bt ⟨⟨v,rfl⟩,cH,bF⟩;have E9:Hid (Eff (λ b=>b=bf) W6 bt):=E8.trans bF (λ b hb=> .inl hb);have bU:=hid (bV.face bF cH);obtain ⟨q1,q2,q3,q4,q5,-⟩:=bT bt E9;have aF:=ae.os;have cT:=hid (ymo bU.tm q4 q5 (λ b hb=>⟨λ e=>ad.dj b hb (e ▸ aF.2.2.2.2.2.1),λ e=>ad.dj b hb (e ▸ aF.2.1),λ e=>ad.dj b hb (e ▸ aF.2.2.2.1),λ e=>ad.dj b hb (e ▸ aF.2.2.2.2.1),q3 b hb⟩) q1 q2 ad.tab.2);have c9:=bU.c9;clear cH bF q1 q2 q3 q4 q5 aF cD t0 t1 t2 t3 t4 t5 t6 t7 t8 t9;gi_wp2_with fail
     refine (wf_calls.mpr cT).mono ?_;rintro e ai ⟨⟨v2,rfl⟩,⟨bp,aL,ao,an⟩,av⟩;have bW:=hid (bU.time av aL);have dH:Hid (Eff O6 W6 ai):=(E9.wide (λ b hb=>by subst hb;exact ae.os.2.2.2.2.2.1)).trans av (λ b hb=>by
      have:=ae.os;rcases hb with rfl | rfl | rfl
      ·exact .inl this.2.2.2.2.2.1
      ·exact .inl this.2.1
      ·exact .inl this.2.2.2.2.1)
     have aW:=hid ao;have aV:=hid an;clear aL ao an av cT c9;gi_wp2
     refine ⟨O6,⟨λ _ h=>h,λ _ h=> .inl h,dH⟩,bp,?_,?_,?_⟩
     ·rw [bM,yiW];have h:=bW.out;exact ⟨⟨h.tm.fc.as (λ i _=>cQ i),h.tm.c1,h.tm.c3,h.tm.z3,h.tm.c4,h.tm.lt,h.tm.ne⟩,h.c9,h.os,h.lt,h.ne⟩
     ·rw [bM,yiW];exact aW
     ·rw [bM,yiW];exact aV
end
section
attribute [local go_sem] Yw
variable {O:Blk} {m n x y:Int} {b0 c0 cf:Nat} {c:Option Nat} {W W':World}
structure NtC (b0 c0 cf:Nat) (n x y:Int) (c:Option Nat) (m:Int) (O:Blk) (W:World):Prop where
 cn:W.cell? (Z b0 0 N)=G (E T n)
 fn:W.frozen? (Z b0 0 N)=false
 two:yoZ (b0+1) x y O W
 k:ysL c0 c m W
 co:W.cell? (Z cf 0 N)=G (yAh c0)
 o0:O b0
 p0:O c0
 p1:O (c0+1)
 p2:O cf
 ne:b0+1+1<c0
 nf:c0+1<cf
theorem NtC.keep (h:NtC b0 c0 cf n x y c m O W) (hs:W.heap.size<=W'.heap.size) (hb:∀c,O c->W'.heap[c]? =W.heap[c]?):NtC b0 c0 cf n x y c m O W':=
 ⟨(zzJ (w:=W) (a:=Z b0 0 N) (hb _ h.o0)).trans h.cn,(zzM (w:=W) (a:=Z b0 0 N) (hb _ h.o0)).trans h.fn,h.two.keep hs hb,
  h.k.block hs (hb _ h.p0) (hb _ h.p1),(zzJ (w:=W) (a:=Z cf 0 N) (hb _ h.p2)).trans h.co,h.o0,h.p0,h.p1,h.p2,h.ne,h.nf⟩
theorem NtC.cnt {c':Option Nat} {m':Int} (h:NtC b0 c0 cf n x y c m O W) (hE:Eff (λ b=>b=c0\/ b=c0+1) W W') (hk:ysL c0 c' m' W'):NtC b0 c0 cf n x y c' m' O W':=by
 obtain ⟨h1,h2,⟨t1,t2,t3,t4,t5,t6,t7⟩,h4,h5,o0,p0,p1,p2,ne,nf⟩:=h;have lt:=t7;exact ⟨(hE.cell (p:=Z b0 0 N) (lt _ o0) (by show¬(b0=c0\/ b0=c0+1);omega)).trans h1,(hE.frozen (p:=Z b0 0 N) (lt _ o0) (by show¬(b0=c0\/ b0=c0+1);omega)).trans h2,
  ⟨(hE.cell (p:=Z (b0+1) 0 N) (lt _ t5) (by show¬(b0+1=c0\/ b0+1=c0+1);omega)).trans t1,(hE.cell (p:=⟨b0+1+1,0,N⟩) (lt _ t6) (by show¬(b0+1+1=c0\/ b0+1+1=c0+1);omega)).trans t2,
    (hE.frozen (p:=Z (b0+1) 0 N) (lt _ t5) (by show¬(b0+1=c0\/ b0+1=c0+1);omega)).trans t3,(hE.frozen (p:=⟨b0+1+1,0,N⟩) (lt _ t6) (by show¬(b0+1+1=c0\/ b0+1+1=c0+1);omega)).trans t4,t5,t6,λ b hb=>zH (t7 b hb) hE.size⟩,hk,
  (hE.cell (p:=Z cf 0 N) (lt _ p2) (by show¬(cf=c0\/ cf=c0+1);omega)).trans h5,o0,p0,p1,p2,ne,nf⟩
theorem NtC.put {n':Int} (h:NtC b0 c0 cf n x y c m O W):NtC b0 c0 cf n' x y c m O (W.setCell (Z b0 0 N) (E T n')):=by
 obtain ⟨h1,h2,⟨t1,t2,t3,t4,t5,t6,t7⟩,h4,h5,o0,p0,p1,p2,ne,nf⟩:=h;have hb:∀b,b≠b0->(W.setCell (Z b0 0 N) (E T n')).heap[b]? =W.heap[b]?:=λ b hb=>Ym _ _ _ _ hb;have hs:(W.setCell (Z b0 0 N) (E T n')).heap.size=W.heap.size:=by simp
 exact ⟨by simp [go_sem,h1],by simp [go_sem,h2],⟨(zzJ (w:=W) (a:=Z (b0+1) 0 N) (hb _ (by simp only [];omega))).trans t1,(zzJ (w:=W) (a:=⟨b0+1+1,0,N⟩) (hb _ (by simp only [];omega))).trans t2,
  (zzM (w:=W) (a:=Z (b0+1) 0 N) (hb _ (by simp only [];omega))).trans t3,(zzM (w:=W) (a:=⟨b0+1+1,0,N⟩) (hb _ (by simp only [];omega))).trans t4,t5,t6,λ b hb=>by rw [hs];exact t7 b hb⟩,
  h4.block (by rw [hs];exact zG _) (hb _ zo) (hb _ zo),(zzJ (w:=W) (a:=Z cf 0 N) (hb _ (by simp only [];omega))).trans h5,o0,p0,p1,p2,ne,nf⟩
def NtI (cs:List Cl) (M:Blk) (b0 c0 cf:Nat) (n:Int):ydt:=λ k O F W=>((yh9 cs 0 12622780799 (yaN cs (yag 0 146096)) k:Nat):Int)<n/\∃c m,NtC b0 c0 cf (n-(yh9 cs 0 12622780799 (yaN cs (yag 0 146096)) k:Nat)) 0 0 c m O W/\Knows c m M F W
def NtX (cs:List Cl) (b0:Nat) (n:Int) (c:Code):ydt:=λ k O _ W=>c= .ret/\∃x,(1<=n/\(yhc cs)[n.toNat-1]? =G x)/\yoZ (b0+1) x 0 O W
theorem yiS (cs:List Cl) (M:Blk) (b0 c0 cf:Nat) (n:Int):StabF M (NtI cs M b0 c0 cf n):=λ k O F F' W W' ⟨h0,c,m,h1,h2⟩ hs hF hO=>⟨h0,c,m,h1.keep hs (λ c hc=>hO c (.inl hc)),h2.keep hs hF (λ b hb=>hO b (.inr hb))⟩
theorem ytz (cs:List Cl) (b0:Nat) (n:Int) (M:Blk) (c:Code):StabF M (NtX cs b0 n c):=λ k O F F' W W' ⟨h1,x,h2,h3⟩ hs hF hO=>⟨h1,x,h2,h3.keep hs (λ c hc=>hO c (.inl hc))⟩
theorem yvp (cs:List Cl) (M:Blk) (b0 c0 cf:Nat) (n:Int):LtF (NtI cs M b0 c0 cf n):=λ k O F W ⟨_,_,_,h,_⟩=>h.two.lt
theorem yye (cs:List Cl) (b0:Nat) (n:Int) (c:Code):LtF (NtX cs b0 n c):=λ k O F W ⟨_,_,_,h⟩=>h.lt
structure NtL (cs:List Cl) (M:Blk) (d bx:Nat) (D:Int) (b0 c0 cf:Nat) (n:Int) (O6 F6:Blk) (W6:World) (j:Nat) (W:World):Prop where
 cells:∃c m,NtC b0 c0 cf (n-j) 0 0 c m O6 W
 gr:Eff O6 W6 W
 di:DiscAt W d (yax cs D)
 tab:Tab W
 sh:ShS W bx (shF D)
theorem NtL.put {cs:List Cl} {M:Blk} {d bx:Nat} {D:Int} {O6 F6:Blk} {W6:World} {j:Nat} {v:Int} (h:NtL cs M d bx D b0 c0 cf n O6 F6 W6 j W) (hd:d≠b0) (hx:bx≠b0) (ht:0≠b0) (hv:v=n-((j+1:Nat):Int)):NtL cs M d bx D b0 c0 cf n O6 F6 W6 (j+1) (W.setCell (Z b0 0 N) (E T v)):=by
 subst hv;obtain ⟨⟨c,m,h1⟩,h2,h3,h4,h5⟩:=h;have hb:∀b,b≠b0->(W.setCell (Z b0 0 N) (E T (n-((j+1:Nat):Int)))).heap[b]? =W.heap[b]?:=λ b hb=>Ym _ _ _ _ hb;have hs:(W.setCell (Z b0 0 N) (E T (n-((j+1:Nat):Int)))).heap.size=W.heap.size:=by simp
 exact ⟨⟨c,m,h1.put⟩,h2.set h1.o0 _ _,h3.block (by rw [hs];exact zG _) (hb d hd),⟨by rw [hs];exact h4.1,λ i hi=>(zzJ (w:=W) (a:=⟨0,i,N⟩) (hb _ ht)).trans (h4.2 i hi)⟩,yef h5 (hb bx hx)⟩
def NtT (h0 h1 h2 h3 h4 h5 h6 h7 h8 h9 aZ:Value) (ds:List Deferred) (a:Act):Prop:=∃V:Nat->Value,a= {tmps:=#[h0,h1,h2,h3,h4,h5,h6,h7,h8,h9,aZ,V 11,V 12,V 13,V 14,V 15,V 16,V 17,V 18,V 19,V 20,V 21,V 22,V 23,V 24,V 25,V 26,V 27,V 28,V 29,V 30,V 31,V 32,V 33,V 34,V 35,V 36,V 37,V 38,V 39,V 40,V 41,V 42,V 43,V 44,V 45,V 46,V 47,V 48,V 49,V 50,V 51,V 52,V 53,V 54,V 55,V 56,V 57,V 58,V 59,V 60],defers:=ds}
theorem NtT.of {t:Array Value} {h0 h1 h2 h3 h4 h5 h6 h7 h8 h9 aZ:Value} {ds:List Deferred} (hs:t.size=61:=by rfl) (k0:tg t 0=h0:=by rfl) (k1:tg t 1=h1:=by rfl) (k2:tg t 2=h2:=by rfl) (k3:tg t 3=h3:=by rfl) (k4:tg t 4=h4:=by rfl) (k5:tg t 5=h5:=by rfl) (k6:tg t 6=h6:=by rfl) (k7:tg t 7=h7:=by rfl) (k8:tg t 8=h8:=by rfl) (k9:tg t 9=h9:=by rfl) (ce:tg t 10=aZ:=by rfl):NtT h0 h1 h2 h3 h4 h5 h6 h7 h8 h9 aZ ds {tmps:=t,defers:=ds}:=⟨tg t,by subst_vars;exact tgE hs ds⟩
theorem yuU (a:Option Addr) (cap:Nat) (l:List Cl) (n:Int) (w:World) (hl:l.length<=9223372036854775807) (bu:l.length<=cap) (hs:Sl w a (cls l)) (bt:a=N->cap=0) (bs:∀c∈l,c.Ok) (ci:n<=9223372036854775807) (hT:Tab w) :
  H I 21 #[Xs a l.length cap,E T n] w λ e w'=>e=Q (Xt #[E T (yiR l n).1,E T (yiR l n).2])/\Bw w w':=by
 obtain ⟨W1,aq⟩:=zx (((w.alloc (J #[E T n] 2)).alloc (J #[E T 0] 2)).alloc (J #[E T 0] 29));have aY:Bw w W1:=by rw [<- aq];exact yaa (yaa (yaa (Ye _ _) zg) zs) (by simp;omega)
 have s1:W1.heap.size=w.heap.size+3:=by rw [<- aq];simp
 have bF:yoZ (w.heap.size+1) 0 0 (λ b=>b=w.heap.size\/ b=w.heap.size+1\/ b=w.heap.size+1+1) W1:=by
  refine ⟨?_,?_,?_,?_, .inr (.inl rfl), .inr (.inr rfl),λ c hc=>by omega⟩ <;> (rw [<- aq];simp [go_sem])
 have k3:W1.cell? (Z w.heap.size 0 N)=G (E T n):=by rw [<- aq];simp [go_sem]
 have z3:W1.frozen? (Z w.heap.size 0 N)=false:=by rw [<- aq];simp [go_sem]
 have cN:=hid (yd5 a cap l W1 hl bu (hs.below aY) bt bs (hT.later aY));have hP:Hid (yiR l n=if yaf l≠0 then (0,yaf l) else if n<1 then (0,1) else if n<=(yhc l).length then ((yhc l).getD (n.toNat-1) 0,0) else (0,15)):=by show _ = _;rw [yiR]
 obtain ⟨pr,ad⟩:=zx (yiR l n);rw [ad] at hP⊢;have bQ:=hid aY;have b5:=hid aq;have S1:=hid s1;have C1:=hid bF;have bH:Hid (0<w.heap.size):=hT.1;clear aq aY hs bs hT s1 bt bu ad bF;refine (wf_calls (r:=N) (n:=1)).mp ?_;refine callsIn_of_wp_marks Tryz.func21 rfl trivial ?_ rfl;simp only [Tryz.ntmps21,Yp,Yu,YS,Nat.reduceAdd,Nat.reduceSub,YE,YD,YQ,YJ,Y0,YH];gi_wp2_with fail
 rw [b5];refine (wf_calls.mpr cN).mono ?_;rintro e w2 ⟨hN,al⟩;have ah:=hid (zu bQ al);have S2:Hid (w.heap.size+3<=w2.heap.size):=by have:=al.size;have:=S1.out;show _<=_;omega
 have C2:Hid (yoZ (w.heap.size+1) 0 0 (λ b=>b=w.heap.size\/ b=w.heap.size+1\/ b=w.heap.size+1+1) w2):=C1.keep al.size (λ c hc=>al.block c (C1.lt c hc));have z32:=(al.frozen (p:=Z w.heap.size 0 N) (by have:=S1.out;simp only [];omega)).trans z3;have a1:=(al.cell (p:=Z w.heap.size 0 N) (by have:=S1.out;simp only [];omega)).trans k3;clear z3 k3;rcases hN with ⟨hf,rfl⟩ | ⟨hf,br,bk,bps,rfl,hR,hM⟩
 ·have ad:Hid (pr= (0,yaf l)):=by show _ = _;rw [hP,Yd hf]
  have ak:Hid (Bw w ((w2.setCell (Z (w.heap.size+1) 0 N) (E T 0)).setCell ⟨w.heap.size+1+1,0,N⟩ (E T (yaf l)))):=yab (yab ah zo) zo;obtain ⟨X,hX⟩:=zx (yaf l);rw [hX] at hf ad ak⊢;have HX:=hid (C2.set (x':=0) (y':=X));obtain ⟨c4,c5,f4,f5,-,-,-⟩:=C2.out;have cq:(X==0)=false:=by simpa using hf
  have bc:(X != 0)=true:=by simpa using hf
  clear al hX hP z32 a1;gi_wp2
  obtain ⟨d4,d5,-,-,-,-,-⟩:=HX.out;refine ⟨_,?_,by rw [ad],ak⟩;simp [results,Tryz.results21,go_sem,d4,d5]
 ·have Hf:=hid hf;have HR:=hid hR;have HM:=hid hM;have bD:=hid hP.out;clear al hR hM hf hP;by_cases h1:n<1
  ·have e1:decide (n<1)=true:=zzZ h1;have ad:Hid (pr= (0,1)):=(by show _ = _;rw [bD,Yb (by rw [Hf];simp),Yd h1]);have ak:Hid (Bw w ((w2.setCell (Z (w.heap.size+1) 0 N) (E T 0)).setCell ⟨w.heap.size+1+1,0,N⟩ (E T 1))):=yab (yab ah zo) zo;have HX:=hid (C2.set (x':=0) (y':=1));obtain ⟨c4,c5,f4,f5,-,-,-⟩:=C2.out;clear h1;gi_wp2
   obtain ⟨d4,d5,-,-,-,-,-⟩:=HX.out;refine ⟨_,?_,by rw [ad],ak⟩;simp [results,Tryz.results21,go_sem,d4,d5]
  ·have e1:decide (n<1)=false:=zzd h1;have n1:1<=n:=zo;clear h1;have cC:=hid (ymr w2);gi_wp2_with fail
   refine (wf_calls.mpr cC).mono ?_;rintro e w3 ⟨rfl,ai⟩;obtain ⟨cf,aS⟩:=zx w3.heap.size;obtain ⟨w4,af⟩:=zx (w3.alloc (J #[yAh w2.heap.size] 113));have s3:cf=w2.heap.size+2:=(by rw [<- aS,ai];simp);have s4:w4.heap.size=w2.heap.size+3:=(by rw [<- af,ai];simp);have B4:Bw w2 w4:=(by rw [<- af,ai];exact yaa (yaa (yaa (Ye _ _) zg) zs) (by simp;omega));have bB:NtC w.heap.size w2.heap.size cf n 0 0 N 0 (λ b=>b=w.heap.size\/ b=w.heap.size+1\/ b=w.heap.size+1+1\/ b=w2.heap.size\/ b=w2.heap.size+1\/ b=cf) w4:=by
    have cg:=S2.out;obtain ⟨c4,c5,f4,f5,-,-,-⟩:=C2.out;refine ⟨(B4.cell (p:=Z w.heap.size 0 N) (by simp only [];omega)).trans a1,(B4.frozen (p:=Z w.heap.size 0 N) (by simp only [];omega)).trans z32,
     ⟨(B4.cell (p:=Z (w.heap.size+1) 0 N) (by simp only [];omega)).trans c4,(B4.cell (p:=⟨w.heap.size+1+1,0,N⟩) (by simp only [];omega)).trans c5,(B4.frozen (p:=Z (w.heap.size+1) 0 N) (by simp only [];omega)).trans f4,(B4.frozen (p:=⟨w.heap.size+1+1,0,N⟩) (by simp only [];omega)).trans f5, .inr (.inl rfl), .inr (.inr (.inl rfl)),λ b hb=>by omega⟩,
     ⟨?_,?_,?_,?_,by omega⟩,?_, .inl rfl, .inr (.inr (.inr (.inl rfl))), .inr (.inr (.inr (.inr (.inl rfl)))), .inr (.inr (.inr (.inr (.inr rfl)))),by omega,by omega⟩
    ·rw [<- af,ai];simp [go_sem,ybA]
    ·rw [<- af,ai];simp [go_sem]
    ·rw [<- af,ai];simp [go_sem]
    ·rw [<- af,ai];simp [go_sem]
    ·rw [<- af,<- aS];simp [go_sem]
   have b6:Hid (yar w4 l br bk bps (yed W1 w2) (λ _=>false) 0):=HR.keep B4.size (λ b hb=>B4.block b (by have:=S2.out;have:=bH.out;rcases hb with hb | hb <;> omega));have bK:=hid bB;have bP:=hid (zu ah B4);have S4:=hid s4;have S3:=hid s3;have b3:=hid af;have b4:=hid aS;have bM:=bD;clear B4 bB s4 af aS s3 ai cC z32 a1;obtain ⟨c0,bw⟩:=zx w2.heap.size;have bm:=hid bw;clear bw;gi_wp2_with fail
   rw [b4,show w3.alloc (J #[Xf (.func 113) #[] #[R (G (Z w2.heap.size 0 N)),R (G (Z (w2.heap.size+1) 0 N))]] 113)=w4 from b3];have cA:=hid (yeX 0 146096 b6 (ymn 0) (zG 0));have aw:=yjn l (f:=0) (t:=146096) zo zo;have ae:=yeU l 0 146096;obtain ⟨X1,bc⟩:=zx (ynL l 0);obtain ⟨X2,aI⟩:=zx (ynK l 146096);rw [bc,aI] at cA aw ae;have tl:=yeW (cs:=l) (br:=br) (bk:=bk) (bps:=bps) ymn (w4.heap.size+1) (w4.heap.size+2) w4.heap.size X1 X2 aw.1 aw.2.1 aw.2.2.1 aw.2.2.2
    (λ j n ws m cb m' hn hi hs=>yeJ hi hs) (λ j ws m hi hj=>by rw [ybg] at hj;rw [ymn] at hi;omega)
   rw [ae] at tl;obtain ⟨L,hL⟩:=zx ((yag X1 X2).length);rw [hL] at tl;have TL:=hid tl;clear aw ae tl hL bc aI;refine (wf_calls.mpr cA).mono ?_;rintro e w5 ⟨rfl,aX,bX,bE⟩;have az:=hid (zu bP aX);have C5:=hid (bK.keep aX.size (λ c hc=>aX.block c (bK.two.lt c hc)));have b8:=hid bE;have bN:Hid (∀b,F3 (yed W1 w2) w4.heap.size b->¬(b=w.heap.size\/ b=w.heap.size+1\/ b=w.heap.size+1+1\/ b=w2.heap.size\/ b=w2.heap.size+1\/ b=cf)):=λ b hb h=>by
    have:=S2.out;have:=S4.out;have:=S3.out;have:=S1.out;have:=bH.out;rcases hb with hb | hb
    ·rcases hb with hb | hb <;> omega
    ·omega
   clear aX bE cA bX;rw [bm] at C5 bN;have bJ:=hid (show w.heap.size+3<=c0 by rw [<- bm];exact S2);have bI:=hid (show cf=c0+2 by rw [<- bm];exact S3);have bG:=hid (show W1.heap.size=w.heap.size+3 from S1);gi_wp2_with fail
   refine ybu (F:=F3 (yed W1 w2) w4.heap.size) (M:=RM br bk bps) (gf:=85) (lb:=#[R (G (Z (w4.heap.size+1) 0 N)),R (G (Z (w4.heap.size+2) 0 N)),R (G (Z w4.heap.size 0 N))]) rfl yca (λ b=>b=w.heap.size\/ b=w.heap.size+1\/ b=w.heap.size+1+1\/ b=c0\/ b=c0+1\/ b=cf)
    (λ k vs F W h=>by obtain ⟨_,_,_,_,_,rfl,_⟩:=h;rfl) TL HA.host HA.host HA.hostE b8 bN
    (NtI l (RM br bk bps) w.heap.size c0 cf n) (NtX l w.heap.size n) (yiS _ _ _ _ _ _) (ytz _ _ _ _) (yvp _ _ _ _ _ _) (yye _ _ _) ⟨by rw [ykt];omega,N,0,by rw [ykt];simpa using C5.out,Knows.none⟩
    (λ k O F a' W=>NtI l (RM br bk bps) w.heap.size c0 cf n k O F W/\∃bx D d,(yaN l (yag 0 146096))[k]? =G D/\SkD l (RM br bk bps) D d bx O F W/\NtT (Xs a l.length cap) (E T n) undef (R (G (Z w.heap.size 0 N))) (R (G (Z (w.heap.size+1) 0 N))) (R (G ⟨w.heap.size+1+1,0,N⟩)) (R (G (Z br 0 N))) (E T 0) (R (G (Z cf 0 N))) (R (G (Z bx 0 N))) (R (G (Z d 0 N))) [] a')
    ?putl ?assign ?body ?done ?stop
   case putl=>
    rintro l' o k O F a' W hr bU au ⟨h1,bx,D,d,h3,h4,h5⟩;have ko:∀b,O b\/ (F b/\¬RM br bk bps b)->(W.putObj l' o).heap[b]? =W.heap[b]?:=λ b hb=>Yc (λ e=>hb.elim (λ h=>bU (e ▸ h)) (λ h=>au (e ▸ h.1)));exact ⟨yiS _ (RM br bk bps) _ _ _ _ k O F F W _ h1 (by rw [Yg];exact zG _) zi ko,bx,D,d,h3,h4.put hr au,h5⟩
   case assign=>
    rintro l' k O6 F6 W6 vs K hk aJ aU ⟨D,d,hn,h0,h1,rfl,hd,ht,hlt⟩ aL hK;rw [<- ya7];obtain ⟨s,hs⟩:=zx (shF D);rw [hs,shq];have Hs:=hid hs;have HP:=hid (Ya aJ (Ya aU (Ya hn (Ya hd (Ya ht (Ya hlt aL))))));clear hs aJ aU hn hd ht hlt aL h0 h1;gi_wp2
    obtain ⟨aJ,aU,hn,hd,ht,hlt,aL⟩:=HP.out;have ab:=yaa (o:=J (ybi s).toArray 83) (Ye W6.heap.size W6) zg;have bv:=yvp _ _ _ _ _ _ _ _ _ _ aJ;refine hK _ O6 _ (yaM.of_below ab) ⟨yiS _ (RM br bk bps) _ _ _ _ _ O6 F6 F6 W6 _ aJ ab.size zi (λ b hb=>ab.block b (hb.elim (bv b) (λ h=>hlt b h.1))),W6.heap.size,D,d,hn,
     ⟨λ b hb=>(aU b hb).1,⟨hd.1,hd.2.1,hd.2.2.block ab.size (ab.block d (hlt d hd.1))⟩,⟨ht.1.later ab,ht.2.1⟩,λ b hb=>zH (hlt b hb) ab.size,by simp,⟨λ h=>by have:=bv _ h;omega,λ h=>by have:=hlt _ h;omega⟩,by rw [Hs];exact ycB W6 83 _ _ _ _ _ _ _ _ _ _⟩,NtT.of⟩
   case done=>
    rintro O9 F9 w9 aK bd be bf ar ⟨aD,c9,m9,hI,-⟩ hD ao au;rw [ywm] at aD;have ad:Hid (pr= (0,15)):=by
     show _ = _;rw [bM,Yb (by rw [Hf];simp),Yb zo,Yb zo]
    have aT:=hI.two;have HX:=hid (aT.set (x':=0) (y':=15));have ca:Hid (Bw w w9):=az.trans (aK.eff.below (λ b hb=>by
     have:=bJ.out;have:=bI.out;rcases hb with (h | h | h | h | h | h) | h
     ·omega
     ·omega
     ·omega
     ·omega
     ·omega
     ·omega
     ·have:=HM b h;have:=bG.out;omega) az.size)
    have b9:Hid (((w9.setCell (Z (w.heap.size+1) 0 N) (E T 0)).setCell ⟨w.heap.size+1+1,0,N⟩ (E T 15)).heap[w5.heap.size]? =G (.deferred (G []))):=by
     show _ = _;rw [Ym _ _ _ _ (λ e=>ao (by rw [e];exact aT.o5)),Ym _ _ _ _ (λ e=>ao (by rw [e];exact aT.o4))];exact hD
    have b7:=hid ao;obtain ⟨c4,c5,f4,f5,-,-,-⟩:=aT;clear aK bd be bf ar ao au hD aD hI;gi_wp2
    refine ⟨by simp, .inl ⟨_,_,rfl,YM b9,?_⟩⟩;have ak:=yaF (yab (yab ca zo) zo:Bw w ((w9.setCell (Z (w.heap.size+1) 0 N) (E T 0)).setCell ⟨w.heap.size+1+1,0,N⟩ (E T 15))) az.size (.deferred N);have aI:=HX.keep (W':=((w9.setCell (Z (w.heap.size+1) 0 N) (E T 0)).setCell ⟨w.heap.size+1+1,0,N⟩ (E T 15)).putObj w5.heap.size (.deferred N)) (by rw [Yg];exact zG _) (λ b hb=>Yc (λ e=>b7 (e ▸ hb)));refine ⟨Xt #[E T 0,E T 15],?_,by rw [ad],ak⟩;obtain ⟨WF,bA⟩:=zx (((w9.setCell (Z (w.heap.size+1) 0 N) (E T 0)).setCell ⟨w.heap.size+1+1,0,N⟩ (E T 15)).putObj w5.heap.size (.deferred N));rw [bA] at aI;obtain ⟨c4,c5,-,-,-,-,-⟩:=aI;rw [bA];simp [results,Tryz.results21,go_sem,c4,c5]
   case stop=>
    rintro c k O9 F9 w9 cl ck aK bd be bf ar ⟨rfl,x,⟨bn,hx⟩,hX⟩ hD ao au;have bz:yoZ (w.heap.size+1) x 0 O9 (w9.putObj w5.heap.size (.deferred N)):=hX.keep (by rw [Yg];exact zG _) (λ b hb=>Yc (λ e=>ao (e ▸ hb)));have ak:Hid (Bw w (w9.putObj w5.heap.size (.deferred N))):=yaF (az.trans (aK.eff.below (λ b hb=>by
     have:=bJ.out;have:=bI.out;rcases hb with (h | h | h | h | h | h) | h
     ·omega
     ·omega
     ·omega
     ·omega
     ·omega
     ·omega
     ·have:=HM b h;have:=bG.out;omega) az.size)) az.size _
    have HD:=hid hD;have HX:=hid bz;have ad:Hid (pr= (x,0)):=by
     show _ = _;obtain ⟨hi,cp⟩:=zzq.1 hx;rw [bM,Yb (by rw [Hf];simp),Yb zo,Yd zo,Yz,hx];rfl
    clear hX aK hD bz bd be bf ar ao au hx;gi_wp2
    refine ⟨by simp, .inl ⟨_,_,rfl,YM HD,?_⟩⟩;obtain ⟨c4,c5,-,-,-,-,-⟩:=HX.out;refine ⟨Xt #[E T x,E T 0],?_,by rw [ad],ak⟩;simp [results,Tryz.results21,go_sem,c4,c5]
   case body=>
    rintro l3 k O6 F6 a' W6 hk aL cj bq bT bV ⟨⟨a6,c,m,aO,bC⟩,bx,D,d,en,hD,V,rfl⟩;have aC:=YN en;rw [yaN,Y5,ybH] at aC;obtain ⟨⟨D0,D1⟩,-⟩:=aC;have cC:=hid (yxs c0 d (yax l D) c m W6 aO.k (λ x hx=>(bC x hx).2.2) hD.di.2.2);have ag:=yty en D0 zo;have ap:∀p (hp:p<(yak (yax l D)).length),(yhc l)[yh9 l 0 12622780799 (yaN l (yag 0 146096)) k+p]? =G (86400*D+(yak (yax l D))[p]):=λ p hp=>ywl en hp D0 zo;obtain ⟨r,hr⟩:=zx (n-((yh9 l 0 12622780799 (yaN l (yag 0 146096)) k:Nat):Int));obtain ⟨q,hq⟩:=zx (yax l D);have r1:1<=r:=zo;have r2:r<=9223372036854775807:=zo;have bW:=ygb q;obtain ⟨s,hs⟩:=zx (shF D);have bS:s 0=D:=(by rw [<- hs];rfl);rw [hr] at aO;rw [hq] at cC ag ap;have co:W6.cell? (Z cf 0 N)=G (Xf (.func 113) #[] #[R (G (Z c0 0 N)),R (G (Z (c0+1) 0 N))]):=aO.co;have am:=hid aO;have aa:=hid hD;have bi:=hid ap;have bl:=hid ag;have Hr:=hid hr;have Hq:=hid hq;have Hs:=hid hs;have En:=hid en;obtain ⟨Nq,hN⟩:=zx ((yak q).length);rw [hN] at cC ag bW;have HN:=hid hN;clear aL hs hD hk en aO bC ap ag hr hq a6 hN;gi_wp2_with fail
    refine (wf_calls.mpr cC).mono ?_;rintro e w7 ⟨rfl,aW,a7⟩;have aN:=am.cnt aW a7;have ac:Eff O6 W6 w7:=aW.wide (λ b hb=>by rcases hb with rfl | rfl;exact am.p0;exact am.p1);have aH:DiscAt w7 d q:=by
     have:=aa.di.2.2.eff ac (aa.dj d aa.di.1);rw [Hq] at this;exact this
    have aR:Tab w7:=aa.tab.1.eff ac (aa.dj _ aa.tab.2);have an:ShS w7 bx s:=by
     have:=yef aa.sh (ac.block bx aa.lx aa.nx.1);rw [Hs] at this;exact this
    have b2:=aN.cn;have b1:=aN.fn;have bO:=hid aN;have aQ:=hid ac;by_cases hm:(Nq:Int)<r
    ·have e2:decide ((Nq:Int)<r)=true:=zzZ hm;have bZ:Hid (NtI l (RM br bk bps) w.heap.size c0 cf n (k+1) O6 F6 (w7.setCell (Z w.heap.size 0 N) (E T (r-(Nq:Int))))):=by
      have h1:=bl.out;have h2:=Hr.out;refine ⟨by rw [h1,HN];omega,G d,Nq,?_,λ x hx=>?_⟩
      ·rw [h1,HN,show n-((yh9 l 0 12622780799 (yaN l (yag 0 146096)) k+Nq:Nat):Int)=r-Nq by omega];exact bO.put
      ·cases hx;exact ⟨aa.di.1,aa.di.2.1,q,DiscAt.block aH zs (Ym _ _ _ _ (λ e=>aa.dj d aa.di.1 (e ▸ am.o0))),by rw [HN]⟩
     have aV:Hid (Eff O6 W6 (w7.setCell (Z w.heap.size 0 N) (E T (r-(Nq:Int))))):=aQ.set am.o0 _ _;clear aN aW a7 ac aH aR an hm co cC;gi_wp2
     exact ⟨O6,⟨λ _ h=>h,λ _ h=> .inl h,aV⟩,bZ⟩
    ·have e2:decide ((Nq:Int)<r)=false:=zzd hm;have ch:r<=Nq:=zo;have cX:=hid (λ (x:Int) W h1 h2 hT hd=>yiq (G d) q x W h1 h2 hT hd);have c1:=hid (cX 0 w7 zo zo aR aH);have bL:Hid (NtL l (RM br bk bps) d bx D w.heap.size c0 cf r O6 F6 W6 0 w7):=
      ⟨⟨G d,Nq,by rw [show r-((0:Nat):Int)=r by omega];exact bO⟩,aQ,by rw [Hq];exact aH,aR,by rw [Hs];exact an⟩
     clear aN aW a7 ac aH aR an hm co cC;gi_wp2_with fail
     refine (wf_calls.mpr c1).mono ?_;rintro e w8 ⟨⟨a8,cd,rfl,bg⟩,bp⟩;rw [<- bp];have bo:Hid ((yak q)[0]? =G a8):=by
      have h0:0<(yak q).length:=(by rw [HN];omega);have:=(yh5 h0 bg).1;show _ = _;rw [zzp h0,this]
     have bb:0<=a8/\a8<86400:=by
      have h0:0<(yak q).length:=(by rw [HN];omega);have h1:=(yh5 h0 bg).1;have h2:=zzr h0;rw [<- h1,yak,sel_mem] at h2;obtain ⟨k2,h3,-,h4⟩:=h2;omega
     clear bg bp c1 b2 b1;gi_wp2_with fail
     gi_loopw [12] (λ av wr=>∃(j:Nat) (x:Int),av=E T x/\0<=x/\x<86400/\(j:Int)<r/\Hid ((yak q)[j]? =G x/\NtL l (RM br bk bps) d bx D w.heap.size c0 cf r O6 F6 W6 j wr)) (λ av _=>(86400-intOf av).toNat)
     case atStart=>exact ⟨0,a8,rfl,bb.1,bb.2,by omega,bo,bL⟩
     case round=>
      clear bL bo bb;obtain ⟨j,x,rfl,x0,x1,hj,HL⟩:=hrel;obtain ⟨⟨c9,m9,ay⟩,bh,ba,a4,a5⟩:=HL.2;have ct:=ay.cn;have cr:=ay.fn;by_cases cm:(j:Int)+1<r
      ·have e3:decide (1<r-(j:Int))=true:=zzZ zo;have c9:=hid (cX (x+1) wr zo zo a4 (by rw [<- Hq];exact ba));clear ay bh ba a4 a5;gi_wp2_with fail
       refine (wf_calls.mpr c9).mono ?_;rintro e cc ⟨⟨aP,a0,rfl,aM⟩,aB⟩;rw [<- aB];have aG:j+1<(yak q).length:=(by rw [HN];omega);have aE:(yak q)[j]? =G x:=HL.1;have aF:j<(yak q).length:=zo;have aA:(yak q)[j]=x:=(by rw [zzp aF] at aE;exact Option.some.inj aE);have aj:FirstOf (λ k=>q k&&decide ((yak q)[j]+1<=(k:Int))) aP a0:=(by rw [aA];exact aM);have hf:=(yoJ aG aj).1;have bn:Hid ((yak q)[j+1]? =G aP):=by
        show _ = _;rw [zzp aG,hf]
       have a3:x<aP/\aP<86400:=by
        have hp:(yak q).Pairwise (·< ·):=yaO _ _;have h1:=(yn6 hp aF aG).2 zo;have h2:=zzr aG;rw [<- hf] at h2 h1;rw [yak,sel_mem] at h2;obtain ⟨k2,h3,-,h4⟩:=h2;rw [aA] at h1;omega
       have bR:=a3.1;have a2:=a3.2;have bj:Hid (d≠w.heap.size/\bx≠w.heap.size/\0≠w.heap.size):=⟨λ e=>aa.dj d aa.di.1 (e ▸ am.o0),λ e=>aa.nx.1 (e ▸ am.o0),λ e=>aa.dj _ aa.tab.2 (e ▸ am.o0)⟩;have bY:((j+1:Nat):Int)<r:=zo;clear aM aj hf aA aE aG a3 aB c9 aF;gi_wp2
       refine ⟨⟨j+1,aP,rfl,by omega,a2,bY,bn,HL.2.put bj.1 bj.2.1 bj.2.2 zo⟩,by simp [intOf];omega⟩
      ·have e3:decide (1<r-(j:Int))=false:=zzd zo;have a9:Hid ((1<=n/\(yhc l)[n.toNat-1]? =G (86400*D+x))/\yoZ (w.heap.size+1) 0 0 O6 wr/\Eff O6 W6 wr):=by
        have aE:(yak q)[j]? =G x:=HL.1;obtain ⟨aF,aA⟩:=zzq.1 aE;have h1:=bi j aF;have h2:=Hr.out;refine ⟨⟨n1,?_⟩,ay.two,bh⟩;rw [show n.toNat-1=yh9 l 0 12622780799 (yaN l (yag 0 146096)) k+j by omega,h1,aA]
       rw [Hs] at a5;obtain ⟨s0,-⟩:=a5;rw [bS] at s0;obtain ⟨g4,g5,z4,z5,-,-,-⟩:=ay.two;clear ay bh ba a4 HL;gi_wp2
       obtain ⟨hy,ax,aV⟩:=a9.out;first
        | exact ⟨O6,⟨λ _ h=>h,λ _ h=> .inl h,(aV.set ax.o4 _ _).set ax.o5 _ _⟩,rfl,_,hy,ax.set⟩
        | (rw [Int.mul_comm] at hy;exact ⟨O6,⟨λ _ h=>h,λ _ h=> .inl h,(aV.set ax.o4 _ _).set ax.o5 _ _⟩,rfl,_,hy,ax.set⟩)
end
