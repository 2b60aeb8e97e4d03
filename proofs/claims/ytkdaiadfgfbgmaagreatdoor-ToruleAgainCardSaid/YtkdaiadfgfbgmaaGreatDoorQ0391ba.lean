/- The function that a disc's All makes tells its sec -/
import Derived.Test.YtkdaiadfgfbgmaaGreatDoorQ4c7685
import Derived.Deep.Heap
import Derived.Lib.Mul64
import Derived.Deep.CutRange
import Derived.Maps.OwnIn
import Derived.DeepKeys5
import Derived.Lib.AppendZeros
import Derived.Lib.SliceRun
set_option maxRecDepth 100000
set_option maxHeartbeats 25600000
set_option linter.unusedSimpArgs false
open Option renaming none -> N, some -> G
open Go.Value renaming int -> E, pointer -> R, slice -> Xs, bool -> Xb, func -> Xf, tuple -> Xt
open Go.IntKind renaming i64 -> T, u64 -> Y
open Go.Addr renaming mk -> Z
open Go renaming Calls -> H
open Go.Proofs.Tryz renaming prog -> I
open Go.Obj renaming cells -> J
open Go.Ending renaming returned -> Q
namespace Go.Proofs.YtkdaiadfgfbgmaaGreatDoor
open Go.RowKit Go.Maps
set_option linter.unusedVariables false
section
attribute [local go_sem] Yw
theorem ysz (b:Nat) (f:Nat->Nat) (w:World) (hc:DC w b f) (hb:b<w.heap.size) :
  H I 136 #[R (G (Z b 0 N))] w λ e w'=>e=Q (Xf (.func 186) #[] #[R (G (Z w.heap.size 0 N))])/\DC w' w.heap.size f/\Bw w w'/\w.heap.size<w'.heap.size:=by
 obtain ⟨W1,ae⟩:=zx (w.alloc (J Tryz.zeroCells161 161));have q1:DC W1 w.heap.size (λ _=>0):=by rw [<- ae];exact yrD w
 have q2:∀i,W1.frozen? (Z w.heap.size i N)=false:=λ i=>by rw [<- ae];exact yan w _ _ i
 have q3:Bw w W1:=by rw [<- ae];exact yaa (Ye _ _) zg
 have q4:W1.heap.size=w.heap.size+1:=by rw [<- ae];simp
 have hu:Upd w.heap.size (λ _=>0) W1 W1:=⟨q1,q2,λ _ _=>by omega,Eff.refl _ _⟩;have a3:=hid (ynA (hc.below q3 hb));have a2:=hid (hu.there' f);have ay:=hid (hu.all f);have aS:=hid ae;have Q3:=hid q3;clear ae q1 q2 q3 hc hu;go_enter Tryz.func136,Tryz.ntmps136
 go_wp2_with fail
 rw [aS];refine wp_load_mid 161 (.tmp 8) rfl b 0 rfl _ _ a3 Tryz.underlying161 rfl (by rw [Yi,ZB];exact yi3) ?_;obtain ⟨cs,aA⟩:=zx ((List.range 1350).map (λ i=>Value.int Y (f i:Nat)));have aj:cs.length=1350:=by rw [<- aA,Yi,ZB]
 have ao:cs.toArray.all (·.oneCell')=true:=by rw [<- aA];simp [Value.oneCell']
 rw [aA] at ay a2⊢;have aQ:=hid ao;have ax:=hid aj;clear aA a3 ao aj;go_wp2_with (refine wpList_store_mid rfl 161 (.tmp 3) (.tmp 9) rfl w.heap.size 0 cs.toArray rfl rfl a2 (by rw [Yp,ax];exact yi3) aQ ?_)
 go_ret;exact ⟨rfl,ay.1,Q3.trans (ay.2.below (by rintro b rfl;exact zG _) zo),by have:=ay.2.size;omega⟩
theorem yfW (t:Nat->Nat) (b1:Nat) (y:Value) (Jq Jx:ycQ) (O:Nat->Prop) (W:World) (ht:∀i,i<1350->t i<18446744073709551616)
  (hC:yfC I y (yb3 t 1350) Jq Jx O W) (hJ:Jq 0 O W) (bi:b1<W.heap.size) (a5:¬O b1) (a7:DC W b1 t) (hT:Tab W) (a9:¬O 0) :
  H I 186 #[y,R (G (Z b1 0 N))] W λ e W'=>(∃v,e=Q v)/\yzk (yb3 t 1350) Jq Jx O W W':=by
 obtain ⟨yf,yi,yc,rfl⟩:=hC.form;have HC:=hid hC;have HT:=hid hT;have bB:=hT.1;have HN:=hid a9;have bo:=hid a5;obtain ⟨W1,ae⟩:=zx (W.alloc (J #[.func yf yi yc] 131));have q3:W1.heap.size=W.heap.size+1:=by rw [<- ae];simp
 have q4:Bw W W1:=by rw [<- ae];exact yaa (Ye _ _) zg
 have q5:W1.cell? (Z W.heap.size 0 N)=G (.func yf yi yc):=by rw [<- ae];simp [go_sem]
 have br:=hid (a7.below q4 bi);have aS:=hid ae;have ey:=hid q5;have Q4:=hid q4;have bq:Hid (Jq 0 O W1):=yb5 hC.stab hC.lt hJ q4;have bn:=hid (hC.lt 0 O W hJ);have Ht:=hid ht;have am:=hid (λ i hi b' Ow w (h1:b'<w.heap.size) h2 h3 h4 h5=>yb7 (t i) b' Ow w (ht i hi) h1 h2 h3 h4 h5);clear hC hT hJ a9 q4 q5 a7 ae ht a5;refine (wf_calls (r:=N) (n:=1)).mp ?_;refine callsIn_of_wp_marks Tryz.func186 rfl trivial ?_ rfl;simp only [Tryz.ntmps186,Yp,Yu,YS,Nat.reduceAdd,Nat.reduceSub,YE,YD,YQ,YJ,Y0,YH];gi_wp2_with fail
 refine ybO ?_;rw [aS];gi_wp2_with fail
 refine wpIn_label ?_;gi_wp2_with fail
 refine wpIn_loop (λ a' w'=>∃(i:Nat) (u3 u4 u6 u7 u8 u9 aZ aY aX aW aL aK aJ aI aH aG aF aE:Value) (Ds:List Nat) (O':Nat->Prop),i<=1350/\a' = {tmps:=#[.func yf yi yc,R (G (Z b1 0 N)),R (G (Z W.heap.size 0 N)),u3,u4,E T (i:Nat),u6,u7,u8,u9,aZ,aY,aX,aW,aL,aK,aJ,aI,aH,aG,aF,aE],defers:=marks Ds}/\Hid (Jq (yb3 t i).length O' w'/\yaM O O' W1 w'/\(∀D∈Ds,w'.heap[D]? =G (.deferred (G []))/\¬O' D/\W1.heap.size<=D)/\Ds.Nodup))
  (λ a' _=>1350-(intOf (a'.tmps.getD 5 undef)).toNat) ?start ?round
 case start=>exact ⟨0,_,_,_,_,_,_,_,_,_,_,_,_,_,_,_,_,_,_,[],O,by omega,rfl,bq,yaM.refl _ _,λ D h=>(by cases h),List.nodup_nil⟩
 case round=>
  rintro a' w2 ⟨i,u3,u4,u6,u7,u8,u9,aZ,aY,aX,aW,aL,aK,aJ,aI,aH,aG,aF,aE,Ds,O2,hi,rfl,HI⟩;by_cases hlt:i<1350
  ·obtain ⟨ag,ab,ac,ah⟩:=HI.out;have a1:W.heap.size<W1.heap.size:=zo;have nO:¬O W.heap.size:=λ h=>(by have:=bn _ h;omega);obtain ⟨wA,al⟩:=zx (w2.alloc (J #[E T (i:Nat)] 3));have sA:wA.heap.size=w2.heap.size+1:=(by rw [<- al];simp);have bA:Bw w2 wA:=(by rw [<- al];exact yaa (Ye _ _) zg);have cA:wA.cell? (Z w2.heap.size 0 N)=G (E T (i:Nat)):=(by rw [<- al];simp [go_sem]);have a0:b1<w2.heap.size:=(by have:=ab.eff.size;omega);have bb:w2.cell? (Z b1 i N)=G (E Y (t i:Nat)):=((ab.cell zo bo i).trans (br i hlt));have bk:(w2.alloc (J #[E T (i:Nat)] 3)).cell? (Z b1 i N)=G (E Y (t i:Nat)):=(by rw [al];exact (bA.cell (p:=Z b1 i N) a0).trans bb);have aT:=yd6 (t i) wA (Ht i hlt);rw [sA] at aT;have HM:=hid aT;have bm:=hid al;have BA:=hid bA;have CA:=hid cA;have bz:(i:Int)<1350:=zo;clear aT al bA ag ab ac ah;gi_wp2_with fail
   rw [bm];refine (wf_calls.mpr HM).mono ?_;rintro e w3 ⟨rfl,a6,aN,bh⟩;have aa:Bw w2 w3:=BA.trans (aN.mono zo);have aV:=hid aa;obtain ⟨ag,ab,ac,ah⟩:=HI.out;have ap:=HC.lt _ _ _ ag;have GG:Hid (yaM O O2 W w3):=(yaM.of_below Q4).trans (ab.trans (yaM.of_below aa));have ba:=(((HT.later Q4).eff ab.eff HN).later aa);have tl:=hid (am i hlt (w2.heap.size+1+1) O2 w3 bh (λ h=>by have:=ap _ h;omega) a6 ba (ab.not (b:=0) (zp ((HT.later Q4).1)) HN));have bj:=hid ((aa.cell (p:=Z W.heap.size 0 N) (by have:=ab.eff.size;simp only [];omega)).trans ((ab.cell a1 nO 0).trans ey));have bl:=hid ((aN.cell (p:=Z w2.heap.size 0 N) (by simp only [];omega)).trans CA);have bc:=hid (Ya (ab.not a1 nO) (show¬O2 w2.heap.size from λ h=>by have:=ap _ h;omega));have bt:=ab.eff.size;have bs:=aa.size;have bp:Hid (Jq (yb3 t i).length O2 w3):=yb5 HC.stab HC.lt ag aa;have aD:=hid (λ D hD=>(⟨(aa.block D (yam (ac D hD).1)).trans (ac D hD).1,(ac D hD).2.1,(ac D hD).2.2,yam (ac D hD).1⟩:w3.heap[D]? =G (.deferred (G []))/\¬O2 D/\W1.heap.size<=D/\D<w2.heap.size));have bd:=hid ah;have aU:=hid ab;clear a6 aN aa ag ab ac ah ba HM cA bb bk a0;gi_wp2_with fail
   refine ybj (gf:=201) (lb:=#[R (G ⟨w2.heap.size+1+1,0,N⟩)]) rfl yb8 (sel (t i).testBit 64) O2 rfl tl
    (λ k O W=>Jq ((yb3 t i).length+k) O W) (λ c k O W=>c= .exit 0/\∃q,1<=q/\q<=(yb3 t 1350).length/\Jx q O W)
    (λ k O W W' h hs hO=>HC.stab _ O W W' h hs hO) (λ c k O W W' h hs hO=>⟨h.1,by obtain ⟨q,h1,h2,h3⟩:=h.2;exact ⟨q,h1,h2,HC.stabx _ O W W' h3 hs hO⟩⟩)
    (λ k O W h=>HC.lt _ O W h) (λ c k O W h=>by obtain ⟨_,q,h1,h2,h3⟩:=h;exact HC.ltx _ O W h3) (by simpa using bp.out)
    (λ k O a' W'=>Jq ((yb3 t i).length+k) O W'/\∃x,(sel (t i).testBit 64)[k]? =G x/\a' = {tmps:=#[.func yf yi yc,R (G (Z b1 0 N)),R (G (Z W.heap.size 0 N)),R (G (Z w2.heap.size 0 N)),E T x,E T (i:Nat),Xb true,E T (i:Nat),E T (i:Nat),R (G (Z b1 i N)),E Y (t i:Nat),Xs (G (Z (w2.heap.size+1) 0 N)) 1 1,Xf (.func 201) #[] #[R (G ⟨w2.heap.size+1+1,0,N⟩)],E T x,aL,aK,aJ,aI,aH,aG,aF,aE],defers:= []})
    (λ l o k O a' W' hr hn h=>⟨ybJ HC.stab h.1 hn o,h.2⟩) ?assign ?body ?done ?stop
   case assign=>
    intro l k O6 W6 K hk aC au hK;gi_wp2
    exact hK _ O6 _ (yaM.refl _ _) ⟨aC,_,zzp hk,rfl⟩
   case body=>
    rintro l3 k O6 a' W6 hk au bu a4 bg ⟨aC,x,ex,rfl⟩;have bC:=(au.cell (b:=W.heap.size) zo bc.1 0).trans bj.out;have bD:=(au.cell (b:=w2.heap.size) zo bc.2 0).trans bl.out;have a8:=ymy t 1350 i k hlt hk;obtain ⟨ak,an⟩:=zzq.1 a8;have af:=HC.call _ O6 W6 ak aC (GG.trans au);obtain ⟨_,aP⟩:=zzq.1 ex;have bx:=yjQ (p:=(t i).testBit) k hk;rw [aP] at bx;rw [an,aP,show ((64*i:Nat):Int)+x= (i:Int)*64+x by omega] at af;have av:=hid af;have aR:=hid ak;obtain ⟨x1,x2⟩:=bx;clear af ak an aP aC au a8 ex;gi_wp2_with (refine ylX (.tmp 14) (.tmp 18) _ rfl rfl rfl rfl av ?_)
    rintro e W7 O7 h1 h2 h3 aO;rcases aO with ⟨rfl,ar⟩ | ⟨rfl,ar⟩
    ·have aw:Hid (yaM O6 O7 W6 W7/\Jq ((yb3 t i).length+(k+1)) O7 W7):=⟨⟨h1,h2,h3⟩,ar⟩;clear h1 h2 h3 ar;refine ⟨_,rfl,?_⟩;gi_wp2
     exact ⟨O7,aw.1,aw.2⟩
    ·have aw:Hid (yaM O6 O7 W6 W7/\∃q,1<=q/\q<=(yb3 t 1350).length/\Jx q O7 W7):=⟨⟨h1,h2,h3⟩,_,by omega,Nat.succ_le_of_lt aR,ar⟩;clear h1 h2 h3 ar;refine ⟨_,rfl,?_⟩;gi_wp2
     exact ⟨O7,aw.1,rfl,aw.2⟩
   case done=>
    intro O9 w9 ai aB hD aM;have ad:∀D∈w3.heap.size::Ds,w9.heap[D]? =G (.deferred (G []))/\¬O9 D/\W1.heap.size<=D:=by
     intro Eq1 hE;rcases List.mem_cons.mp hE with rfl | hE
     ·exact ⟨hD,aM,by omega⟩
     ·obtain ⟨e1,e2,e3,e4⟩:=aD Eq1 hE;exact ⟨(ai.eff.block Eq1 zo e2).trans e1,ai.not zo e2,e3⟩
    have az:(w3.heap.size::Ds).Nodup:=List.nodup_cons.mpr ⟨λ h=>by have:=(aD _ h).2.2.2;omega,bd⟩;have aq:(yb3 t (i+1)).length= (yb3 t i).length+(sel (t i).testBit 64).length:=(by rw [yb3,YG,yjF,Yi]);have HE:Hid (Jq (yb3 t (i+1)).length O9 w9/\yaM O O9 W1 w9/\(∀D∈w3.heap.size::Ds,w9.heap[D]? =G (.deferred (G []))/\¬O9 D/\W1.heap.size<=D)/\(w3.heap.size::Ds).Nodup):=
     ⟨by rw [aq];exact aB,aU.trans ((yaM.of_below aV).trans ai),ad,az⟩
    clear ad az aq aB ai;gi_wp2
    exact ⟨⟨i+1,_,_,_,_,_,_,_,_,_,_,_,_,_,_,_,_,_,_,w3.heap.size::Ds,O9,by omega,rfl,HE⟩,by simp [intOf];omega⟩
   case stop=>
    rintro c k O9 w9 bw bv ai ⟨rfl,q,bf,be,aB⟩ hD aM;have ad:∀D∈w3.heap.size::Ds,w9.heap[D]? =G (.deferred (G []))/\¬O9 D/\W1.heap.size<=D:=by
     intro Eq1 hE;rcases List.mem_cons.mp hE with rfl | hE
     ·exact ⟨hD,aM,by omega⟩
     ·obtain ⟨e1,e2,e3,e4⟩:=aD Eq1 hE;exact ⟨(ai.eff.block Eq1 zo e2).trans e1,ai.not zo e2,e3⟩
    have az:(w3.heap.size::Ds).Nodup:=List.nodup_cons.mpr ⟨λ h=>by have:=(aD _ h).2.2.2;omega,bd⟩;have hG:=GG.trans ai;gi_wp2
    rw [Zc];refine ya6 zs (w3.heap.size::Ds) w9 az (λ D hD=>(ad D hD).1) ?_;intro w' e1 e2 e3 e4 e5;exact ⟨_,YO rfl _ _ _,⟨_,rfl⟩,O9,hG.sub,hG.new,ydK hG.eff (λ D hD=>by have:=(ad D hD).2.2;omega) e1 e2 e3 e4 e5, .inr ⟨q,bf,be,yhJ HC.stabx aB (λ D hD=>(ad D hD).2.1) e4 e5⟩⟩
  ·obtain rfl:i=1350:=zo;obtain ⟨ag,ab,ac,ah⟩:=HI.out;have hG:=(yaM.of_below (O:=O) Q4).trans ab;have HH:=hid (Ya ag (Ya hG (Ya ac ah)));clear ag ab ac ah hG;gi_wp2
   rw [Zc];obtain ⟨ag,hG,ac,ah⟩:=HH.out;refine ya6 zs Ds w2 ah (λ D hD=>(ac D hD).1) ?_;intro w' e1 e2 e3 e4 e5;exact ⟨_,YO rfl _ _ _,⟨_,rfl⟩,O2,hG.sub,hG.new,ydK hG.eff (λ D hD=>by have:=(ac D hD).2.2;omega) e1 e2 e3 e4 e5, .inl (yhJ HC.stab ag (λ D hD=>(ac D hD).2.1) e4 e5)⟩
end
def ydw (f:Nat->Nat) (s j:Nat):Nat:=mk (λ t=>(f j).testBit t&&decide (s<=64*j+t))
theorem yt0 (f:Nat->Nat) (s j:Nat):ydw f s j<18446744073709551616:=yaG _
theorem yrq (f:Nat->Nat) (s j:Nat) (h:j<s/64):ydw f s j=0:=by
 rw [ydw,<- yct];exact ybm λ k hk=>by rw [zzd zo,Y3]
theorem yoG (f:Nat->Nat) (s j:Nat) (h:s/64<j) (hf:f j<18446744073709551616):ydw f s j=f j:=by
 refine (yf4 hf λ k hk=>?_).symm;rw [zzZ zo,Y7]
theorem yrr (f:Nat->Nat) (s k:Nat):ybM (ydw f s) k= (ybM f k&&decide (s<=k)):=by
 rw [ybM,ydw,yaW,ybM,zzZ (Nat.mod_lt _ zo),zzo];have:64*(k/64)+k%64=k:=Nat.div_add_mod k 64
 rw [this]
theorem yt1 (f:Nat->Nat) (s:Nat) (hf:f (s/64)<18446744073709551616):ydw f s (s/64)=f (s/64)/2 ^ (s%64)*2 ^ (s%64):=by
 have h1:f (s/64)/2 ^ (s%64)*2 ^ (s%64)<=f (s/64):=Nat.div_mul_le_self _ _;refine (yf4 zo λ k hk=>?_).symm;rw [<- Nat.shiftRight_eq_div_pow,<- Nat.shiftLeft_eq,Nat.testBit_shiftLeft,Nat.testBit_shiftRight];by_cases h:s%64<=k
 ·rw [show s%64+(k-s%64)=k by omega,zzZ (show k ≥ s%64 from h),zzZ (show s<=64*(s/64)+k by omega),zzo,Y7]
 ·rw [zzd (show¬k ≥ s%64 from h),zzd (show¬s<=64*(s/64)+k by omega),Yv,Y3]
theorem yio (b:Nat) (q:Nat->Bool) (s:Nat) (w:World) (hs:s<86400) (hT:Tab w) (hd:DiscAt w b q) :
  H I 33 #[R (G (Z b 0 N)),E T s] w λ r w'=>(∃n ok,r=Q (Xt #[E T n,Xb ok])/\FirstOf (λ k=>q k&&decide (s<=k)) n ok)/\w=w':=by
 obtain ⟨f,f1,f2,f3,f4,f5⟩:=hd;have c1:=hid (yeZ (s:Int) w);rw [yeP,zzZ hs] at c1;have c2:=hid (λ m hm=>ydQ m w hm hT);have HC:=hid f1;have Hf:=hid f3;have hlt:=hid (λ j=>yt0 f s j);have ae:=hid (λ j h=>yrq f s j h);have ab:=hid (λ j h hf=>yoG f s j h hf);have ai:Hid (IntKind.u64.wrap ((f (s/64):Int)/2 ^ (s%64)*2 ^ (s%64))= ((ydw f s (s/64):Nat):Int)):=by
  show _ = _;have h1:f (s/64)/2 ^ (s%64)*2 ^ (s%64)<=f (s/64):=Nat.div_mul_le_self _ _;have h2:=f3 (s/64) zo;have e:((f (s/64):Int)/2 ^ (s%64)*2 ^ (s%64))= ((f (s/64)/2 ^ (s%64)*2 ^ (s%64):Nat):Int):=by simp
  rw [e,ybT zo,yt1 f s h2]
 have ac:Hid (∀k,k<86400->ybM (ydw f s) k= (q k&&decide (s<=k))):=λ k hk=>by rw [yrr,f4 k hk]
 have ap:(s:Int)<87000:=zo;have hi:s/64<1350:=zo;have e1:=f1 (s/64) hi;have aq:(0:Int)<=s:=zo;have ar:max (s:Int) 0=s:=zo;clear hs f1 f2 f3 f4 f5 hT;go_enter Tryz.func33,Tryz.ntmps33
 go_wp2_with fail
 refine zm c1 ?_;rintro w' rfl;go_wp2_with fail
 rw [ai];clear ai e1;go_loopw [6,7] (λ m i wr=>∃k:Nat,i=E T k/\m=E Y (ydw f s k:Nat)/\Hid (s/64<=k)/\k<1350/\Hid (∀j,j<k->ydw f s j=0)/\wr=w) (λ _ i _=>1350-(intOf i).toNat)
 case atStart=>exact ⟨s/64,by simp,rfl,zG _,hi,ae,rfl⟩
 case round=>
  obtain ⟨k,rfl,rfl,ah,am,hz,rfl⟩:=hrel;have d4:=hid (c2 _ (hlt k));have aj:=hid (yh6 (ydw f s) k am hz (hlt k));obtain ⟨b1,b2⟩:=yhY (hlt k);have ao:Hid (ybY (ydw f s k)=false->ydw f s k=0):=λ h=>by simpa [ybY] using h
  obtain ⟨L,hL⟩:=zx (ycI (ydw f s k));rw [hL] at d4 aj b1 b2;clear hL;cases hB:ybY (ydw f s k)
  ·rw [hB] at d4;have ag:Hid (∀j,j<k+1->ydw f s j=0):=λ j hj=>by
    by_cases e:j=k
    ·rw [e];exact ao hB
    ·exact hz j zo
   clear hB;by_cases aa:k+1=1350
   ·have ak:Hid (((k:Int)+1==1350)=true):=(by show _ = _;simp;omega);have al:Hid (FirstOf (ybM (ydw f s)) 0 false):=yh7 _ (λ j hj=>ag j zo);have an:=ak.out;clear aa;go_wp2_with fail
    refine zm d4 ?_;rintro w' rfl;go_wp2;go_ret2
    exact ⟨⟨_,_,rfl,al.congr ac⟩,rfl⟩
   ·have af:k+1<1350:=zo;have ak:((k:Int)+1==1350)=false:=(by simp;omega);have e5:=HC (k+1) af;have e6:=ab (k+1) (zp ah.out) (Hf _ af);rw [<- e6] at e5;have ad:Hid (s/64<=k+1):=Nat.le_succ_of_le ah.out;clear aa e6;go_wp2_with fail
    refine zm d4 ?_;rintro w' rfl;go_wp2;exact ⟨⟨k+1,by go_num,rfl,ad,af,ag,by trivial⟩,by simp [intOf];omega⟩
  ·rw [hB] at d4;have hr:=hid (aj hB);clear hB;go_wp2_with fail
   refine zm d4 ?_;rintro w' rfl;go_wp2;go_ret2
   exact ⟨⟨_,_,rfl,hr.congr ac⟩,rfl⟩
theorem yu5 (b:Nat) (f:Nat->Nat) (w:World) (hc:DC w b f) (hf:∀i,i<1350->f i<18446744073709551616) :
  H I 83 #[R (G (Z b 0 N))] w λ e w'=>e=Q (E T (ynm f 1350:Nat))/\w=w':=by
 have c2:=hid (λ i hi W=>yjv (f i) W (hf i hi));obtain ⟨Nq,hN⟩:=zx (ynm f 1350);have hl:=hid (λ n=>yq4 f n);have HC:=hid hc;have HN:Hid (∀k,k=1350->ynm f k=Nq):=λ k hk=>by rw [hk];exact hN
 rw [hN];clear hN hc hf;go_enter Tryz.func83,Tryz.ntmps83
 go_wp2;go_loopw [3,7] (λ m i wr=>∃(k:Nat) (x:Nat),i=E T k/\k<=1350/\m=E T x/\Hid (x=ynm f k)/\wr=w) (λ _ i _=>1350-(intOf i).toNat)
 case atStart=>exact ⟨0,0,rfl,by omega,rfl,(rfl:0=ynm f 0),rfl⟩
 case round=>
  obtain ⟨k,x,rfl,hk,rfl,hx,rfl⟩:=hrel;have h1:=hl k;by_cases hlt:k<1350
  ·have h2:=hl (k+1);have e1:=HC k hlt;have aa:=yq3 f k;have C2:=hid (c2 k hlt wr);obtain ⟨y,hy⟩:=zx (Lib.popAux 64 (f k));rw [hy] at aa C2;rw [aa] at h2;rw [<- hx] at h1 h2;have ab:Hid (x+y=ynm f (k+1)):=(by show _ = _;rw [aa,hx]);have ad:(k:Int)<1350:=zo;clear hy aa;go_wp2_with fail
   refine zm C2 ?_;rintro w' rfl;go_wp2;exact ⟨⟨k+1,x+y,by go_num,by omega,by simp,ab,trivial⟩,by simp [intOf];omega⟩
  ·have ac:Hid (x=Nq):=(by show _ = _;rw [hx];exact HN k zo);rw [<- hx] at h1;go_wp2;go_ret;exact ⟨by rw [ac];rfl,rfl⟩
section
variable {a:Act} {assign body:Code} {Qq:Exit->Act->World->Prop} {n:Nat} {P:Program}
structure ymw (P:Program) (y:Value) (xs:List (Array Value)) (Jq Jx:ycQ) (O0:Nat->Prop) (W0:World):Prop where
 form:∃f fi cap,y= .func f fi cap
 stab:ybI Jq
 stabx:ybI Jx
 lt:LtO Jq
 ltx:LtO Jx
 call:∀k O W,(hk:k<xs.length)->Jq k O W->yaM O0 O W0 W->CallV P y xs[k] W λ e W'=>∃O':Nat->Prop,(∀b,O b->O' b)/\(∀b,O' b->O b\/ W.heap.size<=b)/\Eff O W W'/\
  ((e=Q (Xb true)/\Jq (k+1) O' W')\/ (e=Q (Xb false)/\Jx (k+1) O' W'))
def yza (xs:List (Array Value)) (Jq Jx:ycQ) (O:Nat->Prop) (W:World) (W':World):Prop:=
 ∃O':Nat->Prop,(∀b,O b->O' b)/\(∀b,O' b->O b\/ W.heap.size<=b)/\Eff O W W'/\(Jq xs.length O' W'\/ ∃k,1<=k/\k<=xs.length/\Jx k O' W')
theorem yj5 {fn:FuncId} {tmps:Array Value} {ps:Array Tmp} {D l:Nat} {Dk:Option Nat} (xs:List (Array Value)) (aB:∀x∈xs,x.size=ps.size)
  {Iq:ycQ} {Ix:Code->ycQ} (hI:ybI Iq) (an:∀c,ybI (Ix c)) (az:LtO Iq) (am:∀c,LtO (Ix c)) (A:Nat->(Nat->Prop)->Act->World->Prop) (hA:∀l o k O a' W,(∃r,W.heap[l]? =G (.loop r))->¬O l->A k O a' W->A k O a' (W.putObj l o))
  (Ow O0:Nat->Prop) (w W1:World) (aL:w.heap.size<=l) (ar:∀O O1 W,(∀b,O b↔O1 b\/ b=l\/ Dk=G b)->yaM O0 O W1 W->yaM Ow O1 w W)
  (ab:∀k O W (K:Act->World->Prop) (hk:k<xs.length),Iq k O W->yaM Ow O w W->(∀a' O' W',yaM O O' W W'->A k O' a' W'->K a' W')->
    assign.wpIn (WF (G l)) n P (Exit.then K (λ _ _ _=>False)) {tmps:=(ps.zip xs[k]).foldl (λ t (p,v)=>t.setIfInBounds p v) tmps,defers:= []} W)
  (ag:∀k O a' W,(hk:k<xs.length)->yaM Ow O w W->(∃r,W.heap[l]? =G (.loop r))->¬O l->A k O a' W->body.wpIn (WF (G l)) n P (ymh Iq Ix k O W) a' W) :
  ymw P (.func (.yield l) #[] #[]) xs (RJ (yaj fn tmps ps assign body D .ready N) l Dk Iq) (λ k O W=>∃c,RJ (yaj fn tmps ps assign body D .done (G c)) l Dk (Ix c) k O W) O0 W1 where
 form:=⟨_,_,_,rfl⟩
 stab:=RJ.stab hI
 stabx:=λ k O W W' ⟨c,h⟩ hs hO=>⟨c,RJ.stab (an c) k O W W' h hs hO⟩
 lt:=RJ.lt az
 ltx:=λ k O W ⟨c,h⟩=>RJ.lt (am c) k O W h
 call:=by
  rintro k O W hk ⟨O1,hO,ax,hD,hi,hl⟩ aU;have hG:=ar O O1 W hO aU;have hlt:=yam hl;have hy:=run_yield (P:=P) (args:=xs[k]) hl (aB _ (zzr hk));refine .inr ⟨l,_,_,_,_,rfl,hy,λ m=>yek (r:=N) (m:=n) (roundIn_of_wpIn trivial ?_)⟩;refine ab k O1 W _ hk hi hG ?_;intro a' O2 Wa ai ha;have aC:=(ai.eff.block l hlt ax).trans hl;have aK:∀d,Dk=G d->Wa.heap[d]? =G (.deferred (G [])):=λ d hd=>(ai.eff.block d (yam (hD d hd).2.2) (hD d hd).1).trans (hD d hd).2.2;have ac:∀b,b<W.heap.size->¬O1 b->¬O2 b:=λ b hb hn h=>by
   rcases ai.new b h with h1 | h1
   ·exact hn h1
   ·omega
  have ae:=ac l hlt ax;have aM:=ai.eff.size;refine ⟨_,run_beginRound aC rfl,?_⟩;obtain ⟨Wb,al⟩:=zx (Wa.putObj l (.loop (yaj fn tmps ps assign body D .busy N)));have aY:Wb.heap.size=Wa.heap.size:=by rw [<- al];exact Yg
  have aS:∀b,b≠l->Wb.heap[b]? =Wa.heap[b]?:=λ b hb=>by rw [<- al];exact Yc hb
  have av:Wb.heap[l]? =G (.loop (yaj fn tmps ps assign body D .busy N)):=by rw [<- al];exact ZH (yam aC)
  have aV:Eff O W Wb:=by rw [<- al];exact (ai.eff.wide (λ b hb=>(hO b).mpr (.inl hb))).putObj (.inl ((hO l).mpr (.inr (.inl rfl)))) _
  have aD:=hG.trans ai;have hb:=ag k O2 a' Wb hk ⟨aD.sub,aD.new,by rw [<- al];exact aD.eff.putObj (.inr aL) _⟩ ⟨_,av⟩ ae (by rw [<- al];exact hA _ _ _ _ _ _ ⟨_,aC⟩ ae ha);rw [al];refine wpIn_mono hb ?_;have fin:∀(aa:Option Code) (O3:Nat->Prop) (W3:World),yaM O2 O3 Wb W3->∀(X:ycQ),ybI X->X (k+1) O3 W3->∃O':Nat->Prop,(∀b,O b->O' b)/\(∀b,O' b->O b\/ W.heap.size<=b)/\
    (Instr.endRound l aa).run P W3= .ok (Xb aa.isNone) (W3.putObj l (.loop (yaj fn tmps ps assign body D (if aa.isNone then .ready else .done) aa)))/\Eff O W (W3.putObj l (.loop (yaj fn tmps ps assign body D (if aa.isNone then .ready else .done) aa)))/\
    RJ (yaj fn tmps ps assign body D (if aa.isNone then .ready else .done) aa) l Dk X (k+1) O' (W3.putObj l (.loop (yaj fn tmps ps assign body D (if aa.isNone then .ready else .done) aa))):=λ aa O3 W3 ad X hX hx=>by
   have aF:=(ad.eff.block l (yam av) ae).trans av;have af:∀b,b<Wb.heap.size->¬O2 b->¬O3 b:=λ b hb hn h=>by
    rcases ad.new b h with h1 | h1
    ·exact hn h1
    ·omega
   have ak:=run_endRound (P:=P) aa aF;refine ⟨λ b=>O3 b\/ b=l\/ Dk=G b,λ b hb=>?_,λ b hb=>?_,?_,?_,O3,λ b=>Y6,af l (yam av) ae,λ d hd=>?_,?_,?_⟩
   ·rcases (hO b).mp hb with h | h
    ·exact .inl (ad.sub b (ai.sub b h))
    ·exact .inr h
   ·rcases hb with h | h
    ·rcases ad.new b h with h1 | h1
     ·rcases ai.new b h1 with h2 | h2
      ·exact .inl ((hO b).mpr (.inl h2))
      ·exact .inr h2
     ·exact .inr zo
    ·exact .inl ((hO b).mpr (.inr h))
   ·exact ak
   ·refine Eff.putObj (aV.trans (ad.eff) λ b hb=>?_) (.inl ((hO l).mpr (.inr (.inl rfl)))) _;rcases ai.new b hb with h2 | h2
    ·exact .inl ((hO b).mpr (.inl h2))
    ·exact .inr h2
   ·obtain ⟨d1,d2,d3⟩:=hD d hd;have aH:=ac d (yam d3) d1;have aG:d<Wb.heap.size:=(by have:=yam (aK d hd);omega);exact ⟨af d aG aH,d2,(Yc d2).trans ((ad.eff.block d aG aH).trans ((aS d d2).trans (aK d hd)))⟩
   ·exact hX _ _ _ _ hx (by rw [Yg];exact zG _) (λ b hb=>Yc (λ e=>af l (yam av) ae (e ▸ hb)))
   ·exact ZH (yam aF)
  rintro e a3 W3 hp;cases e with
  | normal=>
    obtain ⟨O3,ad,aj⟩:=hp;obtain ⟨O',h1,h2,h3,h4,h5⟩:=fin N O3 W3 ad Iq hI aj;exact ⟨_,_,h3,O',h1,h2,h4, .inl ⟨rfl,h5⟩⟩
  | ret=>
    obtain ⟨O3,ad,aj⟩:=hp;obtain ⟨O',h1,h2,h3,h4,h5⟩:=fin (G .ret) O3 W3 ad _ (an _) aj;exact ⟨_,_,h3,O',h1,h2,h4, .inr ⟨rfl,_,h5⟩⟩
  | exit id=>
    obtain ⟨O3,ad,aj⟩:=hp;obtain ⟨O',h1,h2,h3,h4,h5⟩:=fin (G (.exit id)) O3 W3 ad _ (an _) aj;exact ⟨_,_,h3,O',h1,h2,h4, .inr ⟨rfl,_,h5⟩⟩
  | goto t=>
    obtain ⟨O3,ad,aj⟩:=hp;obtain ⟨O',h1,h2,h3,h4,h5⟩:=fin (G (.goto t)) O3 W3 ad _ (an _) aj;exact ⟨_,_,h3,O',h1,h2,h4, .inr ⟨rfl,_,h5⟩⟩
  | panic ch=>exact hp.elim
  | outgrown=>exact hp.elim
def yvN (P:Program) (gf:Nat) (lb:Array Value) (xs:List (Array Value)) (Ow:Nat->Prop) (w:World):Prop:=
 ∀(y:Value) (Jq Jx:ycQ) (O:Nat->Prop) (W:World),(∀b,O b->Ow b\/ w.heap.size<=b)->Bw w W->ymw P y xs Jq Jx O W->Jq 0 O W->H P gf (#[y]++lb) W λ e W'=>(∃v,e=Q v)/\yza xs Jq Jx O W W'
theorem yfI {g:Operand} {ps:Array Tmp} {w:World} {gf:Nat} {lb:Array Value}
  (hg:a.eval g=Xf (.func gf) #[] lb) (eg:∀args w,(callFunc gf args).run P w= .ok (.enter gf args) w) (xs:List (Array Value)) (Ow:Nat->Prop) (aB:∀x∈xs,x.size=ps.size) (aA:yvN P gf lb xs Ow w)
  (Iq:ycQ) (Ix:Code->ycQ) (hI:ybI Iq) (an:∀c,ybI (Ix c)) (az:LtO Iq) (am:∀c,LtO (Ix c)) (h0:Iq 0 Ow w) (A:Nat->(Nat->Prop)->Act->World->Prop) (hA:∀l o k O a' W,(∃r,W.heap[l]? =G (.loop r))->¬O l->A k O a' W->A k O a' (W.putObj l o))
  (ab:∀l k O W (K:Act->World->Prop) (hk:k<xs.length),Iq k O W->yaM Ow O w W->(∀a' O' W',yaM O O' W W'->A k O' a' W'->K a' W')->
    assign.wpIn (WF (G l)) n P (Exit.then K (λ _ _ _=>False)) {tmps:=(ps.zip xs[k]).foldl (λ t (p,v)=>t.setIfInBounds p v) a.tmps,defers:= []} W)
  (ag:∀l k O a' W,(hk:k<xs.length)->yaM Ow O w W->w.heap.size<=l->(∃r,W.heap[l]? =G (.loop r))->¬O l->A k O a' W->body.wpIn (WF (G l)) n P (ymh Iq Ix k O W) a' W)
  (aq:∀O' W',yaM Ow O' w W'->Iq xs.length O' W'->W'.heap[w.heap.size]? =G (.deferred (G []))->¬O' w.heap.size->Qq .normal {a with defers:={target:= .collected w.heap.size,args:=#[]} ::a.defers} W')
  (ap:∀c k O' W',1<=k->k<=xs.length->yaM Ow O' w W'->Ix c k O' W'->W'.heap[w.heap.size]? =G (.deferred (G []))->¬O' w.heap.size->
    c.wpIn (WF N) n P Qq {a with defers:={target:= .collected w.heap.size,args:=#[]} ::a.defers} W') :
  (Code.rangeFunc g ps assign body).wpIn (WF N) n P Qq a w:=by
 refine wpIn_rangeFunc ?_;intro fn aX;obtain ⟨W1,ay⟩:=zx ((w.alloc (.deferred (G []))).alloc (.loop (yaj fn a.tmps ps assign body w.heap.size .ready N)));have aI:W1.heap[w.heap.size+1]? =G (.loop (yaj fn a.tmps ps assign body w.heap.size .ready N)):=by
  rw [<- ay];have:=Y1 (w.alloc (.deferred (G []))) (.loop (yaj fn a.tmps ps assign body w.heap.size .ready N));(try unfold Bw at this);rwa [zzN] at this
 have ao:Bw w W1:=by rw [<- ay];exact ((Ye _ w).alloc zg _).alloc zs _
 have aT:W1.heap[w.heap.size]? =G (.deferred (G [])):=by
  rw [<- ay];exact (Y4 _ _ _ zs).trans (Y1 w _)
 have hlt:=az 0 Ow w h0;have hJ:RJ (yaj fn a.tmps ps assign body w.heap.size .ready N) (w.heap.size+1) (G w.heap.size) Iq 0 (λ b=>Ow b\/ b=w.heap.size+1\/ G w.heap.size=G b) W1:=
  ⟨Ow,λ b=>Y6,λ h=>by have:=hlt _ h;omega,λ d hd=>by cases hd;exact ⟨λ h=>by have:=hlt _ h;omega,by omega,aT⟩,hI 0 Ow w W1 h0 ao.size (λ b hb=>ao.block b (hlt b hb)),aI⟩
 have aW:=yam aI;have hC:=yj5 (P:=P) (n:=n) (fn:=fn) (tmps:=a.tmps) (D:=w.heap.size) (l:=w.heap.size+1) (Dk:=G w.heap.size) xs aB hI an az am A hA Ow (λ b=>Ow b\/ b=w.heap.size+1\/ G w.heap.size=G b) w W1 zo (λ O O1 W hO hG=>⟨λ b hb=>by
   have aR:=hlt b hb;rcases (hO b).mp (hG.sub b (.inl hb)) with h | h | h
   ·exact h
   ·omega
   ·cases h;omega,λ b hb=>by
   rcases hG.new b ((hO b).mpr (.inl hb)) with (h | h | h) | h
   ·exact .inl h
   ·exact .inr zo
   ·cases h;exact .inr zo
   ·exact .inr (zp ao.size),(Eff.of_below (O:=Ow) ao).trans hG.eff λ b hb=>by
   rcases hb with h | h | h
   ·exact .inl h
   ·exact .inr zo
   ·cases h;exact .inr zo⟩) (ab (w.heap.size+1)) (λ k O a' W hk hG=>ag (w.heap.size+1) k O a' W hk hG zo)
 have au:=aA _ _ _ _ W1 (λ b hb=>by rcases hb with h | h | h;exact .inl h;exact .inr zo;exact .inr (by cases h;omega)) ao hC hJ;refine ⟨w.heap.size+1,[{target:= .collected w.heap.size,args:=#[]}],W1,{target:= .fn (.func gf) lb,args:=#[.func (.yield (w.heap.size+1)) #[] #[]]},W1,gf,
  #[.func (.yield (w.heap.size+1)) #[] #[]]++lb,W1,?_,?_,λ _ _=>trivial,?_,(λ h=>nomatch h),?_⟩
 ·rw [<- ay];exact run_enterLoop_outer _ _ _ _ _
 ·simp only [resolve,hg];simp [go_sem]
 ·simp [invoke,go_sem,eg]
 ·refine wf_calls.mpr (au.mono ?_);have aw:∀(X:ycQ) (k:Nat) (O':Nat->Prop) (W2:World) (st:LoopState) (pe:Option Code),ybI X->st≠ .busy->(∀b,Ow b->O' b)->(∀b,O' b->(Ow b\/ b=w.heap.size+1\/ G w.heap.size=G b)\/ W1.heap.size<=b)->
    Eff (λ b=>Ow b\/ b=w.heap.size+1\/ G w.heap.size=G b) W1 W2->RJ (yaj fn a.tmps ps assign body w.heap.size st pe) (w.heap.size+1) (G w.heap.size) X k O' W2->
    (Instr.endLoop (w.heap.size+1)).run P W2= .ok pe (W2.putObj (w.heap.size+1) (.loop (yaj fn a.tmps ps assign body w.heap.size .exhausted pe)))/\∃O2,yaM Ow O2 w (W2.putObj (w.heap.size+1) (.loop (yaj fn a.tmps ps assign body w.heap.size .exhausted pe)))/\X k O2 (W2.putObj (w.heap.size+1) (.loop (yaj fn a.tmps ps assign body w.heap.size .exhausted pe)))/\
      (W2.putObj (w.heap.size+1) (.loop (yaj fn a.tmps ps assign body w.heap.size .exhausted pe))).heap[w.heap.size]? =G (.deferred (G []))/\¬O2 w.heap.size:=by
   rintro X k O' W2 st pe hX aN ah ac hE ⟨O1,hO,ax,hD,hi,hl⟩;have hr:=run_endLoop (P:=P) hl aN;refine ⟨hr,O1,⟨λ b hb=>?_,λ b hb=>?_,?_⟩,hX _ _ _ _ hi (by rw [Yg];exact zG _) (λ b hb=>Yc (λ e=>ax (e ▸ hb))),(Yc zo).trans (hD _ rfl).2.2,(hD _ rfl).1⟩
   ·have aR:=hlt b hb;rcases (hO b).mp (ah b hb) with h | h | h
    ·exact h
    ·omega
    ·cases h;omega
   ·rcases ac b ((hO b).mpr (.inl hb)) with (h | h | h) | h
    ·exact .inl h
    ·exact .inr zo
    ·cases h;exact .inr zo
    ·exact .inr (zp ao.size)
   ·refine Eff.putObj ((Eff.of_below (O:=Ow) ao).trans hE λ b hb=>?_) (.inr zo) _;rcases hb with h | h | h
    ·exact .inl h
    ·exact .inr zo
    ·cases h;exact .inr zo
  rintro e W2 ⟨⟨v,rfl⟩,O',ah,ac,hE,ak⟩;rcases ak with hj | ⟨k,aP,aO,c,hj⟩
  ·obtain ⟨h1,O2,h2,h3,h4,h5⟩:=aw Iq xs.length O' W2 .ready N hI zs (λ b hb=>ah b (.inl hb)) ac hE hj;exact ⟨N,_,h1,aq O2 _ h2 h3 h4 h5⟩
  ·obtain ⟨h1,O2,h2,h3,h4,h5⟩:=aw (Ix c) k O' W2 .done (G c) (an c) zs (λ b hb=>ah b (.inl hb)) ac hE hj;exact ⟨G c,_,h1,ap c k O2 _ aP aO h2 h3 h4 h5⟩
theorem yyZ {r:Option Nat} {aE:Array Oper} {rest:List Oper} {o:Oper} {W:World} (s x z:Operand) (t t2:TypeId)
  (aQ:o.guard=N) (ho:o.op= .call {callee:= .value s,args:=#[x,z],argTypes:=#[t,t2]}) {y u v:Value} (hs:a.eval s=y) (hx:a.eval x=u) (hz:a.eval z=v) {Rq:Ending->World->Prop}
  (h:CallV P y #[u,v] W Rq) (hK:∀e W',Rq e W'->∃v,e=Q v/\wpListIn (WF r) n P aE Qq rest (a.put o.dst v) W') :
  wpListIn (WF r) n P aE Qq (o::rest) a W:=by
 refine wpListIn_plain aQ λ K aJ=>?_;unfold Oper.wpIn;refine ⟨λ _ _=>trivial,?_⟩;rw [Oper.semAt_plain (WF r) _ _ (by rw [ho];intro c hc;cases hc)];rcases h with ⟨f,cap,rfl,he,hc⟩ | ⟨l,fn,tmps,assign,body,rfl,hy,hc⟩
 ·simp [execOp,ho,resolve,invoke,hs,hx,hz,he,Deferred.ofValue];rw [Oper.uponIn_enter];refine ⟨λ h=>(by cases h),wf_calls.mpr ((show H P f (#[u,v]++cap) W Rq from hc).mono λ e w' hr=>?_)⟩;obtain ⟨v,rfl,hw⟩:=hK e w' hr;exact aJ _ _ hw
 ·simp [execOp,ho,resolve,invoke,hs,hx,hz,hy,Deferred.ofValue];rw [Oper.uponIn_round];refine ⟨λ h=>(by cases h),RoundIn.mono (hc _) λ e w' hr=>?_⟩;obtain ⟨v,rfl,hw⟩:=hK e w' hr;exact aJ _ _ hw
end
abbrev Blk:=Nat->Prop
section
variable {b:Nat} {q q':Nat->Bool} {d:Option Nat} {W W':World}
theorem DiscAt.lt (h:DiscAt W b q):b<W.heap.size:=by obtain ⟨f,_,_,_,_,h⟩:=h;exact h
theorem DiscAt.block (h:DiscAt W b q) (hs:W.heap.size<=W'.heap.size) (hb:W'.heap[b]? =W.heap[b]?):DiscAt W' b q:=by
 obtain ⟨f,h1,h2,h3,h4,h5⟩:=h;exact ⟨f,λ i hi=>(zzJ (w:=W) (a:=Z b i N) hb).trans (h1 i hi),λ i=>(zzM (w:=W) (a:=Z b i N) hb).trans (h2 i),h3,h4,zH h5 hs⟩
theorem DiscAt.eff {O:Blk} (h:DiscAt W b q) (hE:Eff O W W') (hn:¬O b):DiscAt W' b q:=h.block hE.size (hE.block b h.lt hn)
theorem DiscAt.congr (h:DiscAt W b q) (e:∀k,k<86400->q k=q' k):DiscAt W b q':=by
 obtain ⟨f,h1,h2,h3,h4,h5⟩:=h;exact ⟨f,h1,h2,h3,λ k hk=>(h4 k hk).trans (e k hk),h5⟩
theorem DiscAt.unique (h:DiscAt W b q) (h':DiscAt W b q') (k:Nat) (hk:k<86400):q k=q' k:=by
 obtain ⟨f,h1,h2,h3,h4,h5⟩:=h;obtain ⟨f',g1,g2,g3,g4,g5⟩:=h';rw [<- h4 k hk,<- g4 k hk,ybM,ybM];have e:=(h1 (k/64) zo).symm.trans (g1 (k/64) zo);simp only [Option.some.injEq,Value.int.injEq,true_and] at e;have e2:f (k/64)=f' (k/64):=zo;rw [e2]
theorem ykU (b:Nat) (q:Nat->Bool) (s:Int) (w:World) (hd:DiscAt w b q) :
  H I 212 #[R (G (Z b 0 N)),Xs (G (Z w.heap.size 0 N)) 1 1] (w.alloc (J #[E T s] 3)) λ e w'=>(∃v,e=Q v)/\DiscAt w' b (λ k=>q k||decide ((k:Int)=s))/\Eff (λ x=>x=b) w w':=by
 obtain ⟨W1,aa⟩:=zx (w.alloc (J #[E T s] 3));have hb:Bw w W1:=by rw [<- aa];exact yaa (Ye _ _) zg
 have ab:Sl W1 (G (Z w.heap.size 0 N)) (yaR [s]):=by
  refine .inr ⟨w.heap.size,0,rfl,by rw [<- aa];simp,λ j hj=>?_⟩;have:j=0:=by simp [yaR] at hj;omega
  subst this;rw [<- aa];simp [go_sem,yaR]
 rw [aa];have hlt:=hd.lt;obtain ⟨f,h1,h2,h3,h4,h5⟩:=hd.below hb hlt;refine (ysg b f (G (Z w.heap.size 0 N)) 1 [s] W1 zs ab (λ _ g off e=>by cases e;omega) h1 h2 h3).mono λ e w' ⟨g1,g2,g3,g4⟩=>⟨⟨_,g1⟩,⟨_,g2,g3,yqf _ _ h3,λ k hk=>?_,by have:=g4.size;omega⟩,(Eff.of_below (O:=λ x=>x=b) hb).trans g4 (λ x hx=> .inl hx)⟩;rw [ymV _ _ k hk,h4 k hk];simp
def DiscO (W:World):Option Nat->(Nat->Bool)->Prop
 | none,q=>∀k,k<86400->q k=false
 | some b,q=>DiscAt W b q
def ybA:Option Nat->Value
 | none=>R N
 | some b=>R (G (Z b 0 N))
theorem DiscO.v (h:DiscO W d q):DiscV W d q/\dv d=ybA d:=by
 cases d with
 | none=>exact ⟨h,rfl⟩
 | some b=>obtain ⟨f,h1,h2,h3,h4,h5⟩:=h;exact ⟨⟨f,h1,h2,h3,h4,h5⟩,rfl⟩
theorem DiscO.congr (h:DiscO W d q) (e:∀k,k<86400->q k=q' k):DiscO W d q':=by
 cases d with
 | none=>exact λ k hk=>(e k hk).symm.trans (h k hk)
 | some b=>exact DiscAt.congr h e
theorem ypm (b c:Nat) (q r:Nat->Bool) (w:World) (hd:DiscAt w b q) (hc:DiscAt w c r) (ad:c≠b) :
  H I 194 #[R (G (Z b 0 N)),Xs (G (Z w.heap.size 0 N)) 1 1] (w.alloc (J #[R (G (Z c 0 N))] 84)) λ e w'=>(∃v,e=Q v)/\DiscAt w' b (λ k=>q k||r k)/\Eff (λ x=>x=b) w w':=by
 obtain ⟨W1,aa⟩:=zx (w.alloc (J #[R (G (Z c 0 N))] 84));have hb:Bw w W1:=by rw [<- aa];exact yaa (Ye _ _) zg
 have ag:=hd.lt;have af:=hc.lt;obtain ⟨f,h1,h2,h3,h4,h5⟩:=hd.below hb ag;obtain ⟨g,g1,g2,g3,g4,g5⟩:=hc.below hb af;have ab:Sl W1 (G (Z w.heap.size 0 N)) (dvs [(G c,g)]):=by
  refine .inr ⟨w.heap.size,0,rfl,by rw [<- aa];simp,λ j hj=>?_⟩;have:j=0:=by simp [dvs] at hj;omega
  subst this;rw [<- aa];simp [go_sem,dvs,dv]
 rw [aa];refine (ysB b f (G (Z w.heap.size 0 N)) 1 [(G c,g)] W1 zs ab (λ _ x off e=>by cases e;omega) (λ d hd=>?_) ⟨h1,h2,h3,Eff.refl _ _⟩).mono λ e w' ⟨k1,k2⟩=>⟨k1,⟨_,k2.words,k2.free,k2.bd,λ k hk=>?_,by have:=k2.eff.size;omega⟩,(Eff.of_below (O:=λ x=>x=b) hb).trans k2.eff (λ x hx=> .inl hx)⟩
 ·rw [Yy] at hd;subst hd;exact ⟨g1,g3,λ x e=>by cases e;exact ⟨ad,g5⟩⟩
 ·show ybM (orL f [(G c,g)]) k= (q k||r k);rw [<- h4 k hk,<- g4 k hk];simp [orL,ybM,Nat.testBit_or]
theorem ys7 (f:Nat->Nat) (q:Nat->Bool) (h:∀k,k<86400->ybM f k=q k):ynm f 1350= (yak q).length:=by
 rw [<- yjE,ygs,yak];exact congrArg List.length (ygC h)
theorem ykV (d:Option Nat) (q:Nat->Bool) (w:World) (h:DiscO w d q):H I 83 #[ybA d] w λ e w'=>e=Q (E T ((yak q).length:Nat))/\w=w':=by
 cases d with
 | none=>
   have e:(yak q).length=0:=(by rw [yak,yiG h];rfl);rw [e];show H I 83 #[R N] w _;go_enter Tryz.func83,Tryz.ntmps83
   go_wp2;go_ret;exact ⟨rfl,rfl⟩
 | some b=>
   obtain ⟨f,h1,h2,h3,h4,h5⟩:=h;rw [<- ys7 f q h4];exact yu5 b f w h1 h3
theorem ysC (d:Option Nat) (q:Nat->Bool) (n:Int) (w:World) (h:DiscO w d q):H I 69 #[ybA d,E T n] w λ e w'=>e=Q (Xb (ycX n&&q n.toNat))/\w=w':=by
 cases d with
 | none=>
   have e:(ycX n&&q n.toNat)=false:=by
    cases hd:ycX n
    ·rfl
    ·obtain ⟨k,rfl,hk⟩:=ycz hd;rw [YL,h k hk];rfl
   rw [e];exact yu6 n w
 | some b=>
   obtain ⟨f,h1,h2,h3,h4,h5⟩:=h;have e:(ycX n&&q n.toNat)=yxC f n:=by
    rw [yxC];cases hd:ycX n
    ·rfl
    ·obtain ⟨k,rfl,hk⟩:=ycz hd;rw [YL,h4 k hk]
   rw [e];exact ynY b f n w h1 h3
theorem yiq (d:Option Nat) (q:Nat->Bool) (s:Int) (w:World) (h1:0<=s) (ai:s<=9223372036854775807) (hT:Tab w) (h:DiscO w d q) :
  H I 33 #[ybA d,E T s] w λ r w'=>(∃n ok,r=Q (Xt #[E T n,Xb ok])/\FirstOf (λ k=>q k&&decide (s<=k)) n ok)/\w=w':=by
 cases d with
 | none=>
   show H I 33 #[R N,E T s] w _;have ac:Hid (FirstOf (λ k=>q k&&decide (s<=k)) 0 false):= .inr ⟨rfl,rfl,λ k hk=>by show (q k&&_)=false;rw [h k hk];rfl⟩;have ae:max s 0=s:=zo;go_enter Tryz.func33,Tryz.ntmps33
   go_wp2;go_ret2
   exact ⟨⟨_,_,rfl,ac⟩,rfl⟩
 | some b=>
   by_cases h0:86400<=s
   ·show H I 33 #[R (G (Z b 0 N)),E T s] w _;have ac:Hid (FirstOf (λ k=>q k&&decide (s<=k)) 0 false):= .inr ⟨rfl,rfl,λ k hk=>by show (q k&&_)=false;rw [zzd zo,Y3]⟩;have c1:=hid (yeZ s w);have hd:ycX s=false:=(by rw [ycX,zzd (show¬s<86400 by omega),Y3]);rw [hd] at c1;have ae:max s 0=s:=zo;have ah:0<s:=zo;go_enter Tryz.func33,Tryz.ntmps33
    go_wp2_with fail
    refine zm c1 ?_;rintro w' rfl;go_wp2;go_ret2
    exact ⟨⟨_,_,rfl,ac⟩,rfl⟩
   ·obtain ⟨k,rfl⟩:∃k:Nat,s=k:=⟨s.toNat,by omega⟩;refine (yio b q k w zo hT h).mono λ e w' ⟨⟨n,ok,he,hf⟩,hw⟩=>⟨⟨n,ok,he,hf.congr λ j hj=>?_⟩,hw⟩;simp
end
theorem ynP (hs ms ss:Nat) (w:World) (hh:hs<18446744073709551616) (hm:ms<18446744073709551616) (aa:ss<18446744073709551616) :
  H I 220 #[E Y hs,E Y ms,E Y ss] w λ e w'=>e=Q (Xf (.func 221) #[] #[R (G (Z w.heap.size 0 N)),R (G (Z (w.heap.size+1) 0 N)),R (G (Z (w.heap.size+2) 0 N))])/\
   w'.cell? (Z w.heap.size 0 N)=G (E Y (yds hs 23))/\w'.cell? (Z (w.heap.size+1) 0 N)=G (E Y (yds ms 59))/\w'.cell? (Z (w.heap.size+2) 0 N)=G (E Y (yds ss 59))/\
   Bw w w'/\w'.heap.size=w.heap.size+3:=by
 have c1:=hid (λ W=>ynW hs ms ss W hh hm aa);go_enter Tryz.func220,Tryz.ntmps220
 go_wp2_with fail
 refine zm (c1 _) ?_;rintro w' rfl;go_wp2;go_ret;refine ⟨rfl,by simp [go_sem],by simp [go_sem],by simp [go_sem],?_,by simp [go_sem]⟩;exact yaa (yaa (yaa (Ye _ _) zg) zs) (by simp;omega)
theorem yhF (args:Array Value) (w:World):(callFunc 221 args).run I w= .ok (.enter 221 args) w:=by simp [go_sem]
theorem yhE (hs ms ss bh bm bs:Nat) (Ow:Nat->Prop) (w:World) (hh:hs<18446744073709551616) (hm:ms<18446744073709551616) (aa:ss<18446744073709551616)
  (lh:bh<w.heap.size) (lm:bm<w.heap.size) (ls:bs<w.heap.size) (nh:¬Ow bh) (nm:¬Ow bm) (ns:¬Ow bs)
  (ch:w.cell? (Z bh 0 N)=G (E Y (yds hs 23))) (cm:w.cell? (Z bm 0 N)=G (E Y (yds ms 59))) (cs:w.cell? (Z bs 0 N)=G (E Y (yds ss 59))) (hT:Tab w) (ab:¬Ow 0) :
  yfV I 221 #[R (G (Z bh 0 N)),R (G (Z bm 0 N)),R (G (Z bs 0 N))] (ycC hs ms ss) Ow w:=by
 intro y Jq Jx O W hO hB hC hJ;have no:∀b,b<w.heap.size->¬Ow b->¬O b:=λ b hb hn h=>by
  rcases hO b h with h1 | h1
  ·exact hn h1
  ·omega
 exact yl3 (yds hs 23) (yds ms 59) (yds ss 59) bh bm bs y Jq Jx O W (yfs 23 hh) (yfs 59 hm) (yfs 59 aa) hC hJ (zH lh hB.size) (zH lm hB.size) (zH ls hB.size)
  (no _ lh nh) (no _ lm nm) (no _ ls ns) ((hB.cell (p:=Z bh 0 N) lh).trans ch) ((hB.cell (p:=Z bm 0 N) lm).trans cm) ((hB.cell (p:=Z bs 0 N) ls).trans cs) (hT.later hB) (no _ hT.1 ab)
theorem yi7 {m:Nat} {t n:Int} (hm:m<18446744073709551616) (h0:0<=n) (h1:n<=t) (h2:t<64):n∈sel (yds m t).testBit 64↔ya8 m n=true:=by
 obtain ⟨k,rfl⟩:∃k:Nat,n=k:=⟨n.toNat,by omega⟩;rw [yrm hm,ylw,ylw];constructor
 ·rintro ⟨j,hj,hb,e⟩;obtain rfl:k=j:=zo;rw [yg9,zzX] at hb;exact ⟨k,hj,hb.1,rfl⟩
 ·rintro ⟨j,hj,hb,e⟩;obtain rfl:k=j:=zo;exact ⟨k,hj,by rw [yg9,hb,zzZ hj,zzZ h1];rfl,rfl⟩
theorem yhN {hs ms ss:Nat} (hh:hs<18446744073709551616) (hm:ms<18446744073709551616) (aa:ss<18446744073709551616) {k:Int} (h0:0<=k) (h1:k<86400):k∈ycC hs ms ss↔ydc k hs ms ss=true:=by
 have hd:yxD k=true:=by simp only [yxD,zzY];omega
 rw [ycC,ytG,ydc,hd,zzo,zzX,zzX];rw [<- yi7 (t:=23) hh zo zo zo,<- yi7 (t:=59) hm zo zo zo,<- yi7 (t:=59) aa zo zo zo];constructor
 ·rintro ⟨h,m,s,g1,g2,g3,rfl⟩;have b1:=yc0 hs 23 g1;have b2:=yc0 ms 59 g2;have b3:=yc0 ss 59 g3;refine ⟨?_,?_,?_⟩
  ·rw [show (3600*h+60*m+s)/3600=h by omega];exact g1
  ·rw [show (3600*h+60*m+s)/60%60=m by omega];exact g2
  ·rw [show (3600*h+60*m+s)%60=s by omega];exact g3
 ·rintro ⟨g1,g2,g3⟩;exact ⟨_,_,_,g1,g2,g3,by omega⟩
def yaw (f u:Int):Bool:=decide (max f 0<=min u 12622780799)
def yau (f u:Int):Int:=if yaw f u then max f 0 else 0
def yat (f u:Int):Int:=if yaw f u then min u 12622780799 else -1
abbrev spv (f u:Int):Value:= .agg #[E T f,E T u]
theorem ybr (f u:Int):(yau f u=max f 0/\yat f u=min u 12622780799/\max f 0<=min u 12622780799)\/ (yau f u=0/\yat f u= -1/\¬max f 0<=min u 12622780799):=by
 unfold yau yat yaw;by_cases h:max f 0<=min u 12622780799
 ·left;rw [zzZ h];exact ⟨rfl,rfl,h⟩
 ·right;rw [zzd h];exact ⟨rfl,rfl,h⟩
theorem ygZ:(Tryz.prog.info? 126).map (·.size)=G 2:=by kernel_rfl
theorem ykI (w:World):H I 188 #[] w λ e w'=>e=Q (spv 0 (-1))/\Bw w w':=by
 go_enter Tryz.func188,Tryz.ntmps188
 go_wp2;refine Yh (yac rfl _ _ w.heap.size 0 _ _ rfl (yap w _ _) Tryz.underlying126 rfl ygZ) rfl ⟨rfl,yaa (Ye _ _) zg⟩
theorem yhO (w:World) (x:Obj) (l:List Value) (t:TypeId):((w.alloc x).alloc (J l.toArray t)).rangeAt (w.heap.size+1) 0 l:=by
 have h:=yap (w.alloc x) l t;(try unfold Bw at h);rwa [zzN] at h
theorem ydC {W:World} {b:Nat} {x y u0 u1:Value} (h0:W.cell? (Z b 0 N)=G u0) (h1:W.cell? (Z b 1 N)=G u1):((W.setCell (Z b 0 N) x).setCell (Z b 1 N) y).rangeAt b 0 [x,y]:=λ j v hv=>by
 have ab:((Z b 1 N):Addr)≠(Z b 0 N):=by intro e;injection e with _ e _;cases e
 match j with
 | 0=>
   have e:x=v:=(by simpa using hv);rw [<- e,zzL _ _ _ _ ab];exact zzW _ _ _ h0
 | 1=>
   have e:y=v:=(by simpa using hv);rw [<- e];exact zzW _ _ _ (by rw [zzL _ _ _ _ ab.symm];exact h1)
 | n+2=>simp at hv
theorem yvl {a b c d:Int} (h:a=c) (k:b=d):Ending.returned (spv a b)=Q (spv c d):=by rw [h,k]
theorem ydP (f u:Int) (w:World):H I 175 #[spv f u] w λ e w'=>e=Q (spv (yau f u) (yat f u))/\Bw w w':=by
 have c0:=hid (λ W=>ykI W);have h1:f<0\/ f=0\/ 0<f:=zo;have h2:u<12622780799\/ u=12622780799\/ 12622780799<u:=zo;rcases ybr f u with ⟨e1,e2,h3⟩ | ⟨e1,e2,h3⟩
 ·rw [e1,e2];rcases h1 with h1 | rfl | h1 <;> rcases h2 with h2 | rfl | h2;all_goals
   go_enter Tryz.func175,Tryz.ntmps175
   go_wp2;exact Yh (yac rfl _ _ (w.heap.size+1) 0 _ _ rfl (yhO w _ _ _) Tryz.underlying126 rfl ygZ) rfl ⟨yvl zo zo,yaa (yaa (Ye _ _) zg) zs⟩
 ·rw [e1,e2];rcases h1 with h1 | rfl | h1 <;> rcases h2 with h2 | rfl | h2;all_goals try (exfalso;omega)
  all_goals
   first
    | (have h4:u<0:=zo)
    | (have h4:u<f:=zo)
    | (have h4:12622780799<f:=zo)
   go_enter Tryz.func175,Tryz.ntmps175
   go_wp2_with fail
   refine zm (c0 _) ?_;rintro w1 aa;have c1:=(aa.cell (p:=Z (w.heap.size+1) 0 N) zs).trans (show _ =G (E T 0) by simp [go_sem]);have c2:=(aa.cell (p:=Z (w.heap.size+1) 1 N) zs).trans (show _ =G (E T 0) by simp [go_sem]);have f1:=(aa.frozen (p:=Z (w.heap.size+1) 0 N) zs).trans (show _ =false by simp [go_sem]);have f2:=(aa.frozen (p:=Z (w.heap.size+1) 1 N) zs).trans (show _ =false by simp [go_sem]);have ac:Hid (Bw w w1):=(yaa (yaa (Ye _ _) zg) zs).trans (aa.mono (by simp only [zzN];omega));go_wp2;exact Yh (yac rfl _ _ (w.heap.size+1) 0 _ _ rfl (ydC c1 c2) Tryz.underlying126 rfl ygZ) rfl ⟨rfl,yab (yab ac zo) zo⟩
def inL (l:List Int) (j:Nat):Bool:=decide ((j:Int)∈l)&&decide (j<400)
def InC (W:World) (b:Nat) (l:List Int):Prop:=∀j,j<448->W.cell? (Z b j N)=G (Xb (inL l j))
theorem InC.below {W W':World} {b B:Nat} {l:List Int} (h:InC W b l) (hb:Below B W W') (hB:b<B):InC W' b l:=λ j hj=>(hb.cell (p:=Z b j N) hB).trans (h j hj)
abbrev RMS (w:World) (c:Cl) (W:World):Prop:=
 (W.cell? (Z w.heap.size 8 N)=G (E T c.oin)/\W.cell? (Z w.heap.size 9 N)=G (Xb c.oback)/\W.cell? (Z w.heap.size 10 N)=G (E Y (c.od 0:Nat))/\W.cell? (Z w.heap.size 11 N)=G (E Y (c.od 1:Nat))/\
   W.cell? (Z w.heap.size 12 N)=G (E Y (c.od 2:Nat))/\W.cell? (Z w.heap.size 13 N)=G (E Y (c.od 3:Nat))/\W.cell? (Z w.heap.size 14 N)=G (E Y (c.od 4:Nat))/\W.cell? (Z w.heap.size 15 N)=G (E Y (c.od 5:Nat))/\
   W.cell? (Z w.heap.size 16 N)=G (E Y (c.od 6:Nat))/\W.cell? (Z w.heap.size 17 N)=G (E Y (c.od 7:Nat)))/\
 (W.cell? (Z w.heap.size 18 N)=G (E Y (c.ys 0:Nat))/\W.cell? (Z w.heap.size 19 N)=G (E Y (c.ys 1:Nat))/\W.cell? (Z w.heap.size 20 N)=G (E Y (c.ys 2:Nat))/\W.cell? (Z w.heap.size 21 N)=G (E Y (c.ys 3:Nat))/\
   W.cell? (Z w.heap.size 22 N)=G (E Y (c.ys 4:Nat))/\W.cell? (Z w.heap.size 23 N)=G (E Y (c.ys 5:Nat))/\W.cell? (Z w.heap.size 24 N)=G (E Y (c.ys 6:Nat)))/\
 (W.cell? (Z w.heap.size 25 N)=G (E T c.unit)/\W.cell? (Z w.heap.size 26 N)=G (E T c.step)/\W.cell? (Z w.heap.size 27 N)=G (E T c.anchor))/\
 ClB W w.heap.size c/\Bw w W/\w.heap.size<W.heap.size
theorem RMS.of {w W:World} {c:Cl} (h:ClB W w.heap.size c) (hb:Bw w W) (hs:w.heap.size<W.heap.size):RMS w c W:=
 ⟨h.ord,h.years,⟨h.tail.1,h.tail.2.1,h.tail.2.2.1⟩,h,hb,hs⟩
theorem RMS.keep {w W W':World} {c:Cl} (h:RMS w c W) (hb:Bw W W'):RMS w c W':=
 RMS.of (h.2.2.2.1.below hb h.2.2.2.2.2) (h.2.2.2.2.1.trans (hb.mono (zp h.2.2.2.2.2))) (zH h.2.2.2.2.2 hb.size)
theorem yu9 (oin:Int) (oback:Bool) (od:Nat->Nat) (s:Nat->Int) (w:World) (ho:oin=0\/ oin=1\/ oin=2) (h:∀i,i<8->od i<18446744073709551616) (hs:1<=s 5/\s 5<=7) :
  H I 180 #[ypp oin oback od,shq s] w λ e w'=>e=Q (Xb (ypq oin oback od s))/\Bw w w':=by
 have hm:=hid (λ (k:Nat) (hk:k<8) (n:Int) W=>yew (od k) n W (h k hk));have h5:s 5=1\/ s 5=2\/ s 5=3\/ s 5=4\/ s 5=5\/ s 5=6\/ s 5=7:=zo;rw [shq];clear h hs;rcases ho with rfl | rfl | rfl
 ·clear h5;have hr:Hid (ypq 0 oback od s=true):=rfl;rw [hr];go_enter Tryz.func180,Tryz.ntmps180
  go_wp2;go_ret;exact ⟨rfl,yaa (yaa (Ye _ _) zg) zs⟩
 all_goals
  rcases h5 with h5 | h5 | h5 | h5 | h5 | h5 | h5
 all_goals
  rw [ypq,h5];clear h5;cases oback
 all_goals
  go_enter Tryz.func180,Tryz.ntmps180
  go_wp2_with (go_at_call 125;refine (hm _ ?_ _ _).mono ?_;decide;rintro e w' ⟨rfl,rfl⟩)
  go_ret;exact ⟨rfl,yaa (yaa (Ye _ _) zg) zs⟩
def yzh (c:Cl) (s:Nat->Int):Bool:=if c.or then ya8 (c.m 4) (s 3)||ya8 (c.m 6) (s 5) else ya8 (c.m 4) (s 3)&&ya8 (c.m 6) (s 5)
def yrI (c:Cl) (s:Nat->Int):Bool:=yzh c s&&(ya8 (c.m 3) (s 2)&&(ya8 (c.m 5) (s 4)&&(yvw c.ys (s 1-1970)&&ypq c.oin c.oback c.od s)))
abbrev DaS (w:World) (c:Cl) (s:Nat->Int) (W:World):Prop:=
 ClB W w.heap.size c/\ShS W (w.heap.size+1) s/\Bw w W/\w.heap.size+1<W.heap.size
theorem DaS.keep {w W W':World} {c:Cl} {s:Nat->Int} (h:DaS w c s W) (hb:Bw W W'):DaS w c s W':=by
 obtain ⟨h1,h2,h3,h4⟩:=h;exact ⟨h1.below hb zo,h2.below hb h4,h3.trans (hb.mono zo),zH h4 hb.size⟩
abbrev D2S (w:World) (c:Cl) (s:Nat->Int) (b1 b2:Nat) (fv:Value) (W:World):Prop:=
 ClB W b1 c/\ShS W w.heap.size s/\W.cell? (Z b2 0 N)=G fv/\Bw w W/\w.heap.size<W.heap.size
theorem D2S.keep {w W W':World} {c:Cl} {s:Nat->Int} {b1 b2:Nat} {fv:Value} (h:D2S w c s b1 b2 fv W) (l1:b1<w.heap.size) (l2:b2<w.heap.size) (hb:Bw W W'):D2S w c s b1 b2 fv W':=by
 obtain ⟨h1,h2,h3,h4,h5⟩:=h;exact ⟨h1.below hb zo,h2.below hb h5,(hb.cell (p:=Z b2 0 N) (by simp only [];omega)).trans h3,h4.trans (hb.mono zo),zH h5 hb.size⟩
theorem yw3 (w:World) (c:Cl) (s:Nat->Int) (b1 b2:Nat) (fv:Value) (t:TypeId) (h1:ClB w b1 c) (l1:b1<w.heap.size) (h2:w.cell? (Z b2 0 N)=G fv) (l2:b2<w.heap.size):D2S w c s b1 b2 fv (w.alloc (J (ybi s).toArray t)):=by
 have hb:=yaa (o:=J (ybi s).toArray t) (Ye w.heap.size w) zg;exact ⟨h1.below hb l1,ycB w t _ _ _ _ _ _ _ _ _ _,(hb.cell (p:=Z b2 0 N) l2).trans h2,hb,by simp⟩
theorem ysF (c:Cl) (n:Int) (b1 b2 lo:Nat) (fv:Value) (w:World) (hc:c.Ok) (ho:c.oin=0\/ c.oin=1\/ c.oin=2) (h0:0<=n) (h1:n<146097) (aw:ClB w b1 c) (l1:b1<w.heap.size)
  (av:w.cell? (Z b2 0 N)=G fv) (l2:b2<w.heap.size) (hu:UDV w lo c.unit c.step c.anchor fv) :
  H I 178 #[shN n,R (G (Z b1 0 N)),R (G (Z b2 0 N))] w λ e w'=>e=Q (Xb (yrI c (shF n)&&ydx c.unit c.step c.anchor n))/\Bw w w':=by
 have aa:∃g cap,fv=Xf (.func g) #[] cap/\(g=207/\cap= #[]\/ g=208/\cap= #[]\/ ∃b3 b7 b4:Nat,g=209/\cap= #[R (G (Z b3 0 N)),R (G (Z b7 0 N)),R (G (Z b4 0 N))])/\
   ∀W,Bw w W->H I g (#[shq (shF n)]++cap) W λ e w'=>e=Q (Xb (ydx c.unit c.step c.anchor n))/\Bw W w':=by
  rw [ya7];rcases hu with ⟨h,rfl⟩ | ⟨ha,hb,hz,rfl⟩ | ⟨ha,hb,hz,b3,b7,b4,rfl,hB,-,-,-⟩
  ·refine ⟨_,_,rfl, .inl ⟨rfl,rfl⟩,λ W _=>?_⟩;have e:ydx c.unit c.step c.anchor n=false:=by
    unfold ydx;rcases h with h | h
    ·rw [h];rfl
    ·rw [zzd (by omega:¬1<=c.step)];simp
   rw [e];exact yxp n W
  ·refine ⟨_,_,rfl, .inr (.inl ⟨rfl,rfl⟩),λ W _=>?_⟩;have e:ydx c.unit c.step c.anchor n=true:=by
    unfold ydx;rw [ha,zzZ hb,zzZ hz];rfl
   rw [e];exact yxo n W
  ·refine ⟨_,_,rfl, .inr (.inr ⟨b3,b7,b4,rfl,rfl⟩),λ W hW=>?_⟩;have ac:0<=c.unit/\c.unit<=6:=by
    have:=ha;simp only [ybB,unB,zzX,zzY] at this;exact this.1
   have ad:=yjG c.unit c.anchor;by_cases au:c.step=1
   ·have e:ydx c.unit c.step c.anchor n=true:=by
     unfold ydx;rw [ha,zzZ hb,zzZ (.inr au)];rfl
    have e2:stepB c.step (whD c.unit n-ybh c.unit c.anchor)=true:=(by rw [stepB,au];simp);rw [e,<- e2];exact yr6 n c.unit (ybh c.unit c.anchor) c.step b3 b7 b4 W h0 h1 (ygz hz ac.1) ac.2 hb hc.step.2 ad.1 ad.2 (hB.below hW)
   ·have e:ydx c.unit c.step c.anchor n=stepB c.step (whD c.unit n-ybh c.unit c.anchor):=by
     unfold ydx;rw [ha,zzZ hb,zzd (by omega:¬(0<yav c.unit\/ c.step=1))];simp
    rw [e];exact yr6 n c.unit (ybh c.unit c.anchor) c.step b3 b7 b4 W h0 h1 (ygz hz ac.1) ac.2 hb hc.step.2 ad.1 ad.2 (hB.below hW)
 obtain ⟨xd,an⟩:=zx (ydx c.unit c.step c.anchor n);have ak:=yxV h0 h1;have ag:=ygA n;rw [an] at aa⊢;rw [<- ya7];generalize hs:shF n=s at aa ak ag⊢
 clear an hs h0 h1 hu;obtain ⟨g,cap,rfl,hg,aa⟩:=aa;have cU:=hid aa;clear aa;have m3:=hid (λ W=>yew (c.m 3) (s 2) W (hc.m 3 zo));have m4:=hid (λ W=>yew (c.m 4) (s 3) W (hc.m 4 zo));have m5:=hid (λ W=>yew (c.m 5) (s 4) W (hc.m 5 zo));have m6:=hid (λ W=>yew (c.m 6) (s 5) W (hc.m 6 zo));have cn:=hid (λ W=>yu9 c.oin c.oback c.od s W ho hc.od ag);have cw:=hid (λ W=>yuL c.ys (s 1-1970) W hc.ys);have ah:=hid (Yn (s 1-1970) zo);have hr:Hid (yrI c s= (yzh c s&&(ya8 (c.m 3) (s 2)&&(ya8 (c.m 5) (s 4)&&(yvw c.ys (s 1-1970)&&ypq c.oin c.oback c.od s))))):=rfl;rw [hr,yzh];rw [shq] at cn cU⊢;clear hr hc ho ag ak;obtain ⟨x3,ar⟩:=zx (ya8 (c.m 3) (s 2));obtain ⟨x4,aq⟩:=zx (ya8 (c.m 4) (s 3));obtain ⟨x5,ap⟩:=zx (ya8 (c.m 5) (s 4));obtain ⟨x6,ao⟩:=zx (ya8 (c.m 6) (s 5));obtain ⟨xw,al⟩:=zx (yvw c.ys (s 1-1970));obtain ⟨xn,am⟩:=zx (ypq c.oin c.oback c.od s);rw [ar] at m3⊢;rw [aq] at m4⊢;rw [ap] at m5⊢;rw [ao] at m6⊢;rw [al] at cw⊢;rw [am] at cn⊢;obtain ⟨xo,af⟩:=zx c.or;have aC:=hid af;rw [af];clear ar aq ap ao al am af;obtain ⟨W0,ai⟩:=zx (w.alloc (J (ybi s).toArray 83));have HD:Hid (D2S w c s b1 b2 (Xf (.func g) #[] cap) W0):=by rw [<- ai];exact yw3 w c s b1 b2 _ _ aw l1 av l2
 have aD:=hid ai;have Hk:Hid (∀W W',D2S w c s b1 b2 (Xf (.func g) #[] cap) W->Bw W W'->D2S w c s b1 b2 (Xf (.func g) #[] cap) W'):=λ W W' h hb=>h.keep l1 l2 hb;clear ai aw l1 av l2;go_enter Tryz.func178,Tryz.ntmps178
 go_wp2_with fail
 rw [aD];have r4:=HD.1.at 4 rfl;have r6:=HD.1.at 6 rfl;obtain ⟨-,-,-,q3,-,q5,-,-,-,-⟩:=HD.2.1;go_quiet (first
  | (go_at_call 125;with_reducible refine (m4.out _).mono ?_;exact λ _ _ h=>⟨h.1,_,h.2.symm⟩)
  | (go_at_call 125;with_reducible refine (m6.out _).mono ?_;exact λ _ _ h=>⟨h.1,_,h.2.symm⟩))
 clear r4 r6 q3 q5 m4 m6;have aj:Hid (Bw w W0):=HD.2.2.2.1;have r7:=HD.1.at 7 rfl;have r3:=HD.1.at 3 rfl;obtain ⟨-,-,q2,-,-,-,-,-,-,-⟩:=HD.2.1;rw [aC] at r7;cases xo <;> cases x4 <;> cases x6
 all_goals go_wp2_with fail
 all_goals try
  go_ret;exact ⟨rfl,ya9 aj _⟩
 all_goals
  refine zm (m3 _) ?_;rintro w' rfl;clear r7 r3 q2;cases x3
  ·go_wp2;go_ret;exact ⟨rfl,ya9 aj _⟩
  have r5:=HD.1.at 5 rfl;obtain ⟨-,-,-,-,q4,-,-,-,-,-⟩:=HD.2.1;go_wp2_with fail
  refine zm (m5 _) ?_;rintro w' rfl;clear r5 q4;cases x5
  ·go_wp2;go_ret;exact ⟨rfl,ya9 aj _⟩
  obtain ⟨y0,y1,y2,y3,y4,y5,y6⟩:=HD.1.years;obtain ⟨-,q1,-,-,-,-,-,-,-,-⟩:=HD.2.1;have aA:=ah.out;go_wp2_with fail
  refine zm (cw _) ?_;rintro w1 az;have ae:=hid (Hk _ _ HD ((ya9 (Ye _ _) _).trans az));clear y0 y1 y2 y3 y4 y5 y6 q1 aA az;cases xw
  ·go_wp2;go_ret;exact ⟨rfl,ae.2.2.2.1⟩
  obtain ⟨o0,o1,o2,o3,o4,o5,o6,o7,o8,o9⟩:=ae.1.ord;obtain ⟨q0,q1,q2,q3,q4,q5,q6,q7,q8,q9⟩:=ae.2.1;go_wp2_with fail
  refine zm (cn _) ?_;rintro w2 ay;have ab:=hid (Hk _ _ ae ay);clear ay o0 o1 o2 o3 o4 o5 o6 o7 o8 o9 q0 q1 q2 q3 q4 q5 q6 q7 q8 q9;cases xn
  ·go_wp2;go_ret;exact ⟨rfl,ab.2.2.2.1⟩
  have aB:=ab.2.2.1;obtain ⟨q0,q1,q2,q3,q4,q5,q6,q7,q8,q9⟩:=ab.2.1;rcases hg with ⟨rfl,rfl⟩ | ⟨rfl,rfl⟩ | ⟨b3,b7,b4,rfl,rfl⟩;all_goals
   go_wp2_with fail
   refine zm (cU _ ab.2.2.2.1) ?_;rintro w3 ax;have aE:=hid (Hk _ _ ab ax);clear aB q0 q1 q2 q3 q4 q5 q6 q7 q8 q9 ax;go_wp2;go_ret;exact ⟨rfl,aE.2.2.2.1⟩
section
def ydj (v:Value):Sem Value:=Instr.loadAt 59 v
theorem yaz (v:Value):Instr.loadAt 59 v=ydj v:=rfl
theorem ClB.ld {W:World} {b:Nat} {c:Cl} (h:ClB W b c):(ydj (R (G (Z b 0 N)))).run I W= .ok (clv c) W:=
 run_loadAt_mid W b 0 59 (yae c) _ h Tryz.underlying59 rfl yh1
attribute [local go_sem ↓] yaz
theorem yej (w:World) (a:Addr) (m:Mode) (fn:Fn) (first aa:Array Value):(store a (.func fn first aa) m).run I w=stored I w a (.func fn first aa) m:=run_store I w a _ m rfl
attribute [local go_sem] yej
theorem yya {oin:Int} {oback:Bool} {od:Nat->Nat} (h:yqs oin oback od=true):oin=0\/ oin=1\/ oin=2:=by
 unfold yqs at h;split at h
 ·omega
 ·split at h
  ·omega
  ·split at h
   ·omega
   ·cases h
theorem ydG {c:Cl} (h:yb2 c=true):(c.oin=0\/ c.oin=1\/ c.oin=2)/\1<=c.step/\unB c.unit=true/\ycb c.anchor=true:=by
 simp only [yb2,zzX,zzY] at h;exact ⟨yya h.2.1,h.2.2.2.2.1,h.2.2.2.1,h.2.2.2.2.2⟩
theorem UDV.below {W W':World} {lo ai:Nat} {u s a:Int} {fv:Value} (h:UDV W lo u s a fv) (hb:Bw W W') (hl:ai<=lo):UDV W' ai u s a fv:=by
 rcases h with h | h | ⟨h1,h2,h3,b3,b7,b4,h4,h5,h6,h7,h8⟩
 ·exact .inl h
 ·exact .inr (.inl h)
 ·exact .inr (.inr ⟨h1,h2,h3,b3,b7,b4,h4,h5.below hb,zI hl h6,zI hl h7,zI hl h8⟩)
def CDV (W:World) (lo:Nat) (c:Cl) (fv:Value):Prop:=
 (yb2 c=false/\fv=Xf (.func 176) #[] #[])\/
 (yb2 c=true/\∃b1 b2 v,fv=Xf (.func 178) #[] #[R (G (Z b1 0 N)),R (G (Z b2 0 N))]/\ClB W b1 c/\b1<W.heap.size/\W.cell? (Z b2 0 N)=G v/\b2<W.heap.size/\lo<=b1/\lo<=b2/\UDV W lo c.unit c.step c.anchor v)
theorem ysG (n:Int) (w:World):H I 176 #[shN n] w λ e w'=>e=Q (Xb false)/\Bw w w':=by
 obtain ⟨a0,a1,a2,a3,a4,a5,a6,a7,a8,a9,hs⟩:=yiF n;rw [hs];clear hs;go_enter Tryz.func176,Tryz.ntmps176
 go_wp2;go_ret;exact ⟨rfl,yaa (Ye _ _) zg⟩
theorem ysE (c:Cl) (w:World) (hc:c.Ok):H I 129 #[clv c] w λ e w'=>∃fv,e=Q fv/\CDV w' w.heap.size c fv/\Bw w w':=by
 obtain ⟨W0,ac⟩:=zx (w.alloc (J (yae c).toArray 59));have hC:Hid (ClB W0 w.heap.size c):=by rw [<- ac];exact yeo w c _
 have ao:Hid (Bw w W0):=by rw [<- ac];exact yaa (Ye _ _) zg
 have aj:w.heap.size<W0.heap.size:=by rw [<- ac];simp
 have aq:=hid ac;have ah:=hid aj;have cM:=hid (yfD c W0 hc);have cU:=hid (λ W=>yr4 c.unit c.step c.anchor W hc.step);clear ac aj hc;obtain ⟨b,hb⟩:=zx (yb2 c);have Hb:=hid hb;rw [hb] at cM;clear hb;have hl:=(yeo w c 59).ld;go_enter Tryz.func129,Tryz.ntmps129
 go_wp2_with fail
 rw [aq];refine zm cM ?_;rintro w1 ae;have am:Hid (Bw w w1):=ao.trans (ae.mono (zp ah.out));have ak:=hid (hC.below ae ah);have af:Hid (w.heap.size<w1.heap.size):=zH ah ae.size;clear ae hl cM;cases b
 ·go_wp2;go_ret;exact ⟨_,rfl, .inl ⟨Hb,rfl⟩,am⟩
 obtain ⟨t0,t1,t2,t3,t4⟩:=ak.tail;go_wp2_with fail
 refine (cU _).mono ?_;rintro e w2 ⟨fv,rfl,hu,ad⟩;have al:Hid (Bw w w2):=am.trans (ad.mono (zp af.out));have ar:=hid (ak.below ad af);have ag:Hid (w.heap.size<w2.heap.size):=zH af ad.size;have ap:Hid (w1.heap.size<=w2.heap.size):=ad.size;have Hu:=hid hu;have ab:fv=Xf (.func 207) #[] #[]\/ fv=Xf (.func 208) #[] #[]\/ ∃b3 b7 b4:Nat,fv=Xf (.func 209) #[] #[R (G (Z b3 0 N)),R (G (Z b7 0 N)),R (G (Z b4 0 N))]:=by
  rcases hu with ⟨_,h⟩ | ⟨_,_,_,h⟩ | ⟨_,_,_,b3,b7,b4,h,_⟩
  ·exact .inl h
  ·exact .inr (.inl h)
  ·exact .inr (.inr ⟨b3,b7,b4,h⟩)
 clear ad t0 t1 t2 t3 t4 hu;rcases ab with rfl | rfl | ⟨b3,b7,b4,rfl⟩;all_goals
  go_wp2;go_ret;exact ⟨_,rfl, .inr ⟨Hb,w.heap.size,w2.heap.size,_,rfl,ar.below (yaa (Ye w2.heap.size w2) zg) ag,by simp;have:=ag.out;omega,by simp [go_sem],by simp,zG _,YY ag,Hu.below (yaa (Ye w2.heap.size w2) zg) (YY af)⟩,yaa al al.size⟩
end
section
def yk0 (c:Cl) (n:Int):Bool:=yb2 c&&(yrI c (shF n)&&ydx c.unit c.step c.anchor n)
attribute [local go_sem ↓] yaz
abbrev DyS (w:World) (c:Cl) (s:Nat->Int) (W:World):Prop:=
 (ydj (R (G (Z w.heap.size 0 N)))).run I W= .ok (clv c) W/\DaS w c s W
theorem DyS.keep {w W W':World} {c:Cl} {s:Nat->Int} (h:DyS w c s W) (hb:Bw W W'):DyS w c s W':=
 ⟨(h.2.keep hb).1.ld,h.2.keep hb⟩
theorem CDV.call {W:World} {lo:Nat} {c:Cl} {fv:Value} {n:Int} (h:CDV W lo c fv) (hc:c.Ok) (h0:0<=n) (h1:n<146097) :
  ∃g cap,fv=Xf (.func g) #[] cap/\(g=176/\cap= #[]\/ ∃b1 b2:Nat,g=178/\cap= #[R (G (Z b1 0 N)),R (G (Z b2 0 N))])/\
   ∀W',Bw W W'->H I g (#[shN n]++cap) W' λ e w'=>e=Q (Xb (yk0 c n))/\Bw W' w':=by
 rcases h with ⟨hm,rfl⟩ | ⟨hm,b1,b2,v,rfl,an,l1,hv,l2,_,_,hu⟩
 ·refine ⟨_,_,rfl, .inl ⟨rfl,rfl⟩,λ W' _=>?_⟩;rw [yk0,hm,Yv];exact ysG n W'
 ·refine ⟨_,_,rfl, .inr ⟨b1,b2,rfl,rfl⟩,λ W' hb=>?_⟩;rw [yk0,hm,zzo];exact ysF c n b1 b2 lo v W' hc (ydG hm).1 h0 h1 (an.below hb l1) (zH l1 hb.size) ((hb.cell (p:=Z b2 0 N) l2).trans hv) (zH l2 hb.size) (hu.below hb zg)
end
section
attribute [local go_sem ↓] ya3
attribute [local go_sem] yaE
end
abbrev LvS (w:World) (b:Nat) (c:Cl) (W:World):Prop:=
 (ydj (R (G (Z b 0 N)))).run I W= .ok (clv c) W/\ClB W b c/\Bw w W/\b<W.heap.size/\w.heap.size<=b
theorem LvS.keep {w W W':World} {b:Nat} {c:Cl} (h:LvS w b c W) (hb:Bw W W'):LvS w b c W':=by
 obtain ⟨_,h2,h3,h4,h5⟩:=h;exact ⟨(h2.below hb h4).ld,h2.below hb h4,h3.trans (hb.mono zo),zH h4 hb.size,h5⟩
section
attribute [local go_sem ↓] yaz
theorem yjl (w:World) (c:Cl) (t:TypeId) (x:Obj):ClB ((w.alloc (J (yae c).toArray t)).alloc x) w.heap.size c:=
 (yeo w c t).below (yaa (Ye _ _) zg) zs
theorem ykW (c:Cl) (w:World):H I 130 #[clv c] w λ e w'=>e=Q (spv (yau c.fr c.un) (yat c.fr c.un))/\Bw w w':=by
 have c0:=hid (λ W=>ydP c.fr c.un W);obtain ⟨a,ha⟩:=zx (yau c.fr c.un);obtain ⟨b,hb⟩:=zx (yat c.fr c.un);rw [ha,hb] at c0⊢;obtain ⟨-,-,-,t3,t4⟩:=(yjl w c 59 (J #[E T 0,E T 0] 126)).tail;go_enter Tryz.func130,Tryz.ntmps130
 go_wp2_with fail
 refine zm (c0 _) ?_;rintro w1 aa;have c1:=(aa.cell (p:=Z (w.heap.size+1) 0 N) zs).trans (show _ =G (E T 0) by simp [go_sem]);have c2:=(aa.cell (p:=Z (w.heap.size+1) 1 N) zs).trans (show _ =G (E T 0) by simp [go_sem]);have f1:=(aa.frozen (p:=Z (w.heap.size+1) 0 N) zs).trans (show _ =false by simp [go_sem]);have f2:=(aa.frozen (p:=Z (w.heap.size+1) 1 N) zs).trans (show _ =false by simp [go_sem]);have ab:Hid (Bw w w1):=(yaa (yaa (Ye _ _) zg) zs).trans (aa.mono (by simp only [zzN];omega));go_wp2;exact Yh (yac rfl _ _ (w.heap.size+1) 0 _ _ rfl (ydC c1 c2) Tryz.underlying126 rfl ygZ) rfl ⟨rfl,yab (yab ab zo) zo⟩
def yyL (a b:Value):Sem Value:=binOp .eql 59 a b
theorem ywW (a b:Value):binOp .eql 59 a b=yyL a b:=rfl
attribute [local go_sem ↓] ywW
def ycf (f u t:Int):Bool:=decide (f<=t)&&decide (t<=u)
def yhv (c:Cl) (t:Int):Bool:=ycb t&&(yb2 c&&(ycf c.fr c.un t&&(ydc (t%86400) (c.m 2) (c.m 1) (c.m 0)&&(onB c.unit c.step c.anchor t&&yk0 c (t/86400)))))
end
section
open Go.ChangeShapes Go.WideShapes Go.ChangeAt Go.RowKit
theorem ym4 {k:Leaf} {ks:List Leaf}:∀{cs:List Value},oks (k::ks) cs->∃v vs,cs=v::vs/\k.ok v/\oks ks vs
 | [],h=>h.elim
 | v::vs,h=>⟨v,vs,rfl,h.1,h.2⟩
theorem ywj:∀{cs:List Value},oks [] cs->cs= []
 | [],_=>rfl
 | _::_,h=>h.elim
theorem yAa {v:Value} (h:Leaf.ok (.int .i64) v):∃n,v= .int .i64 n/\yaA n:=by
 obtain ⟨n,e,h⟩:=h;exact ⟨n,e,yve h⟩
end
section
open Go.ChangeShapes Go.WideShapes Go.ChangeAt Go.RowKit
theorem ywh {k k':IntKind} {cs:List Value} (h:oks [.int k, .int k'] cs):∃x y:Int,cs= [.int k x, .int k' y]/\(Lit.int k x).wf=true/\(Lit.int k' y).wf=true:=by
 obtain ⟨_,_,rfl,⟨x,rfl,g1⟩,h1⟩:=ym4 h;obtain ⟨_,_,rfl,⟨y,rfl,g2⟩,h2⟩:=ym4 h1;obtain rfl:=ywj h2;exact ⟨x,y,rfl,g1,g2⟩
def cls (l:List Cl):List Value:=l.flatMap yae
theorem yia (l:List Cl):(cls l).length=l.length*30:=by
 induction l with
 | nil=>rfl
 | cons c l ih=>
   rw [show cls (c::l)=yae c++cls l by simp [cls],YG,ih];simp only [Yu,YS];omega
end
def DCS (W:World) (lo hi:Nat) (c:Cl) (x1 x2:Nat):Prop:=
 ∀(n:Int) (W':World),0<=n->n<146097->hi<=W'.heap.size->(∀b,lo<=b->b<hi->W'.heap[b]? =W.heap[b]?)->
  H I 178 #[shN n,R (G (Z x1 0 N)),R (G (Z x2 0 N))] W' λ e w'=>e=Q (Xb (yk0 c n))/\Bw W' w'
theorem UDV.blocks {W W':World} {lo:Nat} {u s a:Int} {fv:Value} (h:UDV W lo u s a fv) (hs:W.heap.size<=W'.heap.size) (hb:∀b,lo<=b->b<W.heap.size->W'.heap[b]? =W.heap[b]?):UDV W' lo u s a fv:=by
 rcases h with h | h | ⟨h1,h2,h3,b3,b7,b4,h4,h5,h6,h7,h8⟩
 ·exact .inl h
 ·exact .inr (.inl h)
 ·refine .inr (.inr ⟨h1,h2,h3,b3,b7,b4,h4,h5.keep hs (λ b ac=>?_),h6,h7,h8⟩);rcases ac with rfl | rfl | rfl
  ·exact hb _ h6 h5.l3
  ·exact hb _ h7 h5.l7
  ·exact hb _ h8 h5.l4
theorem CDV.dcs {W:World} {lo:Nat} {c:Cl} {fv:Value} (h:CDV W lo c fv) (hm:yb2 c=true) (hc:c.Ok) :
  ∃x1 x2:Nat,fv=Xf (.func 178) #[] #[R (G (Z x1 0 N)),R (G (Z x2 0 N))]/\DCS W lo W.heap.size c x1 x2:=by
 rcases h with ⟨h,-⟩ | ⟨-,b1,b2,v,rfl,aa,l1,hv,l2,o1,o2,hu⟩
 ·rw [hm] at h;cases h
 ·refine ⟨b1,b2,rfl,λ n W' h0 h1 hs hb=>?_⟩;rw [yk0,hm,zzo];have e1:ClB W' b1 c:=λ j x hx=>(zzJ (w:=W) (a:=Z b1 (0+j) N) (hb b1 o1 l1)).trans (aa j x hx);have e2:W'.cell? (Z b2 0 N)=G v:=(zzJ (w:=W) (a:=Z b2 0 N) (hb b2 o2 l2)).trans hv;exact ysF c n b1 b2 lo v W' hc (ydG hm).1 h0 h1 e1 zo e2 zo (hu.blocks hs hb)
theorem DCS.call {W W':World} {lo hi:Nat} {c:Cl} {x1 x2:Nat} (h:DCS W lo hi c x1 x2) (hs:hi<=W'.heap.size) (hb:∀b,lo<=b->b<hi->W'.heap[b]? =W.heap[b]?):DCS W' lo hi c x1 x2:=
 λ n X h0 h1 hX ab=>h n X h0 h1 hX (λ b h2 h3=>(ab b h2 h3).trans (hb b h2 h3))
theorem DCS.below {W W':World} {lo hi:Nat} {c:Cl} {x1 x2:Nat} (h:DCS W lo hi c x1 x2) (hs:hi<=W.heap.size) (hb:Bw W W'):DCS W' lo hi c x1 x2:=
 h.call (zI hs hb.size) (λ b _ h2=>hb.block b zo)
theorem DCS.set {W:World} {lo hi b o:Nat} {v:Value} {c:Cl} {x1 x2:Nat} (h:DCS W lo hi c x1 x2) (hs:hi<=W.heap.size) (hb:b<lo\/ hi<=b):DCS (W.setCell (Z b o N) v) lo hi c x1 x2:=
 h.call (by rw [Yx];exact hs) (λ k h1 h2=>by
  exact Go.Deep.blk_setCell_other W (Z b o N) v k (by show¬k=b;omega))
theorem yw9 (l:List Cl):∀(k:Nat) (hk:k<l.length) (i:Nat) (hi:i<30),(cls l)[k*30+i]? = (yae l[k])[i]?:=by
 induction l with
 | nil=>intro k hk;simp at hk
 | cons c l ih=>
   intro k hk i hi;rw [show cls (c::l)=yae c++cls l by simp [cls]];cases k with
   | zero=>
     rw [ZJ,zzn,Yo (by exact hi)];rfl
   | succ k=>
     rw [Yl (by show 30<=_;omega),show (k+1)*30+i-(yae c).length=k*30+i by show (k+1)*30+i-30= _;omega,ih k (by simp at hk;omega) i hi];rfl
theorem Sl.atCl {w:World} {a:Option Addr} {l:List Cl} (h:Sl w a (cls l)) {k:Nat} (hk:k<l.length) :
  ∃b off,a=G (Z b off N)/\b<w.heap.size/\w.rangeAt b (off+k*30) (yae l[k]):=by
 obtain ⟨b,off,rfl,hlt,hc⟩:=Sl.at h (k:=k*30) (by rw [yia];omega);refine ⟨b,off,rfl,hlt,λ j v hv=>?_⟩;have hj:j<30:=(zzq.1 hv).1;rw [<- yw9 l k hk j hj] at hv;obtain ⟨h1,h2⟩:=zzq.1 hv;rw [ZN,hc _ h1,h2]
theorem ylE {W:World} {b o:Nat} {c:Cl} (h:W.rangeAt b o (yae c)):(ydj (R (G (Z b o N)))).run I W= .ok (clv c) W:=
 run_loadAt_mid W b o 59 (yae c) _ h Tryz.underlying59 rfl yh1
theorem ybK {W W':World} {b o B:Nat} {cs:List Value} (h:W.rangeAt b o cs) (hb:Below B W W') (hB:b<B):W'.rangeAt b o cs:=λ j v hv=>(hb.cell (p:=Z b (o+j) N) hB).trans (h j v hv)
theorem ya4 (b:Nat):∀(vs:List Value) (o:Nat) (W:World),(W.setCells b o vs).heap.size=W.heap.size
 | [],_,_=>rfl
 | v::vs,o,W=>by rw [World.setCells,ya4 b vs (o+1),Yx]
theorem ygd (W:World) (b:Nat) (cs:List Value):yaV W b cs=W.setCells b 0 cs:=rfl
theorem ysp (n:Int) (w:World) (h:yaA n):H I 152 #[E T n] w λ e w'=>e=Q (E Y (n.natAbs:Nat))/\w=w':=by
 obtain ⟨h0,h1⟩:=h;by_cases hn:n<0
 ·go_enter Tryz.func152,Tryz.ntmps152
  go_wp2;go_ret;exact ⟨by rw [show IntKind.u64.wrap (-IntKind.u64.wrap n)= (n.natAbs:Int) by rw [IntKind.wrap_u64,IntKind.wrap_u64];omega];rfl,rfl⟩
 ·go_enter Tryz.func152,Tryz.ntmps152
  go_wp2;go_ret;exact ⟨by rw [show n= (n.natAbs:Int) by omega];rfl,rfl⟩
theorem yjr (a b:Int) (w:World) (ha:yaA a) (hb:1<=b) (aw:yaA b):H I 160 #[E T a,E T b] w λ e w'=>e=Q (E T (a%b))/\w=w':=by
 obtain ⟨h0,h1⟩:=ha;obtain ⟨h2,h3⟩:=aw;have aD:¬b=0:=zo;have hm:a%b=if a.tmod b<0 then a.tmod b+b else a.tmod b:=by
  rw [Int.tmod_eq_emod];have h4:=ZM a (show b≠0 by omega);have h5:=Int.emod_lt_of_pos a (show 0<b by omega);split <;> split <;> omega
 have h4:=ZM a (show b≠0 by omega);have h5:=Int.emod_lt_of_pos a (show 0<b by omega);rw [hm] at h4 h5⊢;clear hm;obtain ⟨r,hr⟩:=zx (a.tmod b);have Hr:=hid hr;by_cases af:r<0
 ·rw [hr,Yd af] at h4 h5⊢;have hw:=hid (w64 (r+b) zo);clear h4 h5;go_enter Tryz.func160,Tryz.ntmps160
  go_wp2;go_ret;exact ⟨by rw [hw];rfl,rfl⟩
 ·rw [hr,Yb af] at h4 h5⊢;clear h4 h5;go_enter Tryz.func160,Tryz.ntmps160
  go_wp2;go_ret;exact ⟨rfl,rfl⟩
def ygj (l:List Int):Nat:=l.foldl (λ g n=>Nat.gcd g n.natAbs) 0
theorem yki (l:List Int) (n:Int):ygj (l ++ [n])=Nat.gcd (ygj l) n.natAbs:=by simp [ygj]
theorem yyD {g a:Nat} (hg:g<=9223372036854775808) (ha:a<=9223372036854775808):Nat.gcd g a<=9223372036854775808:=by
 by_cases h:g=0
 ·rw [h,Nat.gcd_zero_left];exact ha
 ·exact zI (Nat.gcd_le_left a zo) hg
theorem yrn (l:List Int) (h:∀n∈l,yaA n):∀k,k<=l.length->ygj (l.take k)<=9223372036854775808
 | 0,_=>by show 0<=_;omega
 | k+1,hk=>by
   rw [yal l k zo,yki];have:=h _ (zzr (show k<l.length by omega));exact yyD (yrn l h k zo) (by unfold yaA at this;omega)
theorem ytX (g a:Nat):Nat.gcd a (g%a)=Nat.gcd g a:=by
 rw [Nat.gcd_comm g a,Nat.gcd_rec a g,Nat.gcd_comm]
theorem yjs (a:Option Addr) (cap:Nat) (l:List Int) (w:World) (hl:l.length<=1000) (hs:Sl w a (yaR l)) (hb:∀n∈l,yaA n) :
  H I 97 #[Xs a l.length cap] w λ e w'=>e=Q (E Y (ygj l:Nat))/\Bw w w':=by
 have Hs:=hid hs;have Hb:=hid hb;have HL:=hid (yrn l hb);have aC:(l.length:Int)<=1000:=zo;clear hs hb hl;go_enter Tryz.func97,Tryz.ntmps97
 go_wp2;go_loopw [3,9] (λ g i wr=>∃k:Nat,i=E T k/\g=E Y (ygj (l.take k):Nat)/\k<=l.length/\Hid (Bw w wr)) (λ _ i _=>l.length-(intOf i).toNat)
 case atStart=>exact ⟨0,rfl,rfl,by omega,Ye _ _⟩
 case round=>
  obtain ⟨k,rfl,rfl,hk,HB⟩:=hrel;by_cases hlt:k<l.length
  ·obtain ⟨b,off,rfl,av,hc⟩:=Hs.atInt hlt;have e1:=(HB.cell (p:=Z b (off+k) N) av).trans (hc k hlt);have hn:=hid (Hb _ (zzr hlt));have ae:=hid (yal l k hlt);have aj:=hid (HL k zo);obtain ⟨n,ag⟩:=zx (l[k]);rw [ag] at e1 hn ae;obtain ⟨g,hg⟩:=zx (ygj (l.take k));have Hg:=hid hg;rw [hg] at aj⊢;have cS:=hid (ysp n wr hn);have ak:Hid (n.natAbs<=9223372036854775808):=(by have:=hn.out;unfold yaA at this;show _<=_;omega);obtain ⟨m,hm⟩:=zx n.natAbs;have Hm:=hid hm;rw [hm] at cS ak;clear hc ag hg hm;go_wp2_with fail
   refine zm cS ?_;rintro w' rfl;go_wp2;go_loopw [3,6] (λ g' a' wq=>∃p q:Nat,g' =E Y p/\a' =E Y q/\Nat.gcd p q=Nat.gcd g m/\p<=9223372036854775808/\q<=9223372036854775808/\Hid (Bw w wq)) (λ _ a' _=>(intOf a').toNat)
   case atStart=>exact ⟨g,m,rfl,rfl,rfl,aj,ak,HB⟩
   case round=>
    obtain ⟨p,q,rfl,rfl,ab,hp,hq,ac⟩:=hrel;by_cases h0:q=0
    ·subst h0;have ai:p=Nat.gcd g m:=(by rw [<- ab,Nat.gcd_zero_right]);have hz:((0:Nat):Int)=0:=rfl;have az:=hid ai;clear ab ai;go_wp2;exact ⟨⟨k+1,by go_num,by rw [ae,yki,Hg,Hm,az],by omega,ac⟩,by simp [intOf];omega⟩
    ·have aA:¬(q:Int)=0:=zo;have aB:((q:Int)==0)=false:=(by simp;omega);have ax:=hid ab;have aa:p%q<q:=Nat.mod_lt _ zo;have ay:=hid aa;clear ab aa;go_wp2;go_quiet (fail)
     go_wp2;have ec:(p:Int)%(q:Int)= ((p%q:Nat):Int):=(Int.natCast_emod p q).symm;have hlt:=ay.out;refine ⟨⟨q,p%q,rfl,by rw [ec],by rw [ytX,ax],hq,by omega,ya9 ac _⟩,?_⟩;rw [ec];show ((p%q:Nat):Int).toNat<((q:Nat):Int).toNat;rw [YL,YL];exact hlt
  ·have ah:l.take k=l:=YU zo;rw [ah];clear ah;go_wp2;go_ret;exact ⟨rfl,HB⟩
theorem ynV (n s:Int) (w:World) (h0:0<=n) (h1:n<146097) (h2:0<=s) (h3:s<86400):H I 185 #[E T n,E T s] w λ e w'=>e=Q (Xt #[E T (n*86400+s),Xb true])/\w=w':=by
 have hm:=Yn (n*86400) zo;have ha:=Yn (n*86400+s) zo;go_enter Tryz.func185,Tryz.ntmps185
 go_wp2;go_ret2
 exact ⟨rfl,rfl⟩
theorem ynQ (n:Int) (w:World) (h0:0<=n) (h1:n<146097):H I 183 #[E T n] w λ e w'=>e=Q (spv (86400*n) (86400*n+86399))/\Bw w w':=by
 have c1:=hid (λ W=>ynV n 0 W h0 h1 zo zo);rw [show n*86400+0=86400*n by omega] at c1;generalize hd:86400*n=d at c1⊢
 have au:0<=d:=zo;have ar:d<12622780800:=zo;clear hd h0 h1;go_enter Tryz.func183,Tryz.ntmps183
 go_wp2_with fail
 refine zm (c1 _) ?_;rintro w' rfl;go_wp2;exact Yh (yac rfl _ _ w.heap.size 0 _ _ rfl (yap w _ _) Tryz.underlying126 rfl ygZ) rfl ⟨yvl rfl zo,yaa (Ye _ _) zg⟩
theorem yn1 {u t:Int} (hu:unB u=true) (ht:ycb t=true):ybB u t=true:=by rw [ybB,hu,ht];rfl
theorem ysh (u s a n:Int) (w:World) (hu:unB u=true) (ha:ycb a=true) (hs:1<=s) (ad:yaA s) (h0:0<=n) (h1:n<146097) (hz:0<yav u) :
  H I 134 #[E T u,E T s,E T a,E T n] w λ e w'=>e=Q (E T ((ybh u a-86400*n/yav u)%s))/\Bw w w':=by
 have c1:=hid (λ W=>yif u a W);rw [(yn1 hu ha)] at c1;have c2:=hid (λ W=>ynV n 0 W h0 h1 zo zo);rw [show n*86400+0=86400*n by omega] at c2;have c3:=hid (λ W=>ydn u W);generalize hd:86400*n=d at c2⊢
 have hb:=yjG u a;generalize hx:ybh u a=x at c1 hb⊢
 have au:0<=d:=zo;have ar:d<12622780800:=zo;have ao:yav u=1\/ yav u=60\/ yav u=3600:=by
  unfold yav at hz⊢;split
  ·exact .inl rfl
  ·split
   ·exact .inr (.inl rfl)
   ·split
    ·exact .inr (.inr rfl)
    ·rename_i a1 a2 a3;rw [Yb a1,Yb a2,Yb a3] at hz;omega
 clear hx hd hu ha h0 h1 hz;rcases ao with hz | hz | hz;all_goals
  rw [hz] at c3⊢;clear hz
 focus
  have c4:=hid (λ W=>yjr (x-d) s W ⟨by omega,by omega⟩ hs ad);rw [show d/1=d by omega];have hw:=Yn (x-d) zo
 rotate_left;focus
  have c4:=hid (λ W=>yjr (x-d/60) s W ⟨by omega,by omega⟩ hs ad);have hw:=Yn (x-d/60) zo
 rotate_left;focus
  have c4:=hid (λ W=>yjr (x-d/3600) s W ⟨by omega,by omega⟩ hs ad);have hw:=Yn (x-d/3600) zo
 rotate_left;all_goals
  go_enter Tryz.func134,Tryz.ntmps134
  go_wp2_with fail
  refine zm (c1 _) ?_;rintro w1 am;have an:=hid am;clear am;go_wp2_with fail
  refine zm (c2 _) ?_;rintro w' rfl;go_wp2_with fail
  refine zm (c3 _) ?_;rintro w2 al;have ac:Hid (Bw w w2):=zu an al;clear al;go_wp2_with fail
  with_reducible refine zm (c4.out _) ?_
  rintro w' rfl;go_wp2;go_ret;exact ⟨rfl,ac⟩
theorem yaP {W:World} {p q:Addr} {v:Value}:(W.setCell p v).frozen? q=W.frozen? q:=by
 have:=Zj p.block [v] p.off W;simp [go_sem]
abbrev CtS (w:World) (W:World):Prop:=Bw w W/\w.heap.size<W.heap.size
theorem CtS.keep {w W W':World} (h:CtS w W) (hb:Bw W W'):CtS w W':=⟨h.1.trans (hb.mono (YY h.2)),zH h.2 hb.size⟩
section
attribute [local go_sem ↓] yaz
abbrev stv (b:Bool) (f u p:Int):Value:= .agg #[Xb b,E T f,E T u,E T p]
def ydD (c:Cl) (n:Int):Int:=if 1<c.step/\0<yav c.unit then (ybh c.unit c.anchor-86400*n/yav c.unit)%c.step else 0
theorem yhZ:(Tryz.prog.info? 213).map (·.size)=G 4:=by kernel_rfl
abbrev Four (W:World) (b:Nat) (v0 v1 v2 v3:Value):Prop:=
 (W.cell? (Z b 0 N)=G v0/\W.cell? (Z b 1 N)=G v1/\W.cell? (Z b 2 N)=G v2/\W.cell? (Z b 3 N)=G v3)/\(W.frozen? (Z b 0 N)=false/\W.frozen? (Z b 1 N)=false/\W.frozen? (Z b 2 N)=false/\W.frozen? (Z b 3 N)=false)
theorem Four.below {W W':World} {b B:Nat} {v0 v1 v2 v3:Value} (h:Four W b v0 v1 v2 v3) (hb:Below B W W') (hB:b<B):Four W' b v0 v1 v2 v3:=by
 obtain ⟨⟨a0,a1,a2,a3⟩,f0,f1,f2,f3⟩:=h;exact ⟨⟨(hb.cell (p:=Z b 0 N) hB).trans a0,(hb.cell (p:=Z b 1 N) hB).trans a1,(hb.cell (p:=Z b 2 N) hB).trans a2,(hb.cell (p:=Z b 3 N) hB).trans a3⟩,
  (hb.frozen (p:=Z b 0 N) hB).trans f0,(hb.frozen (p:=Z b 1 N) hB).trans f1,(hb.frozen (p:=Z b 2 N) hB).trans f2,(hb.frozen (p:=Z b 3 N) hB).trans f3⟩
theorem ydm (w:World) (v0 v1 v2 v3:Value) (t:TypeId):Four (w.alloc (J #[v0,v1,v2,v3] t)) w.heap.size v0 v1 v2 v3:=by
 refine ⟨⟨?_,?_,?_,?_⟩,?_,?_,?_,?_⟩ <;> simp [go_sem]
theorem Four.set1 {W:World} {b:Nat} {v0 v1 v2 v3:Value} (h:Four W b v0 v1 v2 v3) (x y:Value):Four ((W.setCell (Z b 1 N) x).setCell (Z b 2 N) y) b v0 x y v3:=by
 obtain ⟨⟨a0,a1,a2,a3⟩,f0,f1,f2,f3⟩:=h;have ne:∀i j:Nat,i≠j->((Z b i N):Addr)≠(Z b j N):=λ i j aq e=>by injection e with _ e _;exact aq e
 refine ⟨⟨?_,?_,?_,?_⟩,by rw [yaP,yaP];exact f0,by rw [yaP,yaP];exact f1,by rw [yaP,yaP];exact f2,by rw [yaP,yaP];exact f3⟩
 ·rw [zzL _ _ _ _ (ne 2 0 zo),zzL _ _ _ _ (ne 1 0 zo)];exact a0
 ·rw [zzL _ _ _ _ (ne 2 1 zo)];exact zzW _ _ _ a1
 ·exact zzW _ _ _ (by rw [zzL _ _ _ _ (ne 1 2 zo)];exact a2)
 ·rw [zzL _ _ _ _ (ne 2 3 zo),zzL _ _ _ _ (ne 1 3 zo)];exact a3
theorem Four.put {W:World} {b:Nat} {v0 v1 v2 v3:Value} (h:Four W b v0 v1 v2 v3) (x0 x1 x2 x3:Value):((((W.setCell (Z b 0 N) x0).setCell (Z b 1 N) x1).setCell (Z b 2 N) x2).setCell (Z b 3 N) x3).rangeAt b 0 [x0,x1,x2,x3]:=by
 obtain ⟨⟨a0,a1,a2,a3⟩,f0,f1,f2,f3⟩:=h;exact Zd W b 0 [x0,x1,x2,x3] (λ j hj=>by
  have ap:j=0\/ j=1\/ j=2\/ j=3:=by have:j<4:=hj;omega
  rcases ap with rfl | rfl | rfl | rfl
  ·exact ⟨by show (W.cell? (Z b 0 N)).isSome=true;rw [a0];rfl,f0⟩
  ·exact ⟨by show (W.cell? (Z b 1 N)).isSome=true;rw [a1];rfl,f1⟩
  ·exact ⟨by show (W.cell? (Z b 2 N)).isSome=true;rw [a2];rfl,f2⟩
  ·exact ⟨by show (W.cell? (Z b 3 N)).isSome=true;rw [a3];rfl,f3⟩)
end
section
attribute [local go_sem ↓] yaz
attribute [local go_sem] yej
abbrev LaS (w:World) (c:Cl) (W:World):Prop:=
 (ydj (R (G (Z w.heap.size 0 N)))).run I W= .ok (clv c) W/\ClB W w.heap.size c/\Bw w W/\w.heap.size<W.heap.size
theorem LaS.of {w W:World} {c:Cl} (h:ClB W w.heap.size c) (hb:Bw w W) (hs:w.heap.size<W.heap.size):LaS w c W:=⟨h.ld,h,hb,hs⟩
theorem LaS.keep {w W W':World} {c:Cl} (h:LaS w c W) (hb:Bw W W'):LaS w c W':=
 LaS.of (h.2.1.below hb h.2.2.2) (h.2.2.1.trans (hb.mono (YY h.2.2.2))) (zH h.2.2.2 hb.size)
theorem LaS.set {w W:World} {c:Cl} {b o:Nat} {v:Value} (h:LaS w c W) (hb:w.heap.size<b):LaS w c (W.setCell (Z b o N) v):=
 LaS.of (λ j x hx=>by
  rw [zzL _ _ _ _ (by intro e;injection e with e _ _;omega)];exact h.2.1 j x hx) (yab h.2.2.1 (YY hb)) (by rw [Yx];exact h.2.2.2)
structure B1 (w W:World) (b:Nat) (v:Value):Prop where
 c:W.cell? (Z b 0 N)=G v
 f:W.frozen? (Z b 0 N)=false
 l:b<W.heap.size
 g:w.heap.size<b
structure B2 (w W:World) (b:Nat) (v u:Value):Prop where
 c:W.cell? (Z b 0 N)=G v/\W.cell? (Z b 1 N)=G u
 f:W.frozen? (Z b 0 N)=false/\W.frozen? (Z b 1 N)=false
 l:b<W.heap.size
 g:w.heap.size<b
theorem B1.below {w W W':World} {b:Nat} {v:Value} (h:B1 w W b v) (hb:Bw W W'):B1 w W' b v:=
 ⟨(hb.cell (p:=Z b 0 N) h.l).trans h.c,(hb.frozen (p:=Z b 0 N) h.l).trans h.f,zH h.l hb.size,h.g⟩
theorem B2.below {w W W':World} {b:Nat} {v u:Value} (h:B2 w W b v u) (hb:Bw W W'):B2 w W' b v u:=
 ⟨⟨(hb.cell (p:=Z b 0 N) h.l).trans h.c.1,(hb.cell (p:=Z b 1 N) h.l).trans h.c.2⟩,⟨(hb.frozen (p:=Z b 0 N) h.l).trans h.f.1,(hb.frozen (p:=Z b 1 N) h.l).trans h.f.2⟩,zH h.l hb.size,h.g⟩
theorem yy2 {w W:World} (v:Value) (t:TypeId) (h:w.heap.size<W.heap.size):B1 w (W.alloc (J #[v] t)) W.heap.size v:=⟨by simp [go_sem],by simp [go_sem],by simp,h⟩
theorem yy1 {w W:World} (v u:Value) (t:TypeId) (h:w.heap.size<W.heap.size):B2 w (W.alloc (J #[v,u] t)) W.heap.size v u:=⟨⟨by simp [go_sem],by simp [go_sem]⟩,⟨by simp [go_sem],by simp [go_sem]⟩,by simp,h⟩
end
section
attribute [local go_sem] Yw
def LpI (bd:Nat) (p:Int->Bool) (l:List Int):ycQ:=λ k O W=>(∀b,O b↔b=bd)/\DiscAt W bd (ye1 ((l.take k).filter p))
theorem yng (bd:Nat) (p:Int->Bool) (l:List Int):ybI (LpI bd p l):=λ k O W W' h hs hO=>⟨h.1,h.2.block hs (hO bd ((h.1 bd).mpr rfl))⟩
theorem yyj (bd:Nat) (p:Int->Bool) (l:List Int):LtO (LpI bd p l):=λ k O W h b hb=>by rw [(h.1 b).mp hb];exact h.2.lt
theorem DiscAt.more {W W':World} {bd:Nat} {p:Int->Bool} {l:List Int} {k:Nat} {x:Int} (hx:l[k]? =G x) (hp:p x=true) (h:DiscAt W' bd (λ j=>ye1 ((l.take k).filter p) j||decide ((j:Int)=x))) :
  DiscAt W' bd (ye1 ((l.take (k+1)).filter p)):=by
 obtain ⟨hk,rfl⟩:=zzq.1 hx;refine h.congr λ j hj=>?_;rw [yal l k hk,Zb,ye1,ye1,zze,Ys,zzY,zzY,zzY,YC];simp [hp]
theorem DiscAt.same {W:World} {bd:Nat} {p:Int->Bool} {l:List Int} {k:Nat} {x:Int} (hx:l[k]? =G x) (hp:p x=false) (h:DiscAt W bd (ye1 ((l.take k).filter p))) :
  DiscAt W bd (ye1 ((l.take (k+1)).filter p)):=by
 obtain ⟨hk,rfl⟩:=zzq.1 hx;have e:(l.take (k+1)).filter p= (l.take k).filter p:=by rw [yal l k hk,Zb];simp [hp]
 rw [e];exact h
theorem yoK {l:List Int} {f u:Int} {k:Nat} {x:Int} (hr:l.Pairwise (·< ·)) (hx:l[k]? =G x) (hu:u<x):(l.take k).filter (ycf f u)=l.filter (ycf f u):=by
 obtain ⟨hk,rfl⟩:=zzq.1 hx;have e:l.filter (ycf f u)= (l.take k).filter (ycf f u)++(l.drop k).filter (ycf f u):=by rw [<- Zb,Zg]
 have e2:(l.drop k).filter (ycf f u)= []:=by
  rw [List.filter_eq_nil_iff];intro y hy;rw [Zw hk] at hy;have a9:l[k]<=y:=by
   rcases YF.1 hy with h | h
   ·omega
   ·have hp:(l[k]::l.drop (k+1)).Pairwise (·< ·):=(by rw [<- Zw hk];exact hr.sublist (List.drop_sublist _ _));have:=(ZI.1 hp).1 y h;omega
  rw [ycf];simp;omega
 rw [e,e2,List.append_nil]
def yc1 (c:Cl) (f u:Int) (k:Nat):Bool:=ydc k (c.m 2) (c.m 1) (c.m 0)&&ycf f u k
theorem yqj (c:Cl) (f u:Int) (hc:c.Ok) (k:Nat) (hk:k<86400):ye1 ((ycC (c.m 2) (c.m 1) (c.m 0)).filter (ycf f u)) k=yc1 c f u k:=by
 rw [ye1,yc1,zze,zzY,Y5,zzX,yhN (hc.m 2 zo) (hc.m 1 zo) (hc.m 0 zo) zo zo]
theorem ype (c:Cl) (a:Bool) (f u p:Int) (w:World) (hc:c.Ok) (hT:Tab w) :
  H I 219 #[clv c,stv a f u p] w λ e w'=>∃b,e=Q (R (G (Z b 0 N)))/\w.heap.size<=b/\DiscAt w' b (yc1 c f u)/\Bw w w':=by
 have c1:=hid (λ W=>yjx N 0 [] W zs (Sl.nil _ _));have c2:=hid (λ W=>ynP (c.m 2) (c.m 1) (c.m 0) W (hc.m 2 zo) (hc.m 1 zo) (hc.m 0 zo));have cP:=hid (λ b q s W h=>ykU b q s W h);have aa:=hid (λ bh bm bs Ow w=>yhE (c.m 2) (c.m 1) (c.m 0) bh bm bs Ow w (hc.m 2 zo) (hc.m 1 zo) (hc.m 0 zo));have ab:=hid (yqj c f u hc);have ah:=hid (yiH (c.m 2) (c.m 1) (c.m 0));obtain ⟨L,hL⟩:=zx (ycC (c.m 2) (c.m 1) (c.m 0));rw [hL] at aa ab ah;have HT:=hid hT;obtain ⟨W1,ag⟩:=zx ((w.alloc (J (yae c).toArray 59)).alloc (J #[Xb a,E T f,E T u,E T p] 213));have q1:W1.heap.size=w.heap.size+2:=by rw [<- ag];simp
 have q2:Bw w W1:=by rw [<- ag];exact yaa (yaa (Ye _ _) zg) zs
 have q3:ClB W1 w.heap.size c:=by rw [<- ag];exact yjl w c _ _
 have q4:Four W1 (w.heap.size+1) (Xb a) (E T f) (E T u) (E T p):=by
  rw [<- ag];have h:=ydm (w.alloc (J (yae c).toArray 59)) (Xb a) (E T f) (E T u) (E T p) 213;(try unfold Bw at h);rw [zzN] at h
  exact h
 have a3:=hid ag;have Q2:=hid q2;have Q3:=hid q3;have Q4:=hid q4;clear ag q2 q3 q4 hL hT hc;refine (wf_calls (r:=N) (n:=1)).mp ?_;refine callsIn_of_wp_marks Tryz.func219 rfl trivial ?_ rfl;simp only [Tryz.ntmps219,Yp,Yu,YS,Nat.reduceAdd,Nat.reduceSub,YE,YD,YQ,YJ,Y0,YH];gi_wp2_with fail
 refine ybO ?_;rw [a3];gi_wp2_with fail
 refine (wf_calls.mpr (c1 W1)).mono ?_;rintro e w2 ⟨rfl,hD,an⟩;rw [q1];obtain ⟨W3,af⟩:=zx (w2.alloc (J #[R (G (Z (w.heap.size+2) 0 N))] 84));have s2:w.heap.size+2<w2.heap.size:=by rw [q1] at hD;exact hD.lt
 have b3:Bw w2 W3:=by rw [<- af];exact yaa (Ye _ _) zg
 have s3:W3.heap.size=w2.heap.size+1:=by rw [<- af];simp
 have al:Bw W1 W3:=zu an b3;have aW:Hid (Bw w W3):=zu Q2 al;have a5:Hid (DiscAt W3 (w.heap.size+2) (ye1 [])):=by rw [q1] at hD;exact hD.below b3 s2
 have C3:=hid (Q3.below al zo);have F3:=hid (Q4.below al zo);have e5:=hid (show W3.cell? (Z w2.heap.size 0 N)=G (R (G (Z (w.heap.size+2) 0 N))) by rw [<- af];simp [go_sem]);have m:=C3.masks;rw [<- af] at m;obtain ⟨m0,m1,m2,-⟩:=m;have a2:=hid af;clear af hD an b3 al;gi_wp2_with fail
 refine wpIn_label ?_;gi_wp2_with fail
 rw [a2];clear m0 m1 m2;refine (wf_calls.mpr (c2 W3)).mono ?_;rintro e w4 ⟨rfl,k1,k2,k3,aj,s4⟩;have ad:Hid (Bw w w4):=zu aW aj;have I4:Hid (LpI (w.heap.size+2) (ycf f u) L 0 (λ b=>b=w.heap.size+2) w4):=⟨λ b=>Y6,a5.below aj zo⟩;have F4:=hid (F3.below aj zo);have ao:=hid ((aj.cell (p:=Z w2.heap.size 0 N) (by simp only [];omega)).trans e5);rw [s3] at k1 k2 k3;have tl:=hid (aa (w2.heap.size+1) (w2.heap.size+1+1) (w2.heap.size+1+2) (λ b=>b=w.heap.size+2) w4 zo zo zo zo zo zo k1 k2 k3 (HT.later ad) (by have:=HT.1;show¬0= _;omega));clear k1 k2 k3 aj;gi_wp2_with fail
 have am:w2.heap.size<w4.heap.size:=zo;have aQ:w.heap.size+1<w4.heap.size:=zo;refine ybj (gf:=221) (lb:=#[R (G (Z (w2.heap.size+1) 0 N)),R (G ⟨w2.heap.size+1+1,0,N⟩),R (G ⟨w2.heap.size+1+2,0,N⟩)]) rfl yhF L _ rfl tl
  (LpI (w.heap.size+2) (ycf f u) L) (λ c k O W=>c= .exit 0/\(∀b,O b↔b=w.heap.size+2)/\DiscAt W (w.heap.size+2) (ye1 (L.filter (ycf f u)))) (yng _ _ _)
  (λ c k O W W' h hs hO=>⟨h.1,h.2.1,h.2.2.block hs (hO _ ((h.2.1 _).mpr rfl))⟩) (yyj _ _ _) (λ c k O W h b hb=>by rw [(h.2.1 b).mp hb];exact h.2.2.lt) I4
  (λ k O a' W=>LpI (w.heap.size+2) (ycf f u) L k O W/\∃x,L[k]? =G x/\∃(u7 u8 u9 aP aO aN aM aL aK aJ aI aH aG aF aE aD aC aB aA az ay ax aw av:Value),a' = {tmps:=#[clv c,stv a f u p,R (G (Z w.heap.size 0 N)),R (G (Z (w.heap.size+1) 0 N)),R N,R (G (Z w2.heap.size 0 N)),E T x,u7,u8,u9,aP,aO,aN,aM,aL,aK,aJ,aI,aH,aG,aF,aE,aD,aC,aB,aA,az,ay,ax,aw,av],defers:= []})
  (λ l o k O a' W' hr hn h=>⟨ybJ (yng _ _ _) h.1 hn o,h.2⟩) ?assign ?body ?done ?stop
 case assign=>
  intro l k O6 W6 K hk hI ai hK;gi_wp2
  exact hK _ O6 _ (yaM.refl _ _) ⟨hI,_,zzp hk,_,_,_,_,_,_,_,_,_,_,_,_,_,_,_,_,_,_,_,_,_,_,_,_,rfl⟩
 case stop=>
  rintro c' k O9 w9 a8 a7 ac ⟨rfl,aZ,ae⟩ hD aY;have au:=hid ac;have aq:=hid ae;have a0:=(ac.cell am zo 0).trans ao.out;have HD:=hid hD;clear ac ae hD;gi_wp2
  rw [Exit.noGoto_ret];refine ⟨by simp, .inl ⟨_,_,rfl,YM HD,?_⟩⟩;exact ⟨_,results_tmp rfl _ _ _,_,rfl,by omega,(aq.congr ab).block (by rw [Yg];exact zG _) (Yc zo),yaF (ad.trans (au.eff.below (by rintro b rfl;omega) ad.size)) ad.size _⟩
 case done=>
  rintro O9 w9 ac ⟨aZ,ae⟩ hD aY;rw [YW] at ae;have au:=hid ac;have aq:=hid ae;have a0:=(ac.cell am zo 0).trans ao.out;have HD:=hid hD;clear ac ae hD;gi_wp2
  rw [Exit.noGoto_ret];refine ⟨by simp, .inl ⟨_,_,rfl,YM HD,?_⟩⟩;exact ⟨_,results_tmp rfl _ _ _,_,rfl,by omega,(aq.congr ab).block (by rw [Yg];exact zG _) (Yc zo),yaF (ad.trans (au.eff.below (by rintro b rfl;omega) ad.size)) ad.size _⟩
 case body=>
  rintro l k O6 a' W6 hk ai a6 aR aX ⟨⟨aU,aT⟩,x,ex,u7,u8,u9,aP,aO,aN,aM,aL,aK,aJ,aI,aH,aG,aF,aE,aD,aC,aB,aA,az,ay,ax,aw,av,rfl⟩;have ba:=(ai.cell am zo 0).trans ao.out;obtain ⟨⟨-,f1,f2,-⟩,-⟩:=F4.out;have g1:=(ai.cell aQ zo 1).trans f1;have g2:=(ai.cell aQ zo 2).trans f2;have ar:=hid aT;have ak:=hid aU;have ap:=hid ex;clear f1 f2 aT aU ex ai;by_cases h1:x<f
  ·have hp:Hid (ycf f u x=false):=(by show _ = _;rw [ycf,zzd zo];rfl);gi_wp2
   exact ⟨O6,yaM.refl _ _,ak,ar.same ap hp⟩
  ·by_cases h2:u<x
   ·have hcut:Hid ((L.take k).filter (ycf f u)=L.filter (ycf f u)):=yoK ah ap h2;gi_wp2
    exact ⟨O6,yaM.refl _ _,rfl,ak,by rw [<- hcut];exact ar⟩
   ·have hp:Hid (ycf f u x=true):=(by show _ = _;rw [ycf,zzZ zo,zzZ zo];rfl);gi_wp2_with fail
    refine (wf_calls.mpr (cP _ _ x _ ar)).mono ?_;rintro e w7 ⟨⟨v,rfl⟩,aS,aV⟩;have a1:=hid aS;have a4:=hid aV;clear aS aV;gi_wp2
    exact ⟨O6,⟨λ _ h=>h,λ _ h=> .inl h,a4.wide λ b hb=>(ak b).mpr hb⟩,ak,DiscAt.more (W:=W6) ap hp a1⟩
end
section
attribute [local go_sem ↓] yaz
variable {a s t u:Int}
theorem ydz (hu:unB u=true) (ht:ycb t=true):ybB u t=true/\ybh u t=whU u t:=by
 have h:ybB u t=true:=by rw [ybB,hu,ht];rfl
 exact ⟨h,by rw [ybh,Yd h]⟩
theorem yn7 (h:unB u=true):0<=u/\u<=6:=by simpa only [unB,zzY] using h
theorem ypC (h0:0<=t) (h1:t<12622780800):ycb t=true:=by simp only [ycb,zzY];exact ⟨h0,h1⟩
theorem yp0 (d:Int):stepB 1 d=true:=by rw [stepB];simp
theorem ynB (hu:unB u=true) (ha:ycb a=true) (hs:1<=s) (h0:0<=t) (h1:t<12622780800) (hz:yav u=0):ydx u s a (t/86400)=onB u s a t:=by
 obtain ⟨e1,e2⟩:=ydz hu ha;obtain ⟨e3,e4⟩:=ydz hu (ypC h0 h1);have aa:3<=u:=ygz hz (yn7 hu).1;rw [ydx,onB,e1,e3,e4,ypD aa,zzZ hs,zzo,zzo,zzo,zzo];by_cases h:s=1
 ·subst h;rw [yp0,Bool.or_true]
 ·rw [zzd zo,YR]
theorem yoR {n:Int} (hu:unB u=true) (ha:ycb a=true) (hs:1<=s) (hz:0<yav u):ydx u s a n=true:=by
 obtain ⟨e1,e2⟩:=ydz hu ha;rw [ydx,e1,zzZ hs,zzZ (.inl hz)];rfl
theorem yyc (hu:unB u=true) (ha:ycb a=true) (hs:1<=s) (h0:0<=t) (h1:t<12622780800) (h:onB u s a t=true):ydx u s a (t/86400)=true:=by
 rcases ydg u with hz | hz
 ·exact yoR hu ha hs hz
 ·rw [ynB hu ha hs h0 h1 hz];exact h
end
def yiw (c:Cl) (f u:Int):Cl:={c with fr:=f,un:=u}
theorem Cl.Ok.span {c:Cl} (h:c.Ok) {f u:Int} (hf:yaA f) (hu:yaA u):(yiw c f u).Ok:=⟨h.m,h.od,h.ys,h.oin,h.unit,h.step,h.anchor,hf,hu⟩
theorem yrl {n:Int} (h0:0<=n) (h1:n<400):yvw yc6 n=true:=by
 rw [yvw,ywu,zzZ h0,zzZ h1,ybM,yc6,yjP (Nat.mod_lt _ zd)];simp only [zzo,zzY];omega
theorem ynf:yb2 fullCl=true:=by kernel_rfl
theorem ClB.span {W:World} {b:Nat} {c:Cl} (h:ClB W b c) (f u:Int):ClB ((W.setCell (Z b 28 N) (E T f)).setCell (Z b 29 N) (E T u)) b (yiw c f u):=by
 have e:yae (yiw c f u)= ((yae c).set 28 (E T f)).set 29 (E T u):=rfl;have h8:=h.at 28 rfl;have h9:=h.at 29 rfl;have ab:((Z b 29 N):Addr)≠(Z b 28 N):=by intro e;injection e with _ e _;cases e
 intro j v hv;by_cases hj:j=29
 ·subst hj;have aa:(Value.int T u)=v:=by rw [e] at hv;simpa using hv
  rw [<- aa];exact zzW _ _ _ (by rw [zzL _ _ _ _ ab.symm];exact h9)
 ·by_cases hk:j=28
  ·subst hk;have aa:(Value.int T f)=v:=(by rw [e] at hv;simpa using hv);rw [<- aa,zzL _ _ _ _ ab];exact zzW _ _ _ h8
  ·rw [e,List.getElem?_set_ne zo,List.getElem?_set_ne zo] at hv;rw [zzL _ _ _ _ (by intro e;injection e with _ e2 _;exact hj zo),zzL _ _ _ _ (by intro e;injection e with _ e2 _;exact hk zo)];exact h j v hv
section
variable {a b n:Int} {k:Nat}
def yag (a b:Int):List Int:=(List.range (b-a+1).toNat).map λ (i:Nat)=>a+(i:Int)
theorem ybg (a b:Int):(yag a b).length= (b-a+1).toNat:=by simp [yag]
theorem ycK (h:k<(yag a b).length):(yag a b)[k]=a+k:=by simp [yag]
theorem ybH:n∈yag a b↔a<=n/\n<=b:=by
 simp only [yag,YA,YT];constructor
 ·rintro ⟨i,h,rfl⟩;omega
 ·rintro ⟨h1,h2⟩;exact ⟨(n-a).toNat,by omega,by omega⟩
theorem yg5 (h:b<a):yag a b= []:=by
 rw [yag,show (b-a+1).toNat=0 by omega];rfl
theorem yg4 {c:Int} (h1:a<=c) (h2:c<=b+1):yag a b=yag a (c-1)++yag c b:=by
 apply List.ext_getElem
 ·rw [YG,ybg,ybg,ybg];omega
 ·intro i h3 h4;rw [ycK h3,List.getElem_append];split
  ·rename_i h5;rw [ycK h5]
  ·rename_i h5;rw [ycK,ybg] at *;omega
theorem yeR {p:Int->Bool} (h:∀n,a<=n->n<=b->p n=false):(yag a b).filter p= []:=by
 rw [List.filter_eq_nil_iff];intro n hn;obtain ⟨h1,h2⟩:=ybH.1 hn;rw [h n h1 h2];simp
theorem yoQ {p:Int->Bool} {lo hi:Int} (h:∀n,p n=true->lo<=n/\n<=hi):(yag (max a lo) (min b hi)).filter p= (yag a b).filter p:=by
 have ac:∀n,¬(lo<=n/\n<=hi)->p n=false:=λ n hn=>by
  rw [<- ZG];intro e;exact hn (h n e)
 by_cases al:max a lo<=min b hi
 ·rw [yg4 (a:=a) (b:=b) (c:=max a lo) zo zo,yg4 (a:=max a lo) (b:=b) (c:=min b hi+1) zo zo,Zb,Zb,
   yeR (a:=a) (λ n h1 h2=>ac n zo),yeR (b:=b) (λ n h1 h2=>ac n zo),Y0,List.append_nil,show min b hi+1-1=min b hi by omega]
 ·rw [yg5 zo,yeR (λ n h1 h2=>ac n zo)];rfl
theorem ywp {y z:Int} {m:Nat} {d e:Int} (hd:yhk n y m d) (gd:yhk (n+1) z k e) (h1:n+1<146097) :
  (d+1<=ycx y m->z=y/\k=m/\e=d+1)/\
  (¬d+1<=ycx y m->m+1<=12->z=y/\k=m+1/\e=1)/\
  (¬d+1<=ycx y m->¬m+1<=12->z=y+1/\k=1/\e=1):=by
 have ak:=hd.d0;have ah:=hd.d1;have aa:=hd.sum;have ae:=hd.m0;have aj:=hd.m1;refine ⟨λ h=>?_,λ h h2=>?_,λ h h2=>?_⟩
 ·exact gd.unique ⟨hd.y0,hd.y1,hd.m0,hd.m1,by omega,h,by omega⟩
 ·have hm:=ygg y m ae zo;have hl:=ycV y ((m+1:Nat):Int);exact gd.unique (z:=y) (k:=m+1) (e:=1) ⟨hd.y0,hd.y1,by omega,by omega,by omega,by omega,by omega⟩
 ·obtain rfl:m=12:=zo;have hl:=ytF y;have hs:=yiv y;have ag:ycx y ((12:Nat):Int)=ycx y 12:=rfl;have ad:y+1<=2369:=by
   have e1:y<=2369:=hd.y1;by_cases e2:y=2369
   ·subst e2;rw [show ysI 2369=145732 by decide,show msI 2369 12=334 by decide] at aa;rw [ag,show ycx 2369 12=31 by decide] at ah h;omega
   ·omega
  have af:=ycV (y+1) 1;have ab:msI (y+1) 1=0:=rfl;exact gd.unique (z:=y+1) (k:=1) (e:=1) ⟨by have:=hd.y0;omega,ad,by omega,by omega,by omega,by show (1:Int)<=ycx (y+1) 1;omega,by rw [ab];omega⟩
theorem ygO (h0:0<=n) (h1:n+1<146097) :
  (fD n+1<=ycx (fY n) (fMo n)->fY (n+1)=fY n/\fMo (n+1)=fMo n/\fD (n+1)=fD n+1/\fOr (n+1)=fOr n+1)/\
  (¬fD n+1<=ycx (fY n) (fMo n)->fMo n+1<=12->fY (n+1)=fY n/\fMo (n+1)=fMo n+1/\fD (n+1)=1/\fOr (n+1)=fOr n+1)/\
  (¬fD n+1<=ycx (fY n) (fMo n)->¬fMo n+1<=12->fY (n+1)=fY n+1/\fMo (n+1)=1/\fD (n+1)=1/\fOr (n+1)=1):=by
 obtain ⟨m,e,hd,_⟩:=yoM n h0 zo;obtain ⟨k,f,gd,_⟩:=yoM (n+1) zo h1;obtain ⟨a1,a2,a3⟩:=ywp hd gd h1;have ai:=yvn gd;have o1:fOr n=n-ysI (fY n)+1:=rfl;have o2:fOr (n+1)=n+1-ysI (fY (n+1))+1:=rfl;rw [o1,o2,f,e];refine ⟨λ h=>?_,λ h h2=>?_,λ h h2=>?_⟩
 ·obtain ⟨b1,b2,b3⟩:=a1 h;refine ⟨b1,by rw [b2],b3,?_⟩;rw [b1];omega
 ·obtain ⟨b1,b2,b3⟩:=a2 h zo;refine ⟨b1,by rw [b2];omega,b3,?_⟩;rw [b1];omega
 ·obtain ⟨b1,b2,b3⟩:=a3 h zo;refine ⟨b1,by rw [b2];rfl,b3,?_⟩;rw [b2,b3,show msI (fY (n+1)) 1=0 from rfl] at ai;omega
end
def okD (c:Cl):Bool:=yaw c.fr c.un&&yb2 c
def frD (c:Cl):Int:=yau c.fr c.un/86400
def unD (c:Cl):Int:=yat c.fr c.un/86400
def onD (c:Cl) (n:Int):Bool:=decide (frD c<=n)&&(decide (n<=unD c)&&yk0 c n)
def ybq (c:Cl) (n:Int):Bool:=okD c&&onD c n
def atC (cs:List Cl) (i:Nat):Cl:=cs.getD i fullCl
theorem yer {cs:List Cl} {i:Nat} (h:i<cs.length):atC cs i=cs[i]:=by simp [atC,h]
def yid (cs:List Cl) (n:Int):Nat:=mk λ i=>decide (i<cs.length)&&ybq (atC cs i) n
theorem yzC {p:Nat->Bool} {k:Nat} (h:k<64):mk p|||2 ^ k=mk λ i=>p i||decide (i=k):=by
 refine yf4 (ygM (yaG _) (ycD h)) (λ i hi=>?_);rw [Y2,yaW,Nat.testBit_two_pow];have:decide (k=i)=decide (i=k):=Zu.2 ⟨Zx,Zx⟩
 simp [hi,this]
theorem yrY {cs:List Cl} {n:Int}:yid cs n=0↔∀i,i<cs.length->i<64->ybq (atC cs i) n=false:=by
 constructor
 ·intro h i h1 h2;have:=yaW (λ i=>decide (i<cs.length)&&ybq (atC cs i) n) i;rw [<- yid,h,YV,zzZ h2,zzZ h1,zzo,zzo] at this;exact this.symm
 ·intro h;rw [yid,<- yct];refine ybm λ i hi=>?_;by_cases h1:i<cs.length
  ·rw [h i h1 hi,Y3]
  ·rw [zzd h1,Yv]
section
variable {c:Cl} {n:Int}
def stF (c:Cl) (n:Int):Int:=max (max 0 c.fr) (86400*n)-86400*n
def stU (c:Cl) (n:Int):Int:=min (min 12622780799 c.un) (86400*n+86399)-86400*n
def stG (c:Cl) (n:Int):Value:=if ybq c n then stv true (stF c n) (stU c n) (ydD c n) else stv false 0 0 0
theorem yi1 (h:yaw c.fr c.un=true):frD c=max c.fr 0/86400/\unD c=min c.un 12622780799/86400/\max c.fr 0<=min c.un 12622780799:=by
 have aa:max c.fr 0<=min c.un 12622780799:=Y8 h;rw [frD,unD,yau,yat,h,Yd rfl,Yd rfl];exact ⟨rfl,rfl,aa⟩
theorem yjj (h:yaw c.fr c.un=true) (h1:frD c<=n) (h2:n<=unD c):max (max 0 c.fr) (86400*n)<=min (min 12622780799 c.un) (86400*n+86399):=by
 obtain ⟨e1,e2,e3⟩:=yi1 h;rw [e1] at h1;rw [e2] at h2;omega
theorem yw4 (h:yaw c.fr c.un=true) (h1:frD c<=n) (h2:n<=unD c) :
  max (max 0 c.fr) (86400*n)%86400=stF c n/\min (min 12622780799 c.un) (86400*n+86399)%86400=stU c n:=by
 have hc:=yjj h h1 h2;rw [stF,stU];constructor <;> omega
theorem yw5 (h:yaw c.fr c.un=true) (h1:frD c<=n) (h2:n<=unD c) (n1:n≠frD c) (n2:n≠unD c):stF c n=0/\stU c n=86399:=by
 obtain ⟨e1,e2,e3⟩:=yi1 h;rw [e1] at h1 n1;rw [e2] at h2 n2;rw [stF,stU];constructor <;> omega
end
section
variable {c:Cl} {n u:Int} {k:Nat}
def okS (c:Cl) (p:Int) (k:Nat):Bool:=
 if 0<yav c.unit/\(1<c.step\/ 0<p) then decide (p<=(k:Int)/yav c.unit)&&decide (((k:Int)/yav c.unit-p)%c.step=0) else true
def yfZ (c:Cl) (a:Bool) (f u p:Int) (k:Nat):Bool:=a&&(decide (0<=p)&&(yb2 c&&(ydc k (c.m 2) (c.m 1) (c.m 0)&&(ycf f u k&&okS c p k))))
theorem yql {a b s x:Int} (hs:1<=s) (hx:0<=x):(decide ((a-b)%s<=x)&&decide ((x-(a-b)%s)%s=0))=decide ((b+x-a)%s=0):=by
 have e:(x-(a-b)%s)%s= (b+x-a)%s:=by
  rw [Int.sub_emod x,Int.emod_emod_of_dvd _ (Int.dvd_refl s),<- Int.sub_emod,show x-(a-b)=b+x-a by omega]
 have r0:0<=(a-b)%s:=ZM _ zo;have r1:(a-b)%s<s:=Int.emod_lt_of_pos _ zo;rw [zze,zzX,zzY,zzY,zzY,e];constructor
 ·exact λ h=>h.2
 ·intro h;refine ⟨?_,h⟩;rw [<- e] at h;obtain ⟨j,hj⟩:=Int.dvd_of_emod_eq_zero h;generalize (a-b)%s=r at *
  by_cases ab:0<=j
  ·have:=Int.mul_nonneg (show 0<=s by omega) ab;omega
  ·have:=Int.mul_le_mul_of_nonneg_left (show j<=-1 by omega) (show 0<=s by omega);omega
theorem ysT {t:Int} (hz:0<yav u):whU u t=t/yav u:=by
 rcases ye4 u with rfl | rfl | rfl | ⟨h0,h1,h2,h⟩
 ·rw [show yav 0=1 from rfl,Int.ediv_one];rfl
 ·rfl
 ·rfl
 ·omega
theorem yiC (hz:0<yav u):yav u=1\/ yav u=60\/ yav u=3600:=by
 rcases ye4 u with rfl | rfl | rfl | ⟨h0,h1,h2,h⟩
 ·exact .inl rfl
 ·exact .inr (.inl rfl)
 ·exact .inr (.inr rfl)
 ·omega
theorem yyd (hm:yb2 c=true) (hz:0<yav c.unit) (h0:0<=n) (h1:n<146097) (hk:k<86400):okS c (ydD c n) k=onB c.unit c.step c.anchor (86400*n+k):=by
 obtain ⟨-,hs,hu,ha⟩:=ydG hm;obtain ⟨e1,e2⟩:=ydz hu ha;obtain ⟨e3,e4⟩:=ydz hu (ypC (t:=86400*n+k) zo zo);rw [onB,e1,e3,e4,stepB,zzZ hs,ysT hz,okS,ydD];generalize hA:ybh c.unit c.anchor=A
 have hd:(86400*n+(k:Int))/yav c.unit=86400*n/yav c.unit+(k:Int)/yav c.unit:=by
  rcases yiC hz with h | h | h <;> rw [h] <;> omega
 have hx:0<=(k:Int)/yav c.unit:=by
  rcases yiC hz with h | h | h <;> rw [h] <;> omega
 rw [hd];obtain ⟨B,hB⟩:=zx (86400*n/yav c.unit);obtain ⟨X,hX⟩:=zx ((k:Int)/yav c.unit);rw [hB,hX];rw [hX] at hx;by_cases aa:1<c.step
 ·rw [Yd (show 1<c.step/\0<yav c.unit from ⟨aa,hz⟩),Yd ⟨hz, .inl aa⟩,yql hs hx];simp
 ·have e:c.step=1:=zo;rw [Yb (show¬(1<c.step/\0<yav c.unit) by omega),Yb zo,e];simp
def sF (c:Cl) (n:Int):Int:=if ybq c n then stF c n else 0
def sU (c:Cl) (n:Int):Int:=if ybq c n then stU c n else 0
def sP (c:Cl) (n:Int):Int:=if ybq c n then ydD c n else 0
theorem yp2 (c:Cl) (n:Int):stG c n=stv (ybq c n) (sF c n) (sU c n) (sP c n):=by
 rw [stG,sF,sU,sP];cases ybq c n <;> rfl
theorem ytm (hm:yb2 c=true) (n:Int):0<=ydD c n:=by
 obtain ⟨-,hs,-,-⟩:=ydG hm;rw [ydD];split
 ·exact ZM _ zo
 ·omega
theorem yni (h:ybq c n=true):yb2 c=true/\yaw c.fr c.un=true/\yk0 c n=true/\frD c<=n/\n<=unD c:=by
 simp only [ybq,okD,onD,zzX,zzY] at h;exact ⟨h.1.2,h.1.1,h.2.2.2,h.2.1,h.2.2.1⟩
theorem yuw (h0:0<=n) (h1:n<146097) (hk:k<86400):ycf (stF c n) (stU c n) k=ycf c.fr c.un (86400*n+k):=by
 have e1:stF c n<=(k:Int)↔c.fr<=86400*n+k:=by unfold stF;constructor <;> intro h <;> omega
 have e2:(k:Int)<=stU c n↔86400*n+k<=c.un:=by unfold stU;constructor <;> intro h <;> omega
 rw [ycf,ycf,zze];simp only [zzX,zzY];rw [e1,e2]
theorem yux (h0:0<=n) (h1:n<146097) (hk:k<86400) (h:ycf c.fr c.un (86400*n+k)=true):yaw c.fr c.un=true/\frD c<=n/\n<=unD c:=by
 rw [ycf] at h;simp only [zzX,zzY] at h;have hB:yaw c.fr c.un=true:=zzZ zo;obtain ⟨e1,e2,e3⟩:=yi1 hB;refine ⟨hB,?_,?_⟩
 ·rw [e1];omega
 ·rw [e2];omega
theorem yta (c:Cl) (h0:0<=n) (h1:n<146097) (hk:k<86400):yfZ c (ybq c n) (sF c n) (sU c n) (sP c n) k=yhv c (86400*n+k):=by
 have hw:ycb (86400*n+k)=true:=ypC zo zo;rw [yfZ,yhv,hw,zzo,show (86400*n+(k:Int))%86400=k by omega,show (86400*n+(k:Int))/86400=n by omega];cases hl:ybq c n
 ·rw [Yv];cases hb:ycf c.fr c.un (86400*n+k)
  ·simp
  ·obtain ⟨g1,g2,g3⟩:=yux h0 h1 hk hb;have:(yb2 c&&yk0 c n)=false:=by
    rw [ybq,okD,onD,g1,zzZ g2,zzZ g3] at hl;simpa using hl
   rcases Bool.and_eq_false_iff.1 this with h | h <;> rw [h] <;> simp
 ·obtain ⟨hm,hB,hd,g1,g2⟩:=yni hl;obtain ⟨-,hs,hu,ha⟩:=ydG hm;rw [sF,sU,sP,hl,Yd rfl,Yd rfl,Yd rfl,yuw h0 h1 hk,hm,hd,zzZ (ytm hm n),Y7];have:okS c (ydD c n) k=onB c.unit c.step c.anchor (86400*n+k):=by
   rcases ydg c.unit with hz | hz
   ·exact yyd hm hz h0 h1 hk
   ·have e:=ynB (t:=86400*n+k) hu ha hs zo zo hz;rw [show (86400*n+(k:Int))/86400=n by omega] at e;rw [yk0,hm,zzo,zzX] at hd;rw [<- e,hd.2,okS,Yb zo]
  rw [this];simp only [zzo];cases ycf c.fr c.un (86400*n+k) <;> cases ydc k (c.m 2) (c.m 1) (c.m 0) <;> simp
def yax (cs:List Cl) (n:Int) (k:Nat):Bool:=cs.any λ c=>yhv c (86400*n+k)
end
section
attribute [local go_sem] Yw
variable {a:Act} {t:Array Value} {c:Cl} {Qq:Exit->Act->World->Prop} {f n p u x z:Int} {l:List Int} {b bd k:Nat} {q:Nat->Bool} {P:Program} {h0 h1 h2 h3 h4 h5 h6 h7 h8:Value} {W W' w:World}
theorem wf_wp {n:Nat} {c:Code}:c.wpIn (WF N) n P Qq a w↔c.wp P Qq a w:=wpIn_wide
theorem yuX (x:Int) (W:World) (t:TypeId):H I 92 #[Xs (G (Z W.heap.size 0 N)) 1 1] (W.alloc (J #[E T x] t)) λ e w'=>e=Q (E Y (ofM [x]))/\Bw W w':=by
 have hb:Bw W (W.alloc (J #[E T x] t)):=yaa (Ye _ _) zg;exact (yev (G (Z W.heap.size 0 N)) 1 [x] (W.alloc (J #[E T x] t)) zs (ybV (yap W [E T x] t) zs)).mono λ e w' ⟨he,h⟩=>⟨he,zu hb h⟩
def yde (c:Cl) (z f u p n:Int) (k:Nat):Bool:=yc1 c f u k&&(decide (p<=(k:Int)/z)&&(decide (((k:Int)/z-p)%c.step=0)&&decide ((k:Int)/z<n)))
def yco (c:Cl) (z f u p:Int) (k:Nat):Bool:=yc1 c f u k&&(decide (p<=(k:Int)/z)&&decide (((k:Int)/z-p)%c.step=0))
theorem yld (c:Cl) (z f u p:Int) (k:Nat):yde c z f u p p k=false:=by
 rw [yde];by_cases h:p<=(k:Int)/z
 ·rw [zzd (show¬(k:Int)/z<p by omega)];simp
 ·rw [zzd h];simp
theorem yoa (hs:1<=c.step) (aH:p<=n) (hm:(n-p)%c.step=0) (k:Nat):yde c z f u p (n+c.step) k= (yde c z f u p n k||(yc1 c f u k&&decide ((k:Int)/z=n))):=by
 rw [yde,yde];generalize hx:(k:Int)/z=x
 have key:(p<=x/\(x-p)%c.step=0/\x<n+c.step)↔((p<=x/\(x-p)%c.step=0/\x<n)\/ x=n):=by
  constructor
  ·rintro ⟨h1,h2,h3⟩;by_cases h:x<n
   ·exact .inl ⟨h1,h2,h⟩
   ·right
    have e:(x-n)%c.step=0:=by
     have:x-n= (x-p)-(n-p):=zo
     rw [this,Int.sub_emod,h2,hm];rfl
    rw [Int.emod_eq_of_lt zo zo] at e;omega
  ·rintro (⟨h1,h2,h3⟩ | rfl)
   ·exact ⟨h1,h2,by omega⟩
   ·exact ⟨aH,hm,by omega⟩
 cases yc1 c f u k
 ·rfl
 ·rw [zze];simp only [zzo,zzX,Ys,zzY];exact key
theorem yjN (h:(k:Int)/z<n):yde c z f u p n k=yco c z f u p k:=by
 rw [yde,yco,zzZ h,Y7]
theorem yd3 {a:Nat}:ya8 (a&&&b) x= (ya8 a x&&ya8 b x):=by
 rw [ya8,ya8,ya8,Nat.testBit_and];cases decide (0<=x) <;> simp
theorem yd2 {y:Int} (h0:0<=y) (h1:y<64):ya8 (ofM [x]) y=decide (y=x):=by
 obtain ⟨k,rfl⟩:∃k:Nat,y=k:=⟨y.toNat,by omega⟩;rw [yi6,ofM,yaW,zzZ zo,zzo,inB];simp
def uM (c:Cl) (z n:Int):Nat:=if z<3600 then c.m 1&&&ofM [n*z/60%60] else c.m 1
def uS (c:Cl) (z n:Int):Nat:=if z=1 then c.m 0&&&ofM [n*z%60] else c.m 0
theorem ypP (c:Cl) (hz:z=1\/ z=60\/ z=3600) (h0:0<=n) (k:Nat) (hk:k<86400):ydc k (c.m 2&&&ofM [n*z/3600]) (uM c z n) (uS c z n)= (ydc k (c.m 2) (c.m 1) (c.m 0)&&decide ((k:Int)/z=n)):=by
 have hd:yxD (k:Int)=true:=by simp only [yxD,zzY];omega
 rw [ydc,ydc,hd,uM,uS];simp only [zzo];have key:∀a b d e:Bool,(e=true↔a=true/\b=true/\d=true)->((ya8 (c.m 2) ((k:Int)/3600)&&a)&&((ya8 (c.m 1) ((k:Int)/60%60)&&b)&&(ya8 (c.m 0) ((k:Int)%60)&&d)))= ((ya8 (c.m 2) ((k:Int)/3600)&&(ya8 (c.m 1) ((k:Int)/60%60)&&ya8 (c.m 0) ((k:Int)%60)))&&e):=λ a b d e h=>by
  rw [show e= (a&&(b&&d)) by rw [zze,h];simp];ac_rfl
 have one:∀b:Bool,b= (b&&true):=λ b=>by simp
 rcases hz with rfl | rfl | rfl
 ·rw [Yd zo,Yd rfl,yd3,yd3,yd3,yd2 zo zo,yd2 zo zo,yd2 zo zo];exact key _ _ _ _ (by simp only [zzY];omega)
 ·rw [Yd zo,Yb zo,yd3,yd3,yd2 zo zo,yd2 zo zo,one (ya8 (c.m 0) _)];refine (key _ _ true (decide ((k:Int)/60=n)) (by simp only [zzY,eq_self,and_true];omega)).trans ?_;rw [<- one]
 ·rw [Yb zo,Yb zo,yd3,yd2 zo zo,one (ya8 (c.m 0) _),one (ya8 (c.m 1) _)];refine (key _ true true (decide ((k:Int)/3600=n)) (by simp only [zzY,eq_self,and_true];omega)).trans ?_;rw [<- one,<- one]
def TStep (h0 h1 h2 h3 h4 h5 h6 h7 h8:Value) (ds:List Deferred) (a:Act):Prop:=∃V:Nat->Value,a= {tmps:=#[h0,h1,h2,h3,h4,h5,h6,h7,h8,V 9,V 10,V 11,V 12,V 13,V 14,V 15,V 16,V 17,V 18,V 19,V 20,V 21,V 22,V 23,V 24,V 25,V 26,V 27,V 28,V 29,V 30,V 31,V 32,V 33,V 34,V 35,V 36,V 37,V 38,V 39,V 40,V 41,V 42,V 43,V 44,V 45,V 46,V 47,V 48,V 49,V 50,V 51,V 52,V 53,V 54,V 55,V 56,V 57,V 58,V 59,V 60,V 61,V 62,V 63,V 64,V 65,V 66,V 67,V 68,V 69,V 70,V 71,V 72,V 73,V 74,V 75,V 76,V 77,V 78,V 79,V 80,V 81,V 82,V 83],defers:=ds}
theorem TStep.of {ds:List Deferred} (hs:t.size=84:=by rfl) (k0:tg t 0=h0:=by rfl) (k1:tg t 1=h1:=by rfl) (k2:tg t 2=h2:=by rfl) (k3:tg t 3=h3:=by rfl) (k4:tg t 4=h4:=by rfl) (k5:tg t 5=h5:=by rfl) (k6:tg t 6=h6:=by rfl) (k7:tg t 7=h7:=by rfl) (k8:tg t 8=h8:=by rfl):TStep h0 h1 h2 h3 h4 h5 h6 h7 h8 ds {tmps:=t,defers:=ds}:=⟨tg t,by subst_vars;exact tgE hs ds⟩
def TStepX (h0 h1 h2 h3 h4 h5 h6 h7 h8 aB:Value) (ds:List Deferred) (a:Act):Prop:=∃V:Nat->Value,a= {tmps:=#[h0,h1,h2,h3,h4,h5,h6,h7,h8,V 9,V 10,V 11,V 12,V 13,V 14,V 15,aB,V 17,V 18,V 19,V 20,V 21,V 22,V 23,V 24,V 25,V 26,V 27,V 28,V 29,V 30,V 31,V 32,V 33,V 34,V 35,V 36,V 37,V 38,V 39,V 40,V 41,V 42,V 43,V 44,V 45,V 46,V 47,V 48,V 49,V 50,V 51,V 52,V 53,V 54,V 55,V 56,V 57,V 58,V 59,V 60,V 61,V 62,V 63,V 64,V 65,V 66,V 67,V 68,V 69,V 70,V 71,V 72,V 73,V 74,V 75,V 76,V 77,V 78,V 79,V 80,V 81,V 82,V 83],defers:=ds}
theorem TStepX.of {aB:Value} {ds:List Deferred} (hs:t.size=84:=by rfl) (k0:tg t 0=h0:=by rfl) (k1:tg t 1=h1:=by rfl) (k2:tg t 2=h2:=by rfl) (k3:tg t 3=h3:=by rfl) (k4:tg t 4=h4:=by rfl) (k5:tg t 5=h5:=by rfl) (k6:tg t 6=h6:=by rfl) (k7:tg t 7=h7:=by rfl) (k8:tg t 8=h8:=by rfl) (bm:tg t 16=aB:=by rfl):TStepX h0 h1 h2 h3 h4 h5 h6 h7 h8 aB ds {tmps:=t,defers:=ds}:=⟨tg t,by subst_vars;exact tgE hs ds⟩
def StI (bd:Nat) (q:Nat->Bool) (p:Int->Bool) (l:List Int):ycQ:=λ k O W=>(∀b,O b↔b=bd)/\DiscAt W bd (λ j=>q j||ye1 ((l.take k).filter p) j)
theorem ymK (bd:Nat) (q:Nat->Bool) (p:Int->Bool) (l:List Int):ybI (StI bd q p l):=λ k O W W' h hs hO=>⟨h.1,h.2.block hs (hO bd ((h.1 bd).mpr rfl))⟩
theorem yxT (bd:Nat) (q:Nat->Bool) (p:Int->Bool) (l:List Int):LtO (StI bd q p l):=λ k O W h b hb=>by rw [(h.1 b).mp hb];exact h.2.lt
theorem StI.more {p:Int->Bool} (hx:l[k]? =G x) (hp:p x=true) (h:DiscAt W' bd (λ j=>(q j||ye1 ((l.take k).filter p) j)||decide ((j:Int)=x))) :
  DiscAt W' bd (λ j=>q j||ye1 ((l.take (k+1)).filter p) j):=by
 obtain ⟨hk,rfl⟩:=zzq.1 hx;refine h.congr λ j hj=>?_;rw [yal l k hk,Zb,ye1,ye1,Bool.or_assoc];congr 1
 rw [zze,Ys,zzY,zzY,zzY,YC];simp [hp]
theorem StI.same {p:Int->Bool} (hx:l[k]? =G x) (hp:p x=false) (h:DiscAt W bd (λ j=>q j||ye1 ((l.take k).filter p) j)) :
  DiscAt W bd (λ j=>q j||ye1 ((l.take (k+1)).filter p) j):=by
 obtain ⟨hk,rfl⟩:=zzq.1 hx;have e:(l.take (k+1)).filter p= (l.take k).filter p:=by rw [yal l k hk,Zb];simp [hp]
 rw [e];exact h
theorem yk5 {c:Code} {K:Act->World->Prop} (h:c.wp P (Exit.then K (λ _ _ _=>False)) a w):c.wp P (Exit.then K Qq) a w:=
 wp_mono h λ e a w hq=>by cases e <;> first | exact hq | exact hq.elim
abbrev StS (b:Nat) (c:Cl) (w4 W:World):Prop:=
 (W.cell? (Z b 2 N)=G (E Y (c.m 2:Nat))/\W.cell? (Z b 1 N)=G (E Y (c.m 1:Nat))/\W.cell? (Z b 0 N)=G (E Y (c.m 0:Nat)))/\Bw w4 W/\b<w4.heap.size
theorem StS.keep {w4:World} (h:StS b c w4 W) (hb:Bw W W'):StS b c w4 W':=by
 obtain ⟨⟨h2,h1,h0⟩,hB,hl⟩:=h;have aI:b<W.heap.size:=zH hl hB.size;exact ⟨⟨(hb.cell (p:=Z b 2 N) aI).trans h2,(hb.cell (p:=Z b 1 N) aI).trans h1,(hb.cell (p:=Z b 0 N) aI).trans h0⟩,zu hB hb,hl⟩
theorem ypd (c:Cl) (a:Bool) (f u p z:Int) (w:World) (hz:z=1\/ z=60\/ z=3600) (hc:c.Ok) (hp:0<=p) (hs:1<=c.step) (hT:Tab w) :
  H I 218 #[clv c,stv a f u p,E T z] w λ e w'=>∃b,e=Q (R (G (Z b 0 N)))/\w.heap.size<=b/\DiscAt w' b (yco c z f u p)/\Bw w w':=by
 obtain ⟨Nz,aZ⟩:=zx (86400/z);have HZ:Hid (∀n,0<=n->n<Nz->0<=n*z/\n*z<86400):=λ n h0 h1=>by rcases hz with rfl | rfl | rfl <;> omega
 have a6:Hid (∀k:Nat,k<86400->(k:Int)/z<Nz):=λ k h=>by rcases hz with rfl | rfl | rfl <;> omega
 have bs:24<=Nz/\Nz<=86400:=by rcases hz with rfl | rfl | rfl <;> omega
 have zt:Int.tdiv 86400 z=Nz:=by rcases hz with rfl | rfl | rfl <;> (rw [<- aZ];decide)
 have zw:IntKind.i64.wrap Nz=Nz:=Yn _ zo;have zn:(z==0)=false:=by rcases hz with rfl | rfl | rfl <;> rfl
 have zb:1<=z/\z<=3600:=zo;have Hz:=hid hz;have b0:=hc.m 0 zo;have b1:=hc.m 1 zo;have b2:=hc.m 2 zo;have c1:=hid (λ W=>yjx N 0 [] W zs (Sl.nil _ _));have cQ:=hid (λ s W h0 h1=>yhg s W h0 h1);have cO:=hid (λ x W=>yuX x W 3);have c2:=hid (λ x y z W hx hy hz=>ynP x y z W hx hy hz);have cP:=hid (λ b q s W h=>ykU b q s W h);have n0:Hid (∀x:Int,bits .and Y ((c.m 0:Nat):Int) ((ofM [x]:Nat):Int)= ((c.m 0&&&ofM [x]:Nat):Int)):=λ x=>ybo b0 (yaG _);have n1:Hid (∀x:Int,bits .and Y ((c.m 1:Nat):Int) ((ofM [x]:Nat):Int)= ((c.m 1&&&ofM [x]:Nat):Int)):=λ x=>ybo b1 (yaG _);have n2:Hid (∀x:Int,bits .and Y ((c.m 2:Nat):Int) ((ofM [x]:Nat):Int)= ((c.m 2&&&ofM [x]:Nat):Int)):=λ x=>ybo b2 (yaG _);have bn:=hc.step.2;have HT:=hid hT;have ab:=hid (Ya b0 (Ya b1 b2));obtain ⟨W1,al⟩:=zx ((w.alloc (J (yae c).toArray 59)).alloc (J #[Xb a,E T f,E T u,E T p] 213));have q1:W1.heap.size=w.heap.size+2:=by rw [<- al];simp
 have q2:Bw w W1:=by rw [<- al];exact yaa (yaa (Ye _ _) zg) zs
 have q3:ClB W1 w.heap.size c:=by rw [<- al];exact yjl w c _ _
 have q4:Four W1 (w.heap.size+1) (Xb a) (E T f) (E T u) (E T p):=by
  rw [<- al];have h:=ydm (w.alloc (J (yae c).toArray 59)) (Xb a) (E T f) (E T u) (E T p) 213;(try unfold Bw at h);rw [zzN] at h
  exact h
 have bg:=hid al;have Q2:=hid q2;have Q3:=hid q3;have Q4:=hid q4;clear al q2 q3 q4 hT hc b0 b1 b2 hz aZ;refine (wf_calls (r:=N) (n:=1)).mp ?_;refine callsIn_of_wp_marks Tryz.func218 rfl trivial ?_ rfl;simp only [Tryz.ntmps218,Yp,Yu,YS,Nat.reduceAdd,Nat.reduceSub,YE,YD,YQ,YJ,Y0,YH];gi_wp2_with fail
 rw [bg];refine (wf_calls.mpr (c1 W1)).mono ?_;rintro e w2 ⟨rfl,hD,aL⟩;rw [q1];obtain ⟨W3,ak⟩:=zx (w2.alloc (J #[R (G (Z (w.heap.size+2) 0 N))] 84));have s2:w.heap.size+2<w2.heap.size:=by rw [q1] at hD;exact hD.lt
 have b3:Bw w2 W3:=by rw [<- ak];exact yaa (Ye _ _) zg
 have s3:W3.heap.size=w2.heap.size+1:=by rw [<- ak];simp
 have aE:Bw W1 W3:=zu aL b3;have an:Hid (Bw w W3):=zu Q2 aE;have bh:Hid (DiscAt W3 (w.heap.size+2) (ye1 [])):=by rw [q1] at hD;exact hD.below b3 s2
 have C3:=hid (Q3.below aE zo);have F3:=hid (Q4.below aE zo);have e5:=hid (show W3.cell? (Z w2.heap.size 0 N)=G (R (G (Z (w.heap.size+2) 0 N))) by rw [<- ak];simp [go_sem]);have f3:(w2.alloc (J #[R (G (Z (w.heap.size+2) 0 N))] 84)).cell? (Z (w.heap.size+1) 3 N)=G (E T p):=by rw [ak];exact F3.1.2.2.2
 have bf:=hid ak;have S3:=hid s3;clear ak hD aL b3 aE s3;gi_wp2_with fail
 rw [bf];clear f3;have ag:Hid (DiscAt W3 (w.heap.size+2) (yde c z f u p p)):=bh.congr λ k hk=>by rw [yld,ye1];simp
 refine wpIn_loop (λ a' w'=>∃(n:Int) (Ds:List Nat),0<=n/\p<=n/\Hid ((n-p)%c.step=0)/\TStep (clv c) (stv a f u p) (E T z) (R (G (Z w.heap.size 0 N))) (R (G (Z (w.heap.size+1) 0 N))) undef (R N) (R (G (Z w2.heap.size 0 N))) (E T n) (marks Ds) a'/\Hid (DiscAt w' (w.heap.size+2) (yde c z f u p n)/\Eff (λ b=>b=w.heap.size+2) W3 w'/\(∀D∈Ds,w'.heap[D]? =G (.deferred (G []))/\W3.heap.size<=D)/\Ds.Nodup))
  (λ a' _=>(86400-intOf (a'.tmps.getD 8 undef)).toNat) ?start ?round
 case start=>exact ⟨p,[],hp,Zv _,(by show _ = _;simp),TStep.of,ag,Eff.refl _ _,λ D h=>(by cases h),List.nodup_nil⟩
 case round=>
  rintro a' w4 ⟨n,Ds,aT,aH,aq,⟨U,rfl⟩,HI⟩;have bk:w2.heap.size<w4.heap.size:=by have:=HI.2.1.size;have:=S3.out;omega
  by_cases hlt:n<Nz
  ·obtain ⟨t1,t2⟩:=HZ n aT hlt;have t3:IntKind.i64.wrap (n*z)=n*z:=Yn _ zo;have C4:Hid (ClB w4 w.heap.size c):=λ j v hv=>(HI.2.1.cell (p:=Z w.heap.size (0+j) N) (by have:=S3.out;show w.heap.size<_;omega) (by show¬w.heap.size= _;omega)).trans (C3 j v hv);have bw:=hid hlt;refine wf_wp.mpr ?_;go_wp2_with fail
   refine zm (cQ _ _ t1 t2) ?_;rintro w' rfl;go_upto_region 6 with fail
   go_cut [13,14,15] from 37 to 46 (λ a8 aG aF wx=>a8=E Y ((c.m 2&&&ofM [n*z/3600]:Nat):Int)/\aG=E Y (c.m 1:Nat)/\aF=E Y (c.m 0:Nat)/\Hid (Bw w4 wx))
   case first=>
    refine yk5 ?_;refine Yj (S:=λ w'=>StS w.heap.size c w4 w') zk ?_ (λ aa=>?_)
    ·obtain ⟨m0,m1,m2,-⟩:=C4.masks;exact ⟨⟨m2,m1,m0⟩,(Ye _ _).drew,by omega⟩
    have ac:=aa;refine zhD 0 ?_;refine zhD 1 ?_;refine zhD 2 ?_;refine zhD 6 ?_;refine zhD 7 ?_;refine zhD 8 ?_;refine zhD 9 ?_;refine zzK 3 (λ K hK=>?_);go_simp;(try go_wp2_with fail);refine hK _ _ (StS.keep aa (yaa (Ye _ _) zg)) (λ aa=>?_);clear hK K;refine zzK 4 (λ K hK=>?_);go_simp;refine zm (cO _ w4.drew) ?_;rintro w5 a4;have a0:=StS.keep ac a4;clear a4;(try go_wp2_with fail);refine hK _ _ a0 (λ aa=>?_);clear hK K a0 ac;refine zhD 5 ?_;refine zhD 10 ?_;refine zhD 11 ?_;refine zhD 12 ?_;refine Yt zk ?_ _;have af:=hid aa.2.1;clear aa;go_wp2_with fail
    go_meet;exact ⟨congrArg _ (n2 _),rfl,rfl,af⟩
   case rest=>
    obtain ⟨rfl,rfl,rfl,aK⟩:=hcut;have C6:=hid (C4.below aK zo);have af:=hid aK.out;clear aK;obtain ⟨qb,ao⟩:=zx (decide (z<3600));go_upto_if 48 with fail
    have am:=hid ao;clear ao;obtain ⟨M,hM⟩:=zx (uM c z n);go_cut [14] from 47 to 53 (λ aG wx=>aG=E Y (M:Nat)/\Hid (Bw w4 wx))
    case first=>
     cases qb;rotate_left
     ·have e:Hid (c.m 1&&&ofM [n*z/60%60]=M):=(by show _ = _;rw [<- hM,uM,Yd (Y8 am)]);clear hM;go_wp2_with fail
      refine (cO _ _).mono ?_;rintro e' wz ⟨rfl,aA⟩;have aj:Hid (Bw w4 wz):=zu af aA;clear aA;go_wp2_with fail
      go_meet;exact ⟨by rw [n1,e] <;> rfl,aj⟩
     ·have e:Hid (c.m 1=M):=(by show _ = _;rw [<- hM,uM,Yb (of_decide_eq_false am)]);clear hM;go_wp2_with fail
      go_meet;exact ⟨by rw [e] <;> rfl,af⟩
    case rest=>
    obtain ⟨rfl,af⟩:=hcut;have HM:=hid hM;clear hM;clear am qb;obtain ⟨qb,ao⟩:=zx ((z==1));go_upto_if 55 with fail
    have am:=hid ao;clear ao;obtain ⟨S,hS⟩:=zx (uS c z n);go_cut [15] from 54 to 60 (λ aF wx=>aF=E Y (S:Nat)/\Hid (Bw w4 wx))
    case first=>
     cases qb;rotate_left
     ·have e:Hid (c.m 0&&&ofM [n*z%60]=S):=(by show _ = _;rw [<- hS,uS,Yd (by simpa using am.out)]);clear hS;go_wp2_with fail
      refine (cO _ _).mono ?_;rintro e' wz ⟨rfl,aA⟩;have aj:Hid (Bw w4 wz):=zu af aA;clear aA;go_wp2_with fail
      go_meet;exact ⟨by rw [n0,e] <;> rfl,aj⟩
     ·have e:Hid (c.m 0=S):=(by show _ = _;rw [<- hS,uS,Yb (by simpa using am.out)]);clear hS;go_wp2_with fail
      go_meet;exact ⟨by rw [e] <;> rfl,af⟩
    case rest=>
    obtain ⟨rfl,aj⟩:=hcut;have lM:Hid (M<18446744073709551616):=by
     show _<_;rw [<- HM,uM];split
     ·exact yhb ab.2.1
     ·exact ab.2.1
    have lS:Hid (S<18446744073709551616):=by
     show _<_;rw [<- hS,uS];split
     ·exact yhb ab.1
     ·exact ab.1
    have HS:=hid hS;clear hS;go_wp2_with fail
    refine zm (c2 _ _ _ _ (yhb ab.2.2) lM lS) ?_;rintro w7 ⟨k1,k2,k3,a3,s7⟩;have ae:Hid (Bw w4 w7):=zu aj a3;have ah:=ypP c (z:=z) (n:=n) Hz aT;rw [HM,HS] at ah;have aQ:=hid ah;clear ah;have bj:w4.heap.size<=w7.heap.size:=ae.size;have bi:=aj.size;obtain ⟨az,ad,ay,ap⟩:=HI.out;have a2:DiscAt w7 (w.heap.size+2) (yde c z f u p n):=az.below ae zo;have aX:=HT.later (an.trans ((ad.trans (Eff.of_below (O:=λ b=>b=w.heap.size+2) ae) (λ b hb=> .inl hb)).below (by rintro b rfl;omega) an.size));have tl:=hid (yhE _ _ _ wc.heap.size (wc.heap.size+1) (wc.heap.size+2) (λ b=>b=w.heap.size+2) w7 (yhb ab.2.2) (lM) (lS) zo zo zo zo zo zo k1 k2 k3 aX (by have:=HT.1;show¬0= _;omega));have ar:Hid (∀k:Nat,k<86400->((k:Int)∈ycC (c.m 2&&&ofM [n*z/3600]) M S↔ydc k (c.m 2&&&ofM [n*z/3600]) M S=true)):=λ k hk=>yhN (yhb ab.2.2) (lM) (lS) zo zo;have aU:Hid (∀L,L=ycC (c.m 2&&&ofM [n*z/3600]) M S->∀k:Nat,k<86400->(yde c z f u p n k||ye1 (L.filter (ycf f u)) k)=yde c z f u p (n+c.step) k):=λ L hL k hk=>by
     rw [yoa hs aH aq,hL,ye1];have e1:decide ((k:Int)∈(ycC (c.m 2&&&ofM [n*z/3600]) M S).filter (ycf f u))= (yc1 c f u k&&decide ((k:Int)/z=n)):=by
      rw [zze,zzY,Y5,ar k hk,aQ k hk,yc1];cases ydc k (c.m 2) (c.m 1) (c.m 0) <;> cases ycf f u k <;> simp
     rw [e1]
    obtain ⟨L,hL⟩:=zx (ycC (c.m 2&&&ofM [n*z/3600]) M S);rw [hL] at tl;have bc:=hid (aU L hL.symm);have I7:Hid (StI (w.heap.size+2) (yde c z f u p n) (ycf f u) L 0 (λ b=>b=w.heap.size+2) w7):=⟨λ b=>Y6,a2.congr λ k hk=>by simp [ye1]⟩;have a5:=hid (((Eff.of_below (O:=λ b=>b=w.heap.size+2) ae).cell (p:=Z w2.heap.size 0 N) (by simp only [];omega) (by show¬w2.heap.size= _;omega)).trans ((ad.cell (p:=Z w2.heap.size 0 N) (by have:=S3.out;simp only [];omega) (by show¬w2.heap.size= _;omega)).trans e5));have F7:Hid (Four w7 (w.heap.size+1) (Xb a) (E T f) (E T u) (E T p)):=by
     have h0:=F3.out;obtain ⟨⟨g0,g1,g2,g3⟩,x0,x1,x2,x3⟩:=h0;have ce:∀i,w7.cell? (Z (w.heap.size+1) i N)=W3.cell? (Z (w.heap.size+1) i N):=λ i=>(ae.cell (p:=Z (w.heap.size+1) i N) (by simp only [];omega)).trans (ad.cell (p:=Z (w.heap.size+1) i N) (by have:=S3.out;simp only [];omega) (by show¬w.heap.size+1= _;omega));have fe:∀i,w7.frozen? (Z (w.heap.size+1) i N)=W3.frozen? (Z (w.heap.size+1) i N):=λ i=>(ae.frozen (p:=Z (w.heap.size+1) i N) (by simp only [];omega)).trans (ad.frozen (p:=Z (w.heap.size+1) i N) (by have:=S3.out;simp only [];omega) (by show¬w.heap.size+1= _;omega));exact ⟨⟨(ce 0).trans g0,(ce 1).trans g1,(ce 2).trans g2,(ce 3).trans g3⟩,(fe 0).trans x0,(fe 1).trans x1,(fe 2).trans x2,(fe 3).trans x3⟩
    have C7:Hid (ClB w7 w.heap.size c):=C4.below ae zo;have aD:Hid (Eff (λ b=>b=w.heap.size+2) W3 w7):=ad.trans (Eff.of_below (O:=λ b=>b=w.heap.size+2) ae) (λ b hb=> .inl hb);have a7:Hid (∀D∈Ds,w7.heap[D]? =G (.deferred (G []))/\D≠w.heap.size+2/\W3.heap.size<=D/\D<w4.heap.size):=λ D hD=>by
     have h1:=ay D hD;have:=S3.out;exact ⟨(ae.block D (yam h1.1)).trans h1.1,by omega,h1.2,yam h1.1⟩
    have bb:=hid ap;have aP:w2.heap.size<w7.heap.size:=zo;have aO:w.heap.size+1<w7.heap.size:=zo;clear k1 k2 k3 a3 aX a2 az ad ay ap hL ar aQ aU s7;go_wp2_with fail
    refine (wf_wp (n:=1)).mp ?_;refine ybj (gf:=221) (lb:=#[R (G (Z wc.heap.size 0 N)),R (G (Z (wc.heap.size+1) 0 N)),R (G (Z (wc.heap.size+2) 0 N))]) rfl yhF L _ rfl tl
     (StI (w.heap.size+2) (yde c z f u p n) (ycf f u) L) (λ _ _ _ _=>False) (ymK _ _ _ _) (λ _ _ _ _ _ h _ _=>h.elim) (yxT _ _ _ _) (λ _ _ _ _ h=>h.elim) I7
     (λ k O a' W=>StI (w.heap.size+2) (yde c z f u p n) (ycf f u) L k O W/\∃x,L[k]? =G x/\TStepX (clv c) (stv a f u p) (E T z) (R (G (Z w.heap.size 0 N))) (R (G (Z (w.heap.size+1) 0 N))) undef (R N) (R (G (Z w2.heap.size 0 N))) (E T n) (E T x) [] a')
     (λ l o k O a' W' hr hn h=>⟨ybJ (ymK _ _ _ _) h.1 hn o,h.2⟩) ?assign ?body ?done ?stop
    case assign=>
     intro l k O6 W6 K hk hI ax hK;gi_wp2
     exact hK _ O6 _ (yaM.refl _ _) ⟨hI,_,zzp hk,TStepX.of⟩
    case stop=>
     intro c' k O9 w9 _ _ _ h;exact h.elim
    case body=>
     rintro l k O6 a' W6 hk ax bq aR a9 ⟨⟨aY,aW⟩,x,ex,U6,rfl⟩;have bu:=(ax.cell aP zo 0).trans a5.out;obtain ⟨⟨-,f1,f2,-⟩,-⟩:=F7.out;have g1:=(ax.cell aO zo 1).trans f1;have g2:=(ax.cell aO zo 2).trans f2;have aN:=hid aW;have aC:=hid aY;have aM:=hid ex;clear f1 f2 aW aY ex ax;by_cases h1:f<=x
     ·have d1:decide (f<=x)=true:=zzZ h1;by_cases h2:x<=u
      ·have hp:Hid (ycf f u x=true):=(by show _ = _;rw [ycf,zzZ zo,zzZ zo];rfl);have d2:decide (x<=u)=true:=zzZ h2;gi_wp2_with fail
       refine (wf_calls.mpr (cP _ _ x _ aN)).mono ?_;rintro e w7 ⟨⟨v,rfl⟩,aV,a1⟩;have be:=hid aV;have aD:=hid a1;clear aV a1;gi_wp2
       exact ⟨O6,⟨λ _ h=>h,λ _ h=> .inl h,aD.wide λ b hb=>(aC b).mpr hb⟩,aC,StI.more aM hp be⟩
      ·have hp:Hid (ycf f u x=false):=(by show _ = _;rw [ycf,zzd h2,Y3]);have d2:decide (x<=u)=false:=zzd h2;gi_wp2
       exact ⟨O6,yaM.refl _ _,aC,StI.same aM hp aN⟩
     ·have d1:decide (f<=x)=false:=zzd h1;have hp:Hid (ycf f u x=false):=(by show _ = _;rw [ycf,d1];rfl);gi_wp2
      exact ⟨O6,yaM.refl _ _,aC,StI.same aM hp aN⟩
    case done=>
     rintro O9 wz aw ⟨br,aJ⟩ hD bo;rw [YW] at aJ;have av:∀D∈w7.heap.size::Ds,wz.heap[D]? =G (.deferred (G []))/\W3.heap.size<=D:=by
      intro Eq1 hE;rcases List.mem_cons.mp hE with rfl | hE
      ·exact ⟨hD,aD.size⟩
      ·obtain ⟨g1,g2,g3,g4⟩:=a7 Eq1 hE;exact ⟨(aw.eff.block Eq1 zo (by show¬Eq1= _;exact g2)).trans g1,g3⟩
     have aS:(w7.heap.size::Ds).Nodup:=List.nodup_cons.mpr ⟨λ h=>by have:=(a7 _ h).2.2.2;omega,bb⟩;have HH:Hid (DiscAt wz (w.heap.size+2) (yde c z f u p (n+c.step))/\Eff (λ b=>b=w.heap.size+2) W3 wz/\(∀D∈w7.heap.size::Ds,wz.heap[D]? =G (.deferred (G []))/\W3.heap.size<=D)/\(w7.heap.size::Ds).Nodup):=
      ⟨aJ.congr λ k hk=>bc k hk,aD.trans aw.eff (λ b hb=> .inl hb),av,aS⟩
     have bt:=(aw.cell aP zo 0).trans a5.out;obtain ⟨-,m1,-,-,-⟩:=C7.tail;have bl:=(aw.cell (b:=w.heap.size) zo zo 26).trans m1;have ba:Hid ((n+c.step-p)%c.step=0):=by
      show _ = _;rw [show n+c.step-p= (n-p)+c.step by omega,Int.add_emod_right];exact aq
     clear av aS aJ aw hD m1;by_cases au:86400<c.step
     ·have db:decide (86400<c.step)=true:=zzZ au;have ai:Hid (∀k:Nat,k<86400->yde c z f u p (n+c.step) k=yco c z f u p k):=λ k hk=>yjN (zp (a6 k hk));go_wp2;gi_wp2
      refine ya6 zs (w7.heap.size::Ds) wz HH.2.2.2 (λ D hD=>(HH.2.2.1 D hD).1) ?_;intro w' e1 e2 e3 e4 e5;exact ⟨_,results_tmp rfl _ _ _,_,rfl,by omega,(HH.1.congr ai).block (by rw [e4];exact zG _) (e5 _ (λ h=>by have:=(HH.2.2.1 _ h).2;have:=S3.out;omega)),(an.trans ((ydK HH.2.1 (λ D hD=>(HH.2.2.1 D hD).2) e1 e2 e3 e4 e5).below (by rintro b rfl;omega) an.size))⟩
     ·have db:decide (86400<c.step)=false:=zzd au;have bp:n+c.step<=9223372036854775807:=zo;go_wp2;exact ⟨⟨n+c.step,by omega,by omega,ba,w7.heap.size::Ds,TStep.of,HH⟩,by simp [intOf];omega⟩
  ·obtain ⟨az,ad,ay,ap⟩:=HI.out;have bv:=(ad.cell (p:=Z w2.heap.size 0 N) (by have:=S3.out;simp only [];omega) (by show¬w2.heap.size= _;omega)).trans e5;have ai:Hid (∀k:Nat,k<86400->yde c z f u p n k=yco c z f u p k):=λ k hk=>yjN (zp (a6 k hk));have HH:=hid (Ya az (Ya ad (Ya ay ap)));clear az ad ay ap;gi_wp2
   refine ya6 zs Ds w4 HH.2.2.2 (λ D hD=>(HH.2.2.1 D hD).1) ?_;intro w' e1 e2 e3 e4 e5;exact ⟨_,results_tmp rfl _ _ _,_,rfl,by omega,(HH.1.congr ai).block (by rw [e4];exact zG _) (e5 _ (λ h=>by have:=(HH.2.2.1 _ h).2;have:=S3.out;omega)),(an.trans ((ydK HH.2.1 (λ D hD=>(HH.2.2.1 D hD).2) e1 e2 e3 e4 e5).below (by rintro b rfl;omega) an.size))⟩
end
section
attribute [local go_sem ↓] yaz
variable {a:Bool} {c:Cl} {f p u:Int}
abbrev SeS (w:World) (c:Cl) (a:Bool) (f u p:Int) (W:World):Prop:=
 LaS w c W/\Four W (w.heap.size+1) (Xb a) (E T f) (E T u) (E T p)/\w.heap.size+1<W.heap.size
theorem SeS.keep {w W W':World} (h:SeS w c a f u p W) (hb:Bw W W'):SeS w c a f u p W':=
 ⟨h.1.keep hb,h.2.1.below hb h.2.2,zH h.2.2 hb.size⟩
theorem yv6 (w:World) (c:Cl) (a:Bool) (f u p:Int) (t t':TypeId):SeS w c a f u p ((w.alloc (J (yae c).toArray t)).alloc (J #[Xb a,E T f,E T u,E T p] t')):=by
 refine ⟨(LaS.of (yeo w c _) (yaa (Ye _ _) zg) zs).keep (yaa (Ye _ _) zg),?_,by simp⟩;have h:=ydm (w.alloc (J (yae c).toArray t)) (Xb a) (E T f) (E T u) (E T p) t';(try unfold Bw at h);rw [zzN] at h
 exact h
abbrev yAx (w:World) (c:Cl) (a:Bool) (f u p:Int) (e:Ending) (w':World):Prop:=∃b,e=Q (R (G (Z b 0 N)))/\w.heap.size<=b/\DiscAt w' b (yfZ c a f u p)/\Bw w w'
theorem yjS (h:a=false\/ p<0\/ yb2 c=false) (k:Nat):ye1 [] k=yfZ c a f u p k:=by
 rw [yfZ,ye1];rcases h with h | h | h
 ·rw [h];simp
 ·rw [zzd (show¬0<=p by omega)];simp
 ·rw [h];simp
theorem yog (hm:yb2 c=true) (hp:0<=p) (h:¬(0<yav c.unit/\(1<c.step\/ 0<p))) (k:Nat):yc1 c f u k=yfZ c true f u p k:=by
 rw [yfZ,yc1,hm,zzZ hp,okS,Yb h];cases ydc k (c.m 2) (c.m 1) (c.m 0) <;> cases ycf f u k <;> rfl
theorem yp8 (hm:yb2 c=true) (hp:0<=p) (h:0<yav c.unit/\(1<c.step\/ 0<p)) (k:Nat):yco c (yav c.unit) f u p k=yfZ c true f u p k:=by
 rw [yfZ,yco,yc1,hm,zzZ hp,okS,Yd h];cases ydc k (c.m 2) (c.m 1) (c.m 0) <;> cases ycf f u k <;> rfl
theorem yss (c:Cl) (a:Bool) (f u p:Int) (w:World) (hc:c.Ok) (hp:0<=p) (hs:1<=c.step) (hz:0<yav c.unit) (hT:Tab w) :
  H I 218 #[clv c,stv a f u p,E T (yav c.unit)] w λ e w'=>∃b,e=Q (R (G (Z b 0 N)))/\w.heap.size<=b/\DiscAt w' b (yco c (yav c.unit) f u p)/\Bw w w':=
 ypd c a f u p _ w (yiC hz) hc hp hs hT
theorem yod (c:Cl) (a:Bool) (p:Int) :
  a=false\/ (a=true/\p<0/\decide (p<0)=true)\/ (a=true/\0<=p/\decide (p<0)=false/\yb2 c=false)\/
  (a=true/\0<=p/\decide (p<0)=false/\yb2 c=true/\Hid (0<yav c.unit/\(1<c.step\/ 0<p))/\decide (0<yav c.unit)=true/\decide (1<c.step)=true)\/
  (a=true/\0<=p/\decide (p<0)=false/\yb2 c=true/\Hid (0<yav c.unit/\(1<c.step\/ 0<p))/\decide (0<yav c.unit)=true/\decide (1<c.step)=false/\decide (0<p)=true)\/
  (a=true/\0<=p/\decide (p<0)=false/\yb2 c=true/\Hid (¬(0<yav c.unit/\(1<c.step\/ 0<p)))/\decide (0<yav c.unit)=true/\decide (1<c.step)=false/\decide (0<p)=false)\/
  (a=true/\0<=p/\decide (p<0)=false/\yb2 c=true/\Hid (¬(0<yav c.unit/\(1<c.step\/ 0<p)))/\decide (0<yav c.unit)=false):=by
 unfold Hid;cases a
 ·exact .inl rfl
 by_cases hp:p<0
 ·simp [hp]
 have h0:0<=p:=zo;cases yb2 c <;> by_cases hz:0<yav c.unit <;> by_cases h1:1<c.step <;> by_cases h2:0<p <;> simp [hp,h0,hz,h1,h2]
theorem ykR (c:Cl) (a:Bool) (f u p:Int) (w:World) (hc:c.Ok) (hT:Tab w):H I 213 #[clv c,stv a f u p] w (yAx w c a f u p):=by
 have ac:=hid (yv6 w c a f u p 59 213);have cM:=hid (λ W=>yfD c W hc);have cZ:=hid (λ W=>ydn c.unit W);have c0:=hid (λ W=>yjx N 0 [] W zs (Sl.nil _ _));have cN:Hid (∀W,Tab W->H I 219 #[clv c,stv a f u p] W λ e w'=>∃b,e=Q (R (G (Z b 0 N)))/\W.heap.size<=b/\DiscAt w' b (yc1 c f u)/\Bw W w'):=λ W h=>ype c a f u p W hc h;have cT:Hid (0<=p->1<=c.step->0<yav c.unit->∀W,Tab W->H I 218 #[clv c,stv a f u p,E T (yav c.unit)] W λ e w'=>∃b,e=Q (R (G (Z b 0 N)))/\W.heap.size<=b/\DiscAt w' b (yco c (yav c.unit) f u p)/\Bw W w'):=λ h1 h2 h3 W h=>yss c a f u p W hc h1 h2 h3 h;have HT:=hid hT;have hw:Hid (∀W,(w.alloc (J (yae c).toArray 59)).alloc (J #[Xb a,E T f,E T u,E T p] 213)=W->Bw w W):=λ W h=>by rw [<- h];exact yaa (yaa (Ye _ _) zg) zs
 clear hT hc;obtain ⟨W1,af⟩:=zx ((w.alloc (J (yae c).toArray 59)).alloc (J #[Xb a,E T f,E T u,E T p] 213));have ab:=hid (hw W1 af);rw [af] at ac;have an:=hid af;obtain ⟨⟨gl,gc,gb,gs⟩,⟨⟨x0,x1,x2,x3⟩,-⟩,gt⟩:=ac.out;rw [<- af] at gl x0 x1 x2 x3;have t0:=gc.tail.1;have t1:=gc.tail.2.1;rw [<- af] at t0 t1;clear af gc gb gs gt;have ay:=yod c a p;clear hw;rcases ay with rfl | ⟨rfl,hp,ah⟩ | ⟨rfl,ae,ah,hm⟩ | ⟨rfl,ae,ah,hm,ag,ao,aw⟩ | ⟨rfl,ae,ah,hm,ag,ao,aw,az⟩ | ⟨rfl,ae,ah,hm,ag,ao,aw,az⟩ | ⟨rfl,ae,ah,hm,ag,ao⟩;all_goals
  go_enter Tryz.func213,Tryz.ntmps213
  go_wp2_with fail
 iterate 2
  ·skip;(try rw [an]);refine zm (c0 _) ?_;rintro w2 ⟨hD,ak⟩;have aq:=hid (zu ab ak);have HD:=hid hD;have s1:=ab.size;clear hD ak;go_wp2;go_ret;exact ⟨_,rfl,s1,HD.congr λ k _=>yjS (by first | exact .inl rfl | exact .inr (.inl hp) | exact .inr (.inr Hm)) k,aq⟩
 all_goals
  rw [hm] at cM;have Hm:=hid hm;clear hm;(try rw [an]);clear gl x0 x1 x2 x3 t0 t1;refine zm (cM _) ?_;rintro w1 hB;have al:=hid (SeS.keep ac hB);have am:=hid (zu ab hB);clear hB ab ac;have ab:=am;have ac:=al;clear am al;obtain ⟨⟨gl,gc,gb,gs⟩,⟨⟨x0,x1,x2,x3⟩,-⟩,gt⟩:=ac.out;have t0:=gc.tail.1;have t1:=gc.tail.2.1;clear gc gb gs gt;go_wp2_with fail
 ·skip;(try rw [an]);refine zm (c0 _) ?_;rintro w2 ⟨hD,ak⟩;have aq:=hid (zu ab ak);have HD:=hid hD;have s1:=ab.size;clear hD ak;go_wp2;go_ret;exact ⟨_,rfl,s1,HD.congr λ k _=>yjS (by first | exact .inl rfl | exact .inr (.inl hp) | exact .inr (.inr Hm)) k,aq⟩
 all_goals
  have ax:=(ydG Hm).2.1;(try rw [an]);clear gl x0 x1 x2 x3 t0 t1;refine zm (cZ _) ?_;rintro w2 hB;have al:=hid (SeS.keep ac hB);have am:=hid (zu ab hB);clear hB ab ac;have ab:=am;have ac:=al;clear am al;obtain ⟨⟨gl,gc,gb,gs⟩,⟨⟨x0,x1,x2,x3⟩,-⟩,gt⟩:=ac.out;have t0:=gc.tail.1;have t1:=gc.tail.2.1;clear gc gb gs gt
 iterate 2
  ·go_upto_region 4 with fail
   clear gl x0 x1 x2 x3 t0 t1;refine Yj (S:=λ w'=>SeS w c true f u p w') zk (ac.keep (Ye _ _).drew) (λ aa=>?_);refine zT 0 (v:=?_) ?_ ?_;rotate_left
   ·intro w ad;obtain ⟨⟨gl,gc,gb,gs⟩,⟨⟨x0,x1,x2,x3⟩,-⟩,gt⟩:=ad;have t0:=gc.tail.1;clear gc;go_simp;(try with_reducible rfl)
   refine zT 1 (v:=?_) ?_ ?_;rotate_left
   ·intro w ad;obtain ⟨⟨gl,gc,gb,gs⟩,⟨⟨x0,x1,x2,x3⟩,-⟩,gt⟩:=ad;have t0:=gc.tail.1;clear gc;go_simp;(try with_reducible rfl)
   refine zT 2 (v:=?_) ?_ ?_;rotate_left
   ·intro w ad;obtain ⟨⟨gl,gc,gb,gs⟩,⟨⟨x0,x1,x2,x3⟩,-⟩,gt⟩:=ad;have t0:=gc.tail.1;clear gc;go_simp;(try with_reducible rfl)
   refine zT 3 (v:=?_) ?_ ?_;rotate_left
   ·intro w ad;obtain ⟨⟨gl,gc,gb,gs⟩,⟨⟨x0,x1,x2,x3⟩,-⟩,gt⟩:=ad;have t0:=gc.tail.1;clear gc;go_simp;(try with_reducible rfl)
   refine zzK 4 (λ K hK=>?_);go_simp;refine zm (cZ _) ?_;rintro w3 av;have au:=SeS.keep aa av;clear av;(try go_wp2_with fail);refine hK _ _ au (λ aa=>?_);clear hK K au;refine zzK 5 (λ K hK=>?_);go_simp;refine (cT ae ax ag.1 w3 (HT.later aa.1.2.2.1)).mono ?_;rintro e w4 ⟨bd,rfl,ai,hD,aj⟩;have ar:=SeS.keep aa aj;have HD:=hid hD;have HL:Hid (w.heap.size<=bd):=zI aa.1.2.2.1.size ai;clear aj hD ai;(try go_wp2_with fail);refine hK _ _ ar (λ aa=>?_);clear hK K ar;refine zT 6 (v:=?_) ?_ ?_;rotate_left
   ·intro w ad;obtain ⟨⟨gl,gc,gb,gs⟩,⟨⟨x0,x1,x2,x3⟩,-⟩,gt⟩:=ad;have t0:=gc.tail.1;clear gc;go_simp;(try with_reducible rfl)
   refine Yt zk ?_ _;have ap:=hid aa.1.2.2.1;clear aa;go_wp2;go_ret;exact ⟨_,rfl,HL,HD.congr λ k _=>yp8 Hm ae ag k,ap⟩
 iterate 2
  ·go_wp2_with fail
   clear gl x0 x1 x2 x3 t0 t1;refine (cN _ (HT.later ab)).mono ?_;rintro e w4 ⟨bd,rfl,ai,hD,aj⟩;have HD:=hid hD;have ap:=hid (zu ab aj);have HL:Hid (w.heap.size<=bd):=zI ab.size ai;clear aj hD ai;go_wp2;go_ret;exact ⟨_,rfl,HL,HD.congr λ k _=>yog Hm ae ag k,ap⟩
end
theorem yfy (f u:Int) (w:World):H I 131 #[spv f u] w λ e w'=>e=Q (if yaw f u then Xt #[E T (max f 0/86400),E T (min u 12622780799/86400),Xb true] else Xt #[E T 0,E T 0,Xb false])/\Bw w w':=by
 have c0:=hid (λ W=>ydP f u W);have hH:yaw f u=decide (max f 0<=min u 12622780799):=rfl;rw [hH];rcases ybr f u with ⟨e1,e2,h⟩ | ⟨e1,e2,h⟩;all_goals
  first | rw [Yd (zzZ h)] | rw [Yb (by rw [zzd h];exact Bool.false_ne_true)]
  rw [e1,e2] at c0
 have ag:0<=max f 0:=zo;have af:max f 0<12622780800:=zo;have ae:0<=min u 12622780799:=zo;have ad:min u 12622780799<12622780800:=zo;obtain ⟨X,hX⟩:=zx (max f 0);obtain ⟨Yq,hY⟩:=zx (min u 12622780799);rw [hX] at c0 ag af⊢;rw [hY] at c0 ae ad⊢;have c1:=hid (λ W=>yb0 X W ag af);have c2:=hid (λ W=>yb0 Yq W ae ad);clear hX hY e1 e2 h hH ag af ae ad;rotate_left;have c1:=hid (λ W=>yb0 0 W zo zo);have c2:=hid (λ W=>ygr (-1) W zd);rw [show (0:Int)/86400=0 from rfl,show (0:Int)%86400=0 from rfl] at c1;clear e1 e2 h hH;rotate_left;all_goals
  go_enter Tryz.func131,Tryz.ntmps131
  go_wp2_with fail
  refine zm (c0 _) ?_;rintro w1 ab;have k1:=(ab.cell (p:=Z w.heap.size 0 N) zs).trans (show _ =G (E T f) by simp [go_sem]);have k2:=(ab.cell (p:=Z w.heap.size 1 N) zs).trans (show _ =G (E T u) by simp [go_sem]);have f1:=(ab.frozen (p:=Z w.heap.size 0 N) zs).trans (show _ =false by simp [go_sem]);have f2:=(ab.frozen (p:=Z w.heap.size 1 N) zs).trans (show _ =false by simp [go_sem]);have ak:Hid (Bw w w1):=(yaa (Ye _ _) zg).trans (ab.mono zs);clear ab;go_wp2_with (first
   | (go_at_call 181;with_reducible refine zm (c1.out _) ?_;rintro w' rfl)
   | (go_at_call 181;with_reducible refine zm (c2.out _) ?_;rintro w' rfl))
 ·exact Yh (v:=Xt #[E T (X/86400),E T (Yq/86400),Xb true]) (by simp [results,Tryz.results131,go_sem]) rfl ⟨rfl,yab (yab ak zg) zg⟩
 ·exact Yh (v:=Xt #[E T 0,E T 0,Xb false]) (by simp [results,Tryz.results131,go_sem]) rfl ⟨rfl,yab (yab ak zg) zg⟩
abbrev MeT (w:World) (b b3:Nat) (f1 u1 f2 u2 f u:Int) (W:World):Prop:=
 (W.cell? (Z b3 0 N)=G (E T f)/\W.cell? (Z b3 1 N)=G (E T u)/\W.frozen? (Z b3 0 N)=false/\W.frozen? (Z b3 1 N)=false)/\
 (W.cell? (Z b 0 N)=G (E T f1)/\W.cell? (Z b 1 N)=G (E T u1)/\W.cell? (Z b 2 N)=G (E T f2)/\W.cell? (Z b 3 N)=G (E T u2))/\
 (W.cell? (Z w.heap.size 0 N)=G (E T 0)/\W.cell? (Z w.heap.size 1 N)=G (E T 0)/\W.frozen? (Z w.heap.size 0 N)=false/\W.frozen? (Z w.heap.size 1 N)=false)/\
 Bw w W/\(b<w.heap.size/\w.heap.size<b3/\b3<W.heap.size)
theorem MeT.step {w W:World} {b b3:Nat} {f1 u1 f2 u2 f u F U:Int} (h:MeT w b b3 f1 u1 f2 u2 f u W) (o:Obj) (f' u':Int) (eF:f' =F) (eU:u' =U):MeT w b b3 f1 u1 f2 u2 F U (((W.alloc o).setCell (Z b3 0 N) (E T f')).setCell (Z b3 1 N) (E T u')):=by
 subst eF eU;obtain ⟨⟨a1,a2,a3,a4⟩,⟨b0,b1,b2,b4⟩,⟨c1,c2,c3,c4⟩,hB,l1,l2,l3⟩:=h;have hn:=yaa (o:=o) (Ye W.heap.size W) zg;have e1:=(hn.cell (p:=Z b3 0 N) l3).trans a1;have e2:=(hn.cell (p:=Z b3 1 N) l3).trans a2;have g1:=(hn.frozen (p:=Z b3 0 N) l3).trans a3;have g2:=(hn.frozen (p:=Z b3 1 N) l3).trans a4;have hb:Below b3 W (((W.alloc o).setCell (Z b3 0 N) (E T f')).setCell (Z b3 1 N) (E T u')):=yab (yab (yaa (Ye _ _) (YY l3)) zg) zg;have r:=ydC (x:=E T f') (y:=E T u') e1 e2;refine ⟨⟨r 0 _ rfl,r 1 _ rfl,by rw [yaP,yaP];exact g1,by rw [yaP,yaP];exact g2⟩,
  ⟨(hb.cell (p:=Z b 0 N) (by show b<b3;omega)).trans b0,(hb.cell (p:=Z b 1 N) (by show b<b3;omega)).trans b1,(hb.cell (p:=Z b 2 N) (by show b<b3;omega)).trans b2,(hb.cell (p:=Z b 3 N) (by show b<b3;omega)).trans b4⟩,
  ⟨(hb.cell (p:=Z w.heap.size 0 N) l2).trans c1,(hb.cell (p:=Z w.heap.size 1 N) l2).trans c2,(hb.frozen (p:=Z w.heap.size 0 N) l2).trans c3,(hb.frozen (p:=Z w.heap.size 1 N) l2).trans c4⟩,
  hB.trans (hb.mono (YY l2)),l1,l2,?_⟩
 rw [Yx,Yx,zzN];omega
theorem ykJ (b:Nat) (f1 u1 f2 u2:Int) (w:World) (hb:b<w.heap.size)
  (k0:w.cell? (Z b 0 N)=G (E T f1)) (k1:w.cell? (Z b 1 N)=G (E T u1)) (k2:w.cell? (Z b 2 N)=G (E T f2)) (k3:w.cell? (Z b 3 N)=G (E T u2)) :
  H I 182 #[Xs (G (Z b 0 N)) 2 2] w λ e w'=>e=Q (spv (yau (max (max 0 f1) f2) (min (min 12622780799 u1) u2)) (yat (max (max 0 f1) f2) (min (min 12622780799 u1) u2)))/\Bw w w':=by
 have c0:=hid (λ W=>ykz W);have c1:=hid (λ W=>ydP (max (max 0 f1) f2) (min (min 12622780799 u1) u2) W);obtain ⟨M,av⟩:=zx (max 0 f1);obtain ⟨Nq,au⟩:=zx (min 12622780799 u1);rw [av,au] at c1⊢;obtain ⟨A,ax⟩:=zx (max M f2);obtain ⟨B,aw⟩:=zx (min Nq u2);rw [ax,aw] at c1⊢;obtain ⟨X,hX⟩:=zx (yau A B);obtain ⟨Yq,hY⟩:=zx (yat A B);rw [hX,hY] at c1⊢;have aG:=hid av;have aF:=hid au;have aK:=hid ax;have aJ:=hid aw;clear av au ax aw hX hY;have H0:=hid k0;have H1:=hid k1;have H2:=hid k2;have H3:=hid k3;clear k0 k1 k2 k3;go_enter Tryz.func182,Tryz.ntmps182
 go_wp2_with fail
 refine zm (c0 _) ?_;rintro w1 ab;have z1:=(ab.cell (p:=Z w.heap.size 0 N) zs).trans (show _ =G (E T 0) by simp [go_sem]);have z2:=(ab.cell (p:=Z w.heap.size 1 N) zs).trans (show _ =G (E T 0) by simp [go_sem]);have g1:=(ab.frozen (p:=Z w.heap.size 0 N) zs).trans (show _ =false by simp [go_sem]);have g2:=(ab.frozen (p:=Z w.heap.size 1 N) zs).trans (show _ =false by simp [go_sem]);have ah:w.heap.size<w1.heap.size:=by have:=ab.size;(try unfold Bw at this);rw [zzN] at this;exact this
 have ac:Bw w w1:=(yaa (Ye _ _) zg).trans (ab.mono zs);have q0:=(ac.cell (p:=Z b 0 N) hb).trans H0.out;have q1:=(ac.cell (p:=Z b 1 N) hb).trans H1.out;have q2:=(ac.cell (p:=Z b 2 N) hb).trans H2.out;have q3:=(ac.cell (p:=Z b 3 N) hb).trans H3.out;have ap:b≠w1.heap.size:=zo;have ao:w.heap.size≠w1.heap.size:=zo;have ak:=hid ac;clear ab ac;have hM:Hid (MeT w b w1.heap.size f1 u1 f2 u2 0 12622780799 (w1.alloc (J #[E T 0,E T 12622780799] 126))):=by
  have hn:=yaa (o:=J #[E T 0,E T 12622780799] 126) (Ye w1.heap.size w1) zg;have an:b<w1.heap.size:=zo;exact ⟨⟨by simp [go_sem],by simp [go_sem],by simp [go_sem],by simp [go_sem]⟩,⟨(hn.cell (p:=Z b 0 N) an).trans q0,(hn.cell (p:=Z b 1 N) an).trans q1,(hn.cell (p:=Z b 2 N) an).trans q2,(hn.cell (p:=Z b 3 N) an).trans q3⟩,
   ⟨(hn.cell (p:=Z w.heap.size 0 N) ah).trans z1,(hn.cell (p:=Z w.heap.size 1 N) ah).trans z2,(hn.frozen (p:=Z w.heap.size 0 N) ah).trans g1,(hn.frozen (p:=Z w.heap.size 1 N) ah).trans g2⟩,
   ak.trans (hn.mono (YY ah)),hb,ah,by simp⟩
 clear z1 z2 g1 g2 q0 q1 q2 q3 ap ao ak H0 H1 H2 H3;go_wp2;go_loopw [9] (λ i wr=>∃k:Nat,i=E T k/\k<=2/\Hid (MeT w b w1.heap.size f1 u1 f2 u2 (if k=0 then 0 else if k=1 then M else A) (if k=0 then 12622780799 else if k=1 then Nq else B) wr)) (λ i _=>2-(intOf i).toNat)
 case atStart=>exact ⟨0,rfl,by omega,hM⟩
 case round=>
  obtain ⟨k,rfl,hk,HM⟩:=hrel;have aD:k=0\/ k=1\/ k=2:=zo;rcases aD with rfl | rfl | rfl
  ·have HK:Hid (MeT w b w1.heap.size f1 u1 f2 u2 0 12622780799 wr):=HM;obtain ⟨⟨a1,a2,a3,a4⟩,⟨b0,b1,b2,b4⟩,-,-,-⟩:=HK.out;clear b2 b4 HM;have hn:=yaa (o:=J #[E T f1,E T u1] 126) (Ye wr.heap.size wr) zg;have l3:w1.heap.size<wr.heap.size:=HK.2.2.2.2.2.2;have e1:=(hn.cell (p:=Z w1.heap.size 0 N) l3).trans a1;have e2:=(hn.cell (p:=Z w1.heap.size 1 N) l3).trans a2;have g1:=(hn.frozen (p:=Z w1.heap.size 0 N) l3).trans a3;have g2:=(hn.frozen (p:=Z w1.heap.size 1 N) l3).trans a4;clear hn l3 a1 a2 a3 a4;go_wp2;exact ⟨⟨1,by go_num,by omega,HK.step _ _ _ (by have:=aG.out;show _ =M;split <;> omega) (by have:=aF.out;show _ =Nq;split <;> omega)⟩,by simp [intOf]⟩
  ·have HK:Hid (MeT w b w1.heap.size f1 u1 f2 u2 M Nq wr):=HM;obtain ⟨⟨a1,a2,a3,a4⟩,⟨b0,b1,b2,b4⟩,-,-,-⟩:=HK.out;clear b0 b1 HM;have hn:=yaa (o:=J #[E T f2,E T u2] 126) (Ye wr.heap.size wr) zg;have l3:w1.heap.size<wr.heap.size:=HK.2.2.2.2.2.2;have e1:=(hn.cell (p:=Z w1.heap.size 0 N) l3).trans a1;have e2:=(hn.cell (p:=Z w1.heap.size 1 N) l3).trans a2;have g1:=(hn.frozen (p:=Z w1.heap.size 0 N) l3).trans a3;have g2:=(hn.frozen (p:=Z w1.heap.size 1 N) l3).trans a4;clear hn l3 a1 a2 a3 a4;go_wp2;exact ⟨⟨2,by go_num,by omega,HK.step _ _ _ (by have:=aK.out;show _ =A;split <;> omega) (by have:=aJ.out;show _ =B;split <;> omega)⟩,by simp [intOf]⟩
  ·have HQ:Hid (MeT w b w1.heap.size f1 u1 f2 u2 A B wr):=HM;obtain ⟨⟨a1,a2,-,-⟩,-,⟨z1,z2,j1,j2⟩,hB,-,-,-⟩:=HQ.out;have HB:=hid hB;clear hB;go_wp2_with fail
   refine zm (c1 _) ?_;rintro w3 ai;have l1:w.heap.size<wr.heap.size:=(by have:=HQ.2.2.2.2;omega);have aC:=(ai.cell (p:=Z w.heap.size 0 N) l1).trans z1;have aB:=(ai.cell (p:=Z w.heap.size 1 N) l1).trans z2;have aM:=(ai.frozen (p:=Z w.heap.size 0 N) l1).trans j1;have aL:=(ai.frozen (p:=Z w.heap.size 1 N) l1).trans j2;have aH:Hid (Bw w w3):=HB.trans (ai.mono (YY l1));clear ai a1 a2 z1 z2 j1 j2;go_wp2;exact Yh (yac rfl _ _ w.heap.size 0 _ _ rfl (ydC aC aB) Tryz.underlying126 rfl ygZ) rfl ⟨rfl,yab (yab aH zg) zg⟩
theorem ynR (f u n:Int) (w:World) (h0:0<=n) (h1:n<146097) (al:max (max 0 f) (86400*n)<=min (min 12622780799 u) (86400*n+86399)) :
  H I 133 #[spv f u,E T n] w λ e w'=>e=Q (Xt #[E T (max (max 0 f) (86400*n)%86400),E T (min (min 12622780799 u) (86400*n+86399)%86400),Xb true])/\Bw w w':=by
 have cD:=hid (λ W=>ynQ n W h0 h1);have cM:=hid (λ b W hb k0 k1 k2 k3=>ykJ b f u (86400*n) (86400*n+86399) W hb k0 k1 k2 k3);obtain ⟨d,aA⟩:=zx (86400*n);rw [aA] at cD cM al⊢;have ag:0<=max (max 0 f) d:=zo;have af:max (max 0 f) d<12622780800:=zo;have ae:0<=min (min 12622780799 u) (d+86399):=zo;have ad:min (min 12622780799 u) (d+86399)<12622780800:=zo;obtain ⟨X,hX⟩:=zx (max (max 0 f) d);obtain ⟨Yq,hY⟩:=zx (min (min 12622780799 u) (d+86399));rw [hX] at cM ag af al⊢;rw [hY] at cM ae ad al⊢;have az:yau X Yq=X:=by rcases ybr X Yq with ⟨e1,e2,h⟩ | ⟨e1,e2,h⟩ <;> omega
 have ay:yat X Yq=Yq:=by rcases ybr X Yq with ⟨e1,e2,h⟩ | ⟨e1,e2,h⟩ <;> omega
 rw [az,ay] at cM;have c1:=hid (λ W=>yb0 X W ag af);have c2:=hid (λ W=>yb0 Yq W ae ad);clear aA h0 h1 al hX hY az ay ag af ae ad;have aE:Hid (CtS w (w.alloc (J #[E T f,E T u] 126)).drew):=⟨(yaa (Ye _ _) zg).drew,by show _<(World.alloc _ _).heap.size;simp⟩;go_enter Tryz.func133,Tryz.ntmps133
 go_wp2_with fail
 refine Yj (S:=λ w'=>CtS w w') zk aE (λ aa=>?_);refine zhD 1 ?_;refine wpAnyH_ready (rs:= [0,2]) zk zs ?_;refine AllReadyH.cons rfl (λ K hK=>?_) (AllReadyH.cons rfl (λ K hK=>?_) AllReadyH.nil);focus
  go_simp;(try go_wp2_with fail);refine hK _ _ (by assumption) (λ aa=>?_);clear hK K;refine zzK 2 (λ K hK=>?_)
 all_goals
  go_simp;refine zm (cD _) ?_;rintro w1 ab;have k1:=(ab.cell (p:=Z w.heap.size 0 N) (by simp [World.size_drew])).trans (show _ =G (E T f) by simp [go_sem]);have k2:=(ab.cell (p:=Z w.heap.size 1 N) (by simp [World.size_drew])).trans (show _ =G (E T u) by simp [go_sem]);have f1:=(ab.frozen (p:=Z w.heap.size 0 N) (by simp [World.size_drew])).trans (show _ =false by simp [go_sem]);have f2:=(ab.frozen (p:=Z w.heap.size 1 N) (by simp [World.size_drew])).trans (show _ =false by simp [go_sem]);have ar:=CtS.keep aa ab;(try go_wp2_with fail);refine hK _ _ ar (λ aa=>?_);clear hK K;try simp only [zP]
 rotate_left;focus
  refine zzK 0 (λ K hK=>?_);go_simp;(try go_wp2_with fail);refine hK _ _ (by assumption) (λ aa=>?_);clear hK K;try simp only [zP]
 all_goals
  have hn:=yaa (o:=J #[E T f,E T u,E T d,E T (d+86399)] 126) (Ye w1.heap.size w1) zg;have am:w.heap.size<w1.heap.size:=ar.2;refine zzK 3 (λ K hK=>?_);go_simp;(try go_wp2_with fail);refine hK _ _ (CtS.keep ar hn) (λ aa=>?_);clear hK K;refine zzK 4 (λ K hK=>?_);go_simp;refine zm (cM w1.heap.size _ zs (by simp [go_sem]) (by simp [go_sem]) (by simp [go_sem]) (by simp [go_sem])) ?_;rintro w2 aj;have aq:=CtS.keep aa aj;have m1:=(aj.cell (p:=Z w.heap.size 0 N) (by simp only [zzN];omega)).trans ((hn.cell (p:=Z w.heap.size 0 N) am).trans k1);have m2:=(aj.cell (p:=Z w.heap.size 1 N) (by simp only [zzN];omega)).trans ((hn.cell (p:=Z w.heap.size 1 N) am).trans k2);have n1:=(aj.frozen (p:=Z w.heap.size 0 N) (by simp only [zzN];omega)).trans ((hn.frozen (p:=Z w.heap.size 0 N) am).trans f1);have n2:=(aj.frozen (p:=Z w.heap.size 1 N) (by simp only [zzN];omega)).trans ((hn.frozen (p:=Z w.heap.size 1 N) am).trans f2);clear hn k1 k2 f1 f2;(try go_wp2_with fail);refine hK _ _ (by assumption) (λ aa=>?_);clear hK K;refine zzK 5 (λ K hK=>?_);go_simp;(try go_wp2_with fail);refine hK _ _ ⟨yab (yab aq.1 zg) zg,by rw [Yx,Yx];exact aq.2⟩ (λ aa=>?_);clear hK K;refine Yt zk ?_ _;have aI:=hid aq.1;go_wp2_with (first | (go_at_call 181;with_reducible refine zm (c1.out _) ?_;rintro w' rfl) | (go_at_call 181;with_reducible refine zm (c2.out _) ?_;rintro w' rfl))
  exact Yh (v:=Xt #[E T (X%86400),E T (Yq%86400),Xb true]) (by simp [results,Tryz.results133,go_sem]) rfl ⟨rfl,yab (yab aI zg) zg⟩
section
attribute [local go_sem ↓] yaz
structure LpG (W:World) (b7 b5 b6 b3 b4 b1:Nat) (fv:Value) (c:Cl) (B:Nat) (F U X Yq:Int):Prop where
 c7:W.cell? (Z b7 0 N)=G (Xb true)
 c5:W.cell? (Z b5 0 N)=G (E T F)
 c6:W.cell? (Z b6 0 N)=G (E T U)
 c3:W.cell? (Z b3 0 N)=G fv
 c4:W.cell? (Z b4 0 N)=G (E T X)/\W.cell? (Z b4 1 N)=G (E T Yq)
 c1:ClB W b1 c
 l:b7<B/\b5<B/\b6<B/\b3<B/\b4<B/\b1<B
theorem LpG.below {W W':World} {b7 b5 b6 b3 b4 b1 B:Nat} {fv:Value} {c:Cl} {F U X Yq:Int} (h:LpG W b7 b5 b6 b3 b4 b1 fv c B F U X Yq) (hb:Below B W W'):LpG W' b7 b5 b6 b3 b4 b1 fv c B F U X Yq:=by
 obtain ⟨l7,l5,l6,l3,l4,l1⟩:=h.l;exact ⟨(hb.cell (p:=Z b7 0 N) l7).trans h.c7,(hb.cell (p:=Z b5 0 N) l5).trans h.c5,(hb.cell (p:=Z b6 0 N) l6).trans h.c6,(hb.cell (p:=Z b3 0 N) l3).trans h.c3,
  ⟨(hb.cell (p:=Z b4 0 N) l4).trans h.c4.1,(hb.cell (p:=Z b4 1 N) l4).trans h.c4.2⟩,h.c1.below hb l1,h.l⟩
theorem ypc (c:Cl) (n F U X Yq f u:Int) (b7 b5 b6 b3 b4 b1 x1 x2:Nat) (w:World) (hc:c.Ok) (hm:yb2 c=true) (h0:0<=n) (h1:n<146097) (a7:F<=n) (a8:n<=U) (ag:¬(n=F\/ n=U)->f=0/\u=86399)
  (hL:LpG w b7 b5 b6 b3 b4 b1 (Xf (.func 178) #[] #[R (G (Z x1 0 N)),R (G (Z x2 0 N))]) c w.heap.size F U X Yq)
  (hcut:∀W,(n=F\/ n=U)->H I 133 #[spv X Yq,E T n] W λ e w'=>e=Q (Xt #[E T f,E T u,Xb true])/\Bw W w')
  (ae:∀W',Bw w W'->H I 178 #[shN n,R (G (Z x1 0 N)),R (G (Z x2 0 N))] W' λ e w'=>e=Q (Xb (yk0 c n))/\Bw W' w') :
  H I 132 #[shN n,R (G (Z b7 0 N)),R (G (Z b5 0 N)),R (G (Z b6 0 N)),R (G (Z b3 0 N)),R (G (Z b4 0 N)),R (G (Z b1 0 N))] w λ e w'=>e=Q (if yk0 c n then stv true f u (ydD c n) else stv false 0 0 0)/\Bw w w':=by
 obtain ⟨-,aP,hu,ha⟩:=ydG hm;have cC:=hid hcut;have ax:=hid ag;have cZ:=hid (λ W=>ydn c.unit W);have cP:=hid (λ W hz=>ysh c.unit c.step c.anchor n W hu ha aP hc.step h0 h1 hz);have hz:=ydg c.unit;have HL:=hid hL;have HC:=hid ae;have aG:shF n 0=n:=rfl;rw [ydD];generalize hp:(ybh c.unit c.anchor-86400*n/yav c.unit)%c.step=p at cP⊢
 generalize aO:yav c.unit=z at cZ cP hz⊢
 generalize hx:yk0 c n=x at HC⊢
 clear hp aO hx ae hL hm hu ha hcut ag;rw [<- ya7] at HC⊢;generalize hs:shF n=s at HC aG⊢
 clear hs;rw [shq] at HC⊢;obtain rfl:s 0=n:=aG;have au:Bw w ((w.alloc (J (ybi s).toArray 83)).alloc (J #[Xb false,E T 0,E T 0,E T 0] 213)):=yaa (yaa (Ye _ _) zg) zs;have aI:Four ((w.alloc (J (ybi s).toArray 83)).alloc (J #[Xb false,E T 0,E T 0,E T 0] 213)) (w.heap.size+1) (Xb false) (E T 0) (E T 0) (E T 0):=by
  have h:=ydm (w.alloc (J (ybi s).toArray 83)) (Xb false) (E T 0) (E T 0) (E T 0) 213;(try unfold Bw at h);rw [zzN] at h
  exact h
 have aF:=hid au;have aM:=hid aI;obtain ⟨k7,k5,k6,k3,-,-,-⟩:=HL.below au;have aS:¬s 0<F:=zo;have aR:¬U<s 0:=zo;clear au aI;go_enter Tryz.func132,Tryz.ntmps132
 go_wp2_with fail
 refine zm (HC _ aF) ?_;rintro w1 an;have aE:Hid (Bw w w1):=aF.trans (an.mono (by simp only [zzN];omega));have aB:=hid (aM.below an (by simp only [zzN];omega));have aa:Hid (w.heap.size+1<w1.heap.size):=by have:=an.size;simp only [zzN] at this;show _<_;omega
 clear an k7 k5 k6 k3 HC aM aF;cases x
 ·obtain ⟨⟨a0,a1,a2,a3⟩,f0,f1,f2,f3⟩:=aB.out;go_wp2;exact Yh (yac rfl _ _ (w.heap.size+1) 0 _ _ rfl (aB.put _ _ _ _) Tryz.underlying213 rfl yhZ) rfl ⟨rfl,yab (yab (yab (yab aE zo) zo) zo) zo⟩
 have ak:=yaa (o:=J #[Xb true,E T 0,E T 86399,E T 0] 213) (Ye w1.heap.size w1) zg;have ai:=hid ((HL.below aE).below (ak.mono (zp aa.out)));have aA:=hid (aB.below ak aa);have ay:=hid (ydm w1 (Xb true) (E T 0) (E T 86399) (E T 0) 213);have aC:=hid (aE.trans (ak.mono (zp aa.out)));clear ak;have aK:Hid (w1.heap.size<(w1.alloc (J #[Xb true,E T 0,E T 86399,E T 0] 213)).heap.size):=by show _<_;simp
 by_cases he:s 0=F\/ s 0=U;rotate_left;obtain ⟨e1,e2⟩:=ax he;obtain ⟨-,k5,k6,-,-,-,-⟩:=ai.out;have hq:(s 0==F)=false:=by simp;omega
 have aQ:(s 0==U)=false:=by simp;omega
 have ao:Hid (Four (w1.alloc (J #[Xb true,E T 0,E T 86399,E T 0] 213)) w1.heap.size (Xb true) (E T f) (E T u) (E T 0)):=by rw [e1,e2];exact ay
 have ah:=ai;have aj:=aA;have ar:=aC;have ad:=aK;clear he e1 e2 ay ai aA aC aK;rotate_left;have hE:Hid (s 0=F\/ s 0=U):=he;obtain ⟨k7,k5,k6,k3,⟨k4,aN⟩,-,-⟩:=ai.out;have hq:((s 0==F)=true)\/ ((s 0==F)=false/\(s 0==U)=true):=by
  by_cases hf:s 0=F
  ·exact .inl (by simp [hf])
  ·exact .inr ⟨by simp [hf],by have h3:s 0=U:=he.resolve_left hf;simp [h3]⟩
 clear he;rcases hq with hq | ⟨hq,aQ⟩;iterate 2
  focus
   go_wp2_with fail
   refine zm (cC _ hE) ?_;rintro w2 af;clear k7 k5 k6 k3 k4 aN;have aX:=hid (ai.below (af.mono (by have:=aa.out;simp only [zzN];omega)));have aZ:=hid (aA.below af (by have:=aa.out;simp only [zzN];omega));have ap:=hid (ay.below af zs);have a6:=hid (aC.trans (af.mono (by have:=aa.out;simp only [zzN];omega)));have aU:Hid (w1.heap.size<w2.heap.size):=(by have:=af.size;(try unfold Bw at this);rw [zzN] at this;exact this);clear af;have al:Below w1.heap.size w2 ((w2.setCell (Z w1.heap.size 1 N) (E T f)).setCell (Z w1.heap.size 2 N) (E T u)):=yab (yab (Ye _ _) zg) zg;have ah:=hid (aX.below (al.mono (zp aa.out)));have aj:=hid (aZ.below al aa);have ao:=hid (ap.set1 (E T f) (E T u));have ar:=hid (a6.trans (al.mono (zp aa.out)));have ad:Hid (w1.heap.size<((w2.setCell (Z w1.heap.size 1 N) (E T f)).setCell (Z w1.heap.size 2 N) (E T u)).heap.size):=(by show _<_;rw [Yx,Yx];exact aU);clear al
  rotate_left
 all_goals
  by_cases av:1<c.step
  ·have aT:decide (1<c.step)=true:=zzZ av;rcases hz with hz | hz
   ·have ab:Hid (Ending.returned (.agg [Xb true,E T f,E T u,E T p].toArray)=Q (if true=true then stv true f u (if 1<c.step/\0<z then p else 0) else stv false 0 0 0)):=(by show _ = _;rw [Yd rfl,Yd ⟨av,hz⟩]);have a9:decide (0<z)=true:=zzZ hz;obtain ⟨t0,t1,t2,-,-⟩:=ah.c1.tail;(try obtain ⟨⟨m0,m1,m2,m3⟩,n0,n1,n2,n3⟩:=ap.out);go_wp2_with fail
    refine zm (cZ _) ?_;rintro w3 ac;have aW:=hid (ah.below (ac.mono (by have:=ad.out;have:=aa.out;omega)));have aq:=hid (aj.below ac (by have:=ad.out;have:=aa.out;omega));have az:=hid (ao.below ac ad);have aD:=hid (ar.trans (ac.mono (by have:=ad.out;have:=aa.out;omega)));have aw:Hid (w1.heap.size<w3.heap.size):=zH ad ac.size;clear ac t0 t1 t2;obtain ⟨t0,t1,t2,-,-⟩:=aW.c1.tail;go_wp2_with fail
    refine zm (cP _ hz) ?_;rintro w4 am;have aL:=hid (aq.below am (by have:=aw.out;have:=aa.out;omega));have aV:=hid (az.below am aw);have a5:=hid (aD.trans (am.mono (by have:=aw.out;have:=aa.out;omega)));clear am t0 t1 t2;obtain ⟨⟨a0,a1,a2,a3⟩,f0,f1,f2,f3⟩:=aL.out;obtain ⟨⟨d0,d1,d2,d3⟩,-,-,-,g3⟩:=aV.out;have aH:Four (w4.setCell (Z w1.heap.size 3 N) (E T p)) (w.heap.size+1) (Xb false) (E T 0) (E T 0) (E T 0):=aL.below (yab (Ye w1.heap.size w4) zg) aa.out;have aJ:Bw w (w4.setCell (Z w1.heap.size 3 N) (E T p)):=yab a5 (zp aa.out);have aY:=hid aH;have a4:=hid aJ;obtain ⟨⟨j0,j1,j2,j3⟩,i0,i1,i2,i3⟩:=aH;clear aJ;go_wp2;exact Yh (yac rfl _ _ (w.heap.size+1) 0 _ _ rfl (aY.put _ _ _ _) Tryz.underlying213 rfl yhZ) rfl ⟨by first | rfl | exact ab,yab (yab (yab (yab a4 zo) zo) zo) zo⟩
   ·have ab:Hid (Ending.returned (.agg [Xb true,E T f,E T u,E T 0].toArray)=Q (if true=true then stv true f u (if 1<c.step/\0<z then p else 0) else stv false 0 0 0)):=(by show _ = _;rw [Yd rfl,Yb zo]);subst hz;obtain ⟨t0,t1,t2,-,-⟩:=ah.c1.tail;(try obtain ⟨⟨m0,m1,m2,m3⟩,n0,n1,n2,n3⟩:=ap.out);go_wp2_with fail
    refine zm (cZ _) ?_;rintro w3 ac;have aq:=hid (aj.below ac (by have:=ad.out;have:=aa.out;omega));have az:=hid (ao.below ac ad);have aD:=hid (ar.trans (ac.mono (by have:=ad.out;have:=aa.out;omega)));clear ac t0 t1 t2;obtain ⟨⟨a0,a1,a2,a3⟩,f0,f1,f2,f3⟩:=aq.out;obtain ⟨⟨d0,d1,d2,d3⟩,-,-,-,-⟩:=az.out;go_wp2;exact Yh (yac rfl _ _ (w.heap.size+1) 0 _ _ rfl (aq.put _ _ _ _) Tryz.underlying213 rfl yhZ) rfl ⟨by first | rfl | exact ab,yab (yab (yab (yab aD zo) zo) zo) zo⟩
  ·have aT:decide (1<c.step)=false:=zzd av;have ab:Hid (Ending.returned (.agg [Xb true,E T f,E T u,E T 0].toArray)=Q (if true=true then stv true f u (if 1<c.step/\0<z then p else 0) else stv false 0 0 0)):=(by show _ = _;rw [Yd rfl,Yb zo]);obtain ⟨t0,t1,t2,-,-⟩:=ah.c1.tail;obtain ⟨⟨a0,a1,a2,a3⟩,f0,f1,f2,f3⟩:=aj.out;obtain ⟨⟨d0,d1,d2,d3⟩,-,-,-,-⟩:=ao.out;(try obtain ⟨⟨m0,m1,m2,m3⟩,n0,n1,n2,n3⟩:=ap.out);go_wp2;exact Yh (yac rfl _ _ (w.heap.size+1) 0 _ _ rfl (aj.put _ _ _ _) Tryz.underlying213 rfl yhZ) rfl ⟨by first | rfl | exact ab,yab (yab (yab (yab ar zo) zo) zo) zo⟩
end
theorem yfA (n F U:Int) (sm:Bool) (b7 b5 b6 b3 b4 b1:Nat) (w:World) (ab:sm=false\/ (sm=true/\n<F)\/ (sm=true/\F<=n/\U<n))
  (l7:b7<w.heap.size) (l5:b5<w.heap.size) (l6:b6<w.heap.size)
  (k7:w.cell? (Z b7 0 N)=G (Xb sm)) (k5:w.cell? (Z b5 0 N)=G (E T F)) (k6:w.cell? (Z b6 0 N)=G (E T U)) :
  H I 132 #[shN n,R (G (Z b7 0 N)),R (G (Z b5 0 N)),R (G (Z b6 0 N)),R (G (Z b3 0 N)),R (G (Z b4 0 N)),R (G (Z b1 0 N))] w λ e w'=>e=Q (stv false 0 0 0)/\Bw w w':=by
 have ac:shF n 0=n:=rfl;rw [<- ya7];generalize hs:shF n=s at ac⊢
 rw [shq];obtain rfl:s 0=n:=ac;have aa:Bw w ((w.alloc (J (ybi s).toArray 83)).alloc (J #[Xb false,E T 0,E T 0,E T 0] 213)):=yaa (yaa (Ye _ _) zg) zs;have ad:Four ((w.alloc (J (ybi s).toArray 83)).alloc (J #[Xb false,E T 0,E T 0,E T 0] 213)) (w.heap.size+1) (Xb false) (E T 0) (E T 0) (E T 0):=by
  have h:=ydm (w.alloc (J (ybi s).toArray 83)) (Xb false) (E T 0) (E T 0) (E T 0) 213;(try unfold Bw at h);rw [zzN] at h
  exact h
 have m7:=(aa.cell (p:=Z b7 0 N) l7).trans k7;have m5:=(aa.cell (p:=Z b5 0 N) l5).trans k5;have m6:=(aa.cell (p:=Z b6 0 N) l6).trans k6;have af:=hid aa;have ae:=hid ad;rcases ab with rfl | ⟨rfl,h1⟩ | ⟨rfl,h1,h2⟩;rotate_left;rotate_left;focus
  have h3:¬s 0<F:=zo
 rotate_left;all_goals
  go_enter Tryz.func132,Tryz.ntmps132
  go_wp2;exact Yh (yac rfl _ _ (w.heap.size+1) 0 _ _ rfl (yhO w _ _ _) Tryz.underlying213 rfl yhZ) rfl ⟨rfl,yaa (yaa (Ye _ _) zg) zs⟩
theorem ypb (n F U:Int) (b7 b5 b6 b3 b4 b1:Nat) (w:World) (ai:F<=n) (aj:n<=U)
  (l7:b7<w.heap.size) (l5:b5<w.heap.size) (l6:b6<w.heap.size) (l3:b3<w.heap.size) (k3:w.cell? (Z b3 0 N)=G (Xf (.func 176) #[] #[]))
  (k7:w.cell? (Z b7 0 N)=G (Xb true)) (k5:w.cell? (Z b5 0 N)=G (E T F)) (k6:w.cell? (Z b6 0 N)=G (E T U)) :
  H I 132 #[shN n,R (G (Z b7 0 N)),R (G (Z b5 0 N)),R (G (Z b6 0 N)),R (G (Z b3 0 N)),R (G (Z b4 0 N)),R (G (Z b1 0 N))] w λ e w'=>e=Q (stv false 0 0 0)/\Bw w w':=by
 have ab:shF n 0=n:=rfl;have HC:=hid (λ W=>ysG n W);rw [<- ya7] at HC⊢;generalize hs:shF n=s at ab HC⊢
 rw [shq] at HC⊢;obtain rfl:s 0=n:=ab;have aa:Bw w ((w.alloc (J (ybi s).toArray 83)).alloc (J #[Xb false,E T 0,E T 0,E T 0] 213)):=yaa (yaa (Ye _ _) zg) zs;have ae:Four ((w.alloc (J (ybi s).toArray 83)).alloc (J #[Xb false,E T 0,E T 0,E T 0] 213)) (w.heap.size+1) (Xb false) (E T 0) (E T 0) (E T 0):=by
  have h:=ydm (w.alloc (J (ybi s).toArray 83)) (Xb false) (E T 0) (E T 0) (E T 0) 213;(try unfold Bw at h);rw [zzN] at h
  exact h
 have m7:=(aa.cell (p:=Z b7 0 N) l7).trans k7;have m5:=(aa.cell (p:=Z b5 0 N) l5).trans k5;have m6:=(aa.cell (p:=Z b6 0 N) l6).trans k6;have m3:=(aa.cell (p:=Z b3 0 N) l3).trans k3;have ah:=hid aa;have af:=hid ae;have h1:¬s 0<F:=zo;have h2:¬U<s 0:=zo;go_enter Tryz.func132,Tryz.ntmps132
 go_wp2_with fail
 refine zm (HC _) ?_;rintro w1 ac;have ag:Hid (Bw w w1):=ah.trans (ac.mono (by simp only [zzN];omega));have ad:=hid (af.below ac (by simp only [zzN];omega));obtain ⟨⟨a0,a1,a2,a3⟩,f0,f1,f2,f3⟩:=ad.out;go_wp2;exact Yh (yac rfl _ _ (w.heap.size+1) 0 _ _ rfl (ad.put _ _ _ _) Tryz.underlying213 rfl yhZ) rfl ⟨rfl,yab (yab (yab (yab ag zo) zo) zo) zo⟩
section
attribute [local go_sem ↓] yaz
attribute [local go_sem] yej
variable {c:Cl} {n:Int} {b3 b4 hi lo:Nat} {fv gv v:Value} {W W' X w:World}
def DVS (W:World) (lo hi:Nat) (c:Cl) (fv:Value):Prop:=
 (yb2 c=false/\fv=Xf (.func 176) #[] #[])\/
 (yb2 c=true/\∃x1 x2:Nat,fv=Xf (.func 178) #[] #[R (G (Z x1 0 N)),R (G (Z x2 0 N))]/\DCS W lo hi c x1 x2)
theorem DVS.form (h:DVS W lo hi c fv):∃g cap,fv=Xf (.func g) #[] cap:=by
 rcases h with ⟨-,rfl⟩ | ⟨-,x1,x2,rfl,-⟩
 ·exact ⟨_,_,rfl⟩
 ·exact ⟨_,_,rfl⟩
theorem DVS.call (h:DVS W lo hi c fv) (hs:hi<=W'.heap.size) (hb:∀b,lo<=b->b<hi->W'.heap[b]? =W.heap[b]?):DVS W' lo hi c fv:=by
 rcases h with h | ⟨h1,x1,x2,h2,h3⟩
 ·exact .inl h
 ·exact .inr ⟨h1,x1,x2,h2,h3.call hs hb⟩
theorem DVS.below (h:DVS W lo hi c fv) (hs:hi<=W.heap.size) (hb:Bw W W'):DVS W' lo hi c fv:=
 h.call (zI hs hb.size) (λ b _ h2=>hb.block b zo)
theorem DVS.set {b o:Nat} (h:DVS W lo hi c fv) (hs:hi<=W.heap.size) (hb:b<lo\/ hi<=b):DVS (W.setCell (Z b o N) v) lo hi c fv:=by
 rcases h with h | ⟨h1,x1,x2,h2,h3⟩
 ·exact .inl h
 ·exact .inr ⟨h1,x1,x2,h2,h3.set hs hb⟩
theorem DVS.wide {ah ai:Nat} (h:DVS W lo hi c fv) (hl:ah<=lo) (hh:hi<=ai):DVS W ah ai c fv:=by
 rcases h with h | ⟨h1,x1,x2,h2,h3⟩
 ·exact .inl h
 ·exact .inr ⟨h1,x1,x2,h2,λ n W' n0 n1 hs hb=>h3 n W' n0 n1 (zI hh hs) (λ b b1 b2=>hb b (zI hl b1) (zH b2 hh))⟩
theorem CDV.dvs (h:CDV W lo c fv) (hc:c.Ok):DVS W lo W.heap.size c fv:=by
 cases hm:yb2 c
 ·rcases h with h | h
  ·exact .inl h
  ·rw [hm] at h;cases h.1
 ·exact .inr ⟨hm,h.dcs hm hc⟩
def lpF (c:Cl):Int:=if yaw c.fr c.un then frD c else 0
def lpU (c:Cl):Int:=if yaw c.fr c.un then unD c else 0
theorem ylJ (c:Cl):yaw (yau c.fr c.un) (yat c.fr c.un)=yaw c.fr c.un/\max (yau c.fr c.un) 0=yau c.fr c.un/\(yaw c.fr c.un=true->min (yat c.fr c.un) 12622780799=yat c.fr c.un):=by
 rw [yau,yat];cases h:yaw c.fr c.un
 ·exact ⟨by rfl,rfl,λ h=>by cases h⟩
 ·have h':max c.fr 0<=min c.un 12622780799:=Y8 h;rw [Yd rfl,Yd rfl];exact ⟨zzZ zo,by omega,λ _=>by omega⟩
theorem yo2 (c:Cl) (w:World):H I 131 #[spv (yau c.fr c.un) (yat c.fr c.un)] w λ e w'=>e=Q (Xt #[E T (lpF c),E T (lpU c),Xb (yaw c.fr c.un)])/\Bw w w':=by
 refine (yfy (yau c.fr c.un) (yat c.fr c.un) w).mono λ e w' ⟨h,hb⟩=>⟨h.trans ?_,hb⟩;obtain ⟨h1,h2,h3⟩:=ylJ c;rw [h1,lpF,lpU,frD,unD];cases h:yaw c.fr c.un
 ·rfl
 ·rw [Yd rfl,Yd rfl,Yd rfl,h2,h3 h]
structure LpB (W:World) (b7 b5 b6 b3 b4 b1:Nat) (fv:Value) (c:Cl):Prop where
 c7:W.cell? (Z b7 0 N)=G (Xb (yaw c.fr c.un))
 c5:W.cell? (Z b5 0 N)=G (E T (lpF c))
 c6:W.cell? (Z b6 0 N)=G (E T (lpU c))
 c3:W.cell? (Z b3 0 N)=G fv
 c4:W.cell? (Z b4 0 N)=G (E T (yau c.fr c.un))/\W.cell? (Z b4 1 N)=G (E T (yat c.fr c.un))
 c1:ClB W b1 c
abbrev yf1 (b7 b5 b6 b3 b4 b1:Nat):Value:=Xf (.func 132) #[] #[R (G (Z b7 0 N)),R (G (Z b5 0 N)),R (G (Z b6 0 N)),R (G (Z b3 0 N)),R (G (Z b4 0 N)),R (G (Z b1 0 N))]
def LapV (W:World) (lo hi:Nat) (c:Cl) (gv:Value):Prop:=
 ∃(b7 b5 b6 b3 b4 b1:Nat) (fv:Value),gv=yf1 b7 b5 b6 b3 b4 b1/\LpB W b7 b5 b6 b3 b4 b1 fv c/\DVS W lo hi c fv/\
  ((lo<=b7/\b7<hi)/\(lo<=b5/\b5<hi)/\(lo<=b6/\b6<hi)/\(lo<=b3/\b3<hi)/\(lo<=b4/\b4<hi)/\(lo<=b1/\b1<hi))
theorem LapV.keep (h:LapV W lo hi c gv) (hs:hi<=W'.heap.size) (hb:∀b,lo<=b->b<hi->W'.heap[b]? =W.heap[b]?):LapV W' lo hi c gv:=by
 obtain ⟨b7,b5,b6,b3,b4,b1,fv,rfl,⟨c7,c5,c6,c3,c4,c1⟩,hd,o7,o5,o6,o3,o4,o1⟩:=h;have k:∀b i,lo<=b/\b<hi->W'.cell? (Z b i N)=W.cell? (Z b i N):=λ b i ho=>zzJ (w:=W) (a:=Z b i N) (hb b ho.1 ho.2);exact ⟨b7,b5,b6,b3,b4,b1,fv,rfl,⟨(k _ _ o7).trans c7,(k _ _ o5).trans c5,(k _ _ o6).trans c6,(k _ _ o3).trans c3,⟨(k _ _ o4).trans c4.1,(k _ _ o4).trans c4.2⟩,λ j x hx=>(k _ _ o1).trans (c1 j x hx)⟩,hd.call hs hb,o7,o5,o6,o3,o4,o1⟩
theorem yqW (h:yaw c.fr c.un=false):ybq c n=false:=by rw [ybq,okD,h];rfl
theorem LapV.call (h:LapV W lo hi c gv) (hc:c.Ok) (h0:0<=n) (h1:n<146097) :
  ∃y1 y2 y3 y4 y5 y6:Nat,gv=yf1 y1 y2 y3 y4 y5 y6/\
   ∀W',hi<=W'.heap.size->(∀b,lo<=b->b<hi->W'.heap[b]? =W.heap[b]?)->
    H I 132 #[shN n,R (G (Z y1 0 N)),R (G (Z y2 0 N)),R (G (Z y3 0 N)),R (G (Z y4 0 N)),R (G (Z y5 0 N)),R (G (Z y6 0 N))] W' λ e w'=>e=Q (stG c n)/\Bw W' w':=by
 obtain ⟨b7,b5,b6,b3,b4,b1,fv,rfl,⟨c7,c5,c6,c3,c4,c1⟩,hd,o7,o5,o6,o3,o4,o1⟩:=h;refine ⟨b7,b5,b6,b3,b4,b1,rfl,λ W' hs hb=>?_⟩;have k:∀b i,lo<=b/\b<hi->W'.cell? (Z b i N)=W.cell? (Z b i N):=λ b i ho=>zzJ (w:=W) (a:=Z b i N) (hb b ho.1 ho.2);replace c7:=(k _ _ o7).trans c7;replace c5:=(k _ _ o5).trans c5;replace c6:=(k _ _ o6).trans c6;replace c3:=(k _ _ o3).trans c3;replace c4:W'.cell? (Z b4 0 N)=G (E T (yau c.fr c.un))/\W'.cell? (Z b4 1 N)=G (E T (yat c.fr c.un)):=⟨(k _ _ o4).trans c4.1,(k _ _ o4).trans c4.2⟩;replace c1:ClB W' b1 c:=λ j x hx=>(k _ _ o1).trans (c1 j x hx);replace hd:=hd.call hs hb;cases hB:yaw c.fr c.un
 ·rw [hB] at c7;rw [stG,yqW hB];exact yfA n (lpF c) (lpU c) false b7 b5 b6 b3 b4 b1 W' (.inl rfl) zo zo zo c7 c5 c6
 ·rw [hB] at c7;have eF:lpF c=frD c:=by rw [lpF,hB];rfl
  have eU:lpU c=unD c:=by rw [lpU,hB];rfl
  rw [eF] at c5;rw [eU] at c6;by_cases ac:frD c<=n
  ·by_cases ab:n<=unD c
   ·rcases hd with ⟨hm,rfl⟩ | ⟨hm,x1,x2,rfl,hD⟩
    ·have hl:ybq c n=false:=(by rw [ybq,okD,hm,Y3];rfl);rw [stG,hl];exact ypb n (frD c) (unD c) b7 b5 b6 b3 b4 b1 W' ac ab zo zo zo zo c3 c7 c5 c6
    ·have hl:ybq c n=yk0 c n:=(by rw [ybq,okD,onD,hB,hm,zzZ ac,zzZ ab];simp);rw [stG,hl];refine ypc c n (frD c) (unD c) (yau c.fr c.un) (yat c.fr c.un) (stF c n) (stU c n) b7 b5 b6 b3 b4 b1 x1 x2 W' hc hm h0 h1 ac ab (λ ad=>yw5 hB ac ab (λ e=>ad (.inl e)) (λ e=>ad (.inr e)))
      ⟨c7,c5,c6,c3,c4,c1,by omega,by omega,by omega,by omega,by omega,by omega⟩ (λ W2 _=>?_) (λ W2 al=>hD n W2 h0 h1 (zI hs al.size) (λ b av au=>al.block b zo))
     have an:=yjj hB ac ab;have ar:max c.fr 0<=min c.un 12622780799:=Y8 hB;have e1:max (max 0 (yau c.fr c.un)) (86400*n)=max (max 0 c.fr) (86400*n):=(by rw [yau,hB,Yd rfl];omega);have e2:min (min 12622780799 (yat c.fr c.un)) (86400*n+86399)=min (min 12622780799 c.un) (86400*n+86399):=(by rw [yat,hB,Yd rfl];omega);refine (ynR (yau c.fr c.un) (yat c.fr c.un) n W2 h0 h1 (by rw [e1,e2];exact an)).mono λ e w' ⟨he,ao⟩=>⟨he.trans ?_,ao⟩;obtain ⟨g1,g2⟩:=yw4 hB ac ab;rw [e1,e2,g1,g2]
   ·have hl:ybq c n=false:=(by rw [ybq,onD,zzd ab];simp);rw [stG,hl];exact yfA n (frD c) (unD c) true b7 b5 b6 b3 b4 b1 W' (.inr (.inr ⟨rfl,ac,by omega⟩)) zo zo zo c7 c5 c6
  ·have hl:ybq c n=false:=(by rw [ybq,onD,zzd ac];simp);rw [stG,hl];exact yfA n (frD c) (unD c) true b7 b5 b6 b3 b4 b1 W' (.inr (.inl ⟨rfl,by omega⟩)) zo zo zo c7 c5 c6
structure LqH (w W:World) (c:Cl) (b3 b4:Nat) (fv:Value):Prop where
 c3:W.cell? (Z b3 0 N)=G fv
 c4:W.cell? (Z b4 0 N)=G (E T (yau c.fr c.un))/\W.cell? (Z b4 1 N)=G (E T (yat c.fr c.un))
 c1:ClB W w.heap.size c
 l:(w.heap.size<=b3/\b3<W.heap.size)/\(w.heap.size<=b4/\b4<W.heap.size)/\w.heap.size<W.heap.size
 d:DVS W w.heap.size W.heap.size c fv
 b:Bw w W
theorem LqH.below (h:LqH w W c b3 b4 fv) (hb:Bw W W'):LqH w W' c b3 b4 fv:=by
 have hs:=hb.size;obtain ⟨l3,l4,l1⟩:=h.l;exact ⟨(hb.cell (p:=Z b3 0 N) l3.2).trans h.c3,⟨(hb.cell (p:=Z b4 0 N) l4.2).trans h.c4.1,(hb.cell (p:=Z b4 1 N) l4.2).trans h.c4.2⟩,h.c1.below hb l1,
  ⟨by omega,by omega,by omega⟩,(h.d.below zg hb).wide zg hs,h.b.trans (hb.mono (YY l1))⟩
theorem yyi (ad:¬b4=b3) (g0:X.cell? (Z b3 0 N)=G .nilFunc) (j0:X.cell? (Z b4 0 N)=G (E T 0)) (j1:X.cell? (Z b4 1 N)=G (E T 0))
  (l3:b3<X.heap.size) (l4:b4<X.heap.size) (g3:w.heap.size<b3) (g4:w.heap.size<b4) (hS:LaS w c X) (hD:DVS X lo hi c fv) (ab:hi<=X.heap.size) (ac:w.heap.size<=lo) (o3:b3<lo\/ hi<=b3) (o4:b4<lo\/ hi<=b4) :
  LqH w (((X.setCell (Z b3 0 N) fv).setCell (Z b4 0 N) (E T (yau c.fr c.un))).setCell (Z b4 1 N) (E T (yat c.fr c.un))) c b3 b4 fv:=by
 have ne:∀i j:Nat,((Z b4 i N):Addr)≠(Z b3 j N):=λ i j e=>by injection e with e _ _;exact ad e
 have ag:((Z b4 1 N):Addr)≠(Z b4 0 N):=λ e=>by injection e with _ e _;cases e
 have ae:=LaS.set (o:=1) (v:=E T (yat c.fr c.un)) (LaS.set (o:=0) (v:=E T (yau c.fr c.un)) (LaS.set (o:=0) (v:=fv) hS g3) g4) g4;refine ⟨?_,⟨?_,?_⟩,ae.2.1,⟨⟨by omega,by simpa only [Yx] using l3⟩,⟨by omega,by simpa only [Yx] using l4⟩,ae.2.2.2⟩,?_,ae.2.2.1⟩
 ·rw [zzL _ _ _ _ (ne _ _),zzL _ _ _ _ (ne _ _)];exact zzW _ _ _ g0
 ·rw [zzL _ _ _ _ ag];exact zzW _ _ _ (by rw [zzL _ _ _ _ (ne _ _).symm];exact j0)
 ·exact zzW _ _ _ (by rw [zzL _ _ _ _ ag.symm,zzL _ _ _ _ (ne _ _).symm];exact j1)
 ·exact (((hD.set ab o3).set (by simpa only [Yx] using ab) o4).set (by simpa only [Yx] using ab) o4).wide ac (by simpa only [Yx] using ab)
structure LqD (w:World) (c:Cl) (fv:Value) (lo hi:Nat) (W:World):Prop where
 d:DVS W lo hi c fv
 lo:w.heap.size<=lo
 hi:hi<=W.heap.size
theorem LqD.below (h:LqD w c fv lo hi W) (hb:Bw W W'):LqD w c fv lo hi W':=⟨h.d.below h.hi hb,h.lo,zI h.hi hb.size⟩
theorem ywG (h:LaS w c W) (hd:DVS W' W.heap.size W'.heap.size c fv):∃lo hi,W.heap.size=lo/\Hid (LqD w c fv lo hi W'):=⟨_,_,rfl,hd,h.2.2.1.size,zG _⟩
theorem yzH (h:LaS w c W) (t:TypeId):∃X b,W.alloc (J #[.nilFunc] t)=X/\W.heap.size=b/\Bw W X/\LaS w c X/\Hid (B1 w X b .nilFunc):=
 have hB:=yaa (o:=J #[.nilFunc] t) (Ye W.heap.size W) zg
 ⟨_,_,rfl,rfl,hB,h.keep hB,yy2 _ _ h.2.2.2⟩
theorem ywF (h:LaS w c W) (t:TypeId):∃X b,W.alloc (J #[E T 0,E T 0] t)=X/\W.heap.size=b/\Bw W X/\LaS w c X/\Hid (B2 w X b (E T 0) (E T 0)):=
 have hB:=yaa (o:=J #[E T 0,E T 0] t) (Ye W.heap.size W) zg
 ⟨_,_,rfl,rfl,hB,h.keep hB,yy1 _ _ _ h.2.2.2⟩
theorem yyu {u:Value} (ad:¬b4=b3) (h:B2 w X b4 v u) (fv:Value):((X.setCell (Z b3 0 N) fv).cell? (Z b4 0 N)=G v/\(X.setCell (Z b3 0 N) fv).cell? (Z b4 1 N)=G u)/\(X.setCell (Z b3 0 N) fv).frozen? (Z b4 0 N)=false/\(X.setCell (Z b3 0 N) fv).frozen? (Z b4 1 N)=false:=by
 refine ⟨⟨?_,?_⟩,by rw [yaP];exact h.f.1,by rw [yaP];exact h.f.2⟩
 ·rw [zzL _ _ _ _ (by intro e;injection e with e _ _;exact ad e.symm)];exact h.c.1
 ·rw [zzL _ _ _ _ (by intro e;injection e with e _ _;exact ad e.symm)];exact h.c.2
theorem LqH.fin (h:LqH w W c b3 b4 fv) (t u:TypeId) :
  LapV (((W.alloc (J #[E T (lpF c)] t)).alloc (J #[E T (lpU c)] t)).alloc (J #[Xb (yaw c.fr c.un)] u)) w.heap.size (((W.alloc (J #[E T (lpF c)] t)).alloc (J #[E T (lpU c)] t)).alloc (J #[Xb (yaw c.fr c.un)] u)).heap.size c
   (yf1 (W.heap.size+1+1) W.heap.size (W.heap.size+1) b3 b4 w.heap.size)/\
  Bw w (((W.alloc (J #[E T (lpF c)] t)).alloc (J #[E T (lpU c)] t)).alloc (J #[Xb (yaw c.fr c.un)] u)):=by
 have hb:=yaa (o:=J #[Xb (yaw c.fr c.un)] u) (yaa (o:=J #[E T (lpU c)] t) (yaa (o:=J #[E T (lpF c)] t) (Ye W.heap.size W) zg) (by simp only [zzN];omega)) (by simp only [zzN];omega);have h':=h.below hb;have l1:=h.l.2.2;refine ⟨⟨_,_,_,_,_,_,fv,rfl,⟨?_,?_,?_,h'.c3,h'.c4,h'.c1⟩,h'.d,⟨by omega,by simp only [zzN];omega⟩,⟨by omega,by simp only [zzN];omega⟩,⟨by omega,by simp only [zzN];omega⟩,h'.l.1,h'.l.2.1,⟨zG _,h'.l.2.2⟩⟩,h'.b⟩
 ·simp [go_sem]
 ·simp [go_sem]
 ·simp [go_sem]
theorem ysr (c:Cl) (w:World) (hc:c.Ok):H I 77 #[clv c] w λ e w'=>(∃gv,e=Q gv/\LapV w' w.heap.size w'.heap.size c gv)/\Bw w w':=by
 have cD:Hid (∀W,LaS w c W->H I 129 #[clv c] W λ e w'=>(∃g cap,e=Q (Xf (.func g) #[] cap)/\DVS w' W.heap.size w'.heap.size c (Xf (.func g) #[] cap))/\Bw W w'):=λ W _=>
  (ysE c W hc).mono λ e w' ⟨fv,he,hv,hb⟩=>by
    have hd:=hv.dvs hc;obtain ⟨g,cap,rfl⟩:=hd.form;exact ⟨⟨g,cap,he,hd⟩,hb⟩
 have cS:=hid (λ W=>ykW c W);have am:Hid (LaS w c (w.alloc (J (yae c).toArray 59)).drew):=(LaS.of (yeo w c _) (yaa (Ye _ _) zg) zs).keep (Ye _ _).drew;have cY:=hid (λ W=>yo2 c W);have aq:Hid (∃X Yq F U B,yau c.fr c.un=X/\yat c.fr c.un=Yq/\lpF c=F/\lpU c=U/\yaw c.fr c.un=B):=⟨_,_,_,_,_,rfl,rfl,rfl,rfl,rfl⟩;clear hc;go_enter Tryz.func77,Tryz.ntmps77
 go_wp2_with fail
 refine Yj (S:=λ w'=>LaS w c w') zk am (λ aa=>?_);generalize ap:(w.alloc (J (yae c).toArray 59)).drew=Wd at aa⊢
 clear ap am;refine zhD 0 ?_;refine zhD 2 ?_;iterate 4
  all_goals first
   | refine wpAnyH_ready (rs:= [1,4,5]) (by decide +kernel) zs ?_
   | refine wpAnyH_ready (rs:= [3,4,5]) (by decide +kernel) zs ?_
   | refine wpAnyH_ready (rs:= [1,5]) (by decide +kernel) zs ?_
   | refine wpAnyH_ready (rs:= [1,4]) (by decide +kernel) zs ?_
   | refine wpAnyH_ready (rs:= [4,5]) (by decide +kernel) zs ?_
   | refine wpAnyH_ready (rs:= [3,5]) (by decide +kernel) zs ?_
   | refine wpAnyH_ready (rs:= [3,4]) (by decide +kernel) zs ?_
   | refine wpAnyH_ready (rs:= [1]) (by decide +kernel) zs ?_
   | refine wpAnyH_ready (rs:= [5]) (by decide +kernel) zs ?_
   | refine wpAnyH_ready (rs:= [4]) (by decide +kernel) zs ?_
   | refine wpAnyH_ready (rs:= [3]) (by decide +kernel) zs ?_
  all_goals repeat' first
   | exact AllReadyH.nil
   | refine AllReadyH.cons rfl (λ K hK=>?_) ?_
  all_goals go_simp
  all_goals first
   | (refine (cD _ aa).mono ?_
      rintro e wa ⟨⟨g,cap,rfl,aj⟩,hB⟩;obtain ⟨lo,hi,af,HD⟩:=ywG aa aj;(try have o3:=hid (show b3<lo\/ hi<=b3 from .inl (af ▸ N3.l)));(try have o4:=hid (show b4<lo\/ hi<=b4 from .inl (af ▸ N4.l)));clear af aj;have hS:=LaS.keep aa hB)
   | (refine zm (cS _) ?_
      rintro wb hB;have hS:=LaS.keep aa hB)
   | (obtain ⟨X,b3,e1,e2,hB,hS,N3⟩:=yzH aa 207
      rw [e1,e2];(try have o3:=hid (show b3<lo\/ hi<=b3 from .inr (e2 ▸ HD.hi)));(try have ne:=hid (show¬b4=b3 from Nat.ne_of_lt (e2 ▸ N4.l)));clear e1 e2)
   | (obtain ⟨X,b4,e1,e2,hB,hS,N4⟩:=ywF aa 126
      rw [e1,e2];(try have o4:=hid (show b4<lo\/ hi<=b4 from .inr (e2 ▸ HD.hi)));(try have ne:=hid (show¬b4=b3 from Nat.ne_of_gt (e2 ▸ N3.l)));clear e1 e2)
  all_goals (try replace HD:=hid (HD.below hB))
  all_goals (try replace N3:=hid (N3.below hB))
  all_goals (try replace N4:=hid (N4.below hB))
  all_goals clear hB
  all_goals (try go_wp2_with fail)
  all_goals refine hK _ _ hS (λ aa=>?_)
  all_goals clear hK K
  all_goals (try simp only [zP])
 all_goals
  obtain ⟨⟨e0,e1⟩,e2,e3⟩:=yyu ne N4 (Xf (.func g) #[] cap);obtain ⟨g0,g1,-,g3⟩:=N3.out;have ak:=aa;refine zzK 6 (λ K hK=>?_);go_simp;(try go_wp2_with fail);refine hK _ _ (LaS.set aa g3) (λ aa=>?_);clear hK K;refine zzK 7 (λ K hK=>?_);go_simp;(try go_wp2_with fail);refine hK _ _ (LaS.set (LaS.set aa N4.g) N4.g) (λ aa=>?_);clear hK K;refine Yt zk ?_ _;have HH:=hid (yyi ne g0 N4.c.1 N4.c.2 N3.l N4.l g3 N4.g ak HD.d HD.hi HD.lo o3 o4);go_wp2_with fail
  refine zm (cY _) ?_;rintro w5 hB;have H5:=hid (HH.below hB);clear hB HH HD N3 N4 e0 e1 e2 e3 aa ak g0 g1 g3 ne o3 o4;go_wp2;go_ret;exact ⟨⟨_,rfl,(H5.fin _ _).1⟩,(H5.fin _ _).2⟩
end
section
variable {P:Program} {e k t:TypeId} {x:Value} {w:World}
structure yjD (P:Program) (k:TypeId) (K:Value->Prop) (w:World):Prop where
 check:∀(em:Bool) (v:Value),K v->(Instr.checkKey em 10000 k v).run P w= .ok () w
 find:∀(x:Value),K x->∀es:List MapEntry,(∀e∈es,K e.key)->
  (Instr.findKey k x es).run P w= .ok N w\/ ∃j e,(Instr.findKey k x es).run P w= .ok (G (j,e.val)) w/\es[j]? =G e/\e.key=x
 stays:∀(v:Value),K v->(Instr.keyThatStays v v).run P w= .ok v w
theorem yjD.of (K:Keyed P k) (w:World):yjD P k (λ v=>∃l,keyOf P k v=G l) w where
 check:=λ em v ⟨l,h⟩=>K.check w em h
 find:=λ x ⟨l,h⟩ es he=>by
  rcases K.find w h es he with ⟨h1,-⟩ | h1
  ·exact .inl h1
  ·exact .inr h1
 stays:=λ v ⟨l,h⟩=>K.stays w h
theorem yjD.sub {K K':Value->Prop} (h:yjD P k K w) (hs:∀v,K' v->K v):yjD P k K' w:=
 ⟨λ em v hv=>h.check em v (hs v hv),λ x hx es he=>h.find x (hs x hx) es (λ e hm=>hs _ (he e hm)),λ v hv=>h.stays v (hs v hv)⟩
theorem yjD.ask {K:Value->Prop} {d:TypeDesc} (hd:P.underlying k=G d) (hn:∀x y,K x->K y->Instr.sameNow d x y=N)
  (hc:∀(em:Bool) (v:Value),K v->(Instr.checkKey em 10000 k v).run P w= .ok () w) (he:∀x y,K x->K y->∃r,(Op.equal k x y).run P w= .ok r w/\(r=true->y=x)) (hs:∀v,K v->Instr.sameBits 10000 v v=true):yjD P k K w where
 check:=hc
 find:=λ x hx es ac=>by
  have ask:∀(l:List MapEntry) (i:Nat),(∀e∈l,K e.key)->(Instr.findAsking k x l i).run P w= .ok N w\/ ∃j e,(Instr.findAsking k x l i).run P w= .ok (G (i+j,e.val)) w/\l[j]? =G e/\e.key=x:=by
   intro l;induction l with
   | nil=>intro i _;exact .inl rfl
   | cons e l ih=>
     intro i hl;obtain ⟨r,h1,h2⟩:=he x e.key hx (hl e zs);cases r
     ·rcases ih (i+1) (λ e' ai=>hl e' (by simp [ai])) with h3 | ⟨j,e',h3,h4,h5⟩
      ·exact .inl (by simp [Instr.findAsking,h1,h3])
      ·exact .inr ⟨j+1,e',by simp [Instr.findAsking,h1,h3];omega,by simpa using h4,h5⟩
     ·exact .inr ⟨0,e,by simp [Instr.findAsking,h1],rfl,h2 rfl⟩
  cases es with
  | nil=>exact .inl (by simp [Instr.findKey,run_underlying hd,Instr.findNow])
  | cons e es=>
    have h0:Instr.findNow d x (e::es) 0=N:=(by simp [Instr.findNow,hn x e.key hx (ac e zs)]);have h1:(Instr.findKey k x (e::es)).run P w= (Instr.findAsking k x (e::es) 0).run P w:=(by simp [Instr.findKey,run_underlying hd,h0]);rw [h1];rcases ask (e::es) 0 ac with h | ⟨j,e',h2,h3,h4⟩
    ·exact .inl h
    ·exact .inr ⟨j,e',by simpa using h2,h3,h4⟩
 stays:=λ v hv=>by simp [Instr.keyThatStays,hs v hv]
def MapS (K:Value->Prop) (Gq:Value->Value->Prop) (W:World) (b n:Nat):Prop:=
 ∃es aa,W.heap[b]? =G (.map es aa)/\es.size<=n/\∀e∈es.toList,K e.key/\Gq e.key e.val
section
variable {K:Value->Prop} {Gq:Value->Value->Prop} {P:Program} {k:TypeId} {w:World} {b n:Nat}
theorem MapS.lt (h:MapS K Gq w b n):b<w.heap.size:=by
 obtain ⟨es,aa,hb,_⟩:=h;exact (YZ.1 hb).1
theorem MapS.made (w:World) (K:Value->Prop) (Gq:Value->Value->Prop):MapS K Gq (w.alloc (.map #[] 0)) w.heap.size 0:=
 ⟨#[],0,(MapKept.heap_alloc w _).1,zG _,λ e he=>by simp at he⟩
theorem MapS.keep {w':World} (h:MapS K Gq w b n) (hb:w'.heap[b]? =w.heap[b]?):MapS K Gq w' b n:=by
 obtain ⟨es,aa,h1,h2,h3⟩:=h;exact ⟨es,aa,hb.trans h1,h2,h3⟩
theorem MapS.mono {K':Value->Prop} {G':Value->Value->Prop} {n':Nat} (h:MapS K Gq w b n) (hn:n<=n') (hK:∀x,K x->K' x) (hG:∀x v,Gq x v->G' x v):MapS K' G' w b n':=by
 obtain ⟨es,aa,h1,h2,h3⟩:=h;exact ⟨es,aa,h1,zI h2 hn,λ e he=>⟨hK _ (h3 e he).1,hG _ _ (h3 e he).2⟩⟩
theorem MapS.lookup (h:MapS K Gq w b n) (Tq:yjD P k K w) (ht:P.underlying t=G (.map k e)) {z:Value} (hz:(zeroValue e).run P w= .ok z w) (c:Bool) (hx:K x) :
  (Instr.lookup t (.map (G b)) x c).run P w= .ok (if c then Xt #[z,Xb false] else z) w\/
  ∃v,Gq x v/\(Instr.lookup t (.map (G b)) x c).run P w= .ok (if c then Xt #[v,Xb true] else v) w:=by
 obtain ⟨es,aa,h1,h2,h3⟩:=h;rcases Tq.find x hx es.toList (λ e he=>(h3 e he).1) with g1 | ⟨j,e0,g1,g2,g3⟩
 ·exact .inl (by simp [Instr.lookup,run_underlying ht,MapKept.run_getObj_map h1,Tq.check _ x hx,g1,hz,Result.andThen])
 ·refine .inr ⟨e0.val,?_,by simp [Instr.lookup,run_underlying ht,MapKept.run_getObj_map h1,Tq.check _ x hx,g1,Result.andThen]⟩;have:=(h3 e0 (YN g2)).2;rwa [g3] at this
theorem yck {es ak:Array MapEntry} {aa ab:Nat} (hb:w.heap[b]? =G (.map es aa)):w.grownBy (Go.ChangeMaps.setBlock w b (.map ak ab)) (G b):=
 ⟨rfl,rfl,rfl,by simp [Go.ChangeMaps.setBlock],λ i hi hn=>Go.ChangeMaps.heap_setBlock_other hb _ (λ e=>hn (by rw [e]))⟩
theorem MapS.update (h:MapS K Gq w b n) (Tq:yjD P k K w) (ht:P.underlying t=G (.map k e)) {v:Value} (hx:K x) (hv:Gq x v) :
  ∃w',(Instr.mapUpdate t (.map (G b)) x v).run P w= .ok () w'/\MapS K Gq w' b (n+1)/\w.grownBy w' (G b):=by
 obtain ⟨es,aa,h1,h2,h3⟩:=h;rcases Tq.find x hx es.toList (λ e he=>(h3 e he).1) with g1 | ⟨j,e0,g1,g2,g3⟩
 ·refine ⟨Go.ChangeMaps.setBlock w b (.map (es.push ⟨x,v,aa⟩) (aa+1)),by simp [Instr.mapUpdate,run_underlying ht,MapKept.run_getObj_map h1,Tq.check false x hx,g1,MapKept.run_setObj_map _ h1,Result.andThen,Go.ChangeMaps.setBlock],⟨_,_,Go.ChangeMaps.heap_setBlock_same h1 _,by simp;omega,?_⟩,yck h1⟩;intro e he;rw [Array.toList_push,YC,Yy] at he;rcases he with he | rfl
  ·exact h3 e he
  ·exact ⟨hx,hv⟩
 ·have hj:es[j]? =G e0:=by rw [<- g2,Array.getElem?_toList]
  have ah:((es[j]?).map (·.key)).getD x=x:=by rw [hj];exact g3
  refine ⟨Go.ChangeMaps.setBlock w b (.map (es.modify j λ e=>{e with key:=x,val:=v}) aa),by simp [Instr.mapUpdate,run_underlying ht,MapKept.run_getObj_map h1,Tq.check false x hx,g1,hj,g3,Tq.stays x hx,MapKept.run_setObj_map _ h1,Result.andThen,Go.ChangeMaps.setBlock],⟨_,_,Go.ChangeMaps.heap_setBlock_same h1 _,by simp;omega,?_⟩,yck h1⟩;intro e he;rw [Array.toList_modify] at he;obtain ⟨i,hi⟩:=List.getElem?_of_mem he;rw [List.getElem?_modify] at hi;cases ac:es.toList[i]? with
  | none=>rw [ac] at hi;simp at hi
  | some a=>
    rw [ac] at hi;have ha:=h3 a (YN ac);by_cases af:j=i
    ·simp [af] at hi;rw [<- hi];exact ⟨hx,hv⟩
    ·simp [af] at hi;rw [<- hi];exact ha
theorem MapS.count (h:MapS K Gq w b n) (ht:P.underlying t=G (.map k e)) (ty:TypeId) :
  ∃m:Nat,m<=n/\MapS K Gq w b m/\(Builtin.len_ #[t] ty #[.map (G b)]).run P w= .ok (E T m) w:=by
 obtain ⟨es,aa,h1,h2,h3⟩:=h;exact ⟨es.size,h2,⟨es,aa,h1,zG _,h3⟩,by simp [Builtin.len_,run_underlying ht,MapKept.run_getObj_map h1,Result.andThen,goInt]⟩
theorem MapS.clear (h:MapS K Gq w b n) (ht:P.underlying t=G (.map k e)) (ty:TypeId) :
  ∃w',(Builtin.clear_ #[t] ty #[.map (G b)]).run P w= .ok (Xt #[]) w'/\MapS K Gq w' b 0/\w.grownBy w' (G b):=by
 obtain ⟨es,aa,h1,h2,h3⟩:=h;exact ⟨Go.ChangeMaps.setBlock w b (.map #[] aa),by simp [Builtin.clear_,run_underlying ht,MapKept.run_getObj_map h1,MapKept.run_setObj_map _ h1,Result.andThen,Go.ChangeMaps.setBlock],
  ⟨#[],aa,Go.ChangeMaps.heap_setBlock_same h1 _,zG _,λ e he=>by simp at he⟩,yck h1⟩
theorem ybU {ae:Array Oper} {rest:List Oper} {o:Oper} {a:Act} {Qq:Exit->Act->World->Prop} (m:Operand) (hg:o.guard=N) (ag:o.op= .call {callee:= .builtin .clear,args:=#[m],argTypes:=#[t]})
  (ht:P.underlying t=G (.map k e)) (h:MapS K Gq w b n) (hm:a.eval m= .map (G b))
  (hK:∀w',MapS K Gq w' b 0->w.grownBy w' (G b)->wpList P ae Qq rest (a.put o.dst (Xt #[])) w') :
  wpList P ae Qq (o::rest) a w:=by
 refine wpList_plain hg λ K' aj=>?_;obtain ⟨w',ad,r1,r2⟩:=h.clear ht o.type;unfold Oper.wp execOp;simp only [ag,resolve,invoke,builtin,ZC,ZR,Zf,List.map_toArray,List.map_cons,ZS,hm,ad];exact aj _ _ (hK w' r1 r2)
end
end
theorem ylV:Tryz.prog.cellsOf 213=4:=by kernel_rfl
theorem yyx:Tryz.prog.keyTypeAt 3 213=true:=by kernel_rfl
theorem yrs (a:Bool) (f u p:Int):(stv a f u p).formed I 213=true:=by
 unfold Value.formed;simp only [Tryz.underlying213,ylV];rfl
theorem yiZ (d:Nat) (a:Bool) (f u p:Int) (hf:yaA f) (hu:yaA u) (hp:yaA p):Tryz.prog.keyLits (d+2) 213 [.bool a, .int T f, .int T u, .int T p]=G [.bool a, .int T f, .int T u, .int T p]:=by
 unfold Program.keyLits;simp only [Tryz.underlying213];simp [ynG,ygn,ylV,ylW,ynl,ynk,yq1,hf,hu,hp]
def yrw (x y:Value):Sem Value:=binOp .eql 213 x y
theorem ywS (x y:Value):binOp .eql 213 x y=yrw x y:=rfl
theorem yoO (a:Bool) (f u p:Int) (a':Bool) (f' u' p':Int) (w:World) (hf:yaA f) (hu:yaA u) (hp:yaA p) (ad:yaA f') (aa:yaA u') (ab:yaA p') :
  (yrw (stv a f u p) (stv a' f' u' p')).run I w= .ok (.bool (decide (a=a'/\f=f'/\u=u'/\p=p'))) w:=by
 rw [yrw,run_eql_struct];obtain ⟨r,hr,hi⟩:=run_equalIn_deep 9997 3 213 yyx w 3 3 _ _ _ _ (yrs a f u p) (yrs a' f' u' p') (yiZ 1 a f u p hf hu hp) (yiZ 1 a' f' u' p' ad aa ab);have e:r=decide (a=a'/\f=f'/\u=u'/\p=p'):=by
  rw [zze,hi,zzY];simp
 rw [hr,e];rfl
structure St1 where
 a:Bool
 f:Int
 u:Int
 p:Int
abbrev St1.v (s:St1):Value:=stv s.a s.f s.u s.p
abbrev St1.l (s:St1):List Value:= [.bool s.a, .int T s.f, .int T s.u, .int T s.p]
structure St1.Ok (s:St1):Prop where
 f:yaA s.f
 u:yaA s.u
 p:yaA s.p
def st0:St1:=⟨false,0,0,0⟩
theorem yxU:st0.Ok:=⟨⟨by decide,by decide⟩,⟨by decide,by decide⟩,⟨by decide,by decide⟩⟩
abbrev ye6 (x:Nat->St1):List Value:=
 [.bool (x 0).a, .int T (x 0).f, .int T (x 0).u, .int T (x 0).p, .bool (x 1).a, .int T (x 1).f, .int T (x 1).u, .int T (x 1).p,
  .bool (x 2).a, .int T (x 2).f, .int T (x 2).u, .int T (x 2).p, .bool (x 3).a, .int T (x 3).f, .int T (x 3).u, .int T (x 3).p,
  .bool (x 4).a, .int T (x 4).f, .int T (x 4).u, .int T (x 4).p, .bool (x 5).a, .int T (x 5).f, .int T (x 5).u, .int T (x 5).p,
  .bool (x 6).a, .int T (x 6).f, .int T (x 6).u, .int T (x 6).p, .bool (x 7).a, .int T (x 7).f, .int T (x 7).u, .int T (x 7).p]
abbrev yjO (x:Nat->St1):Value:= .agg (ye6 x).toArray
theorem yys:laidOutB I=true:=by kernel_rfl
theorem ytO:Keyed I 213:=Keyed.of_law (deep_law_laid yys (m:=3) zd (Y8 zk) yyx (by rw [Tryz.underlying213]))
theorem yyw:Tryz.prog.keyTypeAt 4 231=true:=by kernel_rfl
theorem keyedSt8:Keyed I 231:=Keyed.of_law (deep_law_laid yys (m:=4) zd (Y8 zk) yyw (by rw [Tryz.underlying231]))
theorem yvg:∃d,Tryz.prog.types.size+1=d+4:=⟨Tryz.prog.types.size-3,by have h:4<=Tryz.prog.types.size:=Y8 zk;omega⟩
theorem yoC:Tryz.prog.keyType 213=true:=by kernel_rfl
theorem yoB:Tryz.prog.keyType 231=true:=by kernel_rfl
theorem ynE:Tryz.prog.cellsOf 231=32:=by kernel_rfl
theorem ywP (x:Nat->St1):(yjO x).formed I 231=true:=by
 unfold Value.formed;simp only [Tryz.underlying231,ynE];rfl
theorem ywH (s:St1) (h:s.Ok):∃l,keyOf I 213 s.v=G l:=by
 obtain ⟨d,hd⟩:=yvg;refine ⟨.string (keyBytes [.bool s.a, .int T s.f, .int T s.u, .int T s.p]),?_⟩;unfold keyOf;simp only [Tryz.underlying213];rw [Yd (by rw [yoC,yrs];rfl),hd];have:=yiZ (d+2) s.a s.f s.u s.p h.f h.u h.p;simp [Value.cells,this]
theorem yrb (x:Nat->St1) (h:∀i,i<8->(x i).Ok):∃l,keyOf I 231 (yjO x)=G l:=by
 obtain ⟨d,hd⟩:=yvg;have hl:∀i,i<8->Tryz.prog.keyLits (d+3) 213 [.bool (x i).a, .int T (x i).f, .int T (x i).u, .int T (x i).p]=G [.bool (x i).a, .int T (x i).f, .int T (x i).u, .int T (x i).p]:=
  λ i hi=>yiZ (d+1) (x i).a (x i).f (x i).u (x i).p (h i hi).f (h i hi).u (h i hi).p
 have hk:∃ls,Tryz.prog.keyLits (d+4) 231 (ye6 x)=G ls:=by
  unfold Program.keyLits;simp only [Tryz.underlying231];simp [ylV,ynE,hl 0 zo,hl 1 zo,hl 2 zo,hl 3 zo,hl 4 zo,hl 5 zo,hl 6 zo,hl 7 zo,List.range_succ]
 obtain ⟨ls,ac⟩:=hk;refine ⟨.string (keyBytes ls),?_⟩;unfold keyOf;simp only [Tryz.underlying231];rw [Yd (by rw [yoB,ywP];rfl),hd];simp [Value.cells,ac]
section
attribute [local go_sem ↓] yaz
theorem ysv (c:Cl) (w:World) (hc:c.Ok):H I 104 #[clv c] w λ e w'=>e=Q (Xb (!yb2 c))/\Bw w w':=by
 have cM:=hid (λ W=>yfD c W hc);obtain ⟨W0,aj⟩:=zx (w.alloc (J (yae c).toArray 59));have b0:Bw w W0:=by rw [<- aj];exact yaa (Ye _ _) zg
 have c0:ClB W0 w.heap.size c:=by rw [<- aj];exact yeo w c _
 have aA:=hid b0;have aF:=hid aj;have l0:=c0.ld;generalize hm:yb2 c=m at cM⊢
 clear hm b0 c0 aj;go_enter Tryz.func104,Tryz.ntmps104
 go_upto_region 1 with fail
 rw [aF.out];go_wp2_with fail
 refine zm (cM.out _) ?_;rintro w1 aa;have ab:=hid (zu aA.out aa);clear aa l0;go_wp2;go_ret;exact ⟨rfl,ab.out⟩
def yz5 (p:Cl->Bool) (l:List Cl) (e:Ending):Prop:=∃r:Int,e=Q (E T r)/\decide (0<=r)=l.any p
theorem yph (a:Option Addr) (cap:Nat) (l:List Cl) (w:World) (hl:l.length<=9223372036854775807) (hs:Sl w a (cls l)) (ac:∀c∈l,c.Ok) :
  H I 153 #[Xs a l.length cap,Xf (.func 104) #[] #[]] w λ e w'=>yz5 (λ c=>!yb2 c) l e/\Bw w w':=by
 have Hs:=hid hs;have aD:=hid ac;clear hs ac;go_enter Tryz.func153,Tryz.ntmps153
 go_wp2;go_loopw [8] (λ i wr=>∃k:Nat,i=E T k/\k<=l.length/\Hid ((l.take k).any (λ c=>!yb2 c)=false)/\Hid (Bw w wr)) (λ i _=>l.length-(intOf i).toNat)
 case atStart=>exact ⟨0,rfl,by omega,by show _ = _;rfl,Ye _ _⟩
 case round=>
  obtain ⟨k,rfl,hk,ae,HB⟩:=hrel;by_cases hlt:k<l.length
  ·have ao:(k:Int)<l.length:=zo;obtain ⟨b,off,rfl,aB,hr⟩:=Hs.out.atCl hlt;have al:=ybK hr HB.out aB;have ai:=hid (aD.out _ (zzr hlt));have ts:=hid (yal l k hlt);have ah:=hid (zzr hlt);obtain ⟨c,hc⟩:=zx (l[k]);rw [hc] at al ai ts ah;have le:=ylE al;have cP:=hid (ysv c wr ai.out);obtain ⟨v,hv⟩:=zx ((!yb2 c));rw [hv] at cP;have Hv:=hid hv;clear hr al hc hv;go_wp2_with fail
   refine zm cP.out ?_;rintro w1 aa;have ab:=hid (zu HB.out aa);clear aa le;cases v
   ·go_wp2;exact ⟨⟨k+1,by go_num,by omega,by show _ = _;rw [ts.out,List.any_append,ae.out,List.any_cons,Hv.out];rfl,ab⟩,by simp [intOf];omega⟩
   ·have ak:Hid (yz5 (λ c=>!yb2 c) l (Q (E T (k:Int)))):=⟨k,rfl,by rw [zzZ zo];exact (Yk.2 ⟨c,ah.out,Hv.out⟩).symm⟩;go_wp2;go_ret;exact ⟨ak.out,ab.out⟩
  ·have ao:¬(k:Int)<l.length:=zo;have aq:Hid (yz5 (λ c=>!yb2 c) l (Q (E T (-1)))):=⟨-1,rfl,by rw [zzd zo,<- ae.out,YU zo]⟩;go_wp2;go_ret;exact ⟨aq.out,HB.out⟩
theorem ypo (a:Option Addr) (cap:Nat) (l:List Cl) (w:World) (hl:l.length<=9223372036854775807) (hs:Sl w a (cls l)) (ac:∀c∈l,c.Ok) :
  H I 103 #[Xs a l.length cap,Xf (.func 104) #[] #[]] w λ e w'=>e=Q (Xb (l.any (λ c=>!yb2 c)))/\Bw w w':=by
 have cI:=hid (yph a cap l w hl hs ac);obtain ⟨v,hv⟩:=zx (l.any (λ c=>!yb2 c));have aC:Hid (H I 153 #[Xs a l.length cap,Xf (.func 104) #[] #[]] w λ e w'=>(∃r:Int,e=Q (E T r)/\decide (0<=r)=v)/\Bw w w'):=cI.out.mono λ e w' ⟨h,hb⟩=>⟨by rw [<- hv];exact h,hb⟩;rw [hv];clear hv cI hs ac;go_enter Tryz.func103,Tryz.ntmps103
 go_wp2_with fail
 refine aC.out.mono ?_;rintro e w1 ⟨⟨r,rfl,hr⟩,aa⟩;have ab:=hid aa;have Hr:=hid hr;clear aa hr;go_wp2;go_ret;exact ⟨ycq Hr.out,ab.out⟩
def yhV (l:List Cl):Bool:=decide (l.length<=8)&&l.all yb2
theorem yxj (l:List Cl):(!l.any (λ c=>!yb2 c))=l.all yb2:=by
 induction l with
 | nil=>rfl
 | cons c l ih=>rw [List.any_cons,List.all_cons,<- ih];cases yb2 c <;> simp
theorem yu1 (a:Option Addr) (cap:Nat) (l:List Cl) (w:World) (hl:l.length<=9223372036854775807) (hs:Sl w a (cls l)) (ac:∀c∈l,c.Ok) :
  H I 47 #[Xs a l.length cap] w λ e w'=>e=Q (Xb (yhV l))/\Bw w w':=by
 rw [yhV,<- yxj];have cC:=hid (ypo a cap l w hl hs ac);generalize hv:l.any (λ c=>!yb2 c)=v at cC⊢
 clear hv hs ac;by_cases h8:l.length<=8
 ·rw [zzZ h8,zzo];have af:(l.length:Int)<=8:=zo;have ar:decide ((l.length:Int)<=8)=true:=zzZ af;go_enter Tryz.func47,Tryz.ntmps47
  go_wp2_with fail
  refine zm cC.out ?_;rintro w1 aa;have ab:=hid aa;clear aa;go_wp2;go_ret;exact ⟨rfl,ab.out⟩
 ·rw [zzd h8,Yv];have af:¬(l.length:Int)<=8:=zo;have ar:decide ((l.length:Int)<=8)=false:=zzd af;go_enter Tryz.func47,Tryz.ntmps47
  go_wp2;go_ret;exact ⟨rfl,Ye _ _⟩
end
theorem yAw:El I 28 59 (.agg zL.toArray) 30 240:=⟨Tryz.underlying28,by kernel_rfl,by kernel_rfl,by decide⟩
theorem yxa (c:Cl):∀u∈yae c,u.oneCell' =true:=by
 intro u hu;simp only [yae,YF,ZF,or_false] at hu;rcases hu with rfl | rfl | rfl | rfl | rfl | rfl | rfl | rfl | rfl | rfl | rfl | rfl | rfl | rfl | rfl | rfl | rfl | rfl | rfl | rfl | rfl | rfl | rfl | rfl | rfl | rfl | rfl | rfl | rfl | rfl <;> rfl
theorem yut (l:List Cl):∀u∈cls l,u.oneCell' =true:=by
 intro u hu;rw [cls,Zi] at hu;obtain ⟨c,-,h⟩:=hu;exact yxa c u h
theorem ytU (w:World) (o:Obj):(w.alloc o).heap[w.heap.size]? =G o:=by
 show (w.heap.push o)[w.heap.size]? =G o;simp
theorem yoq {W:World} {base:Nat} (g:Nat) (h:W.heap[g]? =G (J #[] 59 (0,0))) (hb:base<=g):W.ownsRow base 59 30 (Xs (G (Z g 0 N)) 0 0) 0 []:=
 ⟨rfl, .inr ⟨g,0,#[],rfl,hb,h,zG _,by unfold maxLen;omega,rfl,rfl⟩⟩
def yvO (w w':World) (l:List Cl) (v:Value):Prop:=w'.ownsRow w.heap.size 59 30 v l.length (cls l)
theorem ysD (a:Option Addr) (cap:Nat) (l:List Cl) (w:World) (hl:l.length<=1000) (ap:l.length<=cap) (hs:Sl w a (cls l)) (ae:a=N->cap=0) :
  H I 48 #[Xs a l.length cap] w λ e w'=>(∃v,e=Q v/\yvO w w' l v)/\Bw w w':=by
 cases a with
 | none=>
   have hc:=ae rfl;have hn:l= []:=YB zo;subst hn;have hE:Hid (yvO w w [] (Xs N 0 0)):=ZA _ _ _ _;subst hc;clear hs ae ap hl;have am:=λ W=>Lib.run_eql_slice_nil (P:=I) W 28 59 N 0 0 0 0 Tryz.underlying28;go_enter Tryz.func48,Tryz.ntmps48
   go_wp2;go_ret;exact ⟨⟨_,rfl,hE.out⟩,Ye _ _⟩
 | some ad=>
   have Hs:=hid hs;have aE:=hid (yia l);have aw:=hid (yut l);clear hs ae;have am:=λ W=>Lib.run_eql_slice_nil (P:=I) W 28 59 (G ad) l.length cap 0 0 Tryz.underlying28;go_enter Tryz.func48,Tryz.ntmps48
   have an:=hid (yoq (base:=w.heap.size) w.heap.size (ytU w (J #[] 59)) zg);have ax:=hid (yaa (o:=J #[] 59) (Ye w.heap.size w) zg);go_wp2_with (at_builtin;refine yAi yAw (.tmp 5) (.tmp 6) rfl rfl rfl rfl an.out aE.out (Hs.out.below ax.out) (λ h=>by cases h) aw.out zo zo zs ?_)
   intro a1 au w1 h1 h2 h3 h4;have HO:Hid (yvO w w1 l (Xs a1 l.length au)):=by
    show World.ownsRow _ _ _ _ _ _ _;simpa using h1
   have HB:=hid (ax.out.trans h3);clear h1 h2 h3 h4;go_wp2;go_ret;exact ⟨⟨_,rfl,HO.out⟩,HB.out⟩
def yaf (l:List Cl):Int:=if 8<l.length then 5 else if l.all yb2 then 0 else 1
def yqq (l:List Cl):List Cl:=if yaf l=0 then l else []
theorem ycG (l:List Cl):yhV l=decide (yaf l=0):=by
 rw [yhV,yaf];by_cases h:8<l.length
 ·rw [Yd h,zzd zo];rfl
 ·rw [Yb h,zzZ (show l.length<=8 by omega),zzo];cases l.all yb2 <;> rfl
def OfR (w w':World) (l:List Cl) (e:Ending):Prop:=∃v,e=Q (Xt #[v,E T (yaf l)])/\yvO w w' (yqq l) v
theorem ysu (a:Option Addr) (cap:Nat) (l:List Cl) (w:World) (hl:l.length<=9223372036854775807) (ap:l.length<=cap) (hs:Sl w a (cls l)) (ae:a=N->cap=0) (ac:∀c∈l,c.Ok) :
  H I 19 #[Xs a l.length cap] w λ e w'=>OfR w w' l e/\Bw w w':=by
 have cM:=hid (yu1 a cap l w hl hs ac);have cC:=hid (λ W (hB:Bw w W) h=>ysD a cap l W h ap (hs.below hB) ae);have ag:=ycG l;by_cases h8:8<l.length
 ·have hf:yaf l=5:=Yd h8;have hE:Hid (OfR w w l (Q (Xt #[Xs N 0 0,E T 5]))):=⟨_,by rw [hf],by rw [yqq,hf];exact ZA _ _ _ _⟩;have af:(8:Int)<l.length:=zo;have ar:decide ((8:Int)<l.length)=true:=zzZ af;clear hf ag hs ac ae;go_enter Tryz.func19,Tryz.ntmps19
  go_wp2;go_ret2
  exact ⟨hE.out,Ye _ _⟩
 ·have af:¬(8:Int)<l.length:=zo;have ar:decide ((8:Int)<l.length)=false:=zzd af;cases hm:l.all yb2
  ·have hf:yaf l=1:=(by rw [yaf,Yb h8,hm];rfl);have hE:Hid (∀W,OfR w W l (Q (Xt #[Xs N 0 0,E T 1]))):=λ W=>⟨_,by rw [hf],by rw [yqq,hf];exact ZA _ _ _ _⟩;rw [ag,hf] at cM;clear hf ag hs ac ae hm;have av:Hid (H I 47 #[Xs a l.length cap] w λ e w'=>e=Q (Xb false)/\Bw w w'):=cM.out;go_enter Tryz.func19,Tryz.ntmps19
   go_wp2_with fail
   refine zm av.out ?_;rintro w1 aa;have ab:=hid aa;clear aa;go_wp2;go_ret2
   exact ⟨hE.out _,ab.out⟩
  ·have hf:yaf l=0:=(by rw [yaf,Yb h8,hm];rfl);have ho:yqq l=l:=(by rw [yqq,Yd hf]);have hE:Hid (∀W v,yvO w W l v->OfR w W l (Q (Xt #[v,E T 0]))):=λ W v h=>⟨v,by rw [hf],by rw [ho];exact h⟩;rw [ag,hf] at cM;clear hf ag hs ac ae hm ho;have av:Hid (H I 47 #[Xs a l.length cap] w λ e w'=>e=Q (Xb true)/\Bw w w'):=cM.out;go_enter Tryz.func19,Tryz.ntmps19
   go_wp2_with fail
   refine zm av.out ?_;rintro w1 aa;have ab:=hid aa;clear aa;go_wp2_with fail
   refine (cC.out _ ab.out zo).mono ?_;rintro e w2 ⟨⟨v,rfl,hO⟩,az⟩;have aG:=hid (zu ab.out az);have ay:yvO w w2 l v:=ydE hO ab.out.size;have HO:=hid (hE.out w2 v ay);clear az hO ay;go_wp2;go_ret2
   exact ⟨HO.out,aG.out⟩
theorem OfR.base {w w1 w':World} {l:List Cl} {e:Ending} (h:OfR w1 w' l e) (hs:w.heap.size<=w1.heap.size):OfR w w' l e:=by
 obtain ⟨v,h1,h2⟩:=h;exact ⟨v,h1,ydE h2 hs⟩
section
variable {c:Cl} {n:Int} {cs:List Cl} {cells:List Value} {q:Nat->Bool} {a:Option Addr} {key v:Value}
def stN (cs:List Cl) (n:Int) (i:Nat):St1:=if i<cs.length then ⟨ybq (atC cs i) n,sF (atC cs i) n,sU (atC cs i) n,sP (atC cs i) n⟩ else st0
def yfj (cs:List Cl) (x:Nat->St1) (k:Nat):Bool:=(List.range cs.length).any λ i=>yfZ (atC cs i) (x i).a (x i).f (x i).u (x i).p k
def ygt (cs:List Cl) (j k:Nat):Bool:=(List.range cs.length).any λ i=>j.testBit i&&yfZ (atC cs i) true 0 86399 0 k
def yfE (cs:List Cl) (n:Int):Bool:=(List.range cs.length).all λ i=>!ybq (atC cs i) n||decide (sF (atC cs i) n=0/\sU (atC cs i) n=86399/\sP (atC cs i) n=0)
theorem yrV (p:Cl->Bool):((List.range cs.length).any λ i=>p (atC cs i))=cs.any p:=by
 rw [zze,Yk,Yk];constructor
 ·rintro ⟨i,hi,h⟩;rw [YT] at hi;exact ⟨_,zzr hi,by rwa [yer hi] at h⟩
 ·rintro ⟨c,hc,h⟩;obtain ⟨i,hi,rfl⟩:=Zt hc;exact ⟨i,YT.2 hi,by rw [yer hi];exact h⟩
theorem ycM {n:Nat} {p:Nat->Bool} (h:∀i,i<n->p i=q i):(List.range n).any p= (List.range n).any q:=by
 rw [zze,Yk,Yk];constructor
 ·rintro ⟨i,hi,hp⟩;exact ⟨i,hi,by rw [<- h i (YT.1 hi)];exact hp⟩
 ·rintro ⟨i,hi,hp⟩;exact ⟨i,hi,by rw [h i (YT.1 hi)];exact hp⟩
theorem yeI (h0:0<=n) (h1:n<146097) {k:Nat} (hk:k<86400):yfj cs (stN cs n) k=yax cs n k:=by
 rw [yfj,yax,<- yrV];refine ycM λ i hi=>?_;rw [stN,Yd hi];exact yta (atC cs i) h0 h1 hk
theorem yxl (h8:cs.length<=8) {i:Nat} (hi:i<cs.length):(yid cs n).testBit i=ybq (atC cs i) n:=by
 rw [yid,yaW,zzZ zo,zzZ hi,zzo,zzo]
theorem yp7 (h:(!ybq c n||decide (sF c n=0/\sU c n=86399/\sP c n=0))=true) (k:Nat):yfZ c (ybq c n) (sF c n) (sU c n) (sP c n) k= (ybq c n&&yfZ c true 0 86399 0 k):=by
 cases hl:ybq c n
 ·rw [yfZ,Yv,Yv]
 ·rw [hl] at h;simp only [Bool.not_true,YR,zzY] at h;obtain ⟨e1,e2,e3⟩:=h;rw [e1,e2,e3,zzo]
theorem yfi (h8:cs.length<=8) (hw:yfE cs n=true) (k:Nat):yfj cs (stN cs n) k=ygt cs (yid cs n) k:=by
 rw [yfj,ygt];refine ycM λ i hi=>?_;rw [stN,Yd hi,yxl h8 hi];rw [yfE,List.all_eq_true] at hw;exact yp7 (hw i (YT.2 hi)) k
theorem yp1 (ab:∀c∈cs,c.Ok) (h0:0<=n) (h1:n<146097) (i:Nat):(stN cs n i).Ok:=by
 rw [stN];split
 ·rename_i hi;rw [yer hi];have hc:=ab _ (zzr hi);have z:yaA 0:=⟨by decide,by decide⟩;rw [sF,sU,sP];cases hl:ybq cs[i] n
  ·exact ⟨z,z,z⟩
  ·obtain ⟨hm,hB,-,g1,g2⟩:=yni hl;have ag:=yjj hB g1 g2;obtain ⟨-,hs,-,-⟩:=ydG hm;have h2:=hc.step.2;refine ⟨?_,?_,?_⟩
   ·show yaA (stF cs[i] n);rw [stF];exact ⟨by omega,by omega⟩
   ·show yaA (stU cs[i] n);rw [stU];exact ⟨by omega,by omega⟩
   ·show yaA (ydD cs[i] n);rw [ydD];split
    ·have e0:=ZM (ybh cs[i].unit cs[i].anchor-86400*n/yav cs[i].unit) (show cs[i].step≠0 by omega);have e1:=Int.emod_lt_of_pos (ybh cs[i].unit cs[i].anchor-86400*n/yav cs[i].unit) (show 0<cs[i].step by omega);exact ⟨by omega,by omega⟩
    ·exact z
 ·exact yxU
theorem yv2 {x y:Nat->St1} (h:yjO x=yjO y):∀i,i<8->x i=y i:=by
 have h:=congrArg (λ v=>match v with | .agg a=>a.toList | _=> []) h;simp [ye6] at h;obtain ⟨a0,a1,a2,a3,b0,b1,b2,b3,c0,c1,c2,c3,d0,d1,d2,d3,e0,e1,e2,e3,f0,f1,f2,f3,g0,g1,g2,g3,h0,h1,h2,h3⟩:=h;intro i hi;have ext:∀s t:St1,s.a=t.a->s.f=t.f->s.u=t.u->s.p=t.p->s=t:=λ s t p1 p2 p3 p4=>by cases s;cases t;simp at *;exact ⟨p1,p2,p3,p4⟩
 match i,hi with
 | 0,_=>exact ext _ _ a0 a1 a2 a3
 | 1,_=>exact ext _ _ b0 b1 b2 b3
 | 2,_=>exact ext _ _ c0 c1 c2 c3
 | 3,_=>exact ext _ _ d0 d1 d2 d3
 | 4,_=>exact ext _ _ e0 e1 e2 e3
 | 5,_=>exact ext _ _ f0 f1 f2 f3
 | 6,_=>exact ext _ _ g0 g1 g2 g3
 | 7,_=>exact ext _ _ h0 h1 h2 h3
 | n+8,hi=>omega
theorem yov {x y:Nat->St1} (h8:cs.length<=8) (h:∀i,i<8->x i=y i) (k:Nat):yfj cs x k=yfj cs y k:=by
 rw [yfj,yfj];exact ycM λ i hi=>by rw [h i zo]
theorem yv3 {s t:St1} (h:s.v=t.v):s=t:=by
 have h:=congrArg (λ v=>match v with | .agg a=>a.toList | _=> []) h;simp at h;cases s;cases t;simp at *;exact h
def RM (br bk:Nat) (bps:List Nat):Blk:=λ b=>b=br\/ b=bk\/ b∈bps
def DiF (W:World) (F M:Blk) (b:Nat) (q:Nat->Bool):Prop:=F b/\¬M b/\DiscAt W b q
def SlF (W:World) (F M:Blk) (a:Option Addr) (cells:List Value):Prop:=cells= []\/ ∃b off,a=G (Z b off N)/\F b/\¬M b/\b<W.heap.size/\∀j (h:j<cells.length),W.cell? (Z b (off+j) N)=G cells[j]
theorem SlF.sl {W:World} {F M:Blk} (h:SlF W F M a cells):Sl W a cells:=by
 rcases h with h | ⟨b,off,h1,-,-,h2,h3⟩
 ·exact .inl h
 ·exact .inr ⟨b,off,h1,h2,h3⟩
def K8 (v:Value):Prop:=∃x:Nat->St1,v=yjO x/\∀i,i<8->(x i).Ok
def K1 (v:Value):Prop:=∃s:St1,v=s.v/\s.Ok
theorem ylF (w:World):yjD I 231 K8 w:=(yjD.of keyedSt8 w).sub λ v ⟨x,h,ab⟩=>by rw [h];exact yrb x ab
theorem yyv (w:World):yjD I 213 K1 w:=(yjD.of ytO w).sub λ v ⟨s,h,ab⟩=>by rw [h];exact ywH s ab
def G8 (cs:List Cl) (W:World) (F M:Blk) (key v:Value):Prop:=∀x,key=yjO x->∃b,v=R (G (Z b 0 N))/\DiF W F M b (yfj cs x)
def G1 (c:Cl) (W:World) (F M:Blk) (key v:Value):Prop:=∀s:St1,key=s.v->∃b,v=R (G (Z b 0 N))/\DiF W F M b (yfZ c s.a s.f s.u s.p)
structure yuQ (W:World) (cs:List Cl) (br bk:Nat) (bps:List Nat) (F:Blk):Prop where
 ok:∀c∈cs,c.Ok
 may:yhV cs=true
 lt:∀b,F b->b<W.heap.size
 sub:∀b,RM br bk bps b->F b
 tab:Tab W/\F 0/\¬RM br bk bps 0
 apart:br≠bk/\br ∉ bps/\bk ∉ bps/\bps.Nodup
 len:bps.length=cs.length
 cls:∃a cap,W.cell? (Z br 0 N)=G (Xs a cs.length cap)/\SlF W F (RM br bk bps) a (cls cs)/\cs.length<=cap/\(a=N->cap=0)
 laps:∃a cap aa,W.cell? (Z br 1 N)=G (Xs a cs.length cap)/\SlF W F (RM br bk bps) a aa/\aa.length=cs.length/\∀i,i<cs.length->∃lo hi,LapV W lo hi (atC cs i) (aa.getD i undef)/\hi<=W.heap.size/\∀b,lo<=b->b<hi->F b/\¬RM br bk bps b
 known:W.cell? (Z br 2 N)=G (.map (G bk))
 parts:∃a cap,W.cell? (Z br 3 N)=G (Xs a cs.length cap)/\SlF W F (RM br bk bps) a (bps.map λ b=> .map (G b))
 fz:∀i,W.frozen? (Z br i N)=false
structure yar (W:World) (cs:List Cl) (br bk:Nat) (bps:List Nat) (F:Blk) (ws:Nat->Bool) (m:Nat):Prop where
 x:yuQ W cs br bk bps F
 known:MapS K8 (G8 cs W F (RM br bk bps)) W bk 256
 parts:∀i,i<cs.length->MapS K1 (G1 (atC cs i) W F (RM br bk bps)) W (bps.getD i 0) 256
 whole:∀j,j<256->∃d:Option Nat,W.cell? (Z br (4+j) N)=G (ybA d)/\d.isSome=ws j/\∀b,d=G b->DiF W F (RM br bk bps) b (ygt cs j)
 many:W.cell? (Z br 260 N)=G (E T (m:Nat))
section
variable {W W':World} {cs:List Cl} {br bk:Nat} {bps:List Nat} {F F' M:Blk} {ws:Nat->Bool} {m:Nat}
theorem DiF.eff {b:Nat} (h:DiF W F M b q) (hE:Eff M W W') (hF:∀b,F b->F' b):DiF W' F' M b q:=⟨hF b h.1,h.2.1,h.2.2.eff hE h.2.1⟩
theorem SlF.eff (h:SlF W F M a cells) (hE:Eff M W W') (hF:∀b,F b->F' b):SlF W' F' M a cells:=by
 rcases h with h | ⟨b,off,h1,h2,h3,h4,h5⟩
 ·exact .inl h
 ·exact .inr ⟨b,off,h1,hF b h2,h3,zH h4 hE.size,λ j hj=>(hE.cell (p:=Z b (off+j) N) h4 h3).trans (h5 j hj)⟩
theorem G8.eff (h:G8 cs W F M key v) (hE:Eff M W W') (hF:∀b,F b->F' b):G8 cs W' F' M key v:=λ x hx=>by
 obtain ⟨b,h1,h2⟩:=h x hx;exact ⟨b,h1,h2.eff hE hF⟩
theorem G1.eff (h:G1 c W F M key v) (hE:Eff M W W') (hF:∀b,F b->F' b):G1 c W' F' M key v:=λ x hx=>by
 obtain ⟨b,h1,h2⟩:=h x hx;exact ⟨b,h1,h2.eff hE hF⟩
theorem yuQ.eff (h:yuQ W cs br bk bps F) (hE:Eff (RM br bk bps) W W') (hF:∀b,F b->F' b) (hlt:∀b,F' b->b<W'.heap.size)
  (hc:∀i,i<4->W'.cell? (Z br i N)=W.cell? (Z br i N)) (hf:∀i,W'.frozen? (Z br i N)=W.frozen? (Z br i N)):yuQ W' cs br bk bps F':=by
 obtain ⟨a0,c0,k0,s0,t0,t1⟩:=h.cls;obtain ⟨a1,c1,aa,k1,s1,l1,v1⟩:=h.laps;obtain ⟨a3,c3,k3,s3⟩:=h.parts;exact ⟨h.ok,h.may,hlt,λ b hb=>hF b (h.sub b hb),⟨h.tab.1.eff hE h.tab.2.2,hF _ h.tab.2.1,h.tab.2.2⟩,h.apart,h.len,⟨a0,c0,(hc 0 zo).trans k0,s0.eff hE hF,t0,t1⟩,
  ⟨a1,c1,aa,(hc 1 zo).trans k1,s1.eff hE hF,l1,λ i hi=>by
   obtain ⟨lo,ad,hv,hs,hb⟩:=v1 i hi;exact ⟨lo,ad,hv.keep (zI hs hE.size) (λ b g1 g2=>hE.block b zo (hb b g1 g2).2),zI hs hE.size,λ b g1 g2=>⟨hF b (hb b g1 g2).1,(hb b g1 g2).2⟩⟩⟩,
  (hc 2 zo).trans h.known,⟨a3,c3,(hc 3 zo).trans k3,s3.eff hE hF⟩,λ i=>(hf i).trans (h.fz i)⟩
theorem yar.rlt (h:yar W cs br bk bps F ws m):br<W.heap.size:=h.x.lt br (h.x.sub br (.inl rfl))
theorem yar.keep (h:yar W cs br bk bps F ws m) (hs:W.heap.size<=W'.heap.size) (hb:∀b,F b->W'.heap[b]? =W.heap[b]?):yar W' cs br bk bps F ws m:=by
 have af:=hb br (h.x.sub br (.inl rfl));have cb:∀i,W'.cell? (Z br i N)=W.cell? (Z br i N):=λ i=>zzJ (w:=W) (a:=Z br i N) af;have fb:∀i,W'.frozen? (Z br i N)=W.frozen? (Z br i N):=λ i=>zzM (w:=W) (a:=Z br i N) af;have sl:∀a cells,SlF W F (RM br bk bps) a cells->SlF W' F (RM br bk bps) a cells:=λ a cells h=>by
  rcases h with h | ⟨b,off,h1,h2,h3,h4,h5⟩
  ·exact .inl h
  ·exact .inr ⟨b,off,h1,h2,h3,zH h4 hs,λ j hj=>(zzJ (w:=W) (a:=Z b (off+j) N) (hb b h2)).trans (h5 j hj)⟩
 have di:∀b q,DiF W F (RM br bk bps) b q->DiF W' F (RM br bk bps) b q:=λ b q h=>⟨h.1,h.2.1,h.2.2.block hs (hb b h.1)⟩;obtain ⟨a0,c0,k0,s0,t0,t1⟩:=h.x.cls;obtain ⟨a1,c1,aa,k1,s1,l1,v1⟩:=h.x.laps;obtain ⟨a3,c3,k3,s3⟩:=h.x.parts;refine ⟨⟨h.x.ok,h.x.may,λ b hF=>zH (h.x.lt b hF) hs,h.x.sub,⟨⟨zH h.x.tab.1.1 hs,λ i hi=>(zzJ (w:=W) (a:=⟨0,i,N⟩) (hb _ h.x.tab.2.1)).trans (h.x.tab.1.2 i hi)⟩,h.x.tab.2⟩,h.x.apart,h.x.len,
  ⟨a0,c0,(cb 0).trans k0,sl _ _ s0,t0,t1⟩,⟨a1,c1,aa,(cb 1).trans k1,sl _ _ s1,l1,λ i hi=>by
   obtain ⟨lo,ad,hv,ae,ac⟩:=v1 i hi;exact ⟨lo,ad,hv.keep (zI ae hs) (λ b g1 g2=>hb b (ac b g1 g2).1),zI ae hs,ac⟩⟩,(cb 2).trans h.x.known,⟨a3,c3,(cb 3).trans k3,sl _ _ s3⟩,λ i=>(fb i).trans (h.x.fz i)⟩,
  (h.known.keep (hb bk (h.x.sub bk (.inr (.inl rfl))))).mono zg zi (λ key v g x hx=>by obtain ⟨b,g1,g2⟩:=g x hx;exact ⟨b,g1,di _ _ g2⟩),
  λ i hi=>((h.parts i hi).keep (hb _ (h.x.sub _ (.inr (.inr ?_))))).mono zg zi (λ key v g x hx=>by obtain ⟨b,g1,g2⟩:=g x hx;exact ⟨b,g1,di _ _ g2⟩),
  λ j hj=>by obtain ⟨d,g1,g2,g3⟩:=h.whole j hj;exact ⟨d,(cb _).trans g1,g2,λ b ac=>di _ _ (g3 b ac)⟩,(cb 260).trans h.many⟩
 rw [Yz,zzp (by rw [h.x.len];exact hi)];exact zzr _
theorem yar.below (h:yar W cs br bk bps F ws m) (hb:Bw W W'):yar W' cs br bk bps F ws m:=h.keep hb.size (λ b hF=>hb.block b (h.x.lt b hF))
theorem yar.wide (h:yar W cs br bk bps F ws m) (hF:∀b,F b->F' b) (hlt:∀b,F' b->b<W.heap.size):yar W cs br bk bps F' ws m:=by
 have hE:=Eff.refl (RM br bk bps) W;exact ⟨h.x.eff hE hF hlt (λ _ _=>rfl) (λ _=>rfl),h.known.mono zg zi (λ _ _ g=>g.eff hE hF),λ i hi=>(h.parts i hi).mono zg zi (λ _ _ g=>g.eff hE hF),
  λ j hj=>by obtain ⟨d,g1,g2,g3⟩:=h.whole j hj;exact ⟨d,g1,g2,λ b hb=>(g3 b hb).eff hE hF⟩,h.many⟩
end
end
section
variable {b i j:Nat}
section
variable {W W':World} {cs:List Cl} {br bk:Nat} {bps:List Nat} {F:Blk} {ws:Nat->Bool} {m:Nat}
theorem Eff.of_grown {M:Blk} (hg:W.grownBy W' (G b)) (hM:M b):Eff M W W':=
 ⟨hg.os,hg.tape,hg.output,hg.size,λ k hk hn=>hg.block k hk (λ e=>hn (by cases e;exact hM))⟩
theorem yeq (hi:i<bps.length):bps.getD i 0∈bps:=by
 rw [Yz,zzp hi];exact zzr hi
theorem yy0 (hn:bps.Nodup) (hi:i<bps.length) (hj:j<bps.length) (h:j≠i):bps.getD j 0≠bps.getD i 0:=by
 rw [Yz,Yz,zzp hi,zzp hj];exact λ e=>h ((List.getElem_inj hn).1 e)
theorem yar.mem (h:yar W cs br bk bps F ws m) (hi:i<cs.length):RM br bk bps (bps.getD i 0):= .inr (.inr (yeq (by rw [h.x.len];exact hi)))
theorem yar.turn (h:yar W cs br bk bps F ws m) (hE:Eff (RM br bk bps) W W') (ae:W'.heap[br]? =W.heap[br]?) (hK:MapS K8 (G8 cs W' F (RM br bk bps)) W' bk 256)
  (hP:∀i,i<cs.length->MapS K1 (G1 (atC cs i) W' F (RM br bk bps)) W' (bps.getD i 0) 256):yar W' cs br bk bps F ws m:=by
 have cb:∀i,W'.cell? (Z br i N)=W.cell? (Z br i N):=λ i=>zzJ (w:=W) (a:=Z br i N) ae;have fb:∀i,W'.frozen? (Z br i N)=W.frozen? (Z br i N):=λ i=>zzM (w:=W) (a:=Z br i N) ae;exact ⟨h.x.eff hE zi (λ b hb=>zH (h.x.lt b hb) hE.size) (λ i _=>cb i) fb,hK,hP,
  λ j hj=>by obtain ⟨d,g1,g2,g3⟩:=h.whole j hj;exact ⟨d,(cb _).trans g1,g2,λ b hb=>(g3 b hb).eff hE zi⟩,(cb 260).trans h.many⟩
theorem yar.mapPart (h:yar W cs br bk bps F ws m) (hi:i<cs.length) (hg:W.grownBy W' (G (bps.getD i 0))) (hM:MapS K1 (G1 (atC cs i) W F (RM br bk bps)) W' (bps.getD i 0) 256):yar W' cs br bk bps F ws m:=by
 have hm:=h.mem hi;have hE:=Eff.of_grown hg hm;have hl:∀{k},k<cs.length->k<bps.length:=λ hk=>by rw [h.x.len];exact hk
 obtain ⟨a1,a2,a3,a4⟩:=h.x.apart;have hb:=yeq (hl hi);have e1:=hg.block br h.rlt (λ e=>a2 (by rw [Option.some.inj e];exact hb));have e2:=hg.block bk h.known.lt (λ e=>a3 (by rw [Option.some.inj e];exact hb));refine h.turn hE e1 ((h.known.keep e2).mono zg zi (λ _ _ g=>g.eff hE zi)) (λ j hj=>?_);by_cases ad:j=i
 ·subst ad;exact hM.mono zg zi (λ _ _ g=>g.eff hE zi)
 ·exact ((h.parts j hj).keep (hg.block _ (h.parts j hj).lt (λ e=>yy0 a4 (hl hi) (hl hj) ad (Option.some.inj e)))).mono zg zi (λ _ _ g=>g.eff hE zi)
theorem yar.mapKnown (h:yar W cs br bk bps F ws m) (hg:W.grownBy W' (G bk)) (hM:MapS K8 (G8 cs W F (RM br bk bps)) W' bk 256):yar W' cs br bk bps F ws m:=by
 have hE:=Eff.of_grown (M:=RM br bk bps) hg (.inr (.inl rfl));obtain ⟨a1,a2,a3,a4⟩:=h.x.apart;refine h.turn hE (hg.block br h.rlt (λ e=>a1 (Option.some.inj e))) (hM.mono zg zi (λ _ _ g=>g.eff hE zi)) (λ j hj=>?_);exact ((h.parts j hj).keep (hg.block _ (h.parts j hj).lt (λ e=>a3 (by rw [<- Option.some.inj e];exact yeq (by rw [h.x.len];exact hj))))).mono zg zi (λ _ _ g=>g.eff hE zi)
theorem yar.cells {ac:Nat->Bool} {m':Nat} (h:yar W cs br bk bps F ws m) (hE:Eff (λ b=>b=br) W W') (hc:∀i,i<4->W'.cell? (Z br i N)=W.cell? (Z br i N)) (hf:∀i,W'.frozen? (Z br i N)=W.frozen? (Z br i N))
  (hw:∀j,j<256->∃d:Option Nat,W'.cell? (Z br (4+j) N)=G (ybA d)/\d.isSome=ac j/\∀b,d=G b->DiF W F (RM br bk bps) b (ygt cs j)) (hm:W'.cell? (Z br 260 N)=G (E T (m':Nat))):yar W' cs br bk bps F ac m':=by
 have ab:Eff (RM br bk bps) W W':=hE.wide λ b hb=> .inl hb;obtain ⟨a1,a2,a3,a4⟩:=h.x.apart;have aa:∀b,F b->F b:=λ _ h=>h;exact ⟨h.x.eff ab aa (λ b hb=>zH (h.x.lt b hb) hE.size) hc hf,(h.known.keep (hE.block bk h.known.lt (λ e=>a1 e.symm))).mono zg zi (λ _ _ g=>g.eff ab aa),
  λ j hj=>((h.parts j hj).keep (hE.block _ (h.parts j hj).lt (λ e=>a2 (by rw [<- e];exact yeq (by rw [h.x.len];exact hj))))).mono zg zi (λ _ _ g=>g.eff ab aa),
  λ j hj=>by obtain ⟨d,g1,g2,g3⟩:=hw j hj;exact ⟨d,g1,g2,λ b hb=>(g3 b hb).eff ab aa⟩,hm⟩
theorem yar.setWhole (h:yar W cs br bk bps F ws m) (hj:j<256) (hd:DiF W F (RM br bk bps) b (ygt cs j)):yar (W.setCell (Z br (4+j) N) (R (G (Z b 0 N)))) cs br bk bps F (λ i=>ws i||decide (i=j)) m:=by
 refine h.cells ((Eff.refl (λ b=>b=br) W).set rfl _ _) (λ i hi=>?_) (λ i=>?_) (λ i hi=>?_) ?_
 ·simp [go_sem]
 ·simp [go_sem]
 ·obtain ⟨d,g1,g2,g3⟩:=h.whole i hi;by_cases e:i=j
  ·subst e;exact ⟨G b,by simp [go_sem,g1,ybA],by simp,λ b' af=>by cases af;exact hd⟩
  ·exact ⟨d,by simp [go_sem,g1],by simp [g2,e],g3⟩
 ·simp [go_sem,h.many]
theorem yar.setMany (h:yar W cs br bk bps F ws m) (m':Nat):yar (W.setCell (Z br 260 N) (E T (m':Nat))) cs br bk bps F ws m':=by
 refine h.cells ((Eff.refl (λ b=>b=br) W).set rfl _ _) (λ i hi=>?_) (λ i=>?_) (λ i hi=>?_) ?_
 ·simp [go_sem]
 ·simp [go_sem]
 ·obtain ⟨d,g1,g2,g3⟩:=h.whole i hi;exact ⟨d,by simp [go_sem,g1],g2,g3⟩
 ·simp [go_sem,h.many]
end
end
section
structure GrF (F F':Blk) (W:World):Prop where
 sub:∀b,F b->F' b
 new:∀b,F' b->F b\/ W.heap.size<=b
theorem GrF.refl (F:Blk) (W:World):GrF F F W:=⟨λ _ h=>h,λ _ h=> .inl h⟩
theorem GrF.trans {F F' F2:Blk} {W W':World} (h:GrF F F' W) (k:GrF F' F2 W') (hs:W.heap.size<=W'.heap.size):GrF F F2 W:=
 ⟨λ b hb=>k.sub b (h.sub b hb),λ b hb=>by
  rcases k.new b hb with h1 | h1
  ·exact h.new b h1
  ·exact .inr zo⟩
def yqR (v x:Value):Sem Value:=Instr.lookup 146 v x true
theorem ywy (v x:Value):Instr.lookup 146 v x true=yqR v x:=rfl
def yyq (v:Value):Sem Value:=Builtin.len_ #[146] 3 #[v]
theorem yyp (v:Value):Builtin.len_ #[146] 3 #[v]=yyq v:=rfl
def yxN (v x y:Value):Sem Unit:=Instr.mapUpdate 146 v x y
theorem yxL (v x y:Value):Instr.mapUpdate 146 v x y=yxN v x y:=rfl
attribute [local go_sem ↓] ywy yyp yxL yaz
theorem K1.of {s:St1} (h:s.Ok):K1 s.v:=⟨s,rfl,h⟩
theorem SlF.at {W:World} {F M:Blk} {a:Option Addr} {cells:List Value} (h:SlF W F M a cells) {j:Nat} (hj:j<cells.length):∃b off,a=G (Z b off N)/\b<W.heap.size/\F b/\¬M b/\∀j (h:j<cells.length),W.cell? (Z b (off+j) N)=G cells[j]:=by
 rcases h with h | ⟨b,off,h1,h2,h3,h4,h5⟩
 ·rw [h] at hj;exact absurd hj zs
 ·exact ⟨b,off,h1,h4,h2,h3,h5⟩
theorem yse {W:World} {cs:List Cl} {br bk:Nat} {bps:List Nat} {F:Blk} {ws:Nat->Bool} {m:Nat} (i:Nat) (s:St1) (hi:i<cs.length) (hs:s.Ok) (h:yar W cs br bk bps F ws m) :
  H I 195 #[R (G (Z br 0 N)),E T i,s.v] W λ e W'=>∃b F',e=Q (R (G (Z b 0 N)))/\yar W' cs br bk bps F' ws m/\GrF F F' W/\DiF W' F' (RM br bk bps) b (yfZ (atC cs i) s.a s.f s.u s.p)/\Eff (RM br bk bps) W W'/\W'.heap[bk]? =W.heap[bk]?:=by
 obtain ⟨W1,aj⟩:=zx (W.alloc (J s.l.toArray 213));have au:Bw W W1:=by rw [<- aj];exact yaa (Ye _ _) zg
 have an:W.heap.size<W1.heap.size:=by rw [<- aj];simp
 obtain ⟨Wd,aJ⟩:=zx W1.drew;have ag:Bw W1 Wd:=by rw [<- aJ];exact (Ye _ _).drew
 have h1:=(h.below au).below ag;have ar:Bw W Wd:=zu au ag;obtain ⟨a3,c3,k3,s3⟩:=h1.x.parts;have al:i<bps.length:=by rw [h.x.len];exact hi
 obtain ⟨b3,o3,rfl,l3,f3,n3,g3⟩:=s3.at (j:=i) (by simpa using al);have aB:=g3 i (by simpa using al);rw [List.getElem_map] at aB;have x0:Wd.cell? (Z W.heap.size 0 N)=G (Xb s.a):=(ag.cell (p:=Z W.heap.size 0 N) an).trans (by rw [<- aj];simp [go_sem]);have x1:Wd.cell? (Z W.heap.size 1 N)=G (E T s.f):=(ag.cell (p:=Z W.heap.size 1 N) an).trans (by rw [<- aj];simp [go_sem]);have x2:Wd.cell? (Z W.heap.size 2 N)=G (E T s.u):=(ag.cell (p:=Z W.heap.size 2 N) an).trans (by rw [<- aj];simp [go_sem]);have x3:Wd.cell? (Z W.heap.size 3 N)=G (E T s.p):=(ag.cell (p:=Z W.heap.size 3 N) an).trans (by rw [<- aj];simp [go_sem]);have ap:Wd.cell? (Z b3 (o3+i) N)=G (.map (G (bps.getD i 0))):=by rw [aB,Yz,zzp al];rfl
 obtain ⟨n,aF⟩:=zx cs.length;have hn:i<n:=zo;rw [aF] at k3;have hP:=h1.parts i hi;have ay:=λ (W':World) (hg:Wd.grownBy W' (G (bps.getD i 0))) (hM:MapS K1 (G1 (atC cs i) Wd F (RM br bk bps)) W' (bps.getD i 0) 256)=>h1.mapPart hi hg hM;obtain ⟨bp,aq⟩:=zx (bps.getD i 0);have aP:bp<W.heap.size/\RM br bk bps bp/\br≠bp/\b3≠bp:=by
  rw [<- aq];refine ⟨(h.parts i hi).lt,h.mem hi,λ e=>?_,λ e=>n3 (by rw [e];exact h.mem hi)⟩;exact h.x.apart.2.1 (by rw [e];exact yeq al)
 have am:Hid (bk<W.heap.size/\bk≠bp):=⟨h.known.lt,λ e=>h.x.apart.2.2.1 (by rw [e,<- aq];exact yeq al)⟩;rw [aq] at ap hP ay;have av:=hid aq;clear aq;have aL:=hid aj;have aw:Hid (Wd=W1.drew):=aJ.symm;clear aj aJ;rcases hP.lookup (yyv Wd) (t:=146) (by rw [Tryz.underlying146]) (z:=R N) (by rfl) true (K1.of hs) with q | ⟨v,hv,q⟩
 ·obtain ⟨k,hk,aV,ql⟩:=hP.count (t:=146) (by rw [Tryz.underlying146]) 3;replace q:(yqR (.map (G bp)) (.agg #[Xb s.a,E T s.f,E T s.u,E T s.p])).run I Wd= .ok (Xt #[R N,Xb false]) Wd:=q;replace ql:(yyq (.map (G bp))).run I Wd= .ok (E T k) Wd:=ql;have a6:=hid hP;have a7:=hid ay;have H1:=hid h1;have ax:=hid ar;have bc:=hid aV;have ba:=hid hs;have ab:Hid (W.heap.size<Wd.heap.size):=zH an ag.size;have ac:Hid (bp<W.heap.size/\RM br bk bps bp/\br≠bp/\b3≠bp):=aP;have Hi:=hid hi;have a9:=hid hk;clear aB g3 h h1 hP ay al au ag ar f3 n3 aV hs s3 hi hk an aP;by_cases hk:(k:Int)=256;focus
   have aG:((k:Int)==256)=true:=(by rw [hk];rfl);have Hk:=hid hk;clear hk;go_enter Tryz.func195,Tryz.ntmps195
   go_wp2_with fail
   rw [aL];refine Yj (S:=λ w=>Hid (Wd=w)) zk aw (λ aa=>?_);refine zhC 0 ?_;refine zhC 1 ?_;refine zhC 2 ?_;refine zhC 3 ?_;refine zhC 4 ?_;refine zhC 5 ?_;refine zhC 6 ?_;refine zhC 7 ?_;refine zhC 8 ?_;refine zhC 9 ?_;refine zhC 10 ?_;refine zhC 11 ?_;refine zhC 12 ?_;refine zhC 13 ?_;refine Yt zk ?_ _;rw [<- aw];clear aa;go_wp2_with (with_reducible refine ybU (t:=146) (.tmp 38) rfl rfl Tryz.underlying146 a6.out rfl ?_)
   intro W2 aK ai;have H2:=hid (a7 W2 ai (aK.mono zo zi (λ _ _ h=>h)));have aM:Hid (MapS K1 (G1 (atC cs i) Wd F (RM br bk bps)) W2 bp 255):=aK.mono zo zi (λ _ _ h=>h);have kc:∀b o,b<Wd.heap.size->b≠bp->W2.cell? (Z b o N)=Wd.cell? (Z b o N):=λ b o hb hn=>zzJ (w:=Wd) (a:=Z b o N) (ai.block b hb (λ e=>hn (Option.some.inj e)));have ae:W.heap.size≠bp:=(by have:=ac.1;omega);have ak:W.heap.size<W2.heap.size:=zH ab ai.size;have aD:Hid (Eff (RM br bk bps) W W2):=(Eff.of_below ax).trans (Eff.of_grown ai ac.2.1) (λ _ h=> .inl h);replace k3:=(kc br 3 H1.rlt ac.2.2.1).trans k3;replace ap:=(kc b3 _ l3 ac.2.2.2).trans ap;replace x0:=(kc _ _ ab ae).trans x0;replace x1:=(kc _ _ ab ae).trans x1;replace x2:=(kc _ _ ab ae).trans x2;replace x3:=(kc _ _ ab ae).trans x3;have a4:Hid (Eff (RM br bk bps) Wd W2):=Eff.of_grown ai ac.2.1;have a2:Hid (W2.heap[bk]? =W.heap[bk]?):=(ai.block bk (zH am.1 ax.size) (λ e=>am.2 (Option.some.inj e))).trans (ax.block bk am.1);have aR:b3<W2.heap.size:=zH l3 ai.size;have aN:=hid aR;have az:=hid (H2.rlt);clear kc aK ai q ql aG l3 aR;go_wp2_with fail
  rotate_left;focus
   have aG:((k:Int)==256)=false:=(by simp [hk]);have Hk:=hid hk;clear hk;go_enter Tryz.func195,Tryz.ntmps195
   go_wp2_with fail
   rw [aL];refine Yj (S:=λ w=>Hid (Wd=w)) zk aw (λ aa=>?_);refine zhC 0 ?_;refine zhC 1 ?_;refine zhC 2 ?_;refine zhC 3 ?_;refine zhC 4 ?_;refine zhC 5 ?_;refine zhC 6 ?_;refine zhC 7 ?_;refine zhC 8 ?_;refine zhC 9 ?_;refine zhC 10 ?_;refine zhC 11 ?_;refine zhC 12 ?_;refine zhC 13 ?_;refine Yt zk ?_ _;rw [<- aw];clear aa;go_wp2_with fail
   obtain ⟨W2,ad⟩:=zx Wd;have H2:Hid (yar W2 cs br bk bps F ws m):=(by rw [<- ad];exact H1);have aM:Hid (MapS K1 (G1 (atC cs i) Wd F (RM br bk bps)) W2 bp 255):=by
    rw [<- ad];exact bc.mono (by have:=a9.out;have:=Hk.out;omega) zi (λ _ _ h=>h)
   have ak:W.heap.size<W2.heap.size:=(by rw [<- ad];exact ab);have aD:Hid (Eff (RM br bk bps) W W2):=(by rw [<- ad];exact Eff.of_below ax);have a2:Hid (W2.heap[bk]? =W.heap[bk]?):=(by rw [<- ad];exact ax.block bk am.1);have a4:Hid (Eff (RM br bk bps) Wd W2):=(by rw [<- ad];exact Eff.refl _ _);have aN:Hid (b3<W2.heap.size):=(by rw [<- ad];exact l3);have az:Hid (br<W2.heap.size):=H2.rlt;rw [ad] at k3 ap x0 x1 x2 x3;rw [ad];clear q ql aG l3 ad
  rotate_left;all_goals
   obtain ⟨a0,c0,k0,s0,-,-⟩:=H2.x.cls;obtain ⟨b0,o0,rfl,l0,r0⟩:=s0.sl.atCl (k:=i) Hi;rw [<- yer Hi] at r0;rw [aF] at k0;have cS:=hid (λ W hT=>ykR (atC cs i) s.a s.f s.u s.p W (by rw [yer Hi];exact H2.x.ok _ (zzr Hi)) hT);have hc:Hid (∀w,Bw W2 w->w.cell? (Z br 0 N)=G (Xs (G (Z b0 o0 N)) n c0)/\(ydj (R (G ⟨b0,o0+i*30,N⟩))).run I w= .ok (clv (atC cs i)) w/\w.cell? (Z br 3 N)=G (Xs (G (Z b3 o3 N)) n c3)/\w.cell? (Z b3 (o3+i) N)=G (.map (G bp))/\
     w.cell? (Z W.heap.size 0 N)=G (Xb s.a)/\w.cell? (Z W.heap.size 1 N)=G (E T s.f)/\w.cell? (Z W.heap.size 2 N)=G (E T s.u)/\w.cell? (Z W.heap.size 3 N)=G (E T s.p)):=λ w hw=>
    ⟨(hw.cell (p:=Z br 0 N) az).trans k0,ylE (ybK r0 hw l0),(hw.cell (p:=Z br 3 N) az).trans k3,(hw.cell (p:=Z b3 (o3+i) N) aN).trans ap,(hw.cell (p:=Z W.heap.size 0 N) ak).trans x0,(hw.cell (p:=Z W.heap.size 1 N) ak).trans x1,(hw.cell (p:=Z W.heap.size 2 N) ak).trans x2,(hw.cell (p:=Z W.heap.size 3 N) ak).trans x3⟩
   have bb:=hid H2.x.tab.1;have a8:=hid ak;clear k0 s0 l0 r0 k3 ap x0 x1 x2 x3 ak;refine Yj (S:=λ w=>Hid (Bw W2 w)) zk (hid (Ye _ _).drew) (λ aa=>?_);refine zhF 0 (hc) ?_;refine zhF 1 (hc) ?_;refine zhF 2 (hc) ?_;refine zhF 3 (hc) ?_;refine zhF 4 (hc) ?_;refine zhF 5 (hc) ?_;refine zhF 6 (hc) ?_;refine zhF 7 (hc) ?_;refine zzK 8 (λ K hK=>?_);go_simp;refine (cS _ (bb.later aa)).mono ?_;rintro e w4 ⟨b,rfl,aQ,hD,a1⟩;have aZ:Hid (Bw W2 w4):=zu aa a1;have HD:=hid hD;have HL:Hid (W2.heap.size<=b):=zI aa.size aQ;clear a1 hD aQ;(try go_wp2_with fail);refine hK _ _ aZ (λ aa=>?_);clear hK K aZ;refine zhF 9 (hc) ?_;refine Yt zk ?_ _;have bh:=aa;clear aa;obtain ⟨W5,aU⟩:=zx w4.drew;have aC:Hid (W5=w4.drew):=aU.symm;clear aU;have ah:Hid (Bw W2 W5):=(by rw [aC];exact bh.drew);have a5:Hid (DiscAt W5 b (yfZ (atC cs i) s.a s.f s.u s.p)):=(by rw [aC];exact HD.below (Ye _ _).drew HD.lt);have aY:=(H2.below ah).wide (F':=λ x=>F x\/ x=b) (λ _ h=> .inl h) (λ x hx=>by
    rcases hx with hx | rfl
    ·exact zH (H2.x.lt x hx) ah.size
    ·exact a5.lt)
   have aI:DiF W5 (λ x=>F x\/ x=b) (RM br bk bps) b (yfZ (atC cs i) s.a s.f s.u s.p):=⟨.inr rfl,λ hm=>by have:=H2.x.lt b (H2.x.sub b hm);have:=HL.out;omega,a5⟩;have aO:Hid (Eff (RM br bk bps) Wd W5):=a4.trans (Eff.of_below ah) (λ _ h=> .inl h);have aX:MapS K1 (G1 (atC cs i) W5 (λ x=>F x\/ x=b) (RM br bk bps)) W5 bp 255:=(aM.keep (ah.block bp (aM.lt))).mono zg zi (λ key v g=>g.eff aO (λ _ h=> .inl h));obtain ⟨W6,q6,aW,ao⟩:=aX.update (yyv W5) (t:=146) (e:=84) (by rw [Tryz.underlying146]) (K1.of ba) (v:=R (G (Z b 0 N))) (λ x hx=>⟨b,rfl,by have:=yv3 hx;subst this;exact aI⟩);replace q6:(yxN (.map (G bp)) (.agg #[Xb s.a,E T s.f,E T s.u,E T s.p]) (R (G (Z b 0 N)))).run I W5= .ok () W6:=q6;have H6:Hid (yar W6 cs br bk bps (λ x=>F x\/ x=b) ws m):=by
    refine aY.mapPart Hi (by rw [av];exact ao) (by rw [av];exact aW.mono zg zi (λ key v g=>g.eff (Eff.refl _ _) zi))
   have bg:Hid (DiF W6 (λ x=>F x\/ x=b) (RM br bk bps) b (yfZ (atC cs i) s.a s.f s.u s.p)):=aI.eff (Eff.of_grown ao ac.2.1) zi;have bf:Hid (Eff (RM br bk bps) W W6):=(aD.trans (Eff.of_below ah) (λ _ h=> .inl h)).trans (Eff.of_grown ao ac.2.1) (λ _ h=> .inl h);have bd:Hid (W.heap.size<=b):=zI aD.size HL.out;have be:Hid (W6.heap[bk]? =W.heap[bk]?):=by
    have aS:bk<W2.heap.size:=zH am.1 aD.size;exact (ao.block bk (zH aS ah.size) (λ e=>am.2 (Option.some.inj e))).trans ((ah.block bk aS).trans a2)
   have h5:=hc W5 ah.out;have af:Hid (∀w,w=W5\/ w=W6->w.cell? (Z br 0 N)=G (Xs (G (Z b0 o0 N)) n c0)/\True/\w.cell? (Z br 3 N)=G (Xs (G (Z b3 o3 N)) n c3)/\w.cell? (Z b3 (o3+i) N)=G (.map (G bp))/\
     w.cell? (Z W.heap.size 0 N)=G (Xb s.a)/\w.cell? (Z W.heap.size 1 N)=G (E T s.f)/\w.cell? (Z W.heap.size 2 N)=G (E T s.u)/\w.cell? (Z W.heap.size 3 N)=G (E T s.p)):=by
    have aE:=ah.size;have kc:∀b o,b<W5.heap.size->b≠bp->W6.cell? (Z b o N)=W5.cell? (Z b o N):=λ b o hb hn=>zzJ (w:=W5) (a:=Z b o N) (ao.block b hb (λ e=>hn (Option.some.inj e)));have aA:W.heap.size<W5.heap.size:=zH a8 aE;have ae:W.heap.size≠bp:=(by have:=ac.1;omega);have aT:br<W5.heap.size:=zH az aE;intro w hw;rcases hw with rfl | rfl
    ·exact ⟨h5.1,trivial,h5.2.2⟩
    ·exact ⟨(kc br _ aT ac.2.2.1).trans h5.1,trivial,(kc br _ aT ac.2.2.1).trans h5.2.2.1,(kc b3 _ (zH aN aE) ac.2.2.2).trans h5.2.2.2.1,(kc _ _ aA ae).trans h5.2.2.2.2.1,(kc _ _ aA ae).trans h5.2.2.2.2.2.1,(kc _ _ aA ae).trans h5.2.2.2.2.2.2.1,(kc _ _ aA ae).trans h5.2.2.2.2.2.2.2⟩
   clear h5 ao aW aX aI aY;go_wp2_with fail
   refine Yj (S:=λ w=>Hid (w=W5\/ w=W6)) zk (hid (.inl aC.symm)) (λ aa=>?_);refine zhF 0 (af) ?_;refine zhF 1 (af) ?_;refine zhF 2 (af) ?_;refine zhF 3 (af) ?_;refine zhF 4 (af) ?_;refine zhF 5 (af) ?_;refine zhF 6 (af) ?_;refine zhF 7 (af) ?_;refine zhF 8 (af) ?_;refine zzK 9 (λ K hK=>?_);rw [<- aC];go_simp;refine hK _ _ (hid (.inr rfl)) (λ aa=>?_);clear hK K;refine Yt zk ?_ _;clear aa;go_wp2;go_ret;exact ⟨b,_,rfl,H6,⟨λ _ h=> .inl h,λ x hx=>hx.imp id (λ e=>by rw [e];exact bd)⟩,bg,bf,be⟩
 ·obtain ⟨b,rfl,hd⟩:=hv s rfl;have aH:Hid (∃b' F',Ending.returned (R (G (Z b 0 N)))=Q (R (G (Z b' 0 N)))/\yar Wd cs br bk bps F' ws m/\GrF F F' W/\DiF Wd F' (RM br bk bps) b' (yfZ (atC cs i) s.a s.f s.u s.p)/\Eff (RM br bk bps) W Wd/\Wd.heap[bk]? =W.heap[bk]?):=⟨b,F,rfl,h1,GrF.refl _ _,hd,Eff.of_below ar,ar.block bk am.1⟩;replace q:(yqR (.map (G bp)) (.agg #[Xb s.a,E T s.f,E T s.u,E T s.p])).run I Wd= .ok (Xt #[R (G (Z b 0 N)),Xb true]) Wd:=q;clear aB g3 h h1 hd hP ay aP hv al au ag ar l3 f3 n3 hi aF;go_enter Tryz.func195,Tryz.ntmps195
  go_wp2_with fail
  rw [aL];refine Yj (S:=λ w=>Hid (Wd=w)) zk aw (λ aa=>?_);refine zhC 0 ?_;refine zhC 1 ?_;refine zhC 2 ?_;refine zhC 3 ?_;refine zhC 4 ?_;refine zhC 5 ?_;refine zhC 6 ?_;refine zhC 7 ?_;refine zhC 8 ?_;refine zhC 9 ?_;refine zhC 10 ?_;refine zhC 11 ?_;refine zhC 12 ?_;refine zhC 13 ?_;refine Yt zk ?_ _;cases aa.out;clear aa;go_wp2;go_ret;obtain ⟨b',F',e,g⟩:=aH.out;cases e;exact ⟨b,rfl,F',g⟩
end
