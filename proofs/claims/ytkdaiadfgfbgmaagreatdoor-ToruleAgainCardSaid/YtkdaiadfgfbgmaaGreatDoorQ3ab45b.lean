/- ferialaw38.lives answers true. -/
import Derived.Test.YtkdaiadfgfbgmaaGreatDoorQ801464
set_option maxRecDepth 100000
set_option maxHeartbeats 25600000
set_option linter.unusedSimpArgs false
open Option renaming none -> N, some -> G
open Go.Value renaming int -> E, pointer -> R, slice -> Xs, bool -> Xb, func -> Xf, tuple -> Xt
open Go.IntKind renaming i64 -> T, u64 -> Y
open Go.Addr renaming mk -> Z
open Go renaming Calls -> H
open Go.Proofs.Tryz renaming prog -> I
open Go.Obj renaming cells -> J
open Go.Ending renaming returned -> Q
namespace Go.Proofs.YtkdaiadfgfbgmaaGreatDoor
open Go.RowKit Go.Maps
set_option linter.unusedVariables false
section
attribute [local irreducible] yak
attribute [local go_sem ↓] ybd ybb
theorem Ru.Sm.mil {r:Ru} (h:r.Sm 5000):r.Sm 1000000:=h.up zd
theorem yiY (r:Ru) (w:World) (hr:RuS w r) (hm:r.Sm 1000000) (hn:r.Num) (hz:r.co=0) (h0:ycH r=0):H I 9 #[ruv r] w λ e w'=>(∃g,e=Q (Xt #[Xs (G (Z g 0 N)) 1 1,E T 0])/\Sl w' (G (Z g 0 N)) (cls [ybS r]))/\Bw w w':=
 (yfz r w hr hm hn hz).mono λ e w' h=>⟨by
   rcases h.1 with ⟨h1,-⟩ | ⟨-,g,h1,-,h2⟩
   ·exact absurd h0 h1
   ·exact ⟨g,h1,h2⟩,h.2⟩
theorem yhR {r:Ru} (hn:r.Num) (h0:ycH r=0):∀c∈ [ybS r],c.Ok:=λ c hc=>by
 rw [Yy] at hc;rw [hc];exact ylz hn (yay h0)
theorem yoN (a:Option Addr) (cap:Nat) (l:List Cl) (g:Nat) (r:Ru) (w:World) (hl:l.length<=1000) (av:l.length<=cap) (hs:Sl w a (cls l)) (au:a=N->cap=0) (ar:∀c∈l,c.Ok) (hf:yaf l=0) (hg:Sl w (G (Z g 0 N)) (cls [ybS r])) (hn:r.Num) (hG:ypj r l) (hT:Tab w) :
  H I 11 #[Xs a l.length cap,Xs (G (Z g 0 N)) 1 1] w λ e w'=>e=Q (Xt #[.agg #[Xb true,E T 0,Xb false],E T 0])/\Bw w w':=
 (yeu a cap l (G (Z g 0 N)) 1 [ybS r] w hl av hs au ar zs zs hg (λ h=>by cases h) (yhR hn hG.e) hT).mono λ e w' h=>⟨by
   obtain ⟨y,t,f,er,h1,h2⟩:=h.1;obtain ⟨rfl,rfl,rfl,rfl⟩:=yyM h2 hf (yaT (yay hG.e)) λ t=>(hG.same t).symm;exact h1,h.2⟩
theorem yym (W:World):RuS W liveU:=⟨.inl rfl, .inl rfl, .inl rfl, .inl rfl, .inl rfl, .inl rfl⟩
theorem yyn:liveU.Sm 1000000:=⟨by simp [liveU,zRu],by simp [liveU,zRu],by simp [liveU,zRu],by simp [liveU,zRu],by simp [liveU,zRu],by simp [liveU,zRu]⟩
theorem yqV:liveU.Num:=⟨by show yaA 345600;unfold yaA;omega,by show yaA 4;unfold yaA;omega,by show yaA 4;unfold yaA;omega,by show yaA 0;unfold yaA;omega,by show yaA (-1);unfold yaA;omega⟩
theorem ypK (W:World) (Tq:TypeId):(W.alloc (J #[Xb true,E T 0,Xb false] Tq)).cell? (Z W.heap.size 0 N)=G (Xb true):=by simp [go_sem]
theorem ykE (w:World) (hT:Tab w):H I 8 #[] w λ e w'=>e=Q (Xb true)/\Bw w w':=by
 obtain ⟨st,hR,hB,hs⟩:=ycj w liveU;obtain ⟨w0,ak⟩:=zx ((w.alloc (J zl0 25)).setCells w.heap.size 0 (yad liveU));rw [ak] at st hR hB hs;rw [show ruv liveU= .agg #[E T 345600,E T 4,E T 4,E T 0,E T (-1),Xs N 0 0,Xs N 0 0,Xs N 0 0,Xs N 0 0,Xs N 0 0,Xs N 0 0] from rfl] at st;have ld:=hR.ld;have cL:=hid (yiY liveU w0 (yym w0) yyn yqV rfl ydk);have cA:=hid (λ W (h:Bw w W)=>hT.later h);have ai:=hid hB;clear hR hB hs ak hT;go_enter Tryz.func8,Tryz.ntmps8
 go_wp2_with fail
 refine cL.mono ?_;rintro e w1 ⟨⟨g,rfl,hg⟩,am⟩;have ah:=hid (zu ai am);have cR:=hid (yih (G (Z g 0 N)) 1 [ybS liveU] w1 zs zs hg (λ h=>by cases h) (yhR yqV ydk) (cA _ ah));have Hg:=hid hg;clear ld st cL am hg ai;go_wp2_with fail
 refine cR.mono ?_;rintro e w2 ⟨hx,af⟩;obtain ⟨r,rfl,hs,hn,hm,hG⟩:=yol ydk hx;have aq:=hid (zu ah af);have al:=Hg.below af;obtain ⟨st,hR,ac,hz⟩:=ycj w2 r;obtain ⟨w3,aj⟩:=zx ((w2.alloc (J zl0 25)).setCells w2.heap.size 0 (yad r));rw [aj] at st hR ac hz;obtain ⟨bx,ae⟩:=zx w2.heap.size;have ld:=hR.ld;have ap:=hid (zu aq ac);have cL:=hid (yiY r w3 (hs.below ac) hm.mil hn hG.co hG.e);have Hg:=hid (al.below ac);have HR:=hid hR;have HG:=hid hG;have Hn:=hid hn;have Hz:=hid hz;have an:=hid ae;rw [ae] at ld st;clear hx af al hR ac hz hs hn hm hG aj cR ae;go_upto_region 4 with (rw [an])
 go_wp2_with fail
 refine cL.mono ?_;rintro e w4 ⟨⟨g2,rfl,h4⟩,ab⟩;have ag:=hid (zu ap ab);have cE:=hid (yoN (G (Z g 0 N)) 1 [ybS liveU] g2 r w4 zs zs (Hg.below ab) (λ h=>by cases h) (yhR yqV ydk) (yaT (yay ydk)) h4 Hn HG (cA _ ag));have hk:=(ab.cell (p:=Z w2.heap.size 0 N) HR.lt).trans (HR.c.at 0 rfl);clear ld st cL h4;go_wp2_with fail
 refine zm cE ?_;rintro w5 ad;have hlt:=zH HR.lt ab.size;replace hk:=(ad.cell (p:=Z w2.heap.size 0 N) hlt).trans hk;have aa:=zH hlt ad.size;rw [ywC HG] at hk;have ao:=hid (zu ag ad);clear ab ad cE;have hv:=ypK w5 35;have hb:Bw w5 (w5.alloc (J #[Xb true,E T 0,Xb false] 35)):=yaa (Ye _ _) zg;replace hk:=(hb.cell (p:=Z w2.heap.size 0 N) aa).trans hk;go_upto_region 6 with fail
 generalize hw:w5.alloc (J #[Xb true,E T 0,Xb false] 35)=w6 at hv hb hk⊢
 have HF:=hid (zu ao hb);rw [an] at hk;clear hw hb hlt aa;go_wp2;go_ret;exact ⟨rfl,HF⟩
end
theorem ymf (r:Ru) (w:World) (hr:RuS w r) (hm:r.Sm 1000000) (hn:r.Num) (hT:Tab w):H I 9 #[ruv r] w λ e w'=>yz3 w r e w'/\Bw w w':=
 yik r w hr hm hn λ _ hE g W hB hs=>yuU (G (Z g 0 N)) 1 [ydu r] r.co W zs zs hs (λ h=>by cases h) (by simpa using yqM hn) hn.co.2 (hT.later hB)
section
attribute [local irreducible] yak
variable {Eq1 a f q x:Int} {L:List Int} {Rq c r:Ru}
theorem yg2 {α β:Type} {f g:α->List β}:∀{L:List α},(∀x∈L,f x=g x)->L.flatMap f=L.flatMap g
 | [],_=>rfl
 | x::L,h=>by rw [ZZ,ZZ,h x List.mem_cons_self,yg2 λ y hy=>h y (List.mem_cons_of_mem _ hy)]
section
variable {l m:List Cl} {u u':Nat->Nat} {fi la n aw am n':Int} {ev sq ay ak:Bool} {g g':Nat->Int}
theorem yrG (he:∀t,yai l t=yai m t):yax l=yax m:=by
 funext D k
 exact he (86400*D+k)
theorem ybN.same (he:∀t,yai l t=yai m t) (h:ybN l u fi la n ev sq):ybN m u fi la n ev sq:=by
 have e:=yrG he;have e1:∀X,yaN l X=yaN m X:=λ X=>by rw [yaN,yaN,e]
 have e2:∀X,lsL l X=lsL m X:=λ X=>by rw [lsL,lsL,e]
 have e3:∀X,fiV l X=fiV m X:=λ X=>by rw [fiV,fiV,e]
 have e4:∀X,laV l X=laV m X:=λ X=>by rw [laV,laV,e]
 exact ⟨by rw [<- e];exact h.hm,λ i h3 hi=>by rw [<- e1];exact h.us i h3 hi,by rw [<- e1];exact h.n,by rw [<- e1,<- e3];exact h.fi,by rw [<- e1,<- e4];exact h.la,by rw [<- e1,<- e2];exact h.ev,by rw [<- e1,<- e2];exact h.sq⟩
theorem ytj (he:∀t,yai l t=yai m t) (q:Nat):PuU l q=PuU m q:=by
 funext x
 rw [PuU,PuU];simp only [he]
theorem yiU {x:Ru} (he:∀t,yai l t=yai m t) (hl:yaf l=0) (hm:yaf m=0):yaZ x l↔yaZ x m:=by
 have e:∀k:List Cl,yaf k=0->yc7 [ybS x] k=yc7 [ybS x] []:=λ k hk=>by
  rw [yc7,yc7,hk];rfl
 rw [yaZ,yaZ,e l hl,e m hm,ysn,ysn];simp only [he]
theorem yhK (he:∀t,yai l t=yai m t) (hl:yaf l=0) (hm:yaf m=0) (r:Ru):∀k,yao l r k=yao m r k
 | 0=>rfl
 | k+1=>by
   have e:=yhK he hl hm r k;by_cases hq:yaZ (ybt (yao l r k) k) l
   ·rw [ybW hq,ybW (by rw [<- e];exact (yiU he hl hm).1 hq),e]
   ·rw [ycp hq,ycp (by rw [<- e];exact λ h=>hq ((yiU he hl hm).2 h)),e]
theorem yzT (h:RuE c r) (k:Nat):RuE (ybt c k) (ybt r k):=by
 obtain ⟨e0,e1,e2,e3,e4,e5,e6,e7,e8,e9,ex⟩:=RuE.iff.1 h;have hk:k=0\/ k=1\/ k=2\/ k=3\/ k=4\/ k=5\/ ∃j,k=j+6:=by
  by_cases h6:k<6
  ·omega
  ·exact .inr (.inr (.inr (.inr (.inr (.inr ⟨k-6,by omega⟩)))))
 rcases hk with rfl | rfl | rfl | rfl | rfl | rfl | ⟨j,rfl⟩ <;> exact RuE.iff.2 ⟨by first | exact e0 | rfl,by first | exact e1 | rfl,by first | exact e2 | rfl,by first | exact e3 | rfl,by first | exact e4 | rfl,by first | exact e5 | rfl,by first | exact e6 | rfl,by first | exact e7 | rfl,by first | exact e8 | rfl,by first | exact e9 | rfl,by first | exact ex | rfl⟩
theorem yiE (h:RuE c r):∀k,RuE (yao l c k) (yao l r k)
 | 0=>h
 | k+1=>by
   have hk:=yzT (yiE h k) k;rw [yao,yao];by_cases hq:yaZ (ybt (yao l c k) k) l
   ·rw [Yd hq,Yd ((hk.mean l).2 hq)];exact hk
   ·rw [Yb hq,Yb (λ h=>hq ((hk.mean l).1 h))];exact yiE h k
theorem RuE.symm (h:RuE c r):RuE r c:=by
 obtain ⟨e0,e1,e2,e3,e4,e5,e6,e7,e8,e9,ex⟩:=RuE.iff.1 h;exact RuE.iff.2 ⟨e0.symm,e1.symm,e2.symm,e3.symm,e4.symm,e5.symm,e6.symm,e7.symm,e8.symm,e9.symm,ex.symm⟩
theorem yp9 (h:RuE c r):ygE c r=true:=by
 have e:ygE c r=ygE c c:=by rw [h];rfl
 rw [e,yoi]
theorem yob (hu:∀i,i<46->u i=u' i) (hg:∀q,q<7->g q=g' q) {q:Nat} (hq:q<7):ybF u fi la g q=ybF u' fi la g' q:=by
 rw [ybF,ybF,hg q hq,hu 3 zo,hu 2 zo,hu 1 zo,hu 0 zo]
theorem yrX (hu:∀i,i<46->u i=u' i) (hg:∀q,q<7->g q=g' q) (h6:∀x∈mkN (u 6),x<8):yfT u fi la g=yfT u' fi la g':=by
 have e:∀how ab,ydb u how ab=ydb u' how ab:=λ how ab=>by
  rw [ydb,ydb,<- hu 6 zo];refine yg2 λ x hx=>?_;have az:=h6 x hx;obtain ⟨d,hd,-,rfl⟩:=yea.1 hx;have aA:d<8:=zo;rw [ysK,ysK,yhS,yhS];simp only [YL,hu (14+d) zo,hu (22+d) zo,hu (30+d) zo,hu (38+d) zo]
 have e1:∀(r:Ru) (hows:List Int),ya0 u r hows=ya0 u' r hows:=λ r hows=>by
  have e0:ykY u=ykY u':=by funext r ds how;rw [ykY,ykY,e]
  rw [ya0,ya0,hu 4 zo,hu 5 zo,e0]
 rw [yfT,yfT];refine yg2 λ q hq=>?_;have ap:q<7:=by simp only [qL,YF,ZF,or_false] at hq;omega
 rw [yf5,yf5,ofL,ofL,yob hu hg ap];simp only [e1,e]
theorem yqd {s:Ru} {E':Int} (hl:yaf l=0) (hm:yaf m=0) (he:∀t,yai l t=yai m t) (h1:yil l r Eq1) (h2:yil m s E'):Eq1=E'/\RuE r s:=by
 rcases h1 with ⟨h,-⟩ | ⟨-,u,fi,la,n,ev,sq,hF,h1⟩
 ·exact absurd hl h
 rcases h2 with ⟨h,-⟩ | ⟨-,u',aw,am,n',ay,ak,av,h2⟩
 ·exact absurd hm h
 obtain ⟨eu,rfl,rfl,rfl,-,-⟩:=(hF.same he).unique av;rcases h1 with ⟨h0,rfl,h1⟩ | ⟨h0,g,hg,h1⟩
 ·rcases h2 with ⟨-,rfl,h2⟩ | ⟨k0,-⟩
  ·exact ⟨rfl,h1.symm.trans h2⟩
  ·exact absurd h0 k0
 rcases h2 with ⟨k0,-⟩ | ⟨-,g',ar,h2⟩
 ·exact absurd k0 h0
 have eg:∀q,q<7->g q=g' q:=λ q hq=>by
  obtain ⟨y,f,k1⟩:=hg q hq;obtain ⟨y',f',k2⟩:=ar q hq;refine ya2.unique k1 k2 λ d=>?_;rw [ytj he]
 have eA:yfT u fi la g=yfT u' fi la g':=yrX eu eg (ykm hF);rw [<- eA] at h2;have ae:=λ x:Ru=>yiU (x:=x) he hl hm;rcases h1 with ⟨rfl,j,x,r',hj,af,hE,hM,rfl⟩ | ⟨rfl,rfl,af⟩
 ·rcases h2 with ⟨rfl,j',x',s',ac,aa,aj,ah,rfl⟩ | ⟨rfl,rfl,aa⟩
  ·have ej:j=j':=by
    rcases Nat.lt_trichotomy j j' with k | k | k
    ·exact absurd ((ae x).1 hM) (aa j x k hj)
    ·exact k
    ·exact absurd ((ae x').2 ah) (af j' x' k ac)
   subst ej;rw [hj] at ac;cases ac;refine ⟨rfl,?_⟩;rw [<- yhK he hl hm];exact (yiE (l:=l) hE 7).symm.trans (yiE (l:=l) aj 7)
  ·exact absurd ((ae x).1 hM) (aa x (YN hj))
 ·rcases h2 with ⟨rfl,j',x',s',ac,aa,aj,ah,rfl⟩ | ⟨rfl,rfl,aa⟩
  ·exact absurd ((ae x').2 ah) (af x' (YN ac))
  ·exact ⟨rfl,RuE.refl _⟩
theorem yqI (hc:yah Rq=0) (ag:Rq.co=0) (t:Int):yai [ybS Rq] t=yc3 Rq t:=by rw [ylG,yqQ ag,yly hc]
def yzW (Rq:Ru) (t:Int):Bool:=ycb t&&((decide (Rq.st<=t)&&(decide (Rq.un= -1)||decide (t<=Rq.un)))&&(yks Rq (shF (t/86400))&&((ycE Rq.l8 (Rq.st%86400/3600) 3 Rq.fq (t%86400/3600)&&ycE Rq.l9 (Rq.st%86400/60%60) 2 Rq.fq (t%86400%3600/60))&&onB Rq.fq Rq.iv Rq.st t)))
theorem yqJ (Rq:Ru) (L:List Int) (a:Option Addr) (c:Nat) (t:Int):yc3 {Rq with lx:=L,ax:=a,cx:=c} t= (yzW Rq t&&ycE L (Rq.st%86400%60) 1 Rq.fq (t%86400%60)):=by
 have h:∀A B C D Eq1 F Gq:Bool,(A&&(B&&(C&&((D&&(Eq1&&F))&&Gq))))= ((A&&(B&&(C&&((D&&Eq1)&&Gq))))&&F):=by decide
 exact h _ _ _ _ _ _ _
theorem yge:ycE [] a q f x=true↔f<q\/ x=a:=by simp [ycE]
theorem ywe (h:x∈L):ycE L a q f x=true:=by simp [ycE,h]
theorem ywd (hL:L≠ []) (h:x ∉ L):ycE L a q f x=false:=by
 have:L.length≠0:=λ e=>hL (YB e)
 simp [ycE,h,this]
theorem yje:∀{L:List Int},ybf L=0↔∀x∈L,x=0
 | []=>⟨λ _ _ h=>(nomatch h),λ _=>rfl⟩
 | x::L=>by
   rw [ybf];by_cases h:x=0
   ·rw [Yd h,yje];exact ⟨λ k y hy=>(YF.1 hy).elim (λ e=>e.trans h) (k y),λ k y hy=>k y (List.mem_cons_of_mem _ hy)⟩
   ·rw [Yb h];exact ⟨λ k=>absurd k h,λ k=>absurd (k x List.mem_cons_self) h⟩
theorem ywx {S:Ru} (h:ycH Rq=0) (hc:yah S=0) (e2:S.iv=Rq.iv) (e3:S.co=Rq.co):ycH S=0:=by
 have h1:=h;rw [ycH,Yd (yay h)] at h1;rw [ycH,Yd hc,e2,e3];exact h1
theorem ywt (hl:yaf l=0) (ad:∃t,yai l t=true) (hR:ycH Rq=0) (ag:Rq.co=0) (hx:∀x,x∈Rq.lx↔∃t,yai l t=true/\t%86400%60=x) (hz:yaZ (ybt (ybt Rq 5) 6) l):yaZ (ybt Rq 5) l:=by
 obtain ⟨S,hS⟩:=zx (ybt Rq 5);have sx:S.lx=Rq.lx:=by rw [<- hS];rfl
 have sc:S.co=0:=by rw [<- hS];exact ag
 have z0:ybt S 6= {S with lx:= [],ax:=N,cx:=0}:=rfl;rw [hS] at hz⊢;have ai:=yay hz.1;have mz:∀t,yc3 (ybt S 6) t=yai l t:=λ t=>(yqI ai sc t).symm.trans (yj4 hz t);have au:yah S=0:=by
  have a:=yje.1 (show ybf (ykp (ybt S 6))=0 from ai);have b:=yje.1 (show ybf (ykp Rq)=0 from yay hR);refine yje.2 λ e he=>?_;have ao:ykp S= (ykp (ybt S 6)).take 6 ++ [ybe 0 59 S.lx]:=rfl;rw [ao,YC,Yy] at he;rcases he with he | rfl
  ·exact a _ (List.mem_of_mem_take he)
  ·rw [sx];exact b _ (YN (i:=6) rfl)
 refine yqK (ywx hz.1 au rfl rfl) sc hl λ t=>?_;have e1:yc3 S t= (yzW S t&&ycE S.lx (S.st%86400%60) 1 S.fq (t%86400%60)):=yqJ S S.lx S.ax S.cx t;have e2:=λ t=>(yqJ S [] N 0 t).symm.trans (mz t);rw [sx] at e1;rw [e1,<- e2 t];cases hK:yzW S t
 ·rfl
 rw [zzo,zzo];obtain ⟨t0,an⟩:=ad;have ne:Rq.lx≠ []:=ZU ((hx _).2 ⟨t0,an,rfl⟩);have key:∀t,yai l t=true->S.fq<1\/ t%86400%60=S.st%86400%60:=λ t ht=>by
  have h:=(e2 t).trans ht;rw [zzX] at h;exact yge.1 h.2
 by_cases hp:S.fq<1\/ t%86400%60=S.st%86400%60
 ·rw [yge.2 hp];refine ywe ?_;have ht:yai l t=true:=by rw [<- e2 t,hK,yge.2 hp];rfl
  exact (hx _).2 ⟨t,ht,rfl⟩
 ·have h0:ycE [] (S.st%86400%60) 1 S.fq (t%86400%60)=false:=by
   rw [<- ZG];exact λ h=>hp (yge.1 h)
  rw [h0];refine ywd ne λ h=>?_;obtain ⟨t1,h1,h2⟩:=(hx _).1 h;rcases key t1 h1 with k | k
  ·exact hp (.inl k)
  ·exact hp (.inr (by rw [<- h2];exact k))
theorem yyS (r:Ru) {k:Nat} (h:k<6):(ybt r k).lx=r.lx:=by
 have hk:k=0\/ k=1\/ k=2\/ k=3\/ k=4\/ k=5:=zo;rcases hk with rfl | rfl | rfl | rfl | rfl | rfl <;> rfl
theorem yiD:∀{k:Nat},k<=6->(yao l r k).lx=r.lx
 | 0,_=>rfl
 | k+1,h=>by
   by_cases hq:yaZ (ybt (yao l r k) k) l
   ·rw [ybW hq,yyS _ zo,yiD zo]
   ·rw [ycp hq,yiD zo]
theorem yom (h:yil l r 0) (hl:yaf l=0):(yaZ (ybt r 6) l->r.lx= [])/\(r.lx= []->yaZ (ybt (ybt r 6) 5) l->r.l9= []):=by
 rcases h with ⟨h,-⟩ | ⟨-,u,fi,la,n,ev,sq,hF,⟨-,-,h⟩ | ⟨hn,g,hg,⟨-,j,x,r',hj,-,hE,hM,rfl⟩ | ⟨h,-⟩⟩⟩
 ·exact absurd hl h
 ·obtain ⟨-,-,-,-,-,-,-,-,-,e9,ex⟩:=RuE.iff.1 h;exact ⟨λ _=>ex,λ _ _=>e9⟩
 ·have ad:=ykn hF hn;obtain ⟨f1,f2,f3,f4,-⟩:=yd4 (how:=0) hF ad;obtain ⟨q,ab,neg,how,hv,e⟩:=yvL (f4 3 zo) (YN hj);obtain ⟨es,-,-,ec,-,-,-,-,-,-,ex⟩:=RuE.iff.1 hE;have m':=(hE.mean l).2 hM;have al:(yao l r' 5).lx=mkN (u 0):=by rw [yiD zo,ex,e];rfl
  have c5:(yao l r' 5).co=0:=ybX yvG (by rw [ec,e];rfl) 5;have n9:yaZ (ybt (yao l r' 5) 5) l->(yao l r' 6).l9= []:=λ h=>by rw [ybW h];rfl
  constructor
  ·intro h;by_cases hq:yaZ (ybt (yao l r' 6) 6) l
   ·rw [ybW hq];rfl
   ·rw [ycp hq] at h;exact absurd h hq
  ·intro h0 h;have hz:∀r7,(r7=yao l r' 6\/ r7=ybt (yao l r' 6) 6)->yaZ (ybt (ybt r7 6) 5) l->(yao l r' 6).l9= []:=λ r7 e7 hz=>by
    by_cases hq:yaZ (ybt (yao l r' 5) 5) l
    ·exact n9 hq
    ·have e6:yao l r' 6=yao l r' 5:=ycp hq;rw [e6] at e7;refine absurd (ywt hl ad (ye8 m' 5).1 c5 (λ y=>?_) ?_) hq
     ·rw [al];exact (hmN hF).2.2 y
     ·rcases e7 with rfl | rfl <;> exact hz
   by_cases hq:yaZ (ybt (yao l r' 6) 6) l
   ·have e:yao l r' 7=ybt (yao l r' 6) 6:=ybW hq;rw [e] at h⊢;exact hz _ (.inr rfl) h
   ·have e:yao l r' 7=yao l r' 6:=ycp hq;rw [e] at h⊢;exact hz _ (.inl rfl) h
 ·cases h
theorem ygH (hR:ycH Rq=0) (h:yil [ybS Rq] r Eq1):Eq1=0/\r.Num/\r.Sm 5000/\ypj r [ybS Rq]:=by
 obtain ⟨hn,hm,k⟩:=yjX h;rcases k with ⟨h1,-⟩ | ⟨-,⟨rfl,h3⟩ | ⟨-,-,u,fi,la,n,ev,sq,g,hF,h2,hg,h5⟩⟩
 ·exact absurd (yaT (yay hR)) h1
 ·exact ⟨rfl,hn,hm,h3⟩
 ·obtain ⟨x,hx,aq⟩:=yjW hR hF h2 hg;exact absurd aq (h5 x hx)
end
end
section
attribute [local irreducible] yak
attribute [local go_sem ↓] ybd ybb
theorem ypM (W:World) (Tq:TypeId) (t:Int) (f:Bool):(W.alloc (J #[Xb false,E T t,Xb f] Tq)).cell? (Z W.heap.size 0 N)=G (Xb false):=by simp [go_sem]
theorem yjI (g g2:Nat) (r z:Ru) (w:World) (hs:Sl w (G (Z g 0 N)) (cls [ybS r])) (hn:r.Num) (h0:ycH r=0) (bg:Sl w (G (Z g2 0 N)) (cls [ybS z])) (bj:z.Num) (h2:ycH z=0) (hM:¬yaZ z [ybS r]) (hT:Tab w) :
  H I 11 #[Xs (G (Z g 0 N)) 1 1,Xs (G (Z g2 0 N)) 1 1] w λ e w'=>(∃t f,e=Q (Xt #[.agg #[Xb false,E T t,Xb f],E T 0]))/\Bw w w':=
 (yeu (G (Z g 0 N)) 1 [ybS r] (G (Z g2 0 N)) 1 [ybS z] w zs zs hs (λ h=>by cases h) (yhR hn h0) zs zs bg (λ h=>by cases h) (yhR bj h2) hT).mono λ e w' h=>⟨by
   obtain ⟨y,t,f,er,h1,h3,-,h4⟩:=h.1;have e:er=0:=(by rw [h3,yc7,yaT (yay h0),yaT (yay h2)];rfl);rcases h4 e with ⟨k,-⟩ | ⟨-,rfl,-⟩
   ·refine absurd ⟨h2,by rw [yc7,yaT (yay h0),yaT (yay h2)];rfl,λ s=>?_⟩ hM;have:=k s;dsimp only at this⊢;rw [bne_comm];exact this
   ·rw [e] at h1;exact ⟨t,f,h1⟩,h.2⟩
theorem yf6 (r:Ru) (p:Nat) (w:World) (hr:RuS w r) (hm:r.Sm 281474976710656) (hn:r.Num) (hp:p<256) (hT:Tab w):H I 5 #[ruv r, .int .u8 p] w λ e w'=>e=Q (Xb true)/\Bw w w':=by
 have aM:Bw w (w.alloc (J (yad r).toArray 25)):=yaa (Ye _ _) zg;have ay:=ybk w r 25;have s0:w.heap.size<(w.alloc (J (yad r).toArray 25)).heap.size:=by simp
 obtain ⟨W0,aK⟩:=zx (w.alloc (J (yad r).toArray 25));rw [aK] at aM ay s0;obtain ⟨b1,aN⟩:=zx w.heap.size;rw [aN] at ay s0;have cG:=hid (λ W=>ymd r W hm);have cV:=hid (λ W (hB:Bw w W)=>ykE W (hT.later hB));have H0:=hid aM;have aB:=hid ay;have a9:=hid aK;have E1:=hid aN;clear aM ay s0 aK aN;by_cases hg:yg1 r=true
 ·rw [hg] at cG;clear hg hr hm hn hT;go_enter Tryz.func5,Tryz.ntmps5
  go_upto_region 1 with fail
  rw [a9,E1];have ld:=aB.ldw;go_wp2_with fail
  refine zm (cG _) ?_;rintro w1 hB;have H1:=hid (zu H0 hB);have ba:=hid (aB.later hB);clear hB ld;go_wp2_with fail
  refine zm (cV _ H1) ?_;rintro wz hB;have HF:=hid (zu H1 hB);clear hB;go_wp2;go_ret;exact ⟨rfl,HF⟩
 have aH:yg1 r=false:=by simpa using hg
 rw [aH] at cG;have m0:=ytW aH;have sm:r.Sm 1000000:=m0.up zd;have cF:=hid (λ W (hB:Bw w W)=>ymf r W (hr.below hB) sm hn (hT.later hB));have cR:=hid (λ g x W (hB:Bw w W) hg hn h0=>yih (G (Z g 0 N)) 1 [ybS x] W zs zs hg (λ h=>by cases h) (yhR hn h0) (hT.later hB));have cL:=hid (λ r W (hB:Bw w W) hr hm hn hz=>yiY r W hr hm hn hz);have cZ:=hid (λ z W hr hm hn hz=>yfz z W hr hm hn hz);have cS:=hid (λ x y W hx hy mx my nx ny=>yo4 x y W hx hy mx my nx ny);have cE:=hid (λ g g2 z W (hB:Bw w W) hg h0 ax bi hz hM=>yjI g g2 r z W hg hn h0 ax bi hz hM (hT.later hB));have Hn:=hid hn;clear hg aH m0 hr hm hn hT sm;go_enter Tryz.func5,Tryz.ntmps5
 go_upto_region 1 with fail
 rw [a9,E1];have ld:=aB.ldw;go_wp2_with fail
 refine zm (cG _) ?_;rintro w1 hB;have H1:=hid (zu H0 hB);have ba:=hid (aB.later hB);clear hB ld;have ld:=ba.ldw;go_wp2_with fail
 refine (cF _ H1).mono ?_;rintro e w2 ⟨hL,hB⟩;have H2:=hid (zu H1 hB);clear hB ld cF;rcases hL with ⟨h0,rfl⟩ | ⟨h0,g,rfl,-,aG⟩
 ·generalize hc:ycH r=c at h0⊢
  have q:(c != 0)=true:=by simpa using h0
  clear hc h0;go_wp2_with fail
  refine zm (cV _ H2) ?_;rintro wz hB;have HF:=hid (zu H2 hB);clear hB;go_wp2;go_ret;exact ⟨rfl,HF⟩
 have au:=hid (cR g r w2 H2 aG Hn h0);have a3:=hid aG;have Hl:=hid h0;clear aG h0;go_wp2_with fail
 refine au.mono ?_;rintro e w3 ⟨⟨x,Eq1,rfl,aT,hx⟩,hB⟩;obtain ⟨rfl,aW,aY,hG⟩:=ygH Hl hx;have aU:=yom hx (yaT (yay Hl));have H3:=hid (zu H2 hB);have bo:=hid (a3.below hB);have ae:=hid aT;have HG:=hid hG;have ab:=hid aW;have av:=hid aY;have Hx:Hid (yil [ybS r] x 0):=hx;have a4:=hid aU;clear hB hx hG aW aY a3 au aT aU;obtain ⟨st,hR,hb,hz⟩:=ycj w3 x;obtain ⟨w4,hn⟩:=zx ((w3.alloc (J zl0 25)).setCells w3.heap.size 0 (yad x));rw [hn] at st hR hb hz;obtain ⟨bx,ad⟩:=zx w3.heap.size;have H4:=hid (zu H3 hb);have aA:=hid hR;have aC:=hid hb;rw [ad] at st aA;have Ex:=hid ad;clear hR hb hz hn ad;go_upto_region 7 with (rw [Ex])
 clear st;have ld:=aA.ld;have a2:=hid (cL x w4 H4 (ae.below aC) av.mil ab HG.co HG.e);clear cL;go_wp2_with fail
 refine a2.mono ?_;rintro e w5 ⟨⟨g2,rfl,ax⟩,hB⟩;have H5:=hid (zu H4 hB);have ao:=hid (zu aC hB);have a8:=hid (aA.c.later hB);have au:=hid (cR g2 x w5 H5 ax ab HG.e);clear hB ax ld a2 cR aA aC;go_wp2_with fail
 refine au.mono ?_;rintro e w6 ⟨⟨y,E',rfl,aS,hy⟩,hB⟩;obtain ⟨ee,aQ⟩:=yqd (yaT (yay Hl)) (yaT (yay HG.e)) (λ t=>(HG.same t).symm) Hx hy;obtain ⟨-,aV,aX,-⟩:=ygH HG.e hy;subst ee;have H6:=hid (zu H5 hB);have an:=hid (zu ao hB);have a7:=hid (a8.later hB);have bn:=hid (yp9 aQ);have bp:=hid aS;have bq:=hid aV;have br:=hid aX;clear hB aS hy aQ aV aX au ao a8;obtain ⟨st,hR,hb,hz⟩:=ycj w6 y;obtain ⟨w7,hn⟩:=zx ((w6.alloc (J zl0 25)).setCells w6.heap.size 0 (yad y));rw [hn] at st hR hb hz;obtain ⟨bv,ad⟩:=zx w6.heap.size;have H7:=hid (zu H6 hb);have aP:=hid hR;have aD:=hid hb;rw [ad] at st aP;have Ev:=hid ad;clear hR hb hz hn ad;go_upto_region 11 with (rw [Ev])
 clear st;have be:=aP.ld;have aJ:=a7.later aD.out;have ap:=aJ.ldw;have a6:=hid aJ;have ai:=hid (zu an aD);have ag:=hid (cS x y w7 (ae.below ai) (bp.below aD) av.mil br.mil ab bq);rw [bn] at ag;clear aJ a7 an;go_wp2_with fail
 refine zm ag ?_;rintro w8 hB;have H8:=hid (zu H7 hB);have aI:=a6.later hB;have ld:=aI.ldw;have a5:=hid aI;have aw:=hid (zu ai hB);clear hB aI a6 ai ap be ag aP aD;obtain ⟨st,hR,hb,hz⟩:=ycj w8 x;obtain ⟨w9,hn⟩:=zx ((w8.alloc (J zl0 25)).setCells w8.heap.size 0 (yad x));rw [hn] at st hR hb hz;obtain ⟨bz,ad⟩:=zx w8.heap.size;have H9:=hid (zu H8 hb);have az:=hid hR;have bb:=hid hb;rw [ad] at st az;have Ez:=hid ad;clear hR hb hz hn ad;go_upto_region 14 with (rw [Ez])
 clear st;clear ld;obtain ⟨a0,bt,bl⟩:=az.set (r':=ybt x 6) (i:=10) (v:=Xs N 0 0) zo rfl;have z10:=az.z 10;have ar:Bw w8 (w9.setCell (Z bz 10 N) (Xs N 0 0)):=yab bb (by rw [<- Ez];exact zG _);have aa:=hid a0;have ac:=hid ar;clear a0 ar;go_upto_region 15 with fail
 generalize bf:w9.setCell (Z bz 10 N) (Xs N 0 0)=wa at aa ac⊢
 clear bf bl z10 az bb H9;have lx:=(a5.later ac).at 10 rfl;by_cases hc:p%2=0/\x.lx.length=0;focus
  have hz:Hid (yaZ (ybt (ybt x 6) 5) [ybS r]->ygE x (ybt (ybt x 6) 5)=true):=λ h=>by
   have e1:=YB hc.2;have e2:=a4.2 e1 h;exact yp9 (RuE.iff.2 ⟨rfl,rfl,rfl,rfl,rfl,rfl,rfl,rfl,rfl,e2.symm,e1.symm⟩)
  have q2:Int.tmod (p:Int) 2=0:=by rw [Int.tmod_eq_emod_of_nonneg zo];omega
  have q3:(p:Int)%2=0:=zo;have q4:((x.lx.length:Int)==0)=true:=by rw [hc.2];rfl
  have q5:(x.lx.length:Int)=0:=zo;obtain ⟨h9,u9,c9⟩:=aa.set (r':=ybt (ybt x 6) 5) (i:=9) (v:=Xs N 0 0) zo rfl;have z9:=aa.z 9;have aZ:Bw w8 (wa.setCell (Z bz 9 N) (Xs N 0 0)):=yab ac (by rw [<- Ez];exact zG _);have HZ:=hid h9;have am:=hid aZ;obtain ⟨z,aj⟩:=zx (ybt (ybt x 6) 5);have af:Hid (z.co=0/\z.Num/\z.Sm 5000/\∀W,RuS W x->RuS W z):=by
   rw [<- aj];exact ⟨HG.co,⟨ab.st,ab.fq,ab.iv,ab.co,ab.un⟩,yh8 _ 5 (yh8 _ 6 av),λ W h=>yrK _ 5 (yrK _ 6 h)⟩
  rw [aj] at hz HZ;clear h9 aZ aj hc;go_upto_region 17 with fail
  generalize aF:wa.setCell (Z bz 9 N) (Xs N 0 0)=wb at HZ am⊢
  clear aF c9 z9 lx aa ac
 rotate_left;focus
  have hz:Hid (yaZ (ybt x 6) [ybS r]->ygE x (ybt x 6)=true):=λ h=>by
   have e1:=a4.1 h;exact yp9 (RuE.iff.2 ⟨rfl,rfl,rfl,rfl,rfl,rfl,rfl,rfl,rfl,rfl,e1.symm⟩)
  obtain ⟨z,aj⟩:=zx (ybt x 6);have af:Hid (z.co=0/\z.Num/\z.Sm 5000/\∀W,RuS W x->RuS W z):=by
   rw [<- aj];exact ⟨HG.co,⟨ab.st,ab.fq,ab.iv,ab.co,ab.un⟩,yh8 _ 6 av,λ W h=>yrK _ 6 h⟩
  rw [aj] at hz aa;have HZ:=aa;have am:=ac;clear aj aa ac;generalize aF:wa=wb at HZ am lx⊢
  clear aF;have q2:Int.tmod (p:Int) 2= (p:Int)%2:=Int.tmod_eq_emod_of_nonneg zo;by_cases bh:p%2=0;focus
   have q3:(p:Int)%2=0:=zo;have q5:¬(x.lx.length:Int)=0:=zo;have q4:((x.lx.length:Int)==0)=false:=ZD.2 zo
  rotate_left;focus
   have q3:((p:Int)%2==0)=false:=ZD.2 zo;have q6:¬(p:Int)%2=0:=zo
  rotate_left;all_goals
   clear hc bh
 rotate_left 2;all_goals
  have ld:=HZ.ld;have aL:=zu aw am.out;have HB:=hid (zu H8 am);have a1:=hid (cZ z wb (af.2.2.2 _ (ae.below aL)) af.2.2.1.mil af.2.1 af.1);have bd:=hid aL;have hX:=a5.later am.out;have bs:=hid hX;clear aL hX cZ am;go_wp2_with fail
  refine a1.mono ?_;rintro e wc ⟨hL,hB⟩;have al:=hid (zu HB hB);have ah:=hid (zu bd hB);have ap:=(bs.later hB).ldw;have aE:=(HZ.c.later hB).ldw;clear hB ld a1;rcases hL with ⟨h0,rfl⟩ | ⟨h0,g3,rfl,-,aR⟩
  ·generalize hc:ycH z=c at h0⊢
   have q:(c != 0)=true:=(by simpa using h0);clear hc h0 ap aE;go_wp2_with fail
   refine zm (cV _ al) ?_;rintro wz hB;have HF:=hid (zu al hB);clear hB;go_wp2;go_ret;exact ⟨rfl,HF⟩
  have ag:=hid (cS x z wc (ae.below ah) (af.2.2.2 _ (ae.below ah)) av.mil af.2.2.1.mil ab af.2.1);have bm:=hid h0;have aO:=hid aR;clear h0 aR cS;by_cases aq:ygE x z=true
  ·rw [aq] at ag;clear aq;go_wp2_with fail
   refine zm ag ?_;rintro wd hB;have ak:=hid (zu al hB);clear hB ap aE;go_wp2_with fail
   refine zm (cV _ ak) ?_;rintro we hB;have HF:=hid (zu ak hB);clear hB;go_wp2;go_ret;exact ⟨rfl,HF⟩
  have hM:¬yaZ z [ybS r]:=λ h=>aq (hz h);rw [show ygE x z=false by simpa using aq] at ag;have HM:=hid hM;clear aq hM;go_wp2_with fail
  refine zm ag ?_;rintro wd hB;have ak:=hid (zu al hB);have bk:=hid (cE g g3 z wd ak (bo.below (zu ah hB)) Hl (aO.below hB) af.2.1 bm HM);clear hB ap aE cE ag;go_wp2_with fail
  refine bk.mono ?_;rintro e we ⟨⟨t,f,rfl⟩,hB⟩;have bc:=hid (zu ak hB);clear hB;have hv:=ypM we 35 t f;have hb:Bw we (we.alloc (J #[Xb false,E T t,Xb f] 35)):=yaa (Ye _ _) zg;go_upto_region 21 with fail
  generalize hw:we.alloc (J #[Xb false,E T t,Xb f] 35)=wf at hv hb⊢
  have HY:=hid (zu bc hb);clear hw hb;go_wp2_with fail
  refine zm (cV _ HY) ?_;rintro wz hB;have HF:=hid (zu HY hB);clear hB;go_wp2;go_ret;exact ⟨rfl,HF⟩
end
