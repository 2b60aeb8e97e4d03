/- roll.made -/
import Derived.Test.YtkdaiadfgfbgmaaGreatDoorQ0391ba
import Derived.Deep.AppendLies
import Derived.Sort.CutIn
import Derived.LaidEql
import Derived.Laws.EntriesVeiled
import Derived.Deep.DeepCutAuto
import Derived.Deep.CutBlock
import Derived.Test.YtkdaiadfgfbgmaaGreatDoorCards
import Derived.Test.YtkdaiadfgfbgmaaGreatDoorTie
import Derived.Deep.DeepHandedRow
import Derived.Lib.LaidTab
set_option maxRecDepth 100000
set_option maxHeartbeats 25600000
set_option linter.unusedSimpArgs false
open Option renaming none -> N, some -> G
open Go.Value renaming int -> E, pointer -> R, slice -> Xs, bool -> Xb, func -> Xf, tuple -> Xt
open Go.IntKind renaming i64 -> T, u64 -> Y
open Go.Addr renaming mk -> Z
open Go renaming Calls -> H
open Go.Proofs.Tryz renaming prog -> I
open Go.Obj renaming cells -> J
open Go.Ending renaming returned -> Q
namespace Go.Proofs.YtkdaiadfgfbgmaaGreatDoor
open Go.RowKit Go.Maps
set_option linter.unusedVariables false
section
variable {F:Blk} {cs:List Cl} {bps:List Nat} {bk br m:Nat} {ws:Nat->Bool} {W:World}
def yow (cs:List Cl) (x:Nat->St1) (n k:Nat):Bool:=(List.range n).any λ i=>yfZ (atC cs i) (x i).a (x i).f (x i).u (x i).p k
theorem yhW (cs:List Cl) (x:Nat->St1) (n k:Nat):yow cs x (n+1) k= (yow cs x n k||yfZ (atC cs n) (x n).a (x n).f (x n).u (x n).p k):=by
 rw [yow,yow,ZL,List.any_append];simp
theorem ymQ (c:Cl) (f u p:Int) (k:Nat):yfZ c false f u p k=false:=by rw [yfZ,Yv]
theorem yiB (x:Nat->St1) {i:Nat} (hi:i<8):(ye6 x)[i*4]? =G (Xb (x i).a)/\(ye6 x)[i*4+1]? =G (E T (x i).f)/\(ye6 x)[i*4+2]? =G (E T (x i).u)/\(ye6 x)[i*4+3]? =G (E T (x i).p):=by
 match i,hi with
 | 0,_=>exact ⟨rfl,rfl,rfl,rfl⟩
 | 1,_=>exact ⟨rfl,rfl,rfl,rfl⟩
 | 2,_=>exact ⟨rfl,rfl,rfl,rfl⟩
 | 3,_=>exact ⟨rfl,rfl,rfl,rfl⟩
 | 4,_=>exact ⟨rfl,rfl,rfl,rfl⟩
 | 5,_=>exact ⟨rfl,rfl,rfl,rfl⟩
 | 6,_=>exact ⟨rfl,rfl,rfl,rfl⟩
 | 7,_=>exact ⟨rfl,rfl,rfl,rfl⟩
 | n+8,hi=>omega
theorem yar.mlt (h:yar W cs br bk bps F ws m) {b:Nat} (hb:W.heap.size<=b):¬RM br bk bps b:=λ hm=>by have:=h.x.lt b (h.x.sub b hm);omega
structure yzl (W:World) (cs:List Cl) (br bk:Nat) (bps:List Nat) (F:Blk) (ws:Nat->Bool) (m:Nat) (x:Nat->St1) (k:Nat) (w:World):Prop where
 roll:∃F',yar w cs br bk bps F' ws m/\GrF F F' W/\∀y,F' y->y≠W.heap.size+1
 disc:DiscAt w (W.heap.size+1) (yow cs x k)
 eff:Eff (RM br bk bps) W w
 kn:w.heap[bk]? =W.heap[bk]?
 box:w.rangeAt W.heap.size 0 (ye6 x)
theorem ysf (x:Nat->St1) (hx:∀i,i<8->(x i).Ok) (h:yar W cs br bk bps F ws m) :
  H I 147 #[R (G (Z br 0 N)),yjO x] W λ e W'=>∃b F',e=Q (R (G (Z b 0 N)))/\yar W' cs br bk bps F' ws m/\GrF F F' W/\DiF W' F' (RM br bk bps) b (yfj cs x)/\Eff (RM br bk bps) W W'/\W'.heap[bk]? =W.heap[bk]?:=by
 obtain ⟨W1,ac⟩:=zx (W.alloc (J (ye6 x).toArray 231));have ax:Bw W W1:=by rw [<- ac];exact yaa (Ye _ _) zg
 have ap:W1.heap.size=W.heap.size+1:=by rw [<- ac];simp
 have ab:W1.rangeAt W.heap.size 0 (ye6 x):=by
  intro j v hv;rw [<- ac,zzn];simpa [go_sem] using hv
 have c0:=hid (yjx N 0 [] W1 zs (Sl.nil _ _));obtain ⟨n,af⟩:=zx cs.length;have h8:n<=8:=by have:=h.x.may;rw [yhV,zzX,zzY] at this;omega
 have Hq:=hid h;have ae:=hid ax;have al:=hid ap;have am:=hid ab;have aE:=hid ac;have Hx:=hid hx;clear h ax ap ab ac hx;go_enter Tryz.func147,Tryz.ntmps147
 go_wp2_with fail
 rw [aE];refine zm c0 ?_;rintro w2 ⟨hD,ad⟩;have hI:Hid (yzl W cs br bk bps F ws m x 0 w2):=by
  have hB:=zu ae ad;refine ⟨⟨F,Hq.below hB,GrF.refl _ _,λ y hy e=>by have:=Hq.x.lt y hy;omega⟩,?_,Eff.of_below hB,hB.block bk Hq.known.lt,λ j v hv=>(ad.cell (p:=Z W.heap.size (0+j) N) (by show W.heap.size<W1.heap.size;rw [al];omega)).trans (am j v hv)⟩;rw [<- al];exact hD.congr λ k _=>rfl
 obtain ⟨a0,aD,k0,-,-⟩:=Hq.x.cls;have k2:w2.cell? (Z br 0 N)=G (Xs a0 n aD):=by
  have hB:=zu ae ad;rw [<- af,<- k0];exact hB.cell (p:=Z br 0 N) Hq.rlt
 rw [al];clear hD ad k0;go_wp2_with fail
 clear k2;have Hn:=hid af;have Ha:∀k,k<n->k<8:=λ k hk=>by omega
 have HA:=hid Ha;clear af Ha;go_loopw [13] (λ i wr=>∃k:Nat,i=E T k/\k<=n/\Hid (yzl W cs br bk bps F ws m x k wr)) (λ i _=>n-(intOf i).toNat)
 case atStart=>exact ⟨0,rfl,by omega,hI⟩
 case round=>
  obtain ⟨k,rfl,hk,HI⟩:=hrel;by_cases hlt:k<n
  ·have aq:k<8:=HA k hlt;obtain ⟨g0,g1,g2,g3⟩:=yiB x aq;have x0:wr.cell? ⟨W.heap.size,k*4,N⟩=G (Xb (x k).a):=(by have:=HI.box _ _ g0;rwa [zzn] at this);have x1:wr.cell? ⟨W.heap.size,k*4+1,N⟩=G (E T (x k).f):=(by have:=HI.box _ _ g1;rwa [zzn] at this);have x2:wr.cell? ⟨W.heap.size,k*4+2,N⟩=G (E T (x k).u):=(by have:=HI.box _ _ g2;rwa [zzn] at this);have x3:wr.cell? ⟨W.heap.size,k*4+3,N⟩=G (E T (x k).p):=(by have:=HI.box _ _ g3;rwa [zzn] at this);have aK:(k:Int)<8:=zo;have ay:=hid (Hx k aq);clear g0 g1 g2 g3;obtain ⟨s,hs⟩:=zx (x k);rw [hs] at x0 x1 x2 x3 ay;have Hs:=hid hs;clear hs;obtain ⟨sa,sf,su,sp⟩:=s;cases sa
   ·have aH:Hid (yzl W cs br bk bps F ws m x (k+1) wr):=by
     obtain ⟨i1,i2,i3,ik,i4⟩:=HI.out;exact ⟨i1,i2.congr (λ t _=>by rw [yhW,Hs,ymQ,Bool.or_false]),i3,ik,i4⟩
    clear HI;go_wp2_with fail
    exact ⟨⟨k+1,by go_num,by omega,aH⟩,by simp [intOf];omega⟩
   ·obtain ⟨F1,hr,hG,aj⟩:=HI.roll;have cP:=hid (yse k ⟨true,sf,su,sp⟩ (zp Hn.out) ay hr);have HG:=hid hG;have aJ:=hid aj;clear hr hG aj;go_wp2_with fail
    refine cP.mono ?_;rintro e w3 ⟨b,F2,rfl,ao,ai,ah,ak,ar⟩;have au:=HI.disc.lt;have ag:∀y,F2 y->y≠W.heap.size+1:=λ y hy e=>by
     rcases ai.new y hy with h1 | h1
     ·exact aJ y h1 e
     ·omega
    have aw:=HI.disc.eff ak (Hq.mlt zo);have cJ:=hid (ypm (W.heap.size+1) b _ _ w3 aw ah.2.2 (ag b ah.1));have az:=hid ao;have aI:=hid (HG.trans ai HI.eff.size);have an:=hid ak;have aF:=hid ar;have aA:=hid ag;clear ao ai ah ak ar ag aw au cP x0 x1 x2 x3;go_wp2_with fail
    refine cJ.mono ?_;rintro e w4 ⟨⟨v,rfl⟩,av,aa⟩;have aG:Hid (yzl W cs br bk bps F ws m x (k+1) w4):=by
     have au:=HI.disc.lt;have aB:=an.size;refine ⟨⟨F2,az.keep aa.size (λ y hy=>aa.block y (az.x.lt y hy) (aA y hy)),aI,aA⟩,av.congr (λ t _=>by rw [yhW,Hs]),(HI.eff.trans an (λ _ h=> .inl h)).trans aa (λ y hy=> .inr zo),(aa.block bk (zH (zH Hq.known.lt HI.eff.size) aB) (λ e=>by have:=Hq.known.lt;omega)).trans (aF.trans HI.kn),λ j v hv=>?_⟩;exact (aa.cell (p:=Z W.heap.size (0+j) N) (by show W.heap.size<_;omega) (by show¬W.heap.size= _;omega)).trans ((an.cell (p:=Z W.heap.size (0+j) N) (by show W.heap.size<_;omega) (Hq.mlt zg)).trans (HI.box j v hv))
    clear av aa cJ;go_wp2;exact ⟨⟨k+1,by go_num,by omega,aG⟩,by simp [intOf];omega⟩
  ·have aC:k=n:=zo;subst aC;go_wp2;go_ret;obtain ⟨⟨F1,hr,hG,aj⟩,i2,i3,ik,i4⟩:=HI.out;refine ⟨W.heap.size+1,λ y=>F1 y\/ y=W.heap.size+1,rfl,hr.wide (λ _ h=> .inl h) (λ y hy=>?_),⟨λ y hy=> .inl (hG.sub y hy),λ y hy=>?_⟩,⟨.inr rfl,Hq.mlt zo,?_⟩,i3,ik⟩
   ·rcases hy with hy | rfl
    ·exact hr.x.lt y hy
    ·exact i2.lt
   ·rcases hy with hy | rfl
    ·exact hG.new y hy
    ·exact .inr zo
   ·exact i2.congr (λ t _=>by rw [yfj,Hn,yow])
end
section
variable {n:Int} {cs:List Cl} {a b k:Nat} {W w:World}
def stK (cs:List Cl) (n:Int) (k:Nat) (i:Nat):St1:=if i<k then stN cs n i else st0
def ykw (cs:List Cl) (n:Int) (k:Nat):Nat:=mk λ i=>decide (i<k)&&ybq (atC cs i) n
def yex (cs:List Cl) (n:Int) (k:Nat):Bool:=(List.range k).all λ i=>!ybq (atC cs i) n||decide (sF (atC cs i) n=0/\sU (atC cs i) n=86399/\sP (atC cs i) n=0)
def CS8 (w:World) (b:Nat) (x:Nat->St1):Prop:=∀i,i<8->w.cell? ⟨b,i*4,N⟩=G (Xb (x i).a)/\w.cell? ⟨b,i*4+1,N⟩=G (E T (x i).f)/\w.cell? ⟨b,i*4+2,N⟩=G (E T (x i).u)/\w.cell? ⟨b,i*4+3,N⟩=G (E T (x i).p)
theorem CS8.range {x:Nat->St1} (h:CS8 w b x):w.rangeAt b 0 (ye6 x):=by
 intro j v hv;rw [zzn];have hj:j<32:=(zzq.1 hv).1;have hi:j/4<8:=zo;obtain ⟨g0,g1,g2,g3⟩:=yiB x hi;obtain ⟨h0,h1,h2,h3⟩:=h _ hi;have e:j=j/4*4+j%4:=zo;have hr:j%4<4:=zo;generalize j%4=r at e hr
 generalize j/4=q at e g0 g1 g2 g3 h0 h1 h2 h3
 subst e;match r,hr with
 | 0,_=>rw [Nat.add_zero] at hv⊢;rw [h0,<- g0,hv]
 | 1,_=>rw [h1,<- g1,hv]
 | 2,_=>rw [h2,<- g2,hv]
 | 3,_=>rw [h3,<- g3,hv]
 | n+4,hr=>omega
theorem CS8.of {x:Nat->St1} (h:w.rangeAt b 0 (ye6 x)):CS8 w b x:=λ i hi=>by
 obtain ⟨g0,g1,g2,g3⟩:=yiB x hi;have r:=λ j v hv=>h j v hv;simp only [zzn] at r;exact ⟨r _ _ g0,r _ _ g1,r _ _ g2,r _ _ g3⟩
theorem CS8.below {w':World} {B:Nat} {x:Nat->St1} (h:CS8 w b x) (hb:Below B w w') (hB:b<B):CS8 w' b x:=λ i hi=>by
 obtain ⟨h0,h1,h2,h3⟩:=h i hi;exact ⟨(hb.cell (p:=Z b _ N) hB).trans h0,(hb.cell (p:=Z b _ N) hB).trans h1,(hb.cell (p:=Z b _ N) hB).trans h2,(hb.cell (p:=Z b _ N) hB).trans h3⟩
theorem CS8.congr {x y:Nat->St1} (h:CS8 w b x) (e:∀i,i<8->x i=y i):CS8 w b y:=λ i hi=>by rw [<- e i hi];exact h i hi
structure AtI (W:World) (cs:List Cl) (n:Int) (s:Nat->Int) (k:Nat) (w:World):Prop where
 bel:Bw W w
 sh:ShS w W.heap.size s
 lt:W.heap.size+1<w.heap.size
 st:CS8 w (W.heap.size+1) (stK cs n k)
 fz:∀i,w.frozen? (Z (W.heap.size+1) i N)=false
theorem AtI.set {w4:World} {s:Nat->Int} {ta:Bool} {tf tu tp:Int} (h:AtI W cs n s k w) (hk:k<8) (hB:Bw w w4) (ht:stN cs n k= ⟨ta,tf,tu,tp⟩) :
  AtI W cs n s (k+1) ((((w4.setCell ⟨W.heap.size+1,k*4,N⟩ (Xb ta)).setCell ⟨W.heap.size+1,k*4+1,N⟩ (E T tf)).setCell ⟨W.heap.size+1,k*4+2,N⟩ (E T tu)).setCell ⟨W.heap.size+1,k*4+3,N⟩ (E T tp)):=by
 have hb:Bw W w4:=h.bel.trans (hB.mono h.bel.size);have hl:=zH h.lt hB.size;have hc:=h.st.below hB h.lt;refine ⟨yab (yab (yab (yab hb zo) zo) zo) zo,?_,by simpa using hl,λ i hi=>?_,λ i=>?_⟩
 ·have h2:=h.sh.below hB (zp h.lt);have e:∀(o:Nat) (u:Value) (w':World),Below (W.heap.size+1) w' (w'.setCell (Z (W.heap.size+1) o N) u):=λ o u w'=>yab (Ye _ _) zg;exact (((h2.below (e _ _ _) zo).below (e _ _ _) zo).below (e _ _ _) zo).below (e _ _ _) zo
 ·obtain ⟨g0,g1,g2,g3⟩:=hc i hi;by_cases e:i=k
  ·subst e;have e2:stK cs n (i+1) i= ⟨ta,tf,tu,tp⟩:=(by rw [stK,Yd zo,ht]);rw [e2];refine ⟨?_,?_,?_,?_⟩ <;> simp [go_sem,g0,g1,g2,g3]
  ·have e2:stK cs n (k+1) i=stK cs n k i:=by
    rw [stK,stK];by_cases h1:i<k
    ·rw [Yd zo,Yd h1]
    ·rw [Yb zo,Yb h1]
   rw [e2];refine ⟨?_,?_,?_,?_⟩ <;> simp [go_sem,g0,g1,g2,g3] <;> omega
 ·simp [go_sem,hB.frozen (p:=Z (W.heap.size+1) i N) h.lt,h.fz i]
theorem yv1 {i:Nat} (hi:i<cs.length):stG (atC cs i) n= (stN cs n i).v:=by
 rw [yp2,stN,Yd hi]
theorem yrZ (cs:List Cl) (n:Int):ykw cs n 0=0:=by
 rw [ykw];exact (ybm λ i _=>by simp).trans yct
theorem yuF (aC:k<64) (h:ybq (atC cs k) n=true):ykw cs n k|||2 ^ k=ykw cs n (k+1):=by
 rw [ykw,yzC aC,ykw];refine ybm λ i hi=>?_;by_cases e:i=k
 ·subst e;simp [h]
 ·have:decide (i<k+1)=decide (i<k):=Zu.2 ⟨λ _=>by omega,λ _=>by omega⟩
  simp [e,this]
theorem yxm (h:ybq (atC cs k) n=false):ykw cs n k=ykw cs n (k+1):=by
 rw [ykw,ykw];refine ybm λ i hi=>?_;by_cases e:i=k
 ·subst e;simp [h]
 ·have:decide (i<k+1)=decide (i<k):=Zu.2 ⟨λ _=>by omega,λ _=>by omega⟩
  simp [this]
theorem yr0 (h:k<=8):ykw cs n k<256:=by
 refine Nat.lt_pow_two_of_testBit (n:=8) _ (λ i hi=>?_);rw [ykw,yaW,zzd (show¬i<k by omega),Yv,Y3]
theorem yyb (ha:a<256) (hb:b<256):bits .or T (a:Int) (b:Int)= ((a|||b:Nat):Int):=by
 show IntKind.i64.wrap ((BitVec.ofInt 64 (a:Int)|||BitVec.ofInt 64 (b:Int)).toNat:Int)= _;rw [BitVec.toNat_or,ybp zo,ybp zo];have:=ZY (n:=8) ha hb;generalize a|||b=c at *
 rw [IntKind.wrap_i64];omega
theorem yx2 (h:k<8):wrap64 ((2:Int) ^ k)= ((2 ^ k:Nat):Int)/\2 ^ k<256:=by
 match k,h with
 | 0,_=>exact ⟨by simp [wrap64],by decide⟩
 | 1,_=>exact ⟨by simp [wrap64],by decide⟩
 | 2,_=>exact ⟨by simp [wrap64],by decide⟩
 | 3,_=>exact ⟨by simp [wrap64],by decide⟩
 | 4,_=>exact ⟨by simp [wrap64],by decide⟩
 | 5,_=>exact ⟨by simp [wrap64],by decide⟩
 | 6,_=>exact ⟨by simp [wrap64],by decide⟩
 | 7,_=>exact ⟨by simp [wrap64],by decide⟩
 | n+8,h=>omega
theorem yAp (ha:a<256) (h:k<8):bits .or T (a:Int) (wrap64 ((2:Int) ^ k))= ((a|||2 ^ k:Nat):Int):=by
 rw [(yx2 h).1];exact yyb ha (yx2 h).2
theorem yfc {P:Program} {fn:Func} {p t u:Tmp} {ty:TypeId} (h:fn.results= #[.cell p ty, .tmp t, .tmp u]) (tmps:Array Value) (w:World) (b o:Nat) (cs:List Value) (d:TypeDesc)
  (hp:tmps.getD p undef=R (G (Z b o N))) (hc:w.rangeAt b o cs) (hu:P.underlying ty=G d) (hd:d.isRow=true) (hi:(P.info? ty).map (·.size)=G cs.length) :
  (results fn tmps).run P w= .ok (Xt #[.agg cs.toArray,tmps.getD t undef,tmps.getD u undef]) w:=by
 have ar:tmps[p]?.getD undef=R (G (Z b o N)):=by simpa using hp
 simp [results,h,ar,asAddr,run_loadVar_mid w b o ty cs d hc hu hd hi]
theorem yfl:(Tryz.prog.info? 231).map (·.size)=G 32:=by kernel_rfl
def yfk (v:Value):Sem Value:=Instr.loadAt 231 v
theorem ynh (v:Value):Instr.loadAt 231 v=yfk v:=rfl
def yiz (v u:Value):Sem Unit:=Instr.storeAt 231 v u
theorem yjM (v u:Value):Instr.storeAt 231 v u=yiz v u:=rfl
attribute [local go_sem ↓] ywS ynh yjM
theorem yuR {br bk:Nat} {bps:List Nat} {F:Blk} {ws:Nat->Bool} {m:Nat} (n:Int) (h0:0<=n) (h1:n<146097) (h:yar W cs br bk bps F ws m) :
  H I 146 #[R (G (Z br 0 N)),shN n] W λ e W'=>e=Q (Xt #[yjO (stN cs n),E T (yid cs n:Nat),Xb (yfE cs n)])/\Bw W W':=by
 obtain ⟨Nq,hN⟩:=zx cs.length;obtain ⟨a1,c1,aK,k1,s1,l1,v1⟩:=h.x.laps;rw [hN] at k1;have HK:=hid h;have Hv:=hid v1;have aD:=hid s1;have al:=hid l1;have HN:=hid hN;have ae:Hid (0<=n/\n<146097):=⟨h0,h1⟩;rw [<- ya7];have Hs:Hid (shq (shF n)=shN n):=ya7 n;generalize hs:shF n=s at Hs⊢
 rw [shq];go_enter Tryz.func146,Tryz.ntmps146
 obtain ⟨W2,ac⟩:=zx ((W.alloc (J (ybi s).toArray 83)).alloc (J (ye6 (λ _=>st0)).toArray 231));have hI:Hid (AtI W cs n s 0 W2):=by
  have hb:=yaa (o:=J (ybi s).toArray 83) (Ye W.heap.size W) zg;have aj:=yaa (o:=J (ye6 (λ _=>st0)).toArray 231) (Ye (W.alloc (J (ybi s).toArray 83)).heap.size _) zg;rw [ac] at aj;refine ⟨zu hb aj,?_,?_,?_,?_⟩
  ·exact ShC.below (ycB W 83 _ _ _ _ _ _ _ _ _ _) aj zs
  ·rw [<- ac];simp
  ·refine CS8.congr (x:=λ _=>st0) (CS8.of λ j v hv=>?_) (λ i _=>by rw [stK,Yb zo]);rw [<- ac,zzn,show W.heap.size+1= (W.alloc (J (ybi s).toArray 83)).heap.size by simp];simpa [go_sem] using hv
  ·intro i;rw [<- ac,show W.heap.size+1= (W.alloc (J (ybi s).toArray 83)).heap.size by simp];exact yan _ _ _ i
 have k2:W2.cell? (Z br 1 N)=G (Xs a1 Nq c1):=(hI.bel.cell (p:=Z br 1 N) HK.rlt).trans k1;have aF:Hid ((W.alloc (J #[E T (s 0),E T (s 1),E T (s 2),E T (s 3),E T (s 4),E T (s 5),E T (s 6),E T (s 7),E T (s 8),E T (s 9)] 83)).alloc (J zl5 231)=W2):=ac;go_upto_region 2 with fail
 rw [aF];go_wp2_with fail
 go_loopw [5,6,14] (λ a q i wr=>∃k:Nat,i=E T k/\k<=Nq/\a=E T (ykw cs n k:Nat)/\q=Xb (yex cs n k)/\Hid (AtI W cs n s k wr)) (λ _ _ i _=>Nq-(intOf i).toNat)
 case atStart=>exact ⟨0,rfl,by omega,by rw [yrZ];rfl,rfl,hI⟩
 case round=>
  obtain ⟨k,rfl,hk,rfl,rfl,HI⟩:=hrel;by_cases hlt:k<Nq
  ·obtain ⟨lo,hi,hv,ax,aJ⟩:=Hv k (zp HN.out);have hc:=HK.x.ok (atC cs k) (by rw [yer (zp HN.out)];exact zzr _);obtain ⟨y1,y2,y3,y4,y5,y6,ay,ab⟩:=hv.call hc ae.1 ae.2;have cL:=hid (λ W' (hB:Bw W W')=>by have:=ab W' (zI ax hB.size) (λ b _ h2=>hB.block b zo);rw [<- Hs,shq,yv1 (zp HN.out)] at this;exact this);obtain ⟨b1,o1,rfl,aq,-,-,gc⟩:=aD.at (j:=k) (by have:=HN.out;have:=al.out;omega);have gk:wr.cell? (Z b1 (o1+k) N)=G (yf1 y1 y2 y3 y4 y5 y6):=by
    rw [<- ay,Yz,zzp (by have:=HN.out;have:=al.out;omega)];exact (HI.bel.cell (p:=Z b1 (o1+k) N) aq).trans (gc k (by have:=HN.out;have:=al.out;omega))
   dsimp only [yf1] at gk;obtain ⟨s0,s1,s2,s3,s4,s5,s6,s7,s8,s9⟩:=HI.sh;have h8:(k:Int)<8:=by
    have:=HK.x.may;rw [yhV,zzX,zzY] at this;have:=HN.out;omega
   go_wp2_with fail
   refine zm (cL _ HI.bel) ?_;rintro w4 aB;generalize ht:stN cs n k=t
   have Ht:=hid ht;have an:=hid aB;obtain ⟨ta,tf,tu,tp⟩:=t;have fz:=(λ i=>(an.frozen (p:=Z (W.heap.size+1) i N) HI.lt).trans (HI.fz i):∀i,w4.frozen? (Z (W.heap.size+1) i N)=false);have ag:=HI.st.below an HI.lt;obtain ⟨c0,aL,c2,c3⟩:=ag k zo;go_upto_region 6 with fail
   have af:=hid (HI.set zo an Ht);generalize aI:(((w4.setCell ⟨W.heap.size+1,k*4,N⟩ (Xb ta)).setCell ⟨W.heap.size+1,k*4+1,N⟩ (E T tf)).setCell ⟨W.heap.size+1,k*4+2,N⟩ (E T tu)).setCell ⟨W.heap.size+1,k*4+3,N⟩ (E T tp)=W5 at af⊢
   obtain ⟨x0,x1,x2,x3⟩:=af.st k zo;rw [show stK cs n (k+1) k= ⟨ta,tf,tu,tp⟩ by rw [stK,Yd zo,Ht]] at x0 x1 x2 x3;have aa:ybq (atC cs k) n=ta/\sF (atC cs k) n=tf/\sU (atC cs k) n=tu/\sP (atC cs k) n=tp:=by
    have h:=Ht.out;rw [stN,Yd (zp HN.out)] at h;injection h with e1 e2 e3 e4
    exact ⟨e1,e2,e3,e4⟩
   have ah:St1.Ok ⟨ta,tf,tu,tp⟩:=(by rw [<- Ht];exact yp1 HK.x.ok ae.1 ae.2 k);have ad:yex cs n (k+1)= (yex cs n k&&(!ta||decide (tf=0/\tu=86399/\tp=0))):=by
    rw [yex,yex,ZL,List.all_append,List.all_cons,List.all_nil,aa.1,aa.2.1,aa.2.2.1,aa.2.2.2,Y7]
   have HP:=hid aa;generalize hq:yex cs n k=q at ad⊢
   generalize aA:ykw cs n k=aN
   have am:=hid aA;cases ta
   ·have HA:Hid (ykw cs n (k+1)=aN):=(by rw [<- am];exact (yxm HP.1).symm);have HW:Hid (yex cs n (k+1)=q):=(by rw [ad];cases q <;> rfl);go_wp2_with fail
    exact ⟨⟨k+1,by go_num,by omega,by rw [HA],by rw [HW],af⟩,by simp [intOf];omega⟩
   ·have HA:Hid (aN|||2 ^ k=ykw cs n (k+1)):=(by rw [<- am];exact yuF zo HP.1);have he:=hid (λ w=>yoO true tf tu tp true 0 86399 0 w ah.f ah.u ah.p ⟨by decide,by decide⟩ ⟨by decide,by decide⟩ ⟨by decide,by decide⟩);have hd:(decide (true=true/\tf=0/\tu=86399/\tp=0))=decide (tf=0/\tu=86399/\tp=0):=(by simp);rw [hd] at he;obtain ⟨d,az⟩:=zx (decide (tf=0/\tu=86399/\tp=0));rw [az] at he ad;have HW:Hid (yex cs n (k+1)= (q&&d)):=(by rw [ad];rfl);have aH:=he W5;have au:=hid (yAp (a:=aN) (k:=k) (by rw [<- am];exact yr0 zo) zo);cases q;rotate_left;rotate_left;all_goals
     go_wp2_with fail
     exact ⟨⟨k+1,by go_num,by omega,by rw [au,HA],by rw [HW];rfl,af⟩,by simp [intOf];omega⟩
  ·have aw:k=Nq:=zo;subst aw;have hx:Hid (CS8 wr (W.heap.size+1) (stN cs n)):=HI.st.congr (λ i _=>by
    rw [stK];by_cases h:i<k
    ·rw [Yd h]
    ·rw [Yb h,stN,Yb (zp HN.out)])
   have av:(yfk (R (G (Z (W.heap.size+1) 0 N)))).run I wr= .ok (yjO (stN cs n)) wr:=run_loadAt_mid wr _ 0 231 (ye6 (stN cs n)) _ hx.range Tryz.underlying231 rfl yfl;have ao:wr.there (W.heap.size+1) 0 32:=λ j hj=>⟨by rw [hx.range j _ (zzp (by simpa using hj))];rfl,by rw [zzn];exact HI.fz j⟩;obtain ⟨W9,ak⟩:=zx (wr.setCells (W.heap.size+1) 0 (ye6 (stN cs n)));have ag:(yiz (R (G (Z (W.heap.size+1) 0 N))) (yjO (stN cs n))).run I wr= .ok () W9:=by
    rw [<- ak];exact Zy (P:=I) wr (W.heap.size+1) 0 231 (ye6 (stN cs n)).toArray ao yfl (by rw [List.all_toArray];rfl)
   have ap:W9.rangeAt (W.heap.size+1) 0 (ye6 (stN cs n)):=(by rw [<- ak];exact Zd _ _ _ _ ao);have ai:(yfk (R (G (Z (W.heap.size+1) 0 N)))).run I W9= .ok (yjO (stN cs n)) W9:=run_loadAt_mid W9 _ 0 231 (ye6 (stN cs n)) _ ap Tryz.underlying231 rfl yfl;have aG:Hid (Bw W W9):=(by show Below _ _ _;rw [<- ak];exact yaB zo _ _ _ HI.bel);have HA:Hid (ykw cs n k=yid cs n):=(by have:=HN.out;rw [<- this];rfl);have HW:Hid (yex cs n k=yfE cs n):=(by have:=HN.out;rw [<- this];rfl);have aE:=hid ap;obtain ⟨V,hV⟩:=zx (yjO (stN cs n));rw [hV] at av ag ai;have HV:=hid hV;go_wp2;refine Yh (yfc rfl _ _ (W.heap.size+1) 0 (ye6 (stN cs n)) _ rfl aE Tryz.underlying231 rfl yfl) rfl ⟨?_,aG⟩;rw [<- HA,<- HW];rfl
end
section
variable {F:Blk} {n:Int} {cs:List Cl} {bps:List Nat} {bk br m:Nat} {ws:Nat->Bool} {V v:Value} {W W':World}
def ybQ (cs:List Cl) (n:Int) (ws:Nat->Bool) (m:Nat) (ab:Nat->Bool) (m':Nat):Prop:=
 (yid cs n=0/\ab=ws/\m' =m)\/
 (yid cs n≠0/\yfE cs n=true/\ab= (λ i=>ws i||decide (i=yid cs n))/\m' =if ws (yid cs n) then m else m+1)\/
 (yid cs n≠0/\yfE cs n=false/\ab=ws/\(m' =m\/ m' =m+1))
def AtR (W:World) (cs:List Cl) (br bk:Nat) (bps:List Nat) (F:Blk) (ws:Nat->Bool) (m:Nat) (n:Int) (e:Ending) (W':World):Prop:=
 ∃(d:Option Nat) (F':Blk) (ab:Nat->Bool) (m':Nat),e=Q (ybA d)/\yar W' cs br bk bps F' ab m'/\GrF F F' W/\Eff (RM br bk bps) W W'/\ybQ cs n ws m ab m'/\(d=N->yid cs n=0)/\∀b,d=G b->DiF W' F' (RM br bk bps) b (yax cs n)
theorem yuE (h:cs.length<=8):yid cs n<256:=yr0 (k:=cs.length) h
theorem yar.ws_same (h:yar W cs br bk bps F ws m) {j:Nat} (hj:ws j=true):(λ i=>ws i||decide (i=j))=ws:=by
 funext i
 by_cases e:i=j
 ·subst e;simp [hj]
 ·simp [e]
theorem yeS (h8:cs.length<=8) (h0:0<=n) (h1:n<146097) (h:yid cs n=0) {k:Nat} (hk:k<86400):yax cs n k=false:=by
 rw [<- yeI h0 h1 hk,yfj,List.any_eq_false];intro i hi;rw [YT] at hi;rw [stN,Yd hi];show¬yfZ (atC cs i) (ybq (atC cs i) n) _ _ _ k=true;rw [yrY.1 h i hi zo,ymQ];simp
def HasK (W:World) (b:Nat) (x:Value):Prop:=∃es aa,W.heap[b]? =G (.map es aa)/\∃e∈es.toList,e.key=x
theorem HasK.block {b:Nat} {x:Value} (h:HasK W b x) (hb:W'.heap[b]? =W.heap[b]?):HasK W' b x:=by
 obtain ⟨es,aa,h1,h2⟩:=h;exact ⟨es,aa,hb.trans h1,h2⟩
theorem yvt (h:K8 v):∃l,keyOf I 231 v=G l:=by
 obtain ⟨x,h,ad⟩:=h;rw [h];exact yrb x ad
theorem ylL {M:Blk} {n:Nat} (h:MapS K8 (G8 cs W F M) W bk n) (hV:K8 V) :
  (¬HasK W bk V/\(Instr.lookup 138 (.map (G bk)) V true).run I W= .ok (Xt #[R N,Xb false]) W)\/
  (HasK W bk V/\∃v,G8 cs W F M V v/\(Instr.lookup 138 (.map (G bk)) V true).run I W= .ok (Xt #[v,Xb true]) W):=by
 obtain ⟨es,aa,h1,h2,h3⟩:=h;have ht:Tryz.prog.underlying 138=G (.map 231 84):=by rw [Tryz.underlying138]
 have hz:(zeroValue 84).run I W= .ok (R N) W:=by rfl
 obtain ⟨lx,ae⟩:=yvt hV;rcases keyedSt8.find W ae es.toList (λ e he=>yvt (h3 e he).1) with ⟨g1,g2⟩ | ⟨j,e0,g1,g2,g3⟩
 ·refine .inl ⟨λ ⟨af,ac,q1,e,q2,q3⟩=>?_,by simp [Instr.lookup,run_underlying ht,MapKept.run_getObj_map h1,(ylF W).check _ V hV,g1,hz,Result.andThen]⟩;rw [h1] at q1;injection q1 with q1
  injection q1 with q1 _
  rw [<- q1] at q2;exact g2 e q2 q3
 ·refine .inr ⟨⟨es,aa,h1,e0,YN g2,g3⟩,e0.val,?_,by simp [Instr.lookup,run_underlying ht,MapKept.run_getObj_map h1,(ylF W).check _ V hV,g1,Result.andThen]⟩;have:=(h3 e0 (YN g2)).2;rwa [g3] at this
theorem ylK {Gq:Value->Value->Prop} {n:Nat} (h:MapS K8 Gq W bk n) (hV:K8 V) (hr:(Instr.mapUpdate 138 (.map (G bk)) V v).run I W= .ok () W'):HasK W' bk V:=by
 obtain ⟨es,aa,h1,h2,h3⟩:=h;have ht:Tryz.prog.underlying 138=G (.map 231 84):=by rw [Tryz.underlying138]
 rcases (ylF W).find V hV es.toList (λ e he=>(h3 e he).1) with g1 | ⟨j,e0,g1,g2,g3⟩
 ·have e:(Instr.mapUpdate 138 (.map (G bk)) V v).run I W= .ok () (Go.ChangeMaps.setBlock W bk (.map (es.push ⟨V,v,aa⟩) (aa+1))):=by
   simp [Instr.mapUpdate,run_underlying ht,MapKept.run_getObj_map h1,(ylF W).check false V hV,g1,MapKept.run_setObj_map _ h1,Result.andThen,Go.ChangeMaps.setBlock]
  rw [e] at hr;injection hr with _ hr
  rw [<- hr];exact ⟨_,_,Go.ChangeMaps.heap_setBlock_same h1 _,⟨V,v,aa⟩,by simp,rfl⟩
 ·have hj:es[j]? =G e0:=by rw [<- g2,Array.getElem?_toList]
  have e:(Instr.mapUpdate 138 (.map (G bk)) V v).run I W= .ok () (Go.ChangeMaps.setBlock W bk (.map (es.modify j λ e=>{e with key:=V,val:=v}) aa)):=by
   simp [Instr.mapUpdate,run_underlying ht,MapKept.run_getObj_map h1,(ylF W).check false V hV,g1,hj,g3,(ylF W).stays V hV,MapKept.run_setObj_map _ h1,Result.andThen,Go.ChangeMaps.setBlock]
  rw [e] at hr;injection hr with _ hr
  rw [<- hr];refine ⟨_,_,Go.ChangeMaps.heap_setBlock_same h1 _,{e0 with key:=V,val:=v},?_,rfl⟩;rw [Array.toList_modify];refine YN (i:=j) ?_;rw [List.getElem?_modify,g2];simp
def AtX (W:World) (cs:List Cl) (bk:Nat) (n:Int) (m:Nat) (W':World) (m':Nat):Prop:=
 yid cs n≠0->yfE cs n=false->HasK W' bk (yjO (stN cs n))/\(HasK W bk (yjO (stN cs n))->m' =m)
def AtR2 (W:World) (cs:List Cl) (br bk:Nat) (bps:List Nat) (F:Blk) (ws:Nat->Bool) (m:Nat) (n:Int) (e:Ending) (W':World):Prop:=
 ∃(d:Option Nat) (F':Blk) (ab:Nat->Bool) (m':Nat),e=Q (ybA d)/\yar W' cs br bk bps F' ab m'/\GrF F F' W/\Eff (RM br bk bps) W W'/\ybQ cs n ws m ab m'/\(d=N->yid cs n=0)/\(∀b,d=G b->DiF W' F' (RM br bk bps) b (yax cs n))/\AtX W cs bk n m W' m'
theorem AtR2.at {e:Ending} (h:AtR2 W cs br bk bps F ws m n e W'):AtR W cs br bk bps F ws m n e W':=by
 obtain ⟨d,F',ab,m',h1,h2,h3,h4,h5,h6,h7,-⟩:=h;exact ⟨d,F',ab,m',h1,h2,h3,h4,h5,h6,h7⟩
end
section
variable {F:Blk} {cs:List Cl} {bps:List Nat} {bk br m:Nat} {ws:Nat->Bool} {W:World}
def ylA (v x:Value):Sem Value:=Instr.lookup 138 v x true
theorem ytJ (v x:Value):Instr.lookup 138 v x true=ylA v x:=rfl
def yvs (v:Value):Sem Value:=Builtin.len_ #[138] 3 #[v]
theorem ywD (v:Value):Builtin.len_ #[138] 3 #[v]=yvs v:=rfl
def yvf (v x y:Value):Sem Unit:=Instr.mapUpdate 138 v x y
theorem yvV (v x y:Value):Instr.mapUpdate 138 v x y=yvf v x y:=rfl
attribute [local go_sem ↓] ytJ ywD yvV ynh yjM
theorem yxe (w:World) (x:Nat->St1):∃W3,(yiz (R (G (Z w.heap.size 0 N))) (yjO x)).run I (w.alloc (J zl5 231))= .ok () W3/\W3.rangeAt w.heap.size 0 (ye6 x)/\Bw w W3/\w.heap.size<W3.heap.size:=by
 have a0:(w.alloc (J zl5 231)).there w.heap.size 0 32:=λ j hj=>by
  rw [zzn];refine ⟨?_,yan w _ _ j⟩;have:(w.alloc (J (ye6 (λ _=>st0)).toArray 231)).cell? (Z w.heap.size j N)= (ye6 (λ _=>st0))[j]?:=by simp [go_sem]
  show ((w.alloc (J (ye6 (λ _=>st0)).toArray 231)).cell? (Z w.heap.size j N)).isSome=true;rw [this,zzp (by simpa using hj)];rfl
 refine ⟨_,Zy (P:=I) _ w.heap.size 0 231 (ye6 x).toArray a0 yfl (by rw [List.all_toArray];rfl),Zd _ _ _ _ a0,?_,?_⟩
 ·exact yaB zg _ _ _ (yaa (Ye _ _) zg)
 ·rw [ya4];simp
theorem ytK {w:World} {b:Nat} {x:Nat->St1} (h:w.rangeAt b 0 (ye6 x)):(yfk (R (G (Z b 0 N)))).run I w= .ok (yjO x) w:=
 run_loadAt_mid w b 0 231 (ye6 x) _ h Tryz.underlying231 rfl yfl
theorem ynS (n:Int) (h0:0<=n) (h1:n<146097) (hm:m<4611686018427387904) (h:yar W cs br bk bps F ws m) :
  H I 87 #[R (G (Z br 0 N)),shN n] W (AtR2 W cs br bk bps F ws m n):=by
 have h8:cs.length<=8:=by have:=h.x.may;rw [yhV,zzX,zzY] at this;exact this.1
 have Hq:=hid h;have H8:=hid h8;have Hm:=hid hm;have Hn:=hid (Ya h0 h1);have es:shF n 0=n:=rfl;have cA:=hid (λ W' (hB:Bw W W')=>yuR n h0 h1 (h.below hB));have cM:=hid (λ (F':Blk) (m':Nat) W' (h':yar W' cs br bk bps F' ws m')=>ysf (stN cs n) (λ i _=>yp1 h.x.ok h0 h1 i) h');obtain ⟨A,hA⟩:=zx (yid cs n);obtain ⟨q,hq⟩:=zx (yfE cs n);have aC:A<256:=by rw [<- hA];exact yuE h8
 rw [hA,hq] at cA;have HA:=hid hA;have HQ:=hid hq;clear hA hq h h8 hm;rw [<- ya7];rw [<- ya7] at cA;generalize hs:shF n=s at es cA⊢
 clear hs;have bH:decide (s 0<0)=false:=by rw [es];exact zzd zo
 have bG:decide (146097<=s 0)=false:=by rw [es];exact zzd zo
 have Es:=hid es;clear es h0 h1;rw [shq];rw [shq] at cA;obtain ⟨W1,ay⟩:=zx (W.alloc (J #[E T (s 0),E T (s 1),E T (s 2),E T (s 3),E T (s 4),E T (s 5),E T (s 6),E T (s 7),E T (s 8),E T (s 9)] 83));have aI:Hid (Bw W W1):=by rw [<- ay];exact yaa (Ye _ _) zg
 have bf:ShS W1 W.heap.size s:=by rw [<- ay];exact ycB W 83 _ _ _ _ _ _ _ _ _ _
 obtain ⟨s0,s1,s2,s3,s4,s5,s6,s7,s8,s9⟩:=bf;have bp:=hid ay;clear ay;go_enter Tryz.func87,Tryz.ntmps87
 go_upto_region 1 with fail
 rw [bp];go_wp2_with fail
 refine zm (cA _ aI) ?_;rintro w2 ba;have aH:Hid (Bw W w2):=zu aI ba;clear ba s0 s1 s2 s3 s4 s5 s6 s7 s8 s9 cA aI;obtain ⟨W3,k3,r3,b3,l3⟩:=yxe w2 (stN cs n);have bj:Hid (W.heap.size<=w2.heap.size):=aH.size;have bq:=hid r3;have ae:Hid (Bw W W3):=zu aH b3;generalize hV:yjO (stN cs n)=V at k3⊢
 have HV:=hid hV;have bi:=hid l3;clear r3 b3 hV l3;rcases ZT A with rfl | bF
 ·clear aC;have ab:Hid (AtR2 W cs br bk bps F ws m n (Q (R N)) W3):=⟨N,F,ws,m,rfl,Hq.below ae,GrF.refl _ _,Eff.of_below ae, .inl ⟨HA,rfl,rfl⟩,λ _=>HA,(λ b hb=>by cases hb),λ h=>absurd HA.out h⟩;go_wp2;go_ret;exact ab
 ·have bE:(A:Int)<256:=zo;have bD:¬((A:Int)=0):=zo;have H3:=hid (Hq.below ae);have ac:Hid (∀w,Eff (RM br bk bps) W3 w->(yfk (R (G (Z w2.heap.size 0 N)))).run I w= .ok V w):=λ w hw=>by
   have:=ytK (w:=w) (b:=w2.heap.size) (x:=stN cs n) (λ j v hv=>(hw.cell (p:=Z w2.heap.size (0+j) N) bi (Hq.mlt aH.size)).trans (bq j v hv));rwa [HV] at this
  cases q
  ·obtain ⟨Wd,aN⟩:=zx W3.drew;have av:Bw W3 Wd:=(by rw [<- aN];exact (Ye _ _).drew);have hd:=H3.below av;have hP:=hd.known;have k2:Wd.cell? (Z br 2 N)=G (.map (G bk)):=hd.x.known;have az:K8 V:=⟨stN cs n,HV.symm,λ i _=>yp1 hd.x.ok Hn.1 Hn.2 i⟩;have aV:Hid (∀b,b<W.heap.size->Wd.heap[b]? =W.heap[b]?):=λ b hb=>(av.block b (zH hb ae.size)).trans (ae.block b hb);have aW:Hid (Eff (RM br bk bps) W Wd):=(Eff.of_below ae).trans (Eff.of_below av) (λ _ h=> .inl h);have am:Hid (Eff (RM br bk bps) W3 Wd):=Eff.of_below av;have a3:=ac Wd am.out;have ap:Hid (Wd=W3.drew):=aN.symm;have be:=hid az;have HD:=hid hd;clear av aN;rcases ylL hP az with ⟨a2,qk⟩ | ⟨a6,v,hv,qk⟩
   ·have bt:=hid (λ h:HasK W bk V=>a2 (h.block (aV _ Hq.known.lt)));clear a2;obtain ⟨k,hk,a8,ql⟩:=hP.count (t:=138) (by rw [Tryz.underlying138]) 3;replace qk:(ylA (.map (G bk)) V).run I Wd= .ok (Xt #[R N,Xb false]) Wd:=qk;replace ql:(yvs (.map (G bk))).run I Wd= .ok (E T k) Wd:=ql;have HP:=hid hP;have bs:=hid a8;have bm:=hid hk;clear hP a8 hk hd az;by_cases hk:(k:Int)=256;focus
     have aK:((k:Int)==256)=true:=(by rw [hk];rfl);clear hk;go_upto_region 11 with fail
     refine Yj (S:=λ w=>Hid (Wd=w)) zk ap (λ aa=>?_);refine zhC 0 ?_;refine zhC 1 ?_;refine zhC 2 ?_;refine zhC 3 ?_;refine zhC 4 ?_;refine zhC 5 ?_;refine zhC 6 ?_;refine zhC 7 ?_;refine zhC 8 ?_;refine zhC 9 ?_;refine zhC 10 ?_;refine Yt zk ?_ _;rw [<- ap];clear aa;go_wp2_with (with_reducible refine ybU (t:=138) (.tmp 80) rfl rfl Tryz.underlying138 HP.out rfl ?_)
     intro W2 aQ aM;have H2:=hid (HD.mapKnown aM (aQ.mono zo zi (λ _ _ h=>h)));have bd:Hid (MapS K8 (G8 cs Wd F (RM br bk bps)) W2 bk 255):=aQ.mono zo zi (λ _ _ h=>h);have aE:Hid (Eff (RM br bk bps) Wd W2):=Eff.of_grown aM (.inr (.inl rfl));clear aQ aM qk ql aK k2 a3
    rotate_left;focus
     have aK:((k:Int)==256)=false:=(by simp [hk]);have Hk:=hid hk;clear hk;go_upto_region 11 with fail
     refine Yj (S:=λ w=>Hid (Wd=w)) zk ap (λ aa=>?_);refine zhC 0 ?_;refine zhC 1 ?_;refine zhC 2 ?_;refine zhC 3 ?_;refine zhC 4 ?_;refine zhC 5 ?_;refine zhC 6 ?_;refine zhC 7 ?_;refine zhC 8 ?_;refine zhC 9 ?_;refine zhC 10 ?_;refine Yt zk ?_ _;rw [<- ap];clear aa;go_upto_region 15 with fail
     obtain ⟨W2,ar⟩:=zx Wd;have H2:Hid (yar W2 cs br bk bps F ws m):=(by rw [<- ar];exact HD);have bd:Hid (MapS K8 (G8 cs Wd F (RM br bk bps)) W2 bk 255):=by
      rw [<- ar];exact bs.mono (by have:=bm.out;have:=Hk.out;omega) zi (λ _ _ h=>h)
     have aE:Hid (Eff (RM br bk bps) Wd W2):=(by rw [<- ar];exact Eff.refl _ _);rw [ar];clear qk ql aK k2 a3 ar
    rotate_left;all_goals
     have bw:Hid (Eff (RM br bk bps) W3 W2):=am.trans aE (λ _ h=> .inl h);have bz:Hid (Eff (RM br bk bps) W W2):=aW.trans aE (λ _ h=> .inl h);have aJ:=ac W2 bw.out;have cm:=hid (cM F m W2 H2);rw [HV] at cm;go_wp2_with fail
     refine cm.mono ?_;rintro e w4 ⟨b,F2,rfl,aq,au,ai,ao,a5⟩;have ad:=hid aq;have aD:Hid (GrF F F2 W):=(GrF.refl _ _).trans au bz.size;have aG:=hid ai;have aY:=hid ao;have bv:=hid a5;clear aq au ai ao a5 aJ cm;have km:=ad.many;have aS:=ad.x.fz 260;have bg:(m:Int)<4611686018427387904:=(by have:=Hm.out;omega);have Em:Hid (((m:Int)+1)= ((m+1:Nat):Int)):=(by show _ = _;omega);go_upto_region 17 with fail
     rw [Em];obtain ⟨W5,af⟩:=zx (w4.setCell (Z br 260 N) (E T ((m+1:Nat):Int)));have h5:=ad.setMany (m+1);have ag:Eff (λ x=>x=br) w4 W5:=(by rw [<- af];exact (Eff.refl (λ x=>x=br) _).set rfl _ _);rw [af] at h5⊢;obtain ⟨W7,aO⟩:=zx W5.drew;have aB:Bw W5 W7:=(by rw [<- aO];exact (Ye _ _).drew);have h7:=h5.below aB;have aw:Hid (Eff (RM br bk bps) w4 W7):=(ag.wide (λ _ h=> .inl h)).trans (Eff.of_below aB) (λ _ h=> .inl h);have ak:Hid (Eff (RM br bk bps) Wd W7):=(aE.trans aY (λ _ h=> .inl h)).trans aw (λ _ h=> .inl h);have aX:Hid (Eff (RM br bk bps) W W7):=aW.trans ak (λ _ h=> .inl h);have a4:W7.heap[bk]? =W2.heap[bk]?:=by
      have bh:=h5.known.lt;exact (aB.block bk bh).trans ((ag.block bk ad.known.lt (λ e=>ad.x.apart.1 e.symm)).trans bv)
     have aP:MapS K8 (G8 cs W7 F2 (RM br bk bps)) W7 bk 255:=(bd.keep a4).mono zg zi (λ key v g=>g.eff ak (aD.sub));have aF:Hid (DiF W7 F2 (RM br bk bps) b (yfj cs (stN cs n))):=aG.eff aw zi;obtain ⟨W6,q6,a9,aL⟩:=aP.update (ylF W7) (t:=138) (e:=84) (by rw [Tryz.underlying138]) be (v:=R (G (Z b 0 N))) (λ x hx=>⟨b,rfl,aF.1,aF.2.1,aF.2.2.congr λ k _=>yov H8 (yv2 (HV.trans hx)) k⟩);have bu:=hid (ylK aP be q6);replace q6:(yvf (.map (G bk)) V (R (G (Z b 0 N)))).run I W7= .ok () W6:=q6;have H6:=hid (h7.mapKnown aL (a9.mono zg zi (λ key v g=>g)));have al:Hid (Eff (RM br bk bps) W7 W6):=Eff.of_grown aL (.inr (.inl rfl));have ab:Hid (AtR2 W cs br bk bps F ws m n (Q (R (G (Z b 0 N)))) W6):=
      ⟨G b,F2,ws,m+1,rfl,H6,aD,aX.trans al (λ _ h=> .inl h), .inr (.inr ⟨by rw [HA];omega,HQ,rfl, .inr rfl⟩),(λ h=>by cases h),(λ b' aj=>by
       cases aj;obtain ⟨g1,g2,g3⟩:=aF.eff al zi;exact ⟨g1,g2,g3.congr λ k hk=>yeI Hn.1 Hn.2 hk⟩),λ _ _=>⟨by rw [HV];exact bu,λ h=>absurd (by rw [HV] at h;exact h) bt⟩⟩
     have an:Hid (∀w,w=W7\/ w=W6->w.cell? (Z br 2 N)=G (.map (G bk))/\(yfk (R (G (Z w2.heap.size 0 N)))).run I w= .ok V w):=by
      intro w hw;have e7:=am.trans ak (λ _ h=> .inl h);rcases hw with rfl | rfl
      ·exact ⟨h7.x.known,ac _ e7⟩
      ·exact ⟨H6.x.known,ac _ (e7.trans al (λ _ h=> .inl h))⟩
     have bb:Hid (W7=W5.drew):=aO.symm;clear h5 ag af aB h7 a4 aP a9 aL aO km aS;refine Yj (S:=λ w=>Hid (w=W7\/ w=W6)) zk (hid (.inl bb.symm)) (λ aa=>?_);refine zhF 0 (an) ?_;refine zhF 1 (an) ?_;refine zhF 2 (an) ?_;refine zhF 3 (an) ?_;refine zhF 4 (an) ?_;refine zhF 5 (an) ?_;refine zzK 6 (λ K hK=>?_);rw [<- bb];go_simp;refine hK _ _ (hid (.inr rfl)) (λ aa=>?_);clear hK K;refine Yt zk ?_ _;clear aa;go_wp2;go_ret;exact ab
   ·obtain ⟨b,rfl,ah⟩:=hv (stN cs n) HV.symm;have ab:Hid (AtR2 W cs br bk bps F ws m n (Q (R (G (Z b 0 N)))) Wd):=⟨G b,F,ws,m,rfl,hd,GrF.refl _ _,aW, .inr (.inr ⟨by rw [HA];omega,HQ,rfl, .inl rfl⟩),(λ h=>by cases h),(λ b' aj=>by cases aj;exact ⟨ah.1,ah.2.1,ah.2.2.congr λ k hk=>yeI Hn.1 Hn.2 hk⟩),λ _ _=>⟨by rw [HV];exact a6,λ _=>rfl⟩⟩;replace qk:(ylA (.map (G bk)) V).run I Wd= .ok (Xt #[R (G (Z b 0 N)),Xb true]) Wd:=qk;clear hv ah hP hd az a6;go_upto_region 11 with fail
    refine Yj (S:=λ w=>Hid (Wd=w)) zk ap (λ aa=>?_);refine zhC 0 ?_;refine zhC 1 ?_;refine zhC 2 ?_;refine zhC 3 ?_;refine zhC 4 ?_;refine zhC 5 ?_;refine zhC 6 ?_;refine zhC 7 ?_;refine zhC 8 ?_;refine zhC 9 ?_;refine zhC 10 ?_;refine Yt zk ?_ _;rw [<- ap];clear aa;go_wp2;go_ret;exact ab
  ·obtain ⟨d,kd,a7,ah⟩:=H3.whole A aC;have aT:=hid a7;have bn:=hid ah;clear a7 ah;cases d with
   | some b=>
     replace kd:W3.cell? (Z br (4+A) N)=G (R (G (Z b 0 N))):=kd;have ab:Hid (AtR2 W cs br bk bps F ws m n (Q (R (G (Z b 0 N)))) W3):=by
      have hw:ws A=true:=aT.symm;refine ⟨G b,F,ws,m,rfl,H3,GrF.refl _ _,Eff.of_below ae, .inr (.inl ⟨by rw [HA];omega,HQ,?_,?_⟩),(λ h=>by cases h),(λ b' aj=>?_),λ _ h=>absurd HQ.out (by rw [h];simp)⟩
      ·rw [HA];exact (H3.ws_same hw).symm
      ·rw [HA,hw];rfl
      ·cases aj;obtain ⟨g1,g2,g3⟩:=bn b rfl;refine ⟨g1,g2,g3.congr λ k hk=>?_⟩;rw [<- HA,<- yfi H8 HQ k,yeI Hn.1 Hn.2 hk]
     go_wp2;go_ret;exact ab
   | none=>
     replace kd:W3.cell? (Z br (4+A) N)=G (R N):=kd;go_upto_region 8 with fail
     refine Yj (S:=λ w=>Hid (Eff (RM br bk bps) W3 w)) zk (hid (Eff.refl _ _).drew) (λ aa=>?_);refine zhF 0 (ac) ?_;refine zhF 1 (ac) ?_;refine zhF 2 (ac) ?_;refine zhF 3 (ac) ?_;refine zhF 5 (ac) ?_;refine zhF 6 (ac) ?_;refine zzK 4 (λ K hK=>?_);go_simp;have aA:=aa.out;have a1:=H3.below (Ye _ _).drew;have cm:=cM F m _ a1;rw [HV] at cm;refine cm.mono ?_;clear cm;rintro e w4 ⟨b,F2,rfl,aq,au,ai,ao,-⟩;have aU:Hid (Eff (RM br bk bps) W3 w4):=aA.trans ao (λ _ h=> .inl h);have bo:=aU;have aD:Hid (GrF F F2 W):=(GrF.refl _ _).trans au (zI ae.size aA.size);have aY:Hid (Eff (RM br bk bps) W w4):=((Eff.of_below ae).trans aA (λ _ h=> .inl h)).trans ao (λ _ h=> .inl h);have ad:=hid aq;have aG:Hid (DiF w4 F2 (RM br bk bps) b (ygt cs A)):=⟨ai.1,ai.2.1,ai.2.2.congr λ k hk=>by rw [<- HA,yfi H8 HQ k]⟩;clear aA a1 aq au ai ao aa;(try go_wp2_with fail);refine hK _ _ aU (λ aa=>?_);clear hK K aU;refine zhE 7 ?_;have aZ:w4.cell? (Z br (4+A) N)=G (R N):=by
      obtain ⟨d,g1,g2,-⟩:=ad.whole A aC;rw [<- aT] at g2;cases d with
      | none=>exact g1
      | some x=>cases g2
     have bl:w4.frozen? (Z br (4+A) N)=false:=ad.x.fz _;refine zzK 8 (λ K hK=>?_);go_simp;obtain ⟨W5,af⟩:=zx (w4.setCell (Z br (4+A) N) (R (G (Z b 0 N))));have h5:=ad.setWhole aC aG.out;have ag:Eff (RM br bk bps) w4 W5:=(by rw [<- af];exact (Eff.refl _ _).set (.inl rfl) _ _);rw [af] at h5⊢;have bc:Hid (Eff (RM br bk bps) W3 W5):=bo.trans ag (λ _ h=> .inl h);have bB:Hid (W5.cell? (Z br (4+A) N)=G (R (G (Z b 0 N)))):=by
      show _ = _;rw [<- af];simp [go_sem,aZ]
     have H5:=hid h5;have bx:Hid (Eff (RM br bk bps) W W5):=aY.trans ag (λ _ h=> .inl h);have bA:Hid (DiF W5 F2 (RM br bk bps) b (ygt cs A)):=aG.eff ag zi;clear h5 ag af aZ bl;refine hK _ _ bc (λ aa=>?_);clear hK K aa bc;refine Yt zk ?_ _;have km:=H5.many;have aS:=H5.x.fz 260;have bg:(m:Int)<4611686018427387904:=(by have:=Hm.out;omega);have em:((m:Int)+1)= ((m+1:Nat):Int):=zo;have Em:=hid em;clear em;go_upto_region 10 with fail
     rw [Em];obtain ⟨W6,ax⟩:=zx (W5.setCell (Z br 260 N) (E T ((m+1:Nat):Int)));have h6:=H5.setMany (m+1);have aR:Eff (RM br bk bps) W5 W6:=(by rw [<- ax];exact (Eff.refl _ _).set (.inl rfl) _ _);rw [ax] at h6⊢;have bC:W6.cell? (Z br (4+A) N)=G (R (G (Z b 0 N))):=by
      rw [<- ax,zzL _ _ _ _ (by intro h;injection h with _ h _;omega)];exact bB
     have ab:Hid (AtR2 W cs br bk bps F ws m n (Q (R (G (Z b 0 N)))) W6):=by
      have hw:ws A=false:=aT.symm;refine ⟨G b,F2,_,m+1,rfl,h6,aD,bx.trans aR (λ _ h=> .inl h), .inr (.inl ⟨by rw [HA];omega,HQ,by rw [HA],by rw [HA,hw];rfl⟩),(λ h=>by cases h),(λ b' aj=>?_),λ _ h=>absurd HQ.out (by rw [h];simp)⟩;cases aj;obtain ⟨g1,g2,g3⟩:=bA.eff aR zi;exact ⟨g1,g2,g3.congr λ k hk=>by rw [<- HA,<- yfi H8 HQ k,yeI Hn.1 Hn.2 hk]⟩
     clear h6 aR ax km aS;go_wp2;go_ret;exact ab
theorem ymj (n:Int) (h0:0<=n) (h1:n<146097) (hm:m<4611686018427387904) (h:yar W cs br bk bps F ws m) :
  H I 87 #[R (G (Z br 0 N)),shN n] W (AtR W cs br bk bps F ws m n):=(ynS n h0 h1 hm h).mono λ _ _ h=>h.at
end
section
theorem yrQ:Tryz.prog.cellsOf 126=2:=by kernel_rfl
theorem yzI:Tryz.prog.keyTypeAt 3 126=true:=by kernel_rfl
theorem yvy (f u:Int):(spv f u).formed I 126=true:=by
 unfold Value.formed;simp only [Tryz.underlying126,yrQ];rfl
theorem yqY (d:Nat) {f u:Int} (hf:yaA f) (hu:yaA u):Tryz.prog.keyLits (d+2) 126 [.int T f, .int T u]=G [.int T f, .int T u]:=by
 unfold Program.keyLits;simp only [Tryz.underlying126];simp [ygn,yrQ,ynk,hf,hu]
def yry (a b:Value):Sem Value:=binOp .eql 126 a b
theorem ywT (a b:Value):binOp .eql 126 a b=yry a b:=rfl
theorem yrx {f u f' u':Int} (w:World) (h1:yaA f) (h2:yaA u) (h3:yaA f') (h4:yaA u'):(yry (spv f u) (spv f' u')).run I w= .ok (.bool (decide (f=f'/\u=u'))) w:=by
 obtain ⟨r,hr,hi⟩:=run_equalIn_deep 9997 3 126 yzI w 3 3 _ _ _ _ (yvy f u) (yvy f' u') (yqY 1 h1 h2) (yqY 1 h3 h4);have e:r=decide (f=f'/\u=u'):=by
  rw [zze,hi,zzY];simp
 rw [yry,run_eql_struct];have ad:(Op.equalIn 10000 126 (spv f u) (spv f' u')).run I w= .ok (decide (f=f'/\u=u')) w:=by rw [<- e];exact hr
 rw [ad];rfl
theorem ynr (f u:Int):yaA (yau f u)/\yaA (yat f u):=by
 unfold yaA;rcases ybr f u with ⟨e1,e2,h⟩ | ⟨e1,e2,h⟩ <;> rw [e1,e2] <;> omega
theorem yh2 (f u:Int):yau (yau f u) (yat f u)=yau f u/\yat (yau f u) (yat f u)=yat f u:=by
 rcases ybr f u with ⟨e1,e2,h⟩ | ⟨e1,e2,h⟩ <;> rcases ybr (yau f u) (yat f u) with ⟨g1,g2,k⟩ | ⟨g1,g2,k⟩ <;> rw [g1,g2] <;> rw [e1,e2] at * <;> omega
theorem yrh (f u:Int):decide (yau f u=0/\yat f u= -1)= !yaw f u:=by
 rw [zze,zzY,Bool.not_eq_true'];rcases ybr f u with ⟨e1,e2,h⟩ | ⟨e1,e2,h⟩
 ·have hb:yaw f u=true:=zzZ h;rw [e1,e2,hb];constructor
  ·intro ⟨a,b⟩;omega
  ·intro h;cases h
 ·have hb:yaw f u=false:=zzd h;rw [e1,e2,hb];simp
attribute [local go_sem ↓] ywT
theorem yij (f u:Int) (w:World):H I 140 #[spv (yau f u) (yat f u)] w λ e w'=>e=Q (.bool (!yaw f u))/\Bw w w':=by
 have cH:=hid (λ W=>ydP (yau f u) (yat f u) W);rw [(yh2 f u).1,(yh2 f u).2] at cH;have cN:=hid (λ W=>ykI W);have hq:=hid (λ W=>yrx (f:=yau f u) (u:=yat f u) (f':=0) (u':=-1) W (ynr f u).1 (ynr f u).2 ⟨by decide,by decide⟩ ⟨by decide,by decide⟩);rw [yrh] at hq;obtain ⟨X,hX⟩:=zx (yau f u);obtain ⟨Yq,hY⟩:=zx (yat f u);obtain ⟨B,hB⟩:=zx (yaw f u);rw [hX,hY] at cH hq⊢;rw [hB] at hq⊢;clear hX hY hB;go_enter Tryz.func140,Tryz.ntmps140
 go_wp2_with fail
 refine zm (cH _) ?_;rintro w1 aq;have ax:=hid ((yaa (Ye _ _) zg).trans (aq.mono zs));clear aq;go_wp2_with fail
 refine zm (cN _) ?_;rintro w2 ap;have aD:Hid (Bw w w2):=zu ax ap;clear ap;have aE:=hq w2;go_wp2;go_ret;exact ⟨rfl,aD⟩
def ybz (l:List Cl):Int:=l.foldl (λ a c=>if yaw c.fr c.un then min a (yau c.fr c.un) else a) 12622780800
def yby (l:List Cl):Int:=l.foldl (λ a c=>if yaw c.fr c.un then max a (yat c.fr c.un) else a) (-1)
theorem yoF (l:List Cl) (c:Cl):ybz (l ++ [c])=if yaw c.fr c.un then min (ybz l) (yau c.fr c.un) else ybz l:=by rw [ybz,Zp];rfl
theorem yoE (l:List Cl) (c:Cl):yby (l ++ [c])=if yaw c.fr c.un then max (yby l) (yat c.fr c.un) else yby l:=by rw [yby,Zp];rfl
structure HuS (w:World) (W:World):Prop where
 r0:W.cell? (Z w.heap.size 0 N)=G (.int T 0)
 r1:W.cell? (Z w.heap.size 1 N)=G (.int T 0)
 g0:W.frozen? (Z w.heap.size 0 N)=false
 g1:W.frozen? (Z w.heap.size 1 N)=false
 be:Bw w W
 l:w.heap.size<W.heap.size
theorem HuS.keep {w W W':World} (h:HuS w W) (hb:Bw W W'):HuS w W':=
 ⟨(hb.cell (p:=Z w.heap.size 0 N) h.l).trans h.r0,(hb.cell (p:=Z w.heap.size 1 N) h.l).trans h.r1,(hb.frozen (p:=Z w.heap.size 0 N) h.l).trans h.g0,(hb.frozen (p:=Z w.heap.size 1 N) h.l).trans h.g1,h.be.trans (hb.mono (zp h.l)),zH h.l hb.size⟩
attribute [local go_sem ↓] yaz ya3
attribute [local go_sem] yaE
theorem yjw (a:Option Addr) (cap:Nat) (l:List Cl) (w:World) (hl:l.length<=1000) (hs:Sl w a (cls l)) :
  H I 120 #[Xs a l.length cap] w λ e w'=>e=Q (spv (yau (ybz l) (yby l)) (yat (ybz l) (yby l)))/\Bw w w':=by
 have cH:=hid (λ f u W=>ydP f u W);have cE:=hid (λ f u W=>yij f u W);have Hs:=hid hs;have aC:Hid (HuS w (w.alloc (J #[.int T 0, .int T 0] 126))):=⟨by simp [go_sem],by simp [go_sem],by simp [go_sem],by simp [go_sem],yaa (Ye _ _) zg,by simp⟩;clear hs;go_enter Tryz.func120,Tryz.ntmps120
 go_wp2_with fail
 go_loopw [3,4,10] (λ f u i wr=>∃k:Nat,i= .int T k/\k<=l.length/\f= .int T (ybz (l.take k))/\u= .int T (yby (l.take k))/\Hid (HuS w wr)) (λ _ _ i _=>l.length-(intOf i).toNat)
 case atStart=>exact ⟨0,rfl,by omega,rfl,rfl,aC⟩
 case round=>
  obtain ⟨k,rfl,hk,rfl,rfl,HI⟩:=hrel;obtain ⟨A,hA⟩:=zx (ybz (l.take k));obtain ⟨B,hB⟩:=zx (yby (l.take k));by_cases hlt:k<l.length
  ·have ah:(k:Int)<l.length:=zo;obtain ⟨b,off,rfl,ay,hr⟩:=Hs.atCl hlt;have ad:=ybK hr HI.be ay;have ts:=yal l k hlt;have e1:=yoF (l.take k) l[k];have e2:=yoE (l.take k) l[k];rw [<- ts,hA] at e1;rw [<- ts,hB] at e2;obtain ⟨c,hc⟩:=zx (l[k]);rw [hc] at ad e1 e2;rw [hA,hB];have le:=ylE ad;have ac:(wr.alloc (J zL.toArray 59)).there wr.heap.size 0 30:=yaL wr _ _;have ao:=yaa (o:=J zL.toArray 59) (Ye wr.heap.size wr) zg;have ak:ClB (yaV (wr.alloc (J zL.toArray 59)) wr.heap.size (yae c)) wr.heap.size c:=yaI _ rfl ac;have am:=ak.ld;have ai:Bw wr (yaV (wr.alloc (J zL.toArray 59)) wr.heap.size (yae c)):=yaD ao zg _;obtain ⟨W3,aj⟩:=zx (yaV (wr.alloc (J zL.toArray 59)) wr.heap.size (yae c));rw [aj] at ak ai am;have aB:=hid (HI.keep ai);have aA:=hid aj;have cS:=hid (λ W=>ykW c W);have al:=hid (λ W=>cE c.fr c.un W);obtain ⟨X,hX⟩:=zx (yau c.fr c.un);obtain ⟨Yq,hY⟩:=zx (yat c.fr c.un);obtain ⟨Eq1,hE⟩:=zx (yaw c.fr c.un);rw [hX,hY] at cS al;rw [hE] at al;rw [hX,hE] at e1;rw [hY,hE] at e2;have E1:=hid e1;have E2:=hid e2;clear hA hB hr ad ts e1 e2 hc ao ai ak aj hX hY hE;go_upto_region 5 with fail
   rw [aA];clear le ac;go_wp2_with fail
   refine zm (cS _) ?_;rintro w4 af;have an:=yaa (o:=J #[.int T X, .int T Yq] 126) (Ye w4.heap.size w4) zg;have av:=hid ((aB.keep af).keep an);obtain ⟨W5,ab⟩:=zx (w4.alloc (J #[.int T X, .int T Yq] 126));have k1:W5.cell? (Z w4.heap.size 0 N)=G (.int T X):=(by rw [<- ab];simp [go_sem]);have k2:W5.cell? (Z w4.heap.size 1 N)=G (.int T Yq):=(by rw [<- ab];simp [go_sem]);have z5:w4.heap.size<W5.heap.size:=(by rw [<- ab];simp);rw [ab] at av;have az:=hid ab;have K1:=hid k1;have K2:=hid k2;have Z5:=hid z5;clear an af ab am z5;go_upto_region 6 with fail
   rw [az];go_wp2_with fail
   refine zm (al _) ?_;rintro w6 ag;have au:=hid (av.keep ag);have k1:=(ag.cell (p:=Z w4.heap.size 0 N) Z5).trans K1.out;have k2:=(ag.cell (p:=Z w4.heap.size 1 N) Z5).trans K2.out;clear ag;cases Eq1
   ·go_wp2;exact ⟨⟨k+1,by go_num,by omega,by rw [E1];rfl,by rw [E2];rfl,au⟩,by simp [intOf];omega⟩
   ·rcases Int.lt_or_le X A with h1 | h1 <;> rcases Int.lt_or_le B Yq with h2 | h2;all_goals
     go_upto_region 7 with fail
     go_region
     go_wp2;exact ⟨⟨k+1,by go_num,by omega,by rw [E1,Yd True.intro];congr 1;omega,by rw [E2,Yd True.intro];congr 1;omega,au.keep (Ye _ _).drew⟩,by simp [intOf];omega⟩
  ·have ah:¬(k:Int)<l.length:=zo;have aa:l.take k=l:=YU zo;rw [aa] at hA hB;rw [aa,hA,hB];have ar:=hid (λ W=>cH A B W);obtain ⟨X,hX⟩:=zx (yau A B);obtain ⟨Yq,hY⟩:=zx (yat A B);rw [hX,hY] at ar;have ae:Hid (spv (yau (ybz l) (yby l)) (yat (ybz l) (yby l))=spv X Yq):=(by show _ = _;rw [hA,hB,hX,hY]);clear hA hB aa hX hY;go_wp2_with fail
   refine zm (ar _) ?_;rintro w4 af;have aw:=hid (HI.keep af);clear af;obtain ⟨r0,r1,g0,g1,-,-⟩:=aw.out;go_wp2;refine Yh (v:=spv X Yq) (yac rfl _ _ w.heap.size 0 _ _ rfl (ydC r0 r1) Tryz.underlying126 rfl ygZ) rfl ⟨by rw [ae],yab (yab aw.be zg) zg⟩
end
section
variable {F:Blk} {e:Ending} {n:Int} {cs:List Cl} {bps:List Nat} {bk br m:Nat} {q ws:Nat->Bool} {W W' W1:World}
def yl1 (q:Nat->Bool):Bool:=(List.range 86400).any q
theorem ydL:yl1 q=true↔∃k,k<86400/\q k=true:=by
 rw [yl1,Yk];exact ⟨λ ⟨k,h1,h2⟩=>⟨k,YT.1 h1,h2⟩,λ ⟨k,h1,h2⟩=>⟨k,YT.2 h1,h2⟩⟩
theorem yic:yl1 q=false↔∀k,k<86400->q k=false:=by
 rw [yl1,List.any_eq_false];exact ⟨λ h k hk=>by simpa using h k (YT.2 hk),λ h k hk=>by simpa using h k (YT.1 hk)⟩
theorem yoU {ok:Bool} (h:FirstOf (λ k=>q k&&decide ((0:Int)<=k)) n ok):ok=yl1 q:=by
 rcases h with ⟨rfl,k,-,hk,h1,-⟩ | ⟨rfl,-,h1⟩
 ·rw [zzX] at h1;exact (ydL.2 ⟨k,hk,h1.1⟩).symm
 ·refine (yic.2 λ k hk=>?_).symm;have h2:(q k&&decide ((0:Int)<=k))=false:=h1 k hk;rwa [zzZ (show (0:Int)<=k by omega),Y7] at h2
theorem yuP (d:Option Nat) (q:Nat->Bool) (w:World) (hT:Tab w) (h:DiscO w d q):H I 88 #[ybA d] w λ e w'=>e=Q (Xb (yl1 q))/\w=w':=by
 have c1:=hid (yiq d q 0 w zo zo hT h);clear hT h;obtain ⟨v,hv⟩:=zx (ybA d);rw [hv] at c1⊢;clear hv;go_enter Tryz.func88,Tryz.ntmps88
 go_wp2_with fail
 refine c1.mono ?_;rintro e w' ⟨⟨n,ok,rfl,hf⟩,rfl⟩;have Hf:Hid (ok=yl1 q):=yoU hf;clear hf;go_wp2;go_ret;exact ⟨by rw [<- Hf];rfl,rfl⟩
def yrg (cs:List Cl):Bool:=yaw (ybz cs) (yby cs)
def ynL (cs:List Cl) (f:Int):Int:=if yrg cs then max f (yau (ybz cs) (yby cs)/86400) else 0
def ynK (cs:List Cl) (t:Int):Int:=if yrg cs then min t (yat (ybz cs) (yby cs)/86400) else -1
theorem ykg (f u:Int):yaw (yau f u) (yat f u)=yaw f u:=by
 rw [yau,yat];cases h:yaw f u
 ·rfl
 ·rw [Yd rfl,Yd rfl];have:=Y8 h;exact zzZ zo
theorem yi5 {f u:Int} (h:yaw f u=true):0<=yau f u/\yau f u<=yat f u/\yat f u<=12622780799:=by
 rw [yau,yat,h,Yd rfl,Yd rfl];have:=Y8 h;omega
theorem ymi (f t:Int) (h:yar W cs br bk bps F ws m) :
  H I 84 #[R (G (Z br 0 N)),E T f,E T t] W λ e W'=>e=Q (Xt #[E T (ynL cs f),E T (ynK cs t)])/\Bw W W':=by
 have h8:cs.length<=8:=by have:=h.x.may;rw [yhV,zzX,zzY] at this;exact this.1
 obtain ⟨a0,c0,k0,s0,-,-⟩:=h.x.cls;have am:=h.rlt;have cH:=hid (λ W' (hB:Bw W W')=>yjw a0 c0 cs W' zo (s0.sl.below hB));have cE:=hid (λ W'=>yij (ybz cs) (yby cs) W');have cD:=hid (λ W'=>yfy (yau (ybz cs) (yby cs)) (yat (ybz cs) (yby cs)) W');rw [ykg] at cD;have hF:Hid (ynL cs f=if yrg cs then max f (yau (ybz cs) (yby cs)/86400) else 0):=rfl;have hU:Hid (ynK cs t=if yrg cs then min t (yat (ybz cs) (yby cs)/86400) else -1):=rfl;have hr:=hid (λ hb=>yi5 (f:=ybz cs) (u:=yby cs) hb);rw [yrg] at hF hU;obtain ⟨X,hX⟩:=zx (yau (ybz cs) (yby cs));obtain ⟨Yq,hY⟩:=zx (yat (ybz cs) (yby cs));obtain ⟨Eq1,hE⟩:=zx (yaw (ybz cs) (yby cs));rw [hX,hY] at cH cE cD hr;rw [hX] at hF;rw [hY] at hU;rw [hE] at cE cD hF hU hr;have ap:=hid am;clear hX hY hE h h8 s0;go_enter Tryz.func84,Tryz.ntmps84
 go_wp2_with fail
 obtain ⟨W1,aa⟩:=zx (W.alloc (J #[E T 0,E T 0] 126));have aj:Bw W W1:=by rw [<- aa];exact yaa (Ye _ _) zg
 have l1:W.heap.size<W1.heap.size:=by rw [<- aa];simp
 have g0:W1.cell? (Z W.heap.size 0 N)=G (E T 0):=by rw [<- aa];simp [go_sem]
 have g1:W1.cell? (Z W.heap.size 1 N)=G (E T 0):=by rw [<- aa];simp [go_sem]
 have f0:W1.frozen? (Z W.heap.size 0 N)=false:=by rw [<- aa];exact yan _ _ _ _
 have f1:W1.frozen? (Z W.heap.size 1 N)=false:=by rw [<- aa];exact yan _ _ _ _
 rw [aa];have ai:=hid aj;have L1:=hid l1;clear aa aj l1 k0;refine zm (cH W1 ai) ?_;rintro w2 ab;replace g0:=(ab.cell (p:=Z W.heap.size 0 N) L1).trans g0;replace g1:=(ab.cell (p:=Z W.heap.size 1 N) L1).trans g1;replace f0:=(ab.frozen (p:=Z W.heap.size 0 N) L1).trans f0;replace f1:=(ab.frozen (p:=Z W.heap.size 1 N) L1).trans f1;have ao:Hid (Bw W w2):=zu ai ab;have L2:Hid (W.heap.size<w2.heap.size):=zH L1 ab.size;clear ab;go_upto_region 5 with fail
 obtain ⟨W3,ac⟩:=zx ((w2.setCell (Z W.heap.size 0 N) (E T X)).setCell (Z W.heap.size 1 N) (E T Yq));have al:Hid (Bw W W3):=by show Below _ _ _;rw [<- ac];exact yab (yab ao zg) zg
 have L3:Hid (W.heap.size<W3.heap.size):=by show _<_;rw [<- ac];simpa using L2.out
 have x0:W3.cell? (Z W.heap.size 0 N)=G (E T X):=by rw [<- ac];simp [go_sem,g0]
 have x1:W3.cell? (Z W.heap.size 1 N)=G (E T Yq):=by rw [<- ac];simp [go_sem,g1]
 rw [ac];clear ac g0 g1 f0 f1;go_wp2_with fail
 refine zm (cE W3) ?_;rintro w4 ae;have ah:Hid (Bw W w4):=zu al ae;replace x0:=(ae.cell (p:=Z W.heap.size 0 N) L3).trans x0;replace x1:=(ae.cell (p:=Z W.heap.size 1 N) L3).trans x1;clear ae;cases Eq1
 ·go_wp2;go_ret2
  exact ⟨by rw [hF,hU];rfl,ah⟩
 ·have af:=hid (cD w4);rw [Yd rfl] at af;have eX:max X 0=X:=by have:=hr rfl;omega
  have eY:min Yq 12622780799=Yq:=by have:=hr rfl;omega
  rw [eX,eY] at af;obtain ⟨P,hP⟩:=zx (X/86400);obtain ⟨Qq,hQ⟩:=zx (Yq/86400);rw [hP,hQ] at af;rw [hP] at hF;rw [hQ] at hU;clear hP hQ eX eY hr;go_wp2_with fail
  refine zm af ?_;rintro w5 ak;have an:Hid (Bw W w5):=zu ah ak;clear ak x0 x1;have eF:ynL cs f=max f P:=hF.out;have eU:ynK cs t=min t Qq:=hU.out;have EF:=hid eF;have EU:=hid eU;clear eF eU hF hU;go_wp2;all_goals
   go_ret2
   refine ⟨?_,an⟩;rw [EF,EU];first
    | rw [show max f P=P by omega]
    | rw [show max f P=f by omega]
   first
    | rw [show min t Qq=Qq by omega]
    | rw [show min t Qq=t by omega]
   rfl
theorem AtR.below (h:AtR W1 cs br bk bps F ws m n e W') (hB:Bw W W1):AtR W cs br bk bps F ws m n e W':=by
 obtain ⟨d,F',ad,m',h1,h2,h3,h4,h5⟩:=h;exact ⟨d,F',ad,m',h1,h2,(GrF.refl F W).trans h3 hB.size,(Eff.of_below hB).trans h4 (λ _ h=> .inl h),h5⟩
theorem AtR2.below (h:AtR2 W1 cs br bk bps F ws m n e W') (hB:Bw W W1) (hk:bk<W.heap.size):AtR2 W cs br bk bps F ws m n e W':=by
 obtain ⟨d,F',ad,m',h1,h2,h3,h4,h5,h6,h7,h8⟩:=h;exact ⟨d,F',ad,m',h1,h2,(GrF.refl F W).trans h3 hB.size,(Eff.of_below hB).trans h4 (λ _ h=> .inl h),h5,h6,h7,λ g1 g2=>⟨(h8 g1 g2).1,λ g3=>(h8 g1 g2).2 (g3.block (hB.block bk hk))⟩⟩
theorem ykK (n:Int) (h0:0<=n) (h1:n<146097) (hm:m<4611686018427387904) (h:yar W cs br bk bps F ws m) :
  H I 68 #[R (G (Z br 0 N)),E T n] W (AtR2 W cs br bk bps F ws m n):=by
 have cS:=hid (λ W=>ykH n W h0 h1);have cA:=hid (λ W' (hB:Bw W W')=>(ynS n h0 h1 hm (h.below hB)).mono λ e w h'=>AtR2.below h' hB h.known.lt);rw [<- ya7] at cS cA;obtain ⟨s,hs⟩:=zx (shF n);rw [hs,shq] at cS cA;clear hs h hm h0 h1;go_enter Tryz.func68,Tryz.ntmps68
 go_wp2_with fail
 refine zm (cS _) ?_;rintro w1 ag;have hb:=hid (ag.trans (yaa (o:=J #[E T (s 0),E T (s 1),E T (s 2),E T (s 3),E T (s 4),E T (s 5),E T (s 6),E T (s 7),E T (s 8),E T (s 9)] 83) (Ye _ _) ag.size));clear ag;go_wp2_with fail
 refine (cA _ hb).mono ?_;rintro e w2 hA;have HA:=hid hA;obtain ⟨d,F',ad,m',rfl,-⟩:=hA;go_wp2;go_ret;exact HA
theorem yme (n:Int) (h0:0<=n) (h1:n<146097) (hm:m<4611686018427387904) (h:yar W cs br bk bps F ws m) :
  H I 68 #[R (G (Z br 0 N)),E T n] W (AtR W cs br bk bps F ws m n):=(ykK n h0 h1 hm h).mono λ _ _ h=>h.at
end
section
theorem yzQ:El I 139 144 .nilFunc 1 8:=⟨Tryz.underlying139,by kernel_rfl,by kernel_rfl,by decide⟩
theorem yzP:El I 140 146 (.map N) 1 8:=⟨Tryz.underlying140,by kernel_rfl,by kernel_rfl,by decide⟩
theorem yxF:Tryz.zeroCells143= ([Value.slice N 0 0,Value.slice N 0 0,Value.map N,Value.slice N 0 0]++List.replicate 256 (Value.pointer N) ++ [Value.int T 0]).toArray:=by kernel_rfl
structure NwF (W:World) (l:List Cl) (a0:Option Addr) (c0 bk br:Nat) (w:World):Prop where
 bel:Bw W w
 lo:W.heap.size<=bk/\br=bk+1/\br<w.heap.size
 own:w.ownsRow W.heap.size 59 30 (Xs a0 l.length c0) l.length (cls l)
 olt:∀b,(Value.slice a0 l.length c0).ownBlock=G b->b<bk
 r0:w.cell? (Z br 0 N)=G (Xs a0 l.length c0)
 r2:w.cell? (Z br 2 N)=G (.map (G bk))
 rw':∀j,j<256->w.cell? (Z br (4+j) N)=G (R N)
 rm:w.cell? (Z br 260 N)=G (E T 0)
 fz:∀i,w.frozen? (Z br i N)=false
 kn:w.heap[bk]? =G (.map #[] 0)
structure NwG (W:World) (l:List Cl) (br k1 k3:Nat) (v1 v3:Value) (aa:List Value) (bps:List Nat) (w:World):Prop where
 r1:w.cell? (Z br 1 N)=G v1
 r3:w.cell? (Z br 3 N)=G v3
 o1:w.ownsRow W.heap.size 144 1 v1 k1 aa
 o3:w.ownsRow W.heap.size 146 1 v3 k3 (bps.map λ b=> .map (G b))
 b1:∀b,v1.ownBlock=G b->br<b
 b3:∀b,v3.ownBlock=G b->br<b
 n13:∀b,v1.ownBlock=G b->v3.ownBlock≠G b
 mp:∀b∈bps,br<b/\b<w.heap.size/\w.heap[b]? =G (.map #[] 0)/\v1.ownBlock≠G b/\v3.ownBlock≠G b
 nd:bps.Nodup
 g1:aa.length=k1
 g3:bps.length=k3
 lp:∀i,i<k1->∃lo hi,LapV w lo hi (atC l i) (aa.getD i undef)/\br<lo/\hi<=w.heap.size/\∀b,lo<=b->b<hi->v1.ownBlock≠G b/\v3.ownBlock≠G b/\b ∉ bps
section
variable {W w w':World} {l:List Cl} {a0:Option Addr} {c0 bk br k1 k3:Nat} {v1 v3:Value} {aa:List Value} {bps:List Nat}
theorem NwF.keep (h:NwF W l a0 c0 bk br w) (hb:Bw W w') (hs:w.heap.size<=w'.heap.size) (hB:∀b,b<=br->w'.heap[b]? =w.heap[b]?):NwF W l a0 c0 bk br w':=by
 have am:=hB br zg;have cb:∀i,w'.cell? (Z br i N)=w.cell? (Z br i N):=λ i=>zzJ (w:=w) (a:=Z br i N) am;have fb:∀i,w'.frozen? (Z br i N)=w.frozen? (Z br i N):=λ i=>zzM (w:=w) (a:=Z br i N) am;obtain ⟨l1,l2,l3⟩:=h.lo;exact ⟨hb,⟨l1,l2,zH l3 hs⟩,yaJ h.own (λ b hb=>hB b (zp (h.olt b hb))),h.olt,(cb 0).trans h.r0,(cb 2).trans h.r2,λ j hj=>(cb _).trans (h.rw' j hj),(cb _).trans h.rm,λ i=>(fb i).trans (h.fz i),(hB bk zo).trans h.kn⟩
theorem NwF.set {v:Value} (h:NwF W l a0 c0 bk br w) {i:Nat} (hi:i=1\/ i=3):NwF W l a0 c0 bk br (w.setCell (Z br i N) v):=by
 obtain ⟨l1,l2,l3⟩:=h.lo;have hE:Eff (λ b=>b=br) w (w.setCell (Z br i N) v):=(Eff.refl (λ b=>b=br) w).set rfl _ _;have hB:∀b,b<br->(w.setCell (Z br i N) v).heap[b]? =w.heap[b]?:=λ b hb=>hE.block b zo zo;refine ⟨yab h.bel zo,⟨l1,l2,by simpa using l3⟩,yaJ h.own (λ b hb=>hB b (zp (h.olt b hb))),h.olt,?_,?_,λ j hj=>?_,?_,λ j=>?_,(hB bk zo).trans h.kn⟩
 ·have:=h.r0;rcases hi with rfl | rfl <;> simpa [go_sem] using this
 ·have:=h.r2;rcases hi with rfl | rfl <;> simpa [go_sem] using this
 ·rw [zzL _ _ _ _ (by intro e;injection e with _ e _;omega)];exact h.rw' j hj
 ·rw [zzL _ _ _ _ (by intro e;injection e with _ e _;omega)];exact h.rm
 ·have:=h.fz j;simpa [go_sem] using this
theorem NwG.keep (h:NwG W l br k1 k3 v1 v3 aa bps w) (hl:br<w.heap.size) (hs:w.heap.size<=w'.heap.size) (hB:∀b,b<w.heap.size->w'.heap[b]? =w.heap[b]?):NwG W l br k1 k3 v1 v3 aa bps w':=by
 have cb:∀i,w'.cell? (Z br i N)=w.cell? (Z br i N):=λ i=>zzJ (w:=w) (a:=Z br i N) (hB br hl);refine ⟨(cb 1).trans h.r1,(cb 3).trans h.r3,yaJ h.o1 (λ b hb=>hB b (ybl h.o1 hb).2),yaJ h.o3 (λ b hb=>hB b (ybl h.o3 hb).2),h.b1,h.b3,h.n13,λ b hb=>?_,h.nd,h.g1,h.g3,λ i hi=>?_⟩
 ·obtain ⟨m1,m2,m3,m4⟩:=h.mp b hb;exact ⟨m1,zH m2 hs,(hB b m2).trans m3,m4⟩
 ·obtain ⟨lo,ag,q1,q2,q3,q4⟩:=h.lp i hi;exact ⟨lo,ag,q1.keep (zI q3 hs) (λ b _ g=>hB b (zH g q3)),q2,zI q3 hs,q4⟩
theorem NwG.lap {w6:World} {ad gv:Value} {s:Nat} (h:NwG W l br k1 k3 v1 v3 aa bps w) (hl:br<w.heap.size) (hb:Bw w w') (hs:w.heap.size<=s) (hL:LapV w' s w'.heap.size (atC l k1) gv)
  (ho:w6.ownsRow W.heap.size 144 1 ad (k1+1) (aa ++ [gv])) (hg:w'.grownBy w6 v1.ownBlock) (hn:∀b,ad.ownBlock=G b->v1.ownBlock=G b\/ w'.heap.size<=b) :
  NwG W l br (k1+1) k3 ad v3 (aa ++ [gv]) bps (w6.setCell (Z br 1 N) ad):=by
 have ao:=hb.size;have an:=hg.size;have hE:Eff (λ b=>b=br) w6 (w6.setCell (Z br 1 N) ad):=(Eff.refl (λ b=>b=br) w6).set rfl _ _;have ah:w6.heap[br]? =w.heap[br]?:=(hg.block br zo (λ e=>by have:=h.b1 br e.symm;omega)).trans (hb.block br hl);have aj:∀b,ad.ownBlock=G b->br<b:=λ b e=>by
  rcases hn b e with e | e
  ·exact h.b1 b e
  ·omega
 have ab:∀b,b<w'.heap.size->b≠br->v1.ownBlock≠G b->(w6.setCell (Z br 1 N) ad).heap[b]? =w'.heap[b]?:=λ b g1 g2 g3=>(hE.block b zo g2).trans (hg.block b g1 (λ e=>g3 e.symm));have ac:∀b,b<w.heap.size->b≠br->v1.ownBlock≠G b->(w6.setCell (Z br 1 N) ad).heap[b]? =w.heap[b]?:=λ b g1 g2 g3=>(ab b zo g2 g3).trans (hb.block b g1);have c6:∀i,w6.cell? (Z br i N)=w.cell? (Z br i N):=λ i=>zzJ (w:=w) (a:=Z br i N) ah;have hsz:(w6.setCell (Z br 1 N) ad).heap.size=w6.heap.size:=by simp
 refine ⟨?_,?_,yaJ ho (λ b e=>hE.block b (ybl ho e).2 (zp (aj b e))),yaJ h.o3 (λ b e=>ac b (ybl h.o3 e).2 (zp (h.b3 b e)) (λ e'=>h.n13 b e' e)),aj,h.b3,λ b e=>?_,λ b af=>?_,h.nd,by simp [h.g1],h.g3,λ i hi=>?_⟩
 ·have:=(c6 1).trans h.r1;simp [go_sem,this]
 ·rw [zzL _ _ _ _ (by intro e;injection e with _ e _;omega)];exact (c6 3).trans h.r3
 ·rcases hn b e with e | e
  ·exact h.n13 b e
  ·intro e3;have:=(ybl h.o3 e3).2;omega
 ·obtain ⟨m1,m2,m3,m4,m5⟩:=h.mp b af;refine ⟨m1,by omega,(ac b m2 zo m4).trans m3,λ e=>?_,m5⟩;rcases hn b e with e | e
  ·exact m4 e
  ·omega
 ·by_cases ak:i<k1
  ·obtain ⟨lo,ag,q1,q2,q3,q4⟩:=h.lp i ak;have e:(aa ++ [gv]).getD i undef=aa.getD i undef:=(by rw [Yz,Yz,Yo (by rw [h.g1];exact ak)]);rw [e];refine ⟨lo,ag,q1.keep zo (λ b g1 g2=>ac b zo zo (q4 b g1 g2).1),q2,by omega,λ b g1 g2=>⟨λ e=>?_,(q4 b g1 g2).2⟩⟩;rcases hn b e with e | e
   ·exact (q4 b g1 g2).1 e
   ·omega
  ·obtain rfl:i=k1:=zo;have e:(aa ++ [gv]).getD i undef=gv:=(by rw [Yz,Yl (by rw [h.g1];exact zG _),h.g1];simp);rw [e];refine ⟨s,w'.heap.size,hL.keep zo (λ b g1 g2=>ab b g2 zo (λ e=>by have:=(ybl h.o1 e).2;omega)),by omega,by omega,λ b g1 g2=>⟨λ e=>?_,λ e=>?_,λ e=>?_⟩⟩
   ·rcases hn b e with e | e
    ·have:=(ybl h.o1 e).2;omega
    ·omega
   ·have:=(ybl h.o3 e).2;omega
   ·have:=(h.mp b e).2.1;omega
theorem NwG.part {w6:World} {v3':Value} (h:NwG W l br k1 k3 v1 v3 aa bps w) (hl:br<w.heap.size)
  (ho:w6.ownsRow W.heap.size 146 1 v3' (k3+1) ((bps ++ [w.heap.size]).map λ b=> .map (G b))) (hg:(w.alloc (.map #[] 0)).grownBy w6 v3.ownBlock) (hn:∀b,v3'.ownBlock=G b->v3.ownBlock=G b\/ w.heap.size<b) :
  NwG W l br k1 (k3+1) v1 v3' aa (bps ++ [w.heap.size]) (w6.setCell (Z br 3 N) v3'):=by
 have an:w.heap.size+1<=w6.heap.size:=by have:=hg.size;simpa using this
 have hE:Eff (λ b=>b=br) w6 (w6.setCell (Z br 3 N) v3'):=(Eff.refl (λ b=>b=br) w6).set rfl _ _;have al:∀b,b<w.heap.size->v3.ownBlock≠G b->w6.heap[b]? =w.heap[b]?:=λ b g1 g2=>(hg.block b (by simp;omega) (λ e=>g2 e.symm)).trans ((yaa (o:= .map #[] 0) (Ye w.heap.size w) zg).block b g1);have ah:w6.heap[br]? =w.heap[br]?:=al br hl (λ e=>by have:=h.b3 br e;omega);have ai:∀b,v3'.ownBlock=G b->br<b:=λ b e=>by
  rcases hn b e with e | e
  ·exact h.b3 b e
  ·omega
 have ab:∀b,b<w.heap.size->b≠br->v3.ownBlock≠G b->(w6.setCell (Z br 3 N) v3').heap[b]? =w.heap[b]?:=λ b g1 g2 g3=>(hE.block b zo g2).trans (al b g1 g3);have c6:∀i,w6.cell? (Z br i N)=w.cell? (Z br i N):=λ i=>zzJ (w:=w) (a:=Z br i N) ah;have hsz:(w6.setCell (Z br 3 N) v3').heap.size=w6.heap.size:=by simp
 have ae:∀b,v1.ownBlock=G b->b<w.heap.size:=λ b e=>(ybl h.o1 e).2;refine ⟨?_,?_,yaJ h.o1 (λ b e=>ab b (ae b e) (zp (h.b1 b e)) (h.n13 b e)),yaJ ho (λ b e=>hE.block b (ybl ho e).2 (zp (ai b e))),h.b1,ai,λ b e e3=>?_,λ b af=>?_,?_,h.g1,by simp [h.g3],λ i hi=>?_⟩
 ·rw [zzL _ _ _ _ (by intro e;injection e with _ e _;omega)];exact (c6 1).trans h.r1
 ·have:=(c6 3).trans h.r3;simp [go_sem,this]
 ·rcases hn b e3 with e3 | e3
  ·exact h.n13 b e e3
  ·have:=ae b e;omega
 ·rcases YC.1 af with af | af
  ·obtain ⟨m1,m2,m3,m4,m5⟩:=h.mp b af;refine ⟨m1,by omega,(ab b m2 zo m5).trans m3,m4,λ e=>?_⟩;rcases hn b e with e | e
   ·exact m5 e
   ·omega
  ·obtain rfl:b=w.heap.size:=(by simpa using af);refine ⟨hl,by omega,(hE.block _ zo zo).trans ((hg.block w.heap.size zs (λ e=>by have:=(ybl h.o3 e.symm).2;omega)).trans (Y1 w _)),λ e=>by have:=ae _ e;omega,λ e=>?_⟩;rcases hn _ e with e | e
   ·have:=(ybl h.o3 e).2;omega
   ·omega
 ·refine List.nodup_append.2 ⟨h.nd,by simp,λ a ha b hb e=>?_⟩;have:b=w.heap.size:=by simpa using hb
  have:=(h.mp a ha).2.1;omega
 ·obtain ⟨lo,ag,q1,q2,q3,q4⟩:=h.lp i hi;refine ⟨lo,ag,q1.keep zo (λ b g1 g2=>ab b zo zo (q4 b g1 g2).2.1),q2,by omega,λ b g1 g2=>⟨(q4 b g1 g2).1,λ e=>?_,λ e=>?_⟩⟩
  ·rcases hn b e with e | e
   ·exact (q4 b g1 g2).2.1 e
   ·omega
  ·rcases YC.1 e with e | e
   ·exact (q4 b g1 g2).2.2 e
   ·have:b=w.heap.size:=by simpa using e
    omega
end
end
section
variable {l:List Cl} {xs:List Value} {cap n s:Nat} {a:Option Addr} {e:TypeId} {W w:World}
theorem ytv {w1:World} {a1:Option Addr} {c1:Nat} (hB:Bw W w1) (hO:w1.ownsRow W.heap.size 59 30 (Xs a1 l.length c1) l.length (cls l)) {Wa:World}
  (hW:(w1.alloc (.map #[] 0)).alloc (J ((Tryz.zeroCells143.setIfInBounds 0 (Xs a1 l.length c1)).setIfInBounds 2 (.map (G w1.heap.size))) 143)=Wa) :
  NwF W l a1 c1 w1.heap.size (w1.heap.size+1) Wa/\NwG W l (w1.heap.size+1) 0 0 (Xs N 0 0) (Xs N 0 0) [] [] Wa:=by
 have hs:=hB.size;have aY:Bw W Wa:=by rw [<- hW];exact yaa (yaa hB hs) (by simp;omega)
 have hl:Wa.heap.size=w1.heap.size+2:=by rw [<- hW];simp
 obtain ⟨Rq,hR⟩:=zx (List.replicate 256 (Value.pointer N));have bZ:Rq.length=256:=by rw [<- hR,List.length_replicate]
 have b0:∀j,j<256->Rq[j]? =G (R N):=λ j hj=>by rw [<- hR,List.getElem?_replicate,Yd hj]
 have hz:(Tryz.zeroCells143.setIfInBounds 0 (Xs a1 l.length c1)).setIfInBounds 2 (.map (G w1.heap.size))= (Value.slice a1 l.length c1::Xs N 0 0 :: .map (G w1.heap.size)::Xs N 0 0::(Rq ++ [E T 0])).toArray:=by
  rw [yxF,hR];simp
 rw [hz] at hW;clear hz hR;have e1:w1.heap.size+1= (w1.alloc (.map #[] 0)).heap.size:=by simp
 have hc:∀(i:Nat) (v:Value),(Value.slice a1 l.length c1::Xs N 0 0 :: .map (G w1.heap.size)::Xs N 0 0::(Rq ++ [E T 0]))[i]? =G v->Wa.cell? (Z (w1.heap.size+1) i N)=G v:=λ i v h=>by
  rw [<- hW,e1];have:=yap (w1.alloc (.map #[] 0)) _ 143 i v h;rwa [zzn] at this
 have ol:∀b,(Value.slice a1 l.length c1).ownBlock=G b->b<w1.heap.size:=λ b hb=>(ybl hO hb).2;have hE:Bw w1 Wa:=by rw [<- hW];exact yaa (yaa (Ye _ _) zg) zs
 refine ⟨⟨aY,⟨hs,rfl,by omega⟩,yaJ hO (λ b hb=>hE.block b (ol b hb)),ol,hc 0 _ rfl,hc 2 _ rfl,λ j hj=>hc _ _ ?_,hc 260 _ ?_,λ i=>?_,?_⟩,⟨hc 1 _ rfl,hc 3 _ rfl,ZA _ _ _ _,ZA _ _ _ _,(λ b h=>by cases h),(λ b h=>by cases h),(λ b h=>by cases h),(λ b hb=>by cases hb),List.nodup_nil,rfl,rfl,λ i hi=>by omega⟩⟩
 ·rw [show 4+j=j+4 by omega];show (Rq ++ [Value.int T 0])[j]? = _;rw [Yo zo];exact b0 j hj
 ·show (Rq ++ [Value.int T 0])[256]? = _;rw [Yl zo,bZ];rfl
 ·rw [<- hW,e1];exact yan _ _ _ i
 ·rw [<- hW];exact ((yaa (o:=J _ 143) (Ye (w1.alloc (.map #[] 0)).heap.size _) zg).block w1.heap.size zs).trans (Y1 w1 _)
theorem yxG {P:Program} {t:TypeId} {o:Oper} {a:Act} {K:Act->World->Prop} {Qq:Exit->Act->World->Prop} {W':World} (s x:Operand)
  (ho:o.op= .call {callee:= .builtin .append,args:=#[s,x],argTypes:=#[t,t]}) {v u r:Value} (hs:a.eval s=v) (hx:a.eval x=u) (hr:(Builtin.append_ #[t,t] o.type #[v,u]).run P W= .ok r W') (hK:K (a.put o.dst r) W'):Oper.wp P o a W K Qq:=by
 unfold Oper.wp execOp;simp only [ho,resolve,invoke,builtin,ZC,ZR,Zf,List.map_toArray,List.map_cons,ZS,hs,hx,hr];exact hK
def yed (W W':World):Blk:=λ b=>(W.heap.size<=b/\b<W'.heap.size)\/ b=0
def yzc (W:World) (l:List Cl) (e:Ending) (W':World):Prop:=
 (yaf l≠0/\e=Q (Xt #[R N,E T (yaf l)]))\/
 (yaf l=0/\∃br bk bps,e=Q (Xt #[R (G (Z br 0 N)),E T 0])/\yar W' l br bk bps (yed W W') (λ _=>false) 0/\∀b,RM br bk bps b->W.heap.size<=b)
theorem SlF.of_own {F M:Blk} (h:w.ownsRow W.heap.size e s (Xs a n cap) n xs) (hF:∀b,(Value.slice a n cap).ownBlock=G b->F b/\¬M b):SlF w F M a xs:=by
 rcases ylo h with hc | ⟨b,off,rfl,hb,hc⟩
 ·exact .inl hc
 ·have:=hF b rfl;exact .inr ⟨b,off,rfl,this.1,this.2,hb,hc⟩
theorem ytp {base:Nat} (h:w.ownsRow base e s (Xs a n cap) n xs):n<=cap:=by
 obtain ⟨hl,h⟩:=h;rcases h with ⟨he,hn⟩ | ⟨g,b4,cf,he,hb,hg,cb,cd,cc,ht⟩
 ·injection he with e1 e2 e3;omega
 ·injection he with e1 e2 e3;omega
theorem ytc {a0:Option Addr} {c0 bk br:Nat} {v1 v3:Value} {av:List Value} {bps:List Nat} (hF:NwF W l a0 c0 bk br w) (hG:NwG W l br l.length l.length v1 v3 av bps w) (aA:∀c∈l,c.Ok) (hm:yhV l=true) (hT:Tab W) :
  yar w l br bk bps (yed W w) (λ _=>false) 0/\∀b,RM br bk bps b->W.heap.size<=b:=by
 obtain ⟨l1,l2,l3⟩:=hF.lo;have hz:=hF.bel.size;have aF:∀b,RM br bk bps b->bk<=b/\b<w.heap.size:=λ b hb=>by
  rcases hb with rfl | rfl | hb
  ·omega
  ·omega
  ·have:=hG.mp b hb;omega
 have ht:=hT.1;obtain ⟨a1,c1,rfl,-,-⟩:=ya5 hG.o1;obtain ⟨a3,c3,rfl,-,-⟩:=ya5 hG.o3;have own:∀{e:TypeId} {s:Nat} {v:Value} {n:Nat} {xs:List Value} {b:Nat},w.ownsRow W.heap.size e s v n xs->v.ownBlock=G b->yed W w b:=λ h hb=> .inl (ybl h hb);have n1:∀b,(Value.slice a1 l.length c1).ownBlock=G b->¬RM br bk bps b:=λ b hb h=>by
  rcases h with rfl | rfl | h
  ·have:=hG.b1 _ hb;omega
  ·have:=hG.b1 _ hb;omega
  ·exact (hG.mp b h).2.2.2.1 hb
 have n3:∀b,(Value.slice a3 l.length c3).ownBlock=G b->¬RM br bk bps b:=λ b hb h=>by
  rcases h with rfl | rfl | h
  ·have:=hG.b3 _ hb;omega
  ·have:=hG.b3 _ hb;omega
  ·exact (hG.mp b h).2.2.2.2 hb
 refine ⟨⟨⟨aA,hm,λ b hb=>?_,λ b hb=> .inl ⟨by have:=aF b hb;omega,(aF b hb).2⟩,⟨hT.later hF.bel, .inr rfl,λ h=>by have:=aF _ h;omega⟩,⟨by omega,λ h=>by have:=hG.mp _ h;omega,λ h=>by have:=hG.mp _ h;omega,hG.nd⟩,hG.g3,
  ⟨a0,c0,hF.r0,SlF.of_own hF.own (λ b hb=>⟨own hF.own hb,λ h=>by have:=hF.olt b hb;have:=aF b h;omega⟩),ytp hF.own,yqp hF.own⟩,
  ⟨a1,c1,av,hG.r1,SlF.of_own hG.o1 (λ b hb=>⟨own hG.o1 hb,n1 b hb⟩),hG.g1,λ i hi=>?_⟩,hF.r2,⟨a3,c3,hG.r3,SlF.of_own hG.o3 (λ b hb=>⟨own hG.o3 hb,n3 b hb⟩)⟩,hF.fz⟩,
  ⟨#[],0,hF.kn,by simp,by simp⟩,λ i hi=>?_,λ j hj=>⟨N,hF.rw' j hj,rfl,λ b hb=>by cases hb⟩,hF.rm⟩,λ b hb=>by have:=aF b hb;omega⟩
 ·rcases hb with hb | rfl
  ·exact hb.2
  ·omega
 ·obtain ⟨lo,bX,q1,q2,q3,q4⟩:=hG.lp i hi;refine ⟨lo,bX,q1,q3,λ b g1 g2=>⟨.inl ⟨by omega,by omega⟩,λ h=>?_⟩⟩;rcases h with rfl | rfl | h
  ·omega
  ·omega
  ·exact (q4 b g1 g2).2.2 h
 ·have hm:=hG.mp _ (yeq (by rw [hG.g3];exact hi):bps.getD i 0∈bps);exact ⟨#[],0,hm.2.2.1,by simp,by simp⟩
attribute [local go_sem ↓] yaz ya3
attribute [local go_sem] yaE
theorem yd5 (a:Option Addr) (cap:Nat) (l:List Cl) (W:World) (hl:l.length<=9223372036854775807) (bv:l.length<=cap) (hs:Sl W a (cls l)) (bp:a=N->cap=0) (aA:∀c∈l,c.Ok) (hT:Tab W) :
  H I 29 #[Xs a l.length cap] W λ e W'=>yzc W l e W'/\Bw W W':=by
 have cO:=hid (ysu a cap l W hl bv hs bp aA);have bf:=hid aA;have HT:=hid hT;clear bv hs bp hl hT aA;by_cases hf:yaf l=0
 ·have ho:yqq l=l:=by rw [yqq,Yd hf]
  have be:Hid (H I 19 #[Xs a l.length cap] W λ e w'=>(∃v,e=Q (Xt #[v,E T 0])/\yvO W w' l v)/\Bw W w'):=by
   have:=cO.out;unfold OfR at this;rw [hf,ho] at this;exact this
  have h8:l.length<=8:=by
   have:=ycG l;rw [hf] at this;rw [yhV] at this;simp at this;exact this.1
  have Hf:=hid hf;have H8:=hid h8;clear hf ho cO h8;have bu:=hid (@run_makeMap I);go_enter Tryz.func29,Tryz.ntmps29
  go_wp2_with fail
  refine be.mono ?_;rintro e w1 ⟨⟨v,rfl,hO⟩,aG⟩;obtain ⟨a1,am,rfl,bU,-⟩:=ya5 hO;have HO:=hid hO;have bj:=hid aG;have aU:=bu.out;clear hO bU aG;go_upto_region 5 with fail
  obtain ⟨Wa,a4⟩:=zx ((w1.alloc (.map #[] 0)).alloc (J ((Tryz.zeroCells143.setIfInBounds 0 (Xs a1 l.length am)).setIfInBounds 2 (.map (G w1.heap.size))) 143));have aS:=hid (ytv bj HO a4);rw [a4];generalize hZ:Value.agg ((Tryz.zeroCells143.setIfInBounds 0 (Xs a1 l.length am)).setIfInBounds 2 (.map (G w1.heap.size)))=Zq
  clear a4 aU hZ;obtain ⟨br,aX⟩:=zx (w1.heap.size+1);obtain ⟨bk,aN⟩:=zx w1.heap.size;rw [aX,aN] at aS;rw [aX];clear aX aN;go_upto_region 6 with fail
  go_loopw [23] (λ i wr=>∃k:Nat,i=E T k/\k<=l.length/\Hid (NwF W l a1 am bk br wr/\∃v1 v3 av bps,NwG W l br k k v1 v3 av bps wr)) (λ i _=>l.length-(intOf i).toNat)
  case atStart=>exact ⟨0,rfl,by omega,aS.1,_,_,_,_,aS.2⟩
  case round=>
   obtain ⟨k,rfl,hk,HI⟩:=hrel;by_cases hlt:k<l.length
   ·have bV:(k:Int)<l.length:=zo;obtain ⟨hF,v1,v3,av,bps,hG⟩:=HI.out;obtain ⟨b,off,rfl,aN,hr⟩:=(ylo hF.own).atCl hlt;have le:=ylE hr;have aZ:atC l k=l[k]:=yer hlt;obtain ⟨c,hc⟩:=zx (l[k]);rw [hc] at hr le aZ;have aD:c.Ok:=(by rw [<- hc];exact bf _ (zzr hlt));have az:(wr.alloc (J zL.toArray 59)).there wr.heap.size 0 30:=yaL wr _ _;have bt:=yaa (o:=J zL.toArray 59) (Ye wr.heap.size wr) zg;have bb:ClB (yaV (wr.alloc (J zL.toArray 59)) wr.heap.size (yae c)) wr.heap.size c:=yaI _ rfl az;have ai:Bw wr (yaV (wr.alloc (J zL.toArray 59)) wr.heap.size (yae c)):=yaD bt zg _;have aV:wr.heap.size<(yaV (wr.alloc (J zL.toArray 59)) wr.heap.size (yae c)).heap.size:=(by show wr.heap.size<(World.setCells _ _ _ _).heap.size;rw [ya4];simp);obtain ⟨W3,a5⟩:=zx (yaV (wr.alloc (J zL.toArray 59)) wr.heap.size (yae c));rw [a5] at bb ai aV;obtain ⟨bR,bQ,bl⟩:=hF.lo;have bB:=hF.keep (w':=W3) (hF.bel.trans (ai.mono hF.bel.size)) ai.size (λ b hb=>ai.block b zo);have bz:=hG.keep (w':=W3) bl ai.size (λ b hb=>ai.block b hb);have ay:=hid bB;have bJ:=hid bz;have bN:=hid bb;have bH:=hid aV;have bE:=hid aZ;have cL:=hid (λ W=>ysr c W aD);have b5:=hid a5;have bI:=hid hG;have bK:=hid hF;have aK:=hid ai;clear HI hF hG hr aZ hc aD bt bb ai aV bR bQ bl bB bz a5 aN;go_upto_region 8 with fail
    rw [b5];clear le az;obtain ⟨Wd,a2⟩:=zx W3.drew;have ah:Bw W3 Wd:=(by rw [<- a2];exact (Ye _ _).drew);have bF:Hid (Wd=W3.drew):=a2.symm;have ag:=hid (ay.keep (w':=Wd) (ay.bel.trans (ah.mono ay.bel.size)) ah.size (λ b hb=>ah.block b (zp ay.out.lo)));have bh:=hid (bJ.keep (w':=Wd) ay.lo.2.2 ah.size (λ b hb=>ah.block b hb));have aQ:Hid (ClB Wd wr.heap.size c):=bN.below ah bH.out;have aO:Hid (wr.heap.size<Wd.heap.size):=zH bH ah.size;have au:Hid (Bw wr Wd):=zu aK ah;clear ah a2 ay bJ bN;refine Yj (S:=λ w=>Hid (ClB w wr.heap.size c)) zk (by rw [<- bF];exact aQ) (λ aa=>?_);rw [<- bF];clear aa;refine zT 0 (v:=?_) ?_ ?_;rotate_left
    ·intro w ae;have hl:=ae.ld;clear ae;go_simp;(try with_reducible rfl)
    refine zT 1 (v:=?_) ?_ ?_;rotate_left
    ·intro w ae;have hl:=ae.ld;clear ae;go_simp;(try with_reducible rfl)
    refine zT 2 (v:=?_) ?_ ?_;rotate_left
    ·intro w ae;have hl:=ae.ld;clear ae;go_simp;(try with_reducible rfl)
    refine zT 3 (v:=?_) ?_ ?_;rotate_left
    ·intro w ae;have hl:=ae.ld;clear ae;go_simp;(try with_reducible rfl)
    refine zT 5 (v:=?_) ?_ ?_;rotate_left
    ·intro w ae;have hl:=ae.ld;clear ae;go_simp;(try with_reducible rfl)
    refine wpAnyH_ready (rs:= [4,6]) zk zs ?_;refine AllReadyH.cons rfl (λ K hK=>?_) (AllReadyH.cons rfl (λ K hK=>?_) AllReadyH.nil);focus
     have r1:=bh.r1;go_simp;clear r1;refine hK _ _ aQ (λ aa=>?_);clear hK K aa;refine zzK 6 (λ K hK=>?_);go_simp;refine (cL Wd).mono ?_;clear cL;rintro e w4 ⟨⟨gv,rfl,hL⟩,ac⟩;have a7:=hL;obtain ⟨y1,y2,y3,y4,y5,y6,fv,rfl,-⟩:=a7;have ad:=hid (ag.keep (w':=w4) (ag.bel.trans (ac.mono ag.bel.size)) ac.size (λ b hb=>ac.block b (zp ag.out.lo)));have aI:=hid (bh.keep (w':=w4) ag.lo.2.2 ac.size (λ b hb=>ac.block b hb));have ar:Hid (ClB w4 wr.heap.size c):=aQ.below ac aO.out;have an:Hid (wr.heap.size<w4.heap.size):=zH aO ac.size;have bG:Hid (LapV w4 Wd.heap.size w4.heap.size (atC l k) (yf1 y1 y2 y3 y4 y5 y6)):=(by show LapV _ _ _ _ _;rw [bE];exact hL);have bO:=hid ac;clear hL ac;(try go_wp2_with fail);refine hK _ _ ar (λ aa=>?_);clear hK K aa;refine zzK 7 (λ K hK=>?_);obtain ⟨W5,af⟩:=zx (w4.alloc (J #[yf1 y1 y2 y3 y4 y5 y6] 144));have ab:Bw w4 W5:=(by rw [<- af];exact yaa (Ye _ _) zg);have aJ:Hid (ClB W5 wr.heap.size c):=ar.below ab an.out;have aP:Hid (wr.heap.size<W5.heap.size):=zH an ab.size;have ao:=hid (aI.keep (w':=W5) ad.lo.2.2 ab.size (λ b hb=>ab.block b hb));have aq:=hid (ad.keep (w':=W5) (ad.bel.trans (ab.mono ad.bel.size)) ab.size (λ b hb=>ab.block b (zp ad.out.lo)));have bi:=hid ab;have aj:=hid af;clear ab af;go_simp;rw [aj]
    rotate_left;focus
     go_simp;refine (cL Wd).mono ?_;clear cL;rintro e w4 ⟨⟨gv,rfl,hL⟩,ac⟩;have a7:=hL;obtain ⟨y1,y2,y3,y4,y5,y6,fv,rfl,-⟩:=a7;have ad:=hid (ag.keep (w':=w4) (ag.bel.trans (ac.mono ag.bel.size)) ac.size (λ b hb=>ac.block b (zp ag.out.lo)));have aI:=hid (bh.keep (w':=w4) ag.lo.2.2 ac.size (λ b hb=>ac.block b hb));have ar:Hid (ClB w4 wr.heap.size c):=aQ.below ac aO.out;have an:Hid (wr.heap.size<w4.heap.size):=zH aO ac.size;have bG:Hid (LapV w4 Wd.heap.size w4.heap.size (atC l k) (yf1 y1 y2 y3 y4 y5 y6)):=(by show LapV _ _ _ _ _;rw [bE];exact hL);have bO:=hid ac;clear hL ac;(try go_wp2_with fail);refine hK _ _ ar (λ aa=>?_);clear hK K aa;refine wpAnyH_ready (rs:= [4,7]) zk zs ?_;refine AllReadyH.cons rfl (λ K hK=>?_) (AllReadyH.cons rfl (λ K hK=>?_) AllReadyH.nil);focus
      have r1:=aI.r1;go_simp;clear r1;refine hK _ _ ar (λ aa=>?_);clear hK K aa;refine zzK 7 (λ K hK=>?_);obtain ⟨W5,af⟩:=zx (w4.alloc (J #[yf1 y1 y2 y3 y4 y5 y6] 144));have ab:Bw w4 W5:=(by rw [<- af];exact yaa (Ye _ _) zg);have aJ:Hid (ClB W5 wr.heap.size c):=ar.below ab an.out;have aP:Hid (wr.heap.size<W5.heap.size):=zH an ab.size;have ao:=hid (aI.keep (w':=W5) ad.lo.2.2 ab.size (λ b hb=>ab.block b hb));have aq:=hid (ad.keep (w':=W5) (ad.bel.trans (ab.mono ad.bel.size)) ab.size (λ b hb=>ab.block b (zp ad.out.lo)));have bi:=hid ab;have aj:=hid af;clear ab af;go_simp;rw [aj]
     rotate_left;focus
      obtain ⟨W5,af⟩:=zx (w4.alloc (J #[yf1 y1 y2 y3 y4 y5 y6] 144));have ab:Bw w4 W5:=(by rw [<- af];exact yaa (Ye _ _) zg);have aJ:Hid (ClB W5 wr.heap.size c):=ar.below ab an.out;have aP:Hid (wr.heap.size<W5.heap.size):=zH an ab.size;have ao:=hid (aI.keep (w':=W5) ad.lo.2.2 ab.size (λ b hb=>ab.block b hb));have aq:=hid (ad.keep (w':=W5) (ad.bel.trans (ab.mono ad.bel.size)) ab.size (λ b hb=>ab.block b (zp ad.out.lo)));have bi:=hid ab;have aj:=hid af;clear ab af;go_simp;rw [aj];refine hK _ _ aJ (λ aa=>?_);clear hK K aa;refine zzK 4 (λ K hK=>?_);have r1:=ao.r1;go_simp;clear r1
     rotate_left
    rotate_left 2;all_goals
     refine hK _ _ aJ (λ aa=>?_);clear hK K aa;have bY:=ylk yzQ W5 139 ao.o1 (ax:=G (Z w4.heap.size 0 N)) (m:=1) (c:=1) (news:= [yf1 y1 y2 y3 y4 y5 y6]) rfl ?_ (λ h=>by cases h) ?_ (zp H8.out) (zp H8.out) aq.bel.size;rotate_left
     ·refine .inr ⟨w4.heap.size,0,rfl,by rw [<- aj];simp,λ j hj=>?_⟩;have:j=0:=by simp at hj;omega
      subst this;rw [<- aj];simp
     ·intro u hu;simp at hu;subst hu;rfl
     obtain ⟨a6,al,w6,bm,bo,ak,bx,bs⟩:=bY;have aC:w4.grownBy w6 v1.ownBlock:=ydl (by rw [<- aj];exact World.grownBy_alloc w4 _ _) ak;have bD:ClB w6 wr.heap.size c:=λ j x hx=>by
      have e:v1.ownBlock≠G wr.heap.size:=λ e=>(by have:=(ybl bI.o1 e).2;omega);exact (zzJ (w:=W5) (a:=Z wr.heap.size (0+j) N) (ak.block wr.heap.size aP (λ e'=>e e'.symm))).trans (aJ j x hx)
     have bA:=aq.keep (w':=w6) (aq.bel.trans bx) ak.size (λ b hb=>ak.block b (zp aq.out.lo) (λ e=>by have:=ao.b1 b e.symm;omega));have aL:w6.cell? (Z br 1 N)=G v1:=(zzJ (w:=W5) (a:=Z br 1 N) (ak.block br aq.lo.2.2 (λ e=>by have:=ao.b1 br e.symm;omega))).trans ao.r1;have aB:∀b,(Value.slice a6 (k+1) al).ownBlock=G b->v1.ownBlock=G b\/ w4.heap.size<=b:=λ b e=>(bs b e).imp id (λ h=>zI bi.size h);have aw:=hid (bI.lap (gv:=yf1 y1 y2 y3 y4 y5 y6) bK.lo.2.2 (zu au bO) au.size bG bo aC aB);have bM:=hid bD;have bL:=hid bA;have bg:=hid aL;have cg:Hid (wr.heap.size<w6.heap.size):=zH aP ak.size;clear aC bD bA aL aB bs bx ak bo;refine zzK 8 (λ K hK=>?_);rw [Yd (by rfl)];refine yxG (.tmp 31) (.tmp 34) rfl rfl rfl bm ?_;refine hK _ _ bM (λ aa=>?_);clear hK K aa bm;refine zhE 9 ?_;refine zhE 10 ?_;have aL:=bg.out;have b2:=bL.fz 1;refine zzK 11 (λ K hK=>?_);go_simp;obtain ⟨w7,aR⟩:=zx (w6.setCell (Z br 1 N) (Xs a6 (k+1) al));have ba:=bL.set (v:=Xs a6 (k+1) al) (i:=1) (.inl rfl);have bC:ClB w7 wr.heap.size c:=λ j x hx=>by
      rw [<- aR,zzL _ _ _ _ (by intro e;injection e with e _ _;have:=bK.lo;omega)];exact bM j x hx
     rw [aR] at ba aw⊢;have ap:=hid ba;have b8:=hid bC;clear ba bC aR aL b2;refine hK _ _ b8 (λ aa=>?_);clear hK K aa;refine Yt zk ?_ _;have bP:=aw.r3;have o8:=hid ((aw.o3).alloc (.map #[] 0));have bS:Hid (W.heap.size<=(w7.alloc (.map #[] 0)).heap.size):=(by have:=ap.bel.size;simp [Hid];omega);have h8:=H8.out;have aT:=bu.out;go_wp2_with (at_builtin;refine yAj yzP (.tmp 42) (.tmp 44) rfl rfl rfl rfl zs o8 rfl zo zo bS ?_)
     intro a9 aH w9 bn aM bw bq;have bc:∀b,b<w7.heap.size->v3.ownBlock≠G b->w9.heap[b]? =w7.heap[b]?:=λ b g1 g2=>(aM.block b (by simp;omega) (λ e=>g2 e.symm)).trans ((yaa (o:= .map #[] 0) (Ye w7.heap.size w7) zg).block b g1);have bT:w7.heap.size+1<=w9.heap.size:=(by have:=aM.size;simpa using this);have aE:Bw W w9:=ap.bel.trans ((yaa (o:= .map #[] 0) (Ye W.heap.size w7) ap.bel.size).trans bw);have bd:∀b,b<=br->v3.ownBlock≠G b:=λ b hb e=>(by have:=aw.b3 b e;omega);have a8:=ap.keep (w':=w9) aE zo (λ b hb=>bc b (zp ap.out.lo) (bd b hb));have b9:w9.cell? (Z br 3 N)=G v3:=(zzJ (w:=w7) (a:=Z br 3 N) (bc br ap.lo.2.2 (bd br zg))).trans aw.r3;have ce:=a8.fz 3;have b7:=hid (a8.set (v:=Xs a9 (k+1) aH) (i:=3) (.inr rfl));have b6:=hid (aw.part ap.lo.2.2 (v3':=Xs a9 (k+1) aH) (w6:=w9) (by rw [Zl];exact bn) aM (λ b e=>by rcases bq b e with h | h;exact .inl h;exact .inr zo));clear bP aT bn aM bw bq bc bT aE bd a8;go_wp2;exact ⟨⟨k+1,by go_num,by omega,b7,_,_,_,_,b6⟩,by simp [intOf];omega⟩
   ·have bW:k=l.length:=zo;subst bW;obtain ⟨hF,v1,v3,av,bps,hG⟩:=HI.out;have aW:Hid (yzc W l (Q (Xt #[R (G (Z br 0 N)),E T 0])) wr/\Bw W wr):=by
     have h:=ytc hF hG bf (by rw [ycG,Hf];rfl) HT;exact ⟨.inr ⟨Hf,br,bk,bps,rfl,h.1,h.2⟩,hF.bel⟩
    clear HI hF hG;go_wp2;go_ret2
    exact aW
 ·have ho:yqq l= []:=by rw [yqq,Yb hf]
  obtain ⟨X,hX⟩:=zx (yaf l);have be:Hid (H I 19 #[Xs a l.length cap] W λ e w'=>(∃v,e=Q (Xt #[v,E T X])/\yvO W w' [] v)/\Bw W w'):=by
   have:=cO.out;unfold OfR at this;rw [hX,ho] at this;exact this
  have hN:Hid (∀w',yzc W l (Q (Xt #[R N,E T X])) w'):=λ w'=> .inl ⟨hf,by rw [hX]⟩;have ca:¬X=0:=by rw [<- hX];exact hf
  clear hf ho cO hX bf HT;go_enter Tryz.func29,Tryz.ntmps29
  go_wp2_with fail
  refine be.mono ?_;rintro e w1 ⟨⟨v,rfl,hO⟩,aG⟩;have bj:=hid aG;clear hO aG;go_wp2;go_ret2
  exact ⟨hN _,bj⟩
end
section
variable {M O O':Blk} {l:Nat} {Dk:Option Nat} {W W':World}
abbrev ydt:=Nat->Blk->Blk->World->Prop
abbrev atF (Iq:ydt) (F:Blk):ycQ:=λ k O W=>Iq k O F W
def StabF (M:Blk) (Iq:ydt):Prop:=∀k O F F' W W',Iq k O F W->W.heap.size<=W'.heap.size->(∀b,F b->F' b)->(∀b,O b\/ (F b/\¬M b)->W'.heap[b]? =W.heap[b]?)->Iq k O F' W'
def LtF (Iq:ydt):Prop:=∀k O F W,Iq k O F W->∀b,O b->b<W.heap.size
theorem StabF.of {Iq:ycQ} (h:ybI Iq):StabF M (λ k O _ W=>Iq k O W):=λ k O F F' W W' hi hs _ hO=>h k O W W' hi hs (λ b hb=>hO b (.inl hb))
theorem LtF.of {Iq:ycQ} (h:LtO Iq):LtF (λ k O _ W=>Iq k O W):=λ k O _ W hi=>h k O W hi
structure yci (M O O':Blk) (W W':World):Prop where
 sub:∀b,O b->O' b
 new:∀b,O' b->O b\/ W.heap.size<=b
 eff:Eff (λ b=>O b\/ M b) W W'
theorem yci.refl (M O:Blk) (W:World):yci M O O W W:=⟨λ _ h=>h,λ _ h=> .inl h,Eff.refl _ _⟩
theorem yaM.toM (h:yaM O O' W W') (M:Blk):yci M O O' W W':=⟨h.sub,h.new,h.eff.wide λ b hb=> .inl hb⟩
theorem yci.trans {O2:Blk} {A B C:World} (h:yci M O O' A B) (k:yci M O' O2 B C):yci M O O2 A C:=
 ⟨λ b hb=>k.sub b (h.sub b hb),λ b hb=>by
  rcases k.new b hb with h1 | h1
  ·exact h.new b h1
  ·exact .inr (zI h.eff.size h1),h.eff.trans k.eff λ b hb=>by
  rcases hb with h1 | h1
  ·rcases h.new b h1 with h2 | h2
   ·exact .inl (.inl h2)
   ·exact .inr h2
  ·exact .inl (.inr h1)⟩
structure ych (Hq:Blk->World->Prop) (M:Blk):Prop where
 stab:∀F W W',Hq F W->W.heap.size<=W'.heap.size->(∀b,F b->W'.heap[b]? =W.heap[b]?)->Hq F W'
 lt:∀F W,Hq F W->∀b,F b->b<W.heap.size
 sub:∀F W,Hq F W->∀b,M b->F b
theorem ych.eff {Hq:Blk->World->Prop} {F:Blk} (h:ych Hq M) (hF:Hq F W) (he:Eff O W W') (hd:∀b,F b->¬O b):Hq F W':=
 h.stab F W W' hF he.size (λ b hb=>he.block b (h.lt F W hF b hb) (hd b hb))
structure yfB (P:Program) (y:Value) (n:Nat) (V:Nat->Array Value->Blk->World->Prop) (M:Blk) (Jq Jx:ydt) (O0:Blk) (W0:World):Prop where
 form:∃f fi cap,y= .func f fi cap
 stab:StabF M Jq
 stabx:StabF M Jx
 lt:LtF Jq
 ltx:LtF Jx
 call:∀k O F W vs,k<n->Jq k O F W->(∀b,F b->¬O b)->V k vs F W->yci M O0 O W0 W->CallV P y vs W λ e W'=>∃O':Blk,(∀b,O b->O' b)/\(∀b,O' b->O b\/ W.heap.size<=b)/\Eff O W W'/\
  ((e=Q (Xb true)/\Jq (k+1) O' F W')\/ (e=Q (Xb false)/\Jx (k+1) O' F W'))
def yo0 (n:Nat) (HN HS:Blk->World->Prop) (M:Blk) (Jq Jx:ydt) (O F:Blk) (W W':World):Prop:=
 ∃O' F':Blk,yci M O O' W W'/\(∀b,F b->F' b)/\(∀b,F' b->F b\/ W.heap.size<=b)/\(∀b,F' b->¬O' b)/\((HN F' W'/\Jq n O' F' W')\/ (HS F' W'/\∃k,1<=k/\k<=n/\Jx k O' F' W'))
def yeV (P:Program) (gf:Nat) (lb:Array Value) (n:Nat) (V:Nat->Array Value->Blk->World->Prop) (Hq HN HS:Blk->World->Prop) (M:Blk):Prop:=
 ∀(y:Value) (Jq Jx:ydt) (O F:Blk) (W:World),Hq F W->(∀b,F b->¬O b)->yfB P y n V M Jq Jx O W->Jq 0 O F W->H P gf (#[y]++lb) W λ e W'=>(∃v,e=Q v)/\yo0 n HN HS M Jq Jx O F W W'
def RJF (rc:Loop) (l:Nat) (Dk:Option Nat) (Iq:ydt):ydt:=λ k O F W=>RJ rc l Dk (atF Iq F) k O W
theorem RJF.stab {rc:Loop} {Iq:ydt} (hI:StabF M Iq):StabF M (RJF rc l Dk Iq):=by
 rintro k O F F' W W' ⟨O1,h1,h2,h3,h4,h5⟩ hs hF hO;exact ⟨O1,h1,h2,λ d hd=>⟨(h3 d hd).1,(h3 d hd).2.1,(hO d (.inl ((h1 d).mpr (.inr (.inr hd))))).trans (h3 d hd).2.2⟩,hI k O1 F F' W W' h4 hs hF (λ b hb=>hO b (hb.imp (λ h=>(h1 b).mpr (.inl h)) id)),(hO l (.inl ((h1 l).mpr (.inr (.inl rfl))))).trans h5⟩
theorem RJF.lt {rc:Loop} {Iq:ydt} (hI:LtF Iq):LtF (RJF rc l Dk Iq):=λ k O F W h=>RJ.lt (Iq:=atF Iq F) (λ k O W=>hI k O F W) k O W h
theorem yj6 {P:Program} {m:Nat} {fn:FuncId} {tmps:Array Value} {ps:Array Tmp} {assign body:Code} {D:Nat} {n:Nat} {V:Nat->Array Value->Blk->World->Prop}
  (aD:∀k vs F W,V k vs F W->vs.size=ps.size) {Iq:ydt} {Ix:Code->ydt} (hI:StabF M Iq) (am:∀c,StabF M (Ix c)) (aF:LtF Iq) (aq:∀c,LtF (Ix c))
  (A:Nat->Blk->Blk->Act->World->Prop) (hA:∀l o k O F a' W,(∃r,W.heap[l]? =G (.loop r))->¬O l->¬F l->A k O F a' W->A k O F a' (W.putObj l o))
  (Ow O0:Blk) (w W1:World) (aB:w.heap.size<=l) (aj:∀O O1 W,(∀b,O b↔O1 b\/ b=l\/ Dk=G b)->yci M O0 O W1 W->yci M Ow O1 w W)
  (af:∀k O F W vs (K:Act->World->Prop),k<n->Iq k O F W->(∀b,F b->¬O b/\b≠l)->V k vs F W->yci M Ow O w W->(∀a' O' W',yaM O O' W W'->A k O' F a' W'->K a' W')->
    assign.wpIn (WF (G l)) m P (Exit.then K (λ _ _ _=>False)) {tmps:=(ps.zip vs).foldl (λ t (p,v)=>t.setIfInBounds p v) tmps,defers:= []} W)
  (ak:∀k O F a' W,k<n->yci M Ow O w W->(∃r,W.heap[l]? =G (.loop r))->¬O l->¬F l->A k O F a' W->body.wpIn (WF (G l)) m P (ymh (atF Iq F) (λ c=>atF (Ix c) F) k O W) a' W) :
  yfB P (.func (.yield l) #[] #[]) n V M (RJF (yaj fn tmps ps assign body D .ready N) l Dk Iq) (λ k O F W=>∃c,RJF (yaj fn tmps ps assign body D .done (G c)) l Dk (Ix c) k O F W) O0 W1 where
 form:=⟨_,_,_,rfl⟩
 stab:=RJF.stab hI
 stabx:=λ k O F F' W W' ⟨c,h⟩ hs hF hO=>⟨c,RJF.stab (am c) k O F F' W W' h hs hF hO⟩
 lt:=RJF.lt aF
 ltx:=λ k O F W ⟨c,h⟩=>RJF.lt (aq c) k O F W h
 call:=by
  rintro k O F W vs hk ⟨O1,hO,aw,hD,hi,an⟩ av hV aG;have hG:=aj O O1 W hO aG;have hlt:=yam an;have au:¬F l:=λ h=>av l h ((hO l).mpr (.inr (.inl rfl)));have hy:=run_yield (P:=P) (args:=vs) an (aD _ _ _ _ hV);refine .inr ⟨l,_,_,_,_,rfl,hy,λ m'=>yek (r:=N) (m:=m) (roundIn_of_wpIn trivial ?_)⟩;clear hy;refine af k O1 F W vs _ hk hi (λ b hb=>⟨λ h=>av b hb ((hO b).mpr (.inl h)),λ h=>av b hb ((hO b).mpr (.inr (.inl h)))⟩) hV hG ?_;intro a' O2 Wa ae ha;have ao:=(ae.eff.block l hlt aw).trans an;have aA:∀d,Dk=G d->Wa.heap[d]? =G (.deferred (G [])):=λ d hd=>(ae.eff.block d (yam (hD d hd).2.2) (hD d hd).1).trans (hD d hd).2.2;have ai:∀b,b<W.heap.size->¬O1 b->¬O2 b:=λ b hb hn h=>by
   rcases ae.new b h with h1 | h1
   ·exact hn h1
   ·omega
  have ac:=ai l hlt aw;have aC:=ae.eff.size;refine ⟨_,run_beginRound ao rfl,?_⟩;obtain ⟨Wb,ah⟩:=zx (Wa.putObj l (.loop (yaj fn tmps ps assign body D .busy N)));have aI:Wb.heap.size=Wa.heap.size:=by rw [<- ah];exact Yg
  have aE:∀b,b≠l->Wb.heap[b]? =Wa.heap[b]?:=λ b hb=>by rw [<- ah];exact Yc hb
  have al:Wb.heap[l]? =G (.loop (yaj fn tmps ps assign body D .busy N)):=by rw [<- ah];exact ZH (yam ao)
  have aH:Eff O W Wb:=by rw [<- ah];exact (ae.eff.wide (λ b hb=>(hO b).mpr (.inl hb))).putObj (.inl ((hO l).mpr (.inr (.inl rfl)))) _
  have ar:=hG.trans (ae.toM M);have hb:=ak k O2 F a' Wb hk ⟨ar.sub,ar.new,by rw [<- ah];exact ar.eff.putObj (.inr aB) _⟩ ⟨_,al⟩ ac au (by rw [<- ah];exact hA _ _ _ _ _ _ _ ⟨_,ao⟩ ac au ha);rw [ah];refine wpIn_mono hb ?_;have fin:∀(aa:Option Code) (O3:Nat->Prop) (W3:World),yaM O2 O3 Wb W3->∀(X:ydt),StabF M X->X (k+1) O3 F W3->∃O':Nat->Prop,(∀b,O b->O' b)/\(∀b,O' b->O b\/ W.heap.size<=b)/\
    (Instr.endRound l aa).run P W3= .ok (Xb aa.isNone) (W3.putObj l (.loop (yaj fn tmps ps assign body D (if aa.isNone then .ready else .done) aa)))/\Eff O W (W3.putObj l (.loop (yaj fn tmps ps assign body D (if aa.isNone then .ready else .done) aa)))/\
    RJF (yaj fn tmps ps assign body D (if aa.isNone then .ready else .done) aa) l Dk X (k+1) O' F (W3.putObj l (.loop (yaj fn tmps ps assign body D (if aa.isNone then .ready else .done) aa))):=λ aa O3 W3 ab X hX hx=>by
   have ax:=(ab.eff.block l (yam al) ac).trans al;have ad:∀b,b<Wb.heap.size->¬O2 b->¬O3 b:=λ b hb hn h=>by
    rcases ab.new b h with h1 | h1
    ·exact hn h1
    ·omega
   have ap:=run_endRound (P:=P) aa ax;refine ⟨λ b=>O3 b\/ b=l\/ Dk=G b,λ b hb=>?_,λ b hb=>?_,?_,?_,O3,λ b=>Y6,ad l (yam al) ac,λ d hd=>?_,?_,?_⟩
   ·rcases (hO b).mp hb with h | h
    ·exact .inl (ab.sub b (ae.sub b h))
    ·exact .inr h
   ·rcases hb with h | h
    ·rcases ab.new b h with h1 | h1
     ·rcases ae.new b h1 with h2 | h2
      ·exact .inl ((hO b).mpr (.inl h2))
      ·exact .inr h2
     ·exact .inr zo
    ·exact .inl ((hO b).mpr (.inr h))
   ·exact ap
   ·refine Eff.putObj (aH.trans (ab.eff) λ b hb=>?_) (.inl ((hO l).mpr (.inr (.inl rfl)))) _;rcases ae.new b hb with h2 | h2
    ·exact .inl ((hO b).mpr (.inl h2))
    ·exact .inr h2
   ·obtain ⟨d1,d2,d3⟩:=hD d hd;have az:=ai d (yam d3) d1;have ay:d<Wb.heap.size:=(by have:=yam (aA d hd);omega);exact ⟨ad d ay az,d2,(Yc d2).trans ((ab.eff.block d ay az).trans ((aE d d2).trans (aA d hd)))⟩
   ·exact hX _ _ _ _ _ _ hx (by rw [Yg];exact zG _) zi (λ b hb=>Yc (λ e=>by
     rcases hb with hb | hb
     ·exact ad l (yam al) ac (e ▸ hb)
     ·exact au (e ▸ hb.1)))
   ·exact ZH (yam ax)
  rintro e a3 W3 hp;cases e with
  | normal=>
    obtain ⟨O3,ab,ag⟩:=hp;obtain ⟨O',h1,h2,h3,h4,h5⟩:=fin N O3 W3 ab Iq hI ag;exact ⟨_,_,h3,O',h1,h2,h4, .inl ⟨rfl,h5⟩⟩
  | ret=>
    obtain ⟨O3,ab,ag⟩:=hp;obtain ⟨O',h1,h2,h3,h4,h5⟩:=fin (G .ret) O3 W3 ab _ (am _) ag;exact ⟨_,_,h3,O',h1,h2,h4, .inr ⟨rfl,_,h5⟩⟩
  | exit id=>
    obtain ⟨O3,ab,ag⟩:=hp;obtain ⟨O',h1,h2,h3,h4,h5⟩:=fin (G (.exit id)) O3 W3 ab _ (am _) ag;exact ⟨_,_,h3,O',h1,h2,h4, .inr ⟨rfl,_,h5⟩⟩
  | goto t=>
    obtain ⟨O3,ab,ag⟩:=hp;obtain ⟨O',h1,h2,h3,h4,h5⟩:=fin (G (.goto t)) O3 W3 ab _ (am _) ag;exact ⟨_,_,h3,O',h1,h2,h4, .inr ⟨rfl,_,h5⟩⟩
  | panic ch=>exact hp.elim
  | outgrown=>exact hp.elim
end
theorem ykD (a b:Int) (w:World):H I 86 #[E T a,E T b] w λ e w'=>e=Q (Xf (.func 141) #[] #[R (G (Z w.heap.size 0 N)),R (G (Z (w.heap.size+1) 0 N))])/\
  w'.cell? (Z w.heap.size 0 N)=G (E T (max a 0))/\w'.cell? (Z (w.heap.size+1) 0 N)=G (E T (min b 146096))/\Bw w w'/\w.heap.size+1<w'.heap.size:=by
 go_enter Tryz.func86,Tryz.ntmps86
 go_upto_region 1 with fail
 go_region
 go_wp2;all_goals
  go_ret;exact ⟨rfl,by simp [go_sem] <;> omega,by simp [go_sem] <;> omega,(yaa (yaa (Ye _ _) zg) zs).drew,by simp⟩
def ycn (l:List Int):List (Array Value):=l.map λ n=>#[shN n]
theorem yb6 (l:List Int):(ycn l).length=l.length:=by simp [ycn]
theorem ye9 {l:List Int} {k:Nat} (h:k<(ycn l).length):(ycn l)[k]= #[shN (l[k]'(by rw [yb6] at h;exact h))]:=by simp [ycn]
theorem yn2 {f:Int} (h0:0<=f) (h1:f<146097):∃y m d o:Int,(y=fY f/\m=fMo f/\d=fD f/\o=fOr f)/\
  (∀W,H I 142 #[E T f] W λ e w'=>e=Q (Xt #[E T y,E T m,E T d,Xb true])/\Bw W w')/\
  (∀W,H I 143 #[E T y,E T m,E T d] W λ e w'=>e=Q (Xt #[E T o,Xb true])/\Bw W w'):=by
 obtain ⟨y0,y1,m0,m1,d0,d1⟩:=yaQ h0 h1;obtain ⟨g1,g2,g3⟩:=ynv h0 h1;have hm:((fMo f).toNat:Int)=fMo f:=zo;refine ⟨_,_,_,_,⟨rfl,rfl,rfl,rfl⟩,λ W=>yhp f W h0 h1,λ W=>?_⟩;have:=ynZ (fY f) (fMo f).toNat (fD f) W zo zo zo zo d0 (by rw [hm];exact d1);rw [hm,g1] at this;exact this
theorem yn3 {n y m d o:Int} (h0:0<=n) (h1:n<146097) (hv:y=fY n/\m=fMo n/\d=fD n/\o=fOr n) :
  (∀W,H I 144 #[E T n,E T y,E T m,E T d,E T o] W λ e w'=>e=Q (shN n)/\Bw W w')/\
  (∀W,H I 145 #[E T y,E T m] W λ e w'=>e=Q (E T (ycx y m))/\Bw W w')/\
  0<=y/\y<=3000/\1<=m/\m<=12/\1<=d/\d<=31/\1<=o/\o<=366:=by
 obtain ⟨rfl,rfl,rfl,rfl⟩:=hv;obtain ⟨y0,y1,m0,m1,d0,d1⟩:=yaQ h0 h1;obtain ⟨g1,g2,g3⟩:=ynv h0 h1;have hl:=ycV (fY n) (fMo n);have hp:=ycu (fY n);exact ⟨λ W=>yhL n _ _ _ _ W h0 zo y0 zo m0 m1 d0 d1 g2 g3,λ W=>yd7 _ _ W zo m0 m1,by omega,by omega,m0,m1,d0,by omega,g2,by omega⟩
theorem ypG {n y m d o:Int} (h0:0<=n) (h1:n<146097) (hv:y=fY n/\m=fMo n/\d=fD n/\o=fOr n) :
  (d+1<=ycx y m->n+1<146097->y=fY (n+1)/\m=fMo (n+1)/\d+1=fD (n+1)/\o+1=fOr (n+1))/\
  (¬d+1<=ycx y m->m+1<=12->n+1<146097->y=fY (n+1)/\m+1=fMo (n+1)/\1=fD (n+1)/\o+1=fOr (n+1))/\
  (¬d+1<=ycx y m->¬m+1<=12->n+1<146097->y+1=fY (n+1)/\1=fMo (n+1)/\1=fD (n+1)/\1=fOr (n+1)):=by
 obtain ⟨rfl,rfl,rfl,rfl⟩:=hv;refine ⟨λ h hn=>?_,λ h h2 hn=>?_,λ h h2 hn=>?_⟩
 ·obtain ⟨a,b,c,e⟩:=(ygO h0 hn).1 h;exact ⟨a.symm,b.symm,c.symm,e.symm⟩
 ·obtain ⟨a,b,c,e⟩:=(ygO h0 hn).2.1 h h2;exact ⟨a.symm,b.symm,c.symm,e.symm⟩
 ·obtain ⟨a,b,c,e⟩:=(ygO h0 hn).2.2 h h2;exact ⟨a.symm,b.symm,c.symm,e.symm⟩
theorem ykB (f t:Int) (b1 b2:Nat) (y:Value) (Jq Jx:ycQ) (O:Nat->Prop) (W:World) (h0:0<=f) (av:f<=146097) (h1:t<=146096) (aq:-1<=t)
  (hC:ymw I y (ycn (yag f t)) Jq Jx O W) (hJ:Jq 0 O W) (aj:b1<W.heap.size) (ai:b2<W.heap.size) (n1:¬O b1) (n2:¬O b2)
  (c1:W.cell? (Z b1 0 N)=G (E T f)) (c2:W.cell? (Z b2 0 N)=G (E T t)) :
  H I 141 #[y,R (G (Z b1 0 N)),R (G (Z b2 0 N))] W λ e W'=>(∃v,e=Q v)/\yza (ycn (yag f t)) Jq Jx O W W':=by
 obtain ⟨yf,yi,yc,rfl⟩:=hC.form;have HC:=hid hC;have HJ:=hid hJ;have HN:=hid (Ya n1 n2);refine (wf_calls (r:=N) (n:=1)).mp ?_;by_cases aG:t<f
 ·have hx:yag f t= []:=yg5 aG;rw [hx];clear hC hJ n1 n2 hx HC;gi_enter Tryz.func141,Tryz.ntmps141
  gi_wp2
  refine Yh (YO rfl _ _ _) rfl ?_;exact ⟨⟨_,rfl⟩,O,λ _ h=>h,λ _ h=> .inl h,Eff.refl _ _, .inl HJ⟩
 ·obtain ⟨L,hL⟩:=zx ((yag f t).length);have aN:f+(L:Int)=t+1:=by rw [<- hL,ybg];omega
  have HL:Hid ((ycn (yag f t)).length=L):=by show _ = _;rw [yb6,hL]
  have ae:Hid (∀k (hk:k<(ycn (yag f t)).length),(ycn (yag f t))[k]= #[shN (f+k)]):=λ k hk=>by rw [ye9 hk,ycK]
  generalize aF:ycn (yag f t)=xs at HL ae HC⊢
  obtain ⟨vy,vm,vd,vo,hv,cD,cO⟩:=yn2 h0 (show f<146097 by omega);have HV:=hid hv;have CD:=hid cD;have CO:=hid cO;have aJ:=hid c1;have aI:=hid c2;clear hC hJ n1 n2 aF hL hv cD cO;gi_enter Tryz.func141,Tryz.ntmps141
  gi_wp2_with fail
  refine (wf_calls.mpr (CD _)).mono ?_;rintro e w1 ⟨rfl,aB⟩;have aE:=hid aB;clear aB;gi_wp2_with fail
  refine (wf_calls.mpr (CO _)).mono ?_;rintro e w2 ⟨rfl,aA⟩;have ab:Bw W w2:=zu aE aA;have aL:=hid ab;have k1:=(ab.cell (p:=Z b1 0 N) aj).trans aJ.out;have aH:Hid (Jq 0 O w2):=HC.stab 0 O W w2 HJ ab.size (λ b hb=>ab.block b (HC.lt 0 O W HJ b hb));clear aA ab c1 c2;gi_wp2_with fail
  gi_loopw [4,5,6,8,10] (λ y4 m5 d6 o8 am wr=>∃(k:Nat) (vy vm vd vo:Int) (O':Nat->Prop),y4=E T vy/\m5=E T vm/\d6=E T vd/\o8=E T vo/\am=E T (f+k)/\k<=L/\
   Hid (k<L->vy=fY (f+k)/\vm=fMo (f+k)/\vd=fD (f+k)/\vo=fOr (f+k))/\Hid (Jq k O' wr/\(∀b,O b->O' b)/\(∀b,O' b->O b\/ W.heap.size<=b)/\Eff O W wr)) (λ y4 m5 d6 o8 am wr=>(t+1-intOf am).toNat)
  case atStart=>exact ⟨0,vy,vm,vd,vo,O,rfl,rfl,rfl,rfl,by simp,by omega,λ _=>by simpa using HV.out,aH.out,λ _ h=>h,λ _ h=> .inl h,Eff.of_below aL.out⟩
  case round=>
   obtain ⟨k,vy,vm,vd,vo,O',rfl,rfl,rfl,rfl,rfl,hk,an,hI⟩:=hrel;have q2:=(hI.2.2.2.cell (p:=Z b2 0 N) ai HN.2).trans aI.out;by_cases hlt:k<L
   ·obtain ⟨cS,cL,v0,v1,v2,v3,v4,v5,v6,v7⟩:=yn3 (show 0<=f+k by omega) (show f+k<146097 by omega) (an hlt);obtain ⟨x1,x2,x3⟩:=ypG (show 0<=f+k by omega) (show f+k<146097 by omega) (an hlt);have X1:=hid x1;have X2:=hid x2;have X3:=hid x3;have CS:=hid cS;have CL:=hid cL;obtain ⟨ln,ar⟩:=zx (ycx vy vm);rw [ar] at X1 X2 X3 CL;have au:k<xs.length:=(by rw [HL];exact hlt);have aC:=hid au;clear x1 x2 x3 cS cL ar an au;gi_wp2_with fail
    refine (wf_calls.mpr (CS _)).mono ?_;rintro e w3 ⟨rfl,ak⟩;have ap:Eff O W w3:=hI.2.2.2.trans (Eff.of_below (O:=O') ak) hI.2.2.1;have ay:Jq k O' w3:=HC.stab k O' wr w3 hI.1 ak.size (λ b hb=>ak.block b (HC.lt k O' wr hI.1 b hb));have aa:=HC.call k O' w3 aC ay ⟨hI.2.1,hI.2.2.1,ap⟩;rw [ae k aC] at aa;have ah:=hid aa;have aD:=hid ap;clear ak ap ay aa;gi_wp2_with (refine ylX (.tmp 34) (.tmp 40) _ rfl rfl rfl rfl ah ?_)
    rintro e W4 O4 aw ax az ao;have ag:Eff O W W4:=aD.trans az hI.2.2.1;have ac:Hid ((∀b,O b->O4 b)/\(∀b,O4 b->O b\/ W.heap.size<=b)/\Eff O W W4):=⟨λ b h=>aw b (hI.2.1 b h),λ b h=>by
     rcases ax b h with h1 | h1
     ·exact hI.2.2.1 b h1
     ·have:=aD.size;exact .inr zo,ag⟩
    clear aw ax az ag q2;rcases ao with ⟨rfl,af⟩ | ⟨rfl,af⟩
    ·have al:=hid af;clear af;refine ⟨_,rfl,?_⟩;have stab:Hid (∀w5,Bw W4 w5->Jq (k+1) O4 w5/\(∀b,O b->O4 b)/\(∀b,O4 b->O b\/ W.heap.size<=b)/\Eff O W w5):=λ w5 ad=>
      ⟨HC.stab (k+1) O4 W4 w5 al ad.size (λ b hb=>ad.block b (HC.lt (k+1) O4 W4 al b hb)),ac.1,ac.2.1,ac.2.2.trans (Eff.of_below (O:=O4) ad) ac.2.1⟩
     gi_wp2_with fail
     refine (wf_calls.mpr (CL _)).mono ?_;rintro e w5 ⟨rfl,ad⟩;have aK:=hid ad;clear ad;by_cases g1:vd+1<=ln;rotate_left;by_cases g2:vm+1<=12;all_goals
      gi_wp2
      refine ⟨⟨k+1,_,_,_,_,O4,rfl,rfl,rfl,rfl,by go_num,by omega,λ aM=>?_,stab _ aK⟩,by simp [intOf];omega⟩;rw [show f+((k+1:Nat):Int)=f+(k:Int)+1 by omega]
     ·exact X2 g1 g2 zo
     ·exact X3 g1 g2 zo
     ·exact X1 g1 zo
    ·have al:=hid af;clear af;refine ⟨_,rfl,?_⟩;gi_wp2
     refine Yh (YO rfl _ _ _) rfl ?_;exact ⟨⟨_,rfl⟩,O4,ac.1,ac.2.1,ac.2.2, .inr ⟨k+1,by omega,by rw [HL];omega,al⟩⟩
   ·obtain rfl:k=L:=zo;gi_wp2
    go_end0
    exact ⟨⟨_,rfl⟩,O',hI.2.1,hI.2.2.1,hI.2.2.2, .inl (by rw [HL];exact hI.1)⟩
theorem yhB (f t:Int) (b1 b2:Nat) (Ow:Nat->Prop) (w:World) (h0:0<=f) (av:f<=146097) (h1:t<=146096) (aq:-1<=t) (aj:b1<w.heap.size) (ai:b2<w.heap.size) (n1:¬Ow b1) (n2:¬Ow b2)
  (c1:w.cell? (Z b1 0 N)=G (E T f)) (c2:w.cell? (Z b2 0 N)=G (E T t)) :
  yvN I 141 #[R (G (Z b1 0 N)),R (G (Z b2 0 N))] (ycn (yag f t)) Ow w:=by
 intro y Jq Jx O W hO hB hC hJ;exact ykB f t b1 b2 y Jq Jx O W h0 av h1 aq hC hJ (zH aj hB.size) (zH ai hB.size) (λ h=>by rcases hO b1 h with h1 | h1;exact n1 h1;omega) (λ h=>by rcases hO b2 h with h1 | h1;exact n2 h1;omega)
  ((hB.cell (p:=Z b1 0 N) aj).trans c1) ((hB.cell (p:=Z b2 0 N) ai).trans c2)
theorem ygu (args:Array Value) (w:World):(callFunc 141 args).run I w= .ok (.enter 141 args) w:=by simp [go_sem]
section
variable {F F2 M O1:Blk} {n:Int} {cs:List Cl} {l:List Int} {b k:Nat} {s:Nat->Int} {W w7:World}
theorem yle {l:Nat} {o:Obj} (h:ShS W b s) (hr:∃r,W.heap[l]? =G (.loop r)):ShS (W.putObj l o) b s:=by
 obtain ⟨h0,h1,h2,h3,h4,h5,h6,h7,h8,h9⟩:=h;exact ⟨yaC hr h0,yaC hr h1,yaC hr h2,yaC hr h3,yaC hr h4,yaC hr h5,yaC hr h6,yaC hr h7,yaC hr h8,yaC hr h9⟩
def yaN (cs:List Cl) (l:List Int):List Int:=l.filter λ n=>yl1 (yax cs n)
def ylT (cs:List Cl) (l:List Int) (k:Nat):Nat:=(yaN cs (l.take k)).length
theorem yus (cs:List Cl) (l:List Int):ylT cs l l.length= (yaN cs l).length:=by rw [ylT,YW]
theorem yrO (h:l[k]? =G n):ylT cs l (k+1)=ylT cs l k+if yl1 (yax cs n) then 1 else 0:=by
 obtain ⟨hk,rfl⟩:=zzq.1 h;rw [ylT,yal l k hk,yaN,Zb,YG,ylT,yaN];cases hq:yl1 (yax cs l[k]) <;> simp [hq]
theorem yw6 (h:l[k]? =G n) (hq:yl1 (yax cs n)=true):(yaN cs l)[ylT cs l k]? =G n:=by
 obtain ⟨hk,rfl⟩:=zzq.1 h;have e:yaN cs l=yaN cs (l.take k)++(l[k]::yaN cs (l.drop (k+1))):=by
  rw [yaN,yaN,yaN];conv=>lhs;rw [<- Zg k l,Zw hk]
  rw [Zb,List.filter_cons,Yd hq]
 rw [e,ylT,Yl zg,Nat.sub_self];rfl
def yzZ (cs:List Cl) (M:Blk) (xs:List Int) (k:Nat) (vs:Array Value) (F:Blk) (W:World):Prop:=
 ∃n d,xs[k]? =G n/\0<=n/\n<146097/\vs= #[shN n,R (G (Z d 0 N))]/\DiF W F M d (yax cs n)/\(Tab W/\F 0/\¬M 0)/\∀b,F b->b<W.heap.size
structure HA (cs:List Cl) (br bk:Nat) (bps:List Nat) (x1 x2 x3:Nat) (f t:Int) (ab:(Nat->Bool)->Nat->Prop) (F:Blk) (W:World):Prop where
 roll:∃ws m,yar W cs br bk bps F ws m/\ab ws m
 inF:F x1/\F x2/\F x3
 out:¬RM br bk bps x1/\¬RM br bk bps x2/\¬RM br bk bps x3
 c1:W.cell? (Z x1 0 N)=G (E T f)
 c2:W.cell? (Z x2 0 N)=G (E T t)
 c3:W.cell? (Z x3 0 N)=G (R (G (Z br 0 N)))
section
variable {cs:List Cl} {br bk:Nat} {bps:List Nat} {x1 x2 x3:Nat} {f t:Int} {ab ad:(Nat->Bool)->Nat->Prop} {F F':Blk} {W W':World}
theorem HA.keep (h:HA cs br bk bps x1 x2 x3 f t ab F W) (hs:W.heap.size<=W'.heap.size) (hb:∀b,F b->W'.heap[b]? =W.heap[b]?):HA cs br bk bps x1 x2 x3 f t ab F W':=by
 obtain ⟨ws,m,h1,h2⟩:=h.roll;have c:∀b,F b->W'.cell? (Z b 0 N)=W.cell? (Z b 0 N):=λ b hF=>zzJ (w:=W) (a:=Z b 0 N) (hb b hF);exact ⟨⟨ws,m,h1.keep hs hb,h2⟩,h.inF,h.out,(c _ h.inF.1).trans h.c1,(c _ h.inF.2.1).trans h.c2,(c _ h.inF.2.2).trans h.c3⟩
theorem HA.lt (h:HA cs br bk bps x1 x2 x3 f t ab F W):∀b,F b->b<W.heap.size:=by
 obtain ⟨ws,m,h1,h2⟩:=h.roll;exact h1.x.lt
theorem HA.sub (h:HA cs br bk bps x1 x2 x3 f t ab F W):∀b,RM br bk bps b->F b:=by
 obtain ⟨ws,m,h1,h2⟩:=h.roll;exact h1.x.sub
theorem HA.host:ych (HA cs br bk bps x1 x2 x3 f t ab) (RM br bk bps):=⟨λ F W W' h hs hb=>h.keep hs hb,λ F W h=>h.lt,λ F W h=>h.sub⟩
theorem HA.hostE {Iq:Nat->(Nat->Bool)->Nat->Prop}:ych (λ F W=>∃j,HA cs br bk bps x1 x2 x3 f t (Iq j) F W) (RM br bk bps):=⟨λ F W W' ⟨j,h⟩ hs hb=>⟨j,h.keep hs hb⟩,λ F W ⟨j,h⟩=>h.lt,λ F W ⟨j,h⟩=>h.sub⟩
theorem HA.step {ae:Nat->Bool} {m':Nat} (h:HA cs br bk bps x1 x2 x3 f t ab F W) (hR:yar W' cs br bk bps F' ae m') (hF:∀b,F b->F' b) (hE:Eff (RM br bk bps) W W') (hI:ad ae m'):HA cs br bk bps x1 x2 x3 f t ad F' W':=by
 have hlt:=h.lt;have c:∀b,F b->¬RM br bk bps b->W'.cell? (Z b 0 N)=W.cell? (Z b 0 N):=λ b hF hn=>hE.cell (p:=Z b 0 N) (hlt b hF) hn;exact ⟨⟨ae,m',hR,hI⟩,⟨hF _ h.inF.1,hF _ h.inF.2.1,hF _ h.inF.2.2⟩,h.out,(c _ h.inF.1 h.out.1).trans h.c1,(c _ h.inF.2.1 h.out.2.1).trans h.c2,(c _ h.inF.2.2 h.out.2.2).trans h.c3⟩
end
def IG (M O F:Blk) (W:World) (Rq:Blk->Blk->World->Prop) (O2:Blk) (W':World):Prop:=
 ∃O1 F1:Blk,(∀b,O2 b↔O1 b\/ F1 b)/\(∀b,F1 b->¬O1 b)/\Rq O1 F1 W'/\(∀b,O b->O1 b)/\(∀b,O1 b->O b\/ W.heap.size<=b)/\(∀b,F b->F1 b)/\(∀b,F1 b->F b\/ W.heap.size<=b)/\(∀b,F b->¬M b->W'.heap[b]? =W.heap[b]?)
section
variable {M O F:Blk} {W W1 W':World} {Rq R':Blk->Blk->World->Prop} {O2:Blk}
theorem IG.keep (h:IG M O F W Rq O2 W1) (hs:W1.heap.size<=W'.heap.size) (hb:∀b,O2 b->W'.heap[b]? =W1.heap[b]?)
  (hR:∀O1 F1,Rq O1 F1 W1->W1.heap.size<=W'.heap.size->(∀b,O1 b\/ F1 b->W'.heap[b]? =W1.heap[b]?)->Rq O1 F1 W'):IG M O F W Rq O2 W':=by
 obtain ⟨O1,F1,e,h1,h2,h3,h4,h5,h6,h7⟩:=h;exact ⟨O1,F1,e,h1,hR O1 F1 h2 hs (λ b g=>hb b ((e b).2 g)),h3,h4,h5,h6,λ b g n=>(hb b ((e b).2 (.inr (h5 b g)))).trans (h7 b g n)⟩
theorem IG.lt (h:IG M O F W Rq O2 W1) (hR:∀O1 F1,Rq O1 F1 W1->∀b,O1 b\/ F1 b->b<W1.heap.size):∀b,O2 b->b<W1.heap.size:=by
 obtain ⟨O1,F1,e,h1,h2,h3⟩:=h;exact λ b hb=>hR O1 F1 h2 b ((e b).1 hb)
theorem IG.growM (hM:∀b,M b->F b) (hlt:∀b,F b->b<W.heap.size) (h3:∀b,O b->O1 b) (h4:∀b,O1 b->O b\/ W.heap.size<=b) (h7:∀b,F b->¬M b->W'.heap[b]? =W.heap[b]?) (hE:Eff (λ b=>O b\/ F b) W W'):yci M O O1 W W':=
 ⟨h3,h4,⟨hE.os,hE.tape,hE.output,hE.size,λ b hb hn=>by
  by_cases hF:F b
  ·exact h7 b hF (λ h=>hn (.inr h))
  ·exact hE.block b hb (λ h=>h.elim (λ h=>hn (.inl h)) hF)⟩⟩
end
theorem ywM {F1:Blk} {W6:World} (h1:∀b,F1 b->¬O1 b) (h5:∀b,F b->F1 b) (h6:∀b,F1 b->F b\/ W.heap.size<=b) (h7:∀b,F b->¬M b->W6.heap[b]? =W.heap[b]?)
  (ac:∀b,O1 b->b<W6.heap.size) (aa:∀b,F1 b->b<W6.heap.size) (hM:∀b,M b->F1 b) (hG:GrF F1 F2 W6) (hE:Eff M W6 w7) (hs:W.heap.size<=W6.heap.size) :
  (∀b,F2 b->¬O1 b)/\(∀b,F b->F2 b)/\(∀b,F2 b->F b\/ W.heap.size<=b)/\(∀b,F b->¬M b->w7.heap[b]? =W.heap[b]?)/\(∀b,O1 b\/ (F1 b/\¬M b)->w7.heap[b]? =W6.heap[b]?)/\
  ∀O6:Blk,(∀b,O6 b↔O1 b\/ F1 b)->yaM O6 (λ b=>O1 b\/ F2 b) W6 w7:=by
 refine ⟨λ b hb ho=>?_,λ b hb=>hG.sub b (h5 b hb),λ b hb=>?_,λ b hb hn=>(hE.block b (aa b (h5 b hb)) hn).trans (h7 b hb hn),λ b hb=>?_,λ O6 e=>⟨λ b hb=>((e b).1 hb).imp id (hG.sub b),λ b hb=>?_,hE.wide (λ b hb=>(e b).2 (.inr (hM b hb)))⟩⟩
 ·rcases hG.new b hb with h | h
  ·exact h1 b h ho
  ·have:=ac b ho;omega
 ·rcases hG.new b hb with h | h
  ·exact h6 b h
  ·exact .inr zo
 ·rcases hb with h | h
  ·exact hE.block b (ac b h) (λ hm=>h1 b (hM b hm) h)
  ·exact hE.block b (aa b h.1) h.2
 ·rcases hb with h | h
  ·exact .inl ((e b).2 (.inl h))
  ·exact (hG.new b h).imp (λ h=>(e b).2 (.inr h)) id
theorem ytT {O O3:Blk} {W8:World} (h1:∀b,F2 b->¬O1 b) (h3:∀b,O b->O1 b) (h4:∀b,O1 b->O b\/ W.heap.size<=b) (h5:∀b,F b->F2 b) (h7:∀b,F b->¬M b->w7.heap[b]? =W.heap[b]?)
  (aa:∀b,F2 b->b<w7.heap.size) (x1:∀b,O1 b->O3 b) (x2:∀b,O3 b->O1 b\/ w7.heap.size<=b) (x3:Eff O1 w7 W8) (hs:W.heap.size<=w7.heap.size) :
  (∀b,F2 b->¬O3 b)/\(∀b,O b->O3 b)/\(∀b,O3 b->O b\/ W.heap.size<=b)/\(∀b,F b->¬M b->W8.heap[b]? =W.heap[b]?)/\(∀b,F2 b->W8.heap[b]? =w7.heap[b]?)/\yaM (λ b=>O1 b\/ F2 b) (λ b=>O3 b\/ F2 b) w7 W8:=by
 have keep:∀b,F2 b->W8.heap[b]? =w7.heap[b]?:=λ b hb=>x3.block b (aa b hb) (h1 b hb);refine ⟨λ b hb ho=>?_,λ b hb=>x1 b (h3 b hb),λ b hb=>?_,λ b hb hn=>(keep b (h5 b hb)).trans (h7 b hb hn),keep,⟨λ b hb=>hb.imp (x1 b) id,λ b hb=>?_,x3.wide (λ b hb=> .inl hb)⟩⟩
 ·rcases x2 b ho with h | h
  ·exact h1 b hb h
  ·have:=aa b hb;omega
 ·rcases x2 b hb with h | h
  ·exact h4 b h
  ·exact .inr zo
 ·rcases hb with h | h
  ·exact (x2 b h).imp .inl id
  ·exact .inl (.inr h)
theorem yum {d:Option Nat} (h8:cs.length<=8) (h0:0<=n) (h1:n<146097) (hn:d=N->yid cs n=0) (hs:∀b,d=G b->DiF W F M b (yax cs n)):DiscO W d (yax cs n):=by
 cases d with
 | none=>exact λ k hk=>yeS h8 h0 h1 (hn rfl) hk
 | some b=>exact (hs b rfl).2.2
theorem yef {W':World} (h:ShS W b s) (hb:W'.heap[b]? =W.heap[b]?):ShS W' b s:=by
 have c:∀i,W'.cell? (Z b i N)=W.cell? (Z b i N):=λ i=>zzJ (w:=W) (a:=Z b i N) hb;obtain ⟨h0,h1,h2,h3,h4,h5,h6,h7,h8,h9⟩:=h;exact ⟨(c _).trans h0,(c _).trans h1,(c _).trans h2,(c _).trans h3,(c _).trans h4,(c _).trans h5,(c _).trans h6,(c _).trans h7,(c _).trans h8,(c _).trans h9⟩
end
section
attribute [local go_sem] Yw
theorem yeW {cs:List Cl} {br bk:Nat} {bps:List Nat} (ac:Nat->(Nat->Bool)->Nat->Prop) (x1 x2 x3:Nat) (f t:Int) (f0:0<=f) (f1:f<=146097) (t0:-1<=t) (t1:t<=146096)
  (al:∀j n ws m aU m',(yag f t)[j]? =G n->ac j ws m->ybQ cs n ws m aU m'->ac (j+1) aU m') (bs:∀j ws m,ac j ws m->j<(yag f t).length->m<4611686018427387904) :
  yeV I 85 #[R (G (Z x1 0 N)),R (G (Z x2 0 N)),R (G (Z x3 0 N))] (yaN cs (yag f t)).length (yzZ cs (RM br bk bps) (yaN cs (yag f t)))
   (HA cs br bk bps x1 x2 x3 f t (ac 0)) (HA cs br bk bps x1 x2 x3 f t (ac (yag f t).length)) (λ F W=>∃j,HA cs br bk bps x1 x2 x3 f t (ac j) F W) (RM br bk bps):=by
 intro y Jq Jx O F W hH bu hC hJ;obtain ⟨yf,yi,yc,rfl⟩:=hC.form;show H I 85 #[.func yf yi yc,R (G (Z x1 0 N)),R (G (Z x2 0 N)),R (G (Z x3 0 N))] W _;obtain ⟨W1,aI⟩:=zx (W.alloc (J #[.func yf yi yc] 156));have q3:W1.heap.size=W.heap.size+1:=by rw [<- aI];simp
 have q4:Bw W W1:=by rw [<- aI];exact yaa (Ye _ _) zg
 have q5:W1.cell? (Z W.heap.size 0 N)=G (.func yf yi yc):=by rw [<- aI];simp [go_sem]
 have ak:=hH.lt;have aq:=hC.lt 0 O F W hJ;have aW:HA cs br bk bps x1 x2 x3 f t (ac 0) F W1:=hH.keep q4.size (λ b hb=>q4.block b (ak b hb));have bU:=hid aW;have bS:Hid (Jq 0 O F W1):=hC.stab 0 O F F W W1 hJ q4.size zi (λ b hb=>q4.block b (hb.elim (aq b) (λ h=>ak b h.1)));have aZ:=hid hH.sub;have HF:=hid ak;have HO:=hid aq;have bV:=hid bu;have HC:=hid hC;have bN:=hid al;have bA:=hid bs;have k1:=aW.c1;have k2:=aW.c2;have bQ:=hid aI;have Q4:=hid q4;have Q3:=hid q3;have ey:=hid q5;generalize hL:(yag f t).length=L at bA⊢
 have HL:=hid hL;clear hH bu hC hJ aI q3 q4 q5 ak aq aW al bs hL;refine (wf_calls (r:=N) (n:=1)).mp ?_;refine callsIn_of_wp_marks Tryz.func85 rfl trivial ?_ rfl;simp only [Tryz.ntmps85,Yp,Yu,YS,Nat.reduceAdd,Nat.reduceSub,YE,YD,YQ,YJ,Y0,YH];gi_wp2_with fail
 refine ybO ?_;rw [bQ];gi_wp2_with fail
 refine wpIn_label ?_;gi_wp2_with fail
 refine (wf_calls.mpr (ykD _ _ _)).mono ?_;rintro e w2 ⟨rfl,a2,az,an,bF⟩;have aH:w2.cell? (Z W1.heap.size 0 N)=G (E T f):=by rw [a2,show max f 0=f by omega]
 have aG:w2.cell? (Z (W1.heap.size+1) 0 N)=G (E T t):=by rw [az,show min t 146096=t by omega]
 have bX:=an.size;have aw:Bw W w2:=zu Q4 an;have bt:IG (RM br bk bps) O F W (λ O1 F1 W'=>Jq (ylT cs (yag f t) 0) O1 F1 W'/\HA cs br bk bps x1 x2 x3 f t (ac 0) F1 W') (λ b=>O b\/ F b) w2:=
  ⟨O,F,λ b=>Y6,bV,⟨HC.stab 0 O F F W1 w2 bS an.size zi (λ b hb=>an.block b (by have:=hb.elim (HO b) (λ h=>HF b h.1);have:=Q3.out;omega)),bU.keep an.size (λ b hb=>an.block b (by have:=HF b hb;have:=Q3.out;omega))⟩,λ _ h=>h,λ _ h=> .inl h,λ _ h=>h,λ _ h=> .inl h,λ b hb _=>aw.block b (HF b hb)⟩
 have tl:=hid (yhB f t W1.heap.size (W1.heap.size+1) (λ b=>O b\/ F b) w2 f0 f1 t1 t0 zo bF (λ h=>by have:=h.elim (HO _) (HF _);have:=Q3.out;omega) (λ h=>by have:=h.elim (HO _) (HF _);have:=Q3.out;omega) aH aG);have bK:=hid ((an.cell (p:=Z W.heap.size 0 N) (by have:=Q3.out;simp only [];omega)).trans ey);have bn:Hid (¬(O W.heap.size\/ F W.heap.size)):=λ h=>by have:=h.elim (HO _) (HF _);omega
 have bD:W.heap.size<w2.heap.size:=by have:=Q3.out;omega
 have ah:=hid aw;have bT:=hid bt;clear a2 az aH aG an aw bt k1 k2;gi_wp2_with fail
 refine yfI (gf:=141) (lb:=#[R (G (Z W1.heap.size 0 N)),R (G (Z (W1.heap.size+1) 0 N))]) rfl ygu (ycn (yag f t)) (λ b=>O b\/ F b) (λ x hx=>by simp only [ycn,YA] at hx;obtain ⟨_,_,rfl⟩:=hx;rfl) tl
  (λ k O2 W'=>IG (RM br bk bps) O F W (λ O1 F1 W'=>Jq (ylT cs (yag f t) k) O1 F1 W'/\HA cs br bk bps x1 x2 x3 f t (ac k) F1 W') O2 W')
  (λ c k O2 W'=>c= .exit 0/\IG (RM br bk bps) O F W (λ O1 F1 W'=>(∃q,1<=q/\q<=(yaN cs (yag f t)).length/\Jx q O1 F1 W')/\HA cs br bk bps x1 x2 x3 f t (ac k) F1 W') O2 W')
  ?stab ?stabx ?lt ?ltx bT
  (λ k O2 a' W'=>IG (RM br bk bps) O F W (λ O1 F1 W'=>Jq (ylT cs (yag f t) k) O1 F1 W'/\HA cs br bk bps x1 x2 x3 f t (ac k) F1 W') O2 W'/\∃bx n,(yag f t)[k]? =G n/\bx<W'.heap.size/\¬O2 bx/\ShS W' bx (shF n)/\∃(u6 u7 u8 u9 bm bl bj bi bh bg bf be bd bc bb ba:Value),a' = {tmps:=#[.func yf yi yc,R (G (Z x1 0 N)),R (G (Z x2 0 N)),R (G (Z x3 0 N)),R (G (Z W.heap.size 0 N)),R (G (Z bx 0 N)),u6,u7,u8,u9,bm,bl,bj,bi,bh,bg,bf,be,bd,bc,bb,ba],defers:= []})
  ?putl ?assign ?body ?done ?stop
 case stab=>
  intro k O2 W' W2 h hs hO;exact h.keep hs hO (λ O1 F1 ⟨g1,g2⟩ g3 g4=>⟨HC.stab _ O1 F1 F1 W' W2 g1 g3 zi (λ b hb=>g4 b (hb.imp id And.left)),g2.keep g3 (λ b hb=>g4 b (.inr hb))⟩)
 case stabx=>
  rintro c k O2 W' W2 ⟨rfl,h⟩ hs hO;exact ⟨rfl,h.keep hs hO (λ O1 F1 ⟨⟨q,q1,q2,g1⟩,g2⟩ g3 g4=>⟨⟨q,q1,q2,HC.stabx _ O1 F1 F1 W' W2 g1 g3 zi (λ b hb=>g4 b (hb.imp id And.left))⟩,g2.keep g3 (λ b hb=>g4 b (.inr hb))⟩)⟩
 case lt=>
  intro k O2 W' h;exact h.lt (λ O1 F1 ⟨g1,g2⟩ b hb=>hb.elim (HC.lt _ _ _ _ g1 b) (g2.lt b))
 case ltx=>
  rintro c k O2 W' ⟨rfl,h⟩;exact h.lt (λ O1 F1 ⟨⟨q,q1,q2,g1⟩,g2⟩ b hb=>hb.elim (HC.ltx _ _ _ _ g1 b) (g2.lt b))
 case putl=>
  rintro l' o k O2 a' W' hr hn ⟨h,bx,n,h1,h2,h3,h4,h5⟩;exact ⟨h.keep (by rw [Yg];exact zG _) (λ b hb=>Yc (λ e=>hn (e ▸ hb))) (λ O1 F1 ⟨g1,g2⟩ g3 g4=>⟨HC.stab _ O1 F1 F1 W' _ g1 g3 zi (λ b hb=>g4 b (hb.imp id And.left)),g2.keep g3 (λ b hb=>g4 b (.inr hb))⟩),bx,n,h1,by rw [Yg];exact h2,h3,yle h4 hr,h5⟩
 case assign=>
  intro l' k O6 W6 K hk aM aA hK;have az:k<(yag f t).length:=by rw [yb6] at hk;exact hk
  have hx:=ye9 hk;obtain ⟨n,hn⟩:=zx ((yag f t)[k]);have bP:Hid ((yag f t)[k]? =G n):=by show _ = _;rw [zzp az,hn]
  rw [hn,<- ya7] at hx;rw [hx];obtain ⟨s,hs⟩:=zx (shF n);rw [hs,shq];have Hs:=hid hs;have aE:∀b,O6 b->b<W6.heap.size:=aM.lt (λ O1 F1 ⟨g1,g2⟩ b hb=>hb.elim (HC.lt _ _ _ _ g1 b) (g2.lt b));have aQ:=hid aE;have bB:=hid aM;clear hx hn hs aE az aM aA;gi_wp2
  have ap:=yaa (o:=J (ybi s).toArray 83) (Ye W6.heap.size W6) zg;exact hK _ O6 _ (yaM.of_below ap) ⟨bB.keep ap.size (λ b hb=>ap.block b (aQ b hb)) (λ O1 F1 ⟨g1,g2⟩ g3 g4=>⟨HC.stab _ O1 F1 F1 W6 _ g1 g3 zi (λ b hb=>g4 b (hb.imp id And.left)),g2.keep g3 (λ b hb=>g4 b (.inr hb))⟩),W6.heap.size,n,bP,by simp,λ h=>by have:=aQ _ h;omega,by rw [Hs];exact ycB W6 83 _ _ _ _ _ _ _ _ _ _,_,_,_,_,_,_,_,_,_,_,_,_,_,_,_,_,rfl⟩
 case done=>
  intro O9 w9 aO aV hD aD;rw [yb6,yus,HL] at aV;obtain ⟨O1,F1,e,h1,⟨aK,aN⟩,h3,h4,h5,h6,h7⟩:=aV;have hE:Eff (λ b=>O b\/ F b) W w9:=(Eff.of_below ah).trans aO.eff (λ _ h=> .inl h);have n1:¬O1 w2.heap.size:=λ h=>aD ((e _).2 (.inl h));have n2:¬F1 w2.heap.size:=λ h=>aD ((e _).2 (.inr h));have sz:W.heap.size<=w2.heap.size:=ah.size;have ab:Hid (∀o:Obj,yo0 (yaN cs (yag f t)).length (HA cs br bk bps x1 x2 x3 f t (ac L)) (λ F W=>∃j,HA cs br bk bps x1 x2 x3 f t (ac j) F W) (RM br bk bps) Jq Jx O F W (w9.putObj w2.heap.size o)):=λ o=>by
   have pb:∀b,b≠w2.heap.size->(w9.putObj w2.heap.size o).heap[b]? =w9.heap[b]?:=λ b hb=>Yc hb;have ps:(w9.putObj w2.heap.size o).heap.size=w9.heap.size:=Yg;refine ⟨O1,F1,IG.growM (F:=F) aZ HF h3 h4 (λ b g n=>(pb b (λ e'=>n2 (e' ▸ h5 b g))).trans (h7 b g n)) (hE.putObj (.inr sz) o),h5,h6,h1, .inl ⟨aN.keep (by rw [ps];exact zG _) (λ b hb=>pb b (λ e'=>n2 (e' ▸ hb))),?_⟩⟩;exact HC.stab _ O1 F1 F1 w9 _ aK (by rw [ps];exact zG _) zi (λ b hb=>pb b (λ e'=>hb.elim (λ h=>n1 (e' ▸ h)) (λ h=>n2 (e' ▸ h.1))))
  have a9:=hid hD;clear e h1 aK aN h3 h4 h5 h6 h7 hE n1 n2 sz aO hD;gi_wp2
  rw [Zc];refine ⟨by simp, .inl ⟨_,_,rfl,YM a9,?_⟩⟩;exact ⟨_,YO rfl _ _ _,⟨_,rfl⟩,ab _⟩
 case stop=>
  rintro c k O9 w9 a2 az aO ⟨rfl,aV⟩ hD aD;obtain ⟨O1,F1,e,h1,⟨⟨q,bH,bG,aK⟩,aN⟩,h3,h4,h5,h6,h7⟩:=aV;have hE:Eff (λ b=>O b\/ F b) W w9:=(Eff.of_below ah).trans aO.eff (λ _ h=> .inl h);have n1:¬O1 w2.heap.size:=λ h=>aD ((e _).2 (.inl h));have n2:¬F1 w2.heap.size:=λ h=>aD ((e _).2 (.inr h));have sz:W.heap.size<=w2.heap.size:=ah.size;have ab:Hid (∀o:Obj,yo0 (yaN cs (yag f t)).length (HA cs br bk bps x1 x2 x3 f t (ac L)) (λ F W=>∃j,HA cs br bk bps x1 x2 x3 f t (ac j) F W) (RM br bk bps) Jq Jx O F W (w9.putObj w2.heap.size o)):=λ o=>by
   have pb:∀b,b≠w2.heap.size->(w9.putObj w2.heap.size o).heap[b]? =w9.heap[b]?:=λ b hb=>Yc hb;have ps:(w9.putObj w2.heap.size o).heap.size=w9.heap.size:=Yg;refine ⟨O1,F1,IG.growM (F:=F) aZ HF h3 h4 (λ b g n=>(pb b (λ e'=>n2 (e' ▸ h5 b g))).trans (h7 b g n)) (hE.putObj (.inr sz) o),h5,h6,h1, .inr ⟨⟨k,aN.keep (by rw [ps];exact zG _) (λ b hb=>pb b (λ e'=>n2 (e' ▸ hb)))⟩,q,bH,bG,?_⟩⟩;exact HC.stabx _ O1 F1 F1 w9 _ aK (by rw [ps];exact zG _) zi (λ b hb=>pb b (λ e'=>hb.elim (λ h=>n1 (e' ▸ h)) (λ h=>n2 (e' ▸ h.1))))
  have a9:=hid hD;clear e h1 aK aN h3 h4 h5 h6 h7 hE n1 n2 sz aO hD;gi_wp2
  rw [Zc];refine ⟨by simp, .inl ⟨_,_,rfl,YM a9,?_⟩⟩;exact ⟨_,YO rfl _ _ _,⟨_,rfl⟩,ab _⟩
 case body=>
  rintro l3 k O6 a' W6 hk aA bY bp bI ⟨aM,bx,n,en,lx,nx,bo,u6,u7,u8,u9,bm,bl,bj,bi,bh,bg,bf,be,bd,bc,bb,ba,rfl⟩;have a1:=ybH.1 (YN en);have n0:0<=n:=zo;have n1:n<146097:=zo;have bZ:k<(yag f t).length:=(zzq.1 en).1;obtain ⟨O1,F1,e,h1,⟨ar,ad⟩,h3,h4,h5,h6,h7⟩:=aM;have bv:=(aA.cell (b:=W.heap.size) bD bn 0).trans bK.out;have k3:=ad.c3;obtain ⟨ws,m,a5,au⟩:=ad.roll;have hm:=bA k ws m au (zp HL.out);have cA:=hid (ymj n n0 n1 hm a5);have cS:=hid (λ d q w hT h=>yuP d q w hT h);rw [<- ya7] at cA;obtain ⟨s,hs⟩:=zx (shF n);rw [hs] at cA bo;rw [shq] at cA;obtain ⟨s0,s1,s2,s3,s4,s5,s6,s7,s8,s9⟩:=bo;have bM:Hid (ShS W6 bx s):=⟨s0,s1,s2,s3,s4,s5,s6,s7,s8,s9⟩;have Hs:=hid hs;have En:=hid en;have aB:=hid (Ya n0 n1);have bB:=hid (show IG (RM br bk bps) O F W (λ O1 F1 W'=>Jq (ylT cs (yag f t) k) O1 F1 W'/\HA cs br bk bps x1 x2 x3 f t (ac k) F1 W') O6 W6 from ⟨O1,F1,e,h1,⟨ar,ad⟩,h3,h4,h5,h6,h7⟩);have ax:=hid (Ya e (Ya h1 (Ya ar (Ya ad (Ya h3 (Ya h4 (Ya h5 (Ya h6 h7))))))));have b1:=hid a5;have a8:=hid au;have bW:=aA.eff.size;have aT:Hid (Eff (λ b=>O b\/ F b) W W6):=(Eff.of_below ah).trans aA.eff (λ _ h=> .inl h);clear e h1 ar ad h3 h4 h5 h6 h7 a5 au hm hs en a1 n0 n1 aA;gi_wp2_with fail
  refine (wf_calls.mpr cA).mono ?_;rintro e w7 ⟨d,F2,aU,m',rfl,aJ,aX,av,aC,af,ae⟩;obtain ⟨e,h1,ar,ad,h3,h4,h5,h6,h7⟩:=ax.out;have aF:∀b,O1 b->b<W6.heap.size:=HC.lt _ _ _ _ ar;have aa:HA cs br bk bps x1 x2 x3 f t (ac (k+1)) F2 w7:=ad.step aJ aX.sub av (bN k n ws m aU m' En a8 aC);obtain ⟨g1,g5,g6,g7,gk,gG⟩:=ywM (F:=F) h1 h5 h6 h7 aF ad.lt ad.sub aX av aT.size;have ai:Jq (ylT cs (yag f t) k) O1 F2 w7:=HC.stab _ O1 F1 F2 W6 w7 ar av.size aX.sub gk;have h8:cs.length<=8:=by have:=aJ.x.may;rw [yhV,zzX,zzY] at this;exact this.1
  have bq:=yum h8 aB.1 aB.2 af ae;have bR:=hid aJ.x.tab;have bw:=hid (cS d (yax cs n) w7 aJ.x.tab.1 bq);have ay:=hid (gG O6 e);have aY:=hid (Ya g1 (Ya ai (Ya aa (Ya h3 (Ya h4 (Ya g5 (Ya g6 g7)))))));have aS:Hid (Eff (λ b=>O b\/ F b) W w7):=aT.trans av (λ b hb=>(h6 b (ad.sub b hb)).imp .inr id);have a6:=hid (yrO (cs:=cs) En);have aP:=hid ae;have bO:Hid (d=N->∀j,j<86400->yax cs n j=false):=λ hd j hj=>yeS h8 aB.1 aB.2 (af hd) hj;have b0:=(av.cell (p:=Z W.heap.size 0 N) (by simp only [];omega) (λ hM=>bn (.inr (aZ _ hM)))).trans bv;have bL:=hid (yef bM (av.block bx lx (λ hM=>nx ((e bx).2 (.inr (ad.sub bx hM))))));obtain ⟨qv,a0⟩:=zx (yl1 (yax cs n));have bz:=hid a0;rw [a0] at bw a6;clear aJ aX av aC af e h1 ar ad h3 h4 h5 h6 h7 aF aa g1 g5 g6 g7 gk gG ai h8 bq ae a0 s0 s1 s2 s3 s4 s5 s6 s7 s8 s9 bv k3;gi_wp2_with fail
  refine (wf_calls.mpr bw).mono ?_;rintro e w8 ⟨rfl,rfl⟩;cases qv
  ·have ab:Hid (yaM O6 (λ b=>O1 b\/ F2 b) W6 w7/\IG (RM br bk bps) O F W (λ O1 F1 W'=>Jq (ylT cs (yag f t) (k+1)) O1 F1 W'/\HA cs br bk bps x1 x2 x3 f t (ac (k+1)) F1 W') (λ b=>O1 b\/ F2 b) w7):=by
    obtain ⟨g1,ai,aa,h3,h4,g5,g6,g7⟩:=aY.out;refine ⟨ay,O1,F2,λ b=>Y6,g1,⟨?_,aa⟩,h3,h4,g5,g6,g7⟩;rw [a6];exact ai
   clear aY ay;gi_wp2
   exact ⟨_,ab.1,ab.2⟩
  ·obtain ⟨b,rfl⟩:∃b,d=G b:=by
    cases d with
    | none=>
      exfalso
      obtain ⟨j,hj,bJ⟩:=ydL.1 bz;exact absurd bJ (by simp [bO.out rfl j hj])
    | some b=>exact ⟨b,rfl⟩
   have a4:=yw6 (cs:=cs) En bz.out;obtain ⟨g1,ai,aa,h3,h4,g5,g6,g7⟩:=aY.out;have ao:=(zzq.1 a4).1;have am:=aa.lt;have ag:=HC.call _ O1 F2 w7 #[shN n,R (G (Z b 0 N))] ao ai g1 ⟨n,b,a4,aB.1,aB.2,rfl,aP b rfl,bR,am⟩ (IG.growM aZ HF h3 h4 g7 aS);rw [<- ya7,Hs,shq] at ag;have aR:=hid ag;have a7:=hid ao;have bE:Hid (W.heap.size<=w7.heap.size):=aS.size;obtain ⟨r0,r1,r2,r3,r4,r5,r6,r7,r8,r9⟩:=bL.out;clear ag ao a4 g1 ai aa h3 h4 g5 g6 g7 am;gi_wp2_with (refine yyZ (.tmp 17) (.tmp 18) (.tmp 19) _ _ rfl rfl rfl rfl rfl aR ?_)
   rintro e W8 O8 y1 y2 y3 a3;obtain ⟨g1,ai,aa,h3,h4,g5,g6,g7⟩:=aY.out;obtain ⟨p1,p3,p4,p7,pk,pG⟩:=ytT (F:=F) g1 h3 h4 g5 g7 aa.lt y1 y2 y3 bE;have aj:HA cs br bk bps x1 x2 x3 f t (ac (k+1)) F2 W8:=aa.keep y3.size pk;have bC:=hid (ay.trans pG);rcases a3 with ⟨rfl,aL⟩ | ⟨rfl,aL⟩
   ·have ab:Hid (IG (RM br bk bps) O F W (λ O1 F1 W'=>Jq (ylT cs (yag f t) (k+1)) O1 F1 W'/\HA cs br bk bps x1 x2 x3 f t (ac (k+1)) F1 W') (λ b=>O8 b\/ F2 b) W8):=
     ⟨O8,F2,λ b=>Y6,p1,⟨by rw [a6];exact aL,aj⟩,p3,p4,g5,g6,p7⟩
    clear g1 ai aa h3 h4 g5 g6 g7 p1 p3 p4 p7 pk pG aj aL y1 y2 y3;refine ⟨_,rfl,?_⟩;gi_wp2
    exact ⟨_,bC,ab⟩
   ·have ab:Hid (IG (RM br bk bps) O F W (λ O1 F1 W'=>(∃q,1<=q/\q<=(yaN cs (yag f t)).length/\Jx q O1 F1 W')/\HA cs br bk bps x1 x2 x3 f t (ac (k+1)) F1 W') (λ b=>O8 b\/ F2 b) W8):=
     ⟨O8,F2,λ b=>Y6,p1,⟨⟨_,by omega,Nat.succ_le_of_lt a7,aL⟩,aj⟩,p3,p4,g5,g6,p7⟩
    clear g1 ai aa h3 h4 g5 g6 g7 p1 p3 p4 p7 pk pG aj aL y1 y2 y3;refine ⟨_,rfl,?_⟩;gi_wp2
    exact ⟨_,bC,rfl,ab⟩
end
section
variable {F:Blk} {t:Int} {cs:List Cl} {bps:List Nat} {bk br m:Nat} {ws:Nat->Bool} {W:World}
theorem yns {c:Cl} (h:yhv c t=true):yaw c.fr c.un=true/\yau c.fr c.un<=t/\t<=yat c.fr c.un/\0<=t/\t<12622780800:=by
 rw [yhv,zzX,zzX,zzX,ycb,ycf,zzX,zzY,zzY,zzY] at h;obtain ⟨⟨h1,h2⟩,-,⟨h3,h4⟩,-⟩:=h;have hb:yaw c.fr c.un=true:=zzZ zo;refine ⟨hb,?_⟩;rw [yau,yat,hb,Yd rfl,Yd rfl];omega
theorem ynq:∀(l:List Cl) (a b:Int),l.foldl (λ a c=>if yaw c.fr c.un then min a (yau c.fr c.un) else a) a<=a/\b<=l.foldl (λ a c=>if yaw c.fr c.un then max a (yat c.fr c.un) else a) b/\
  ∀c∈l,yaw c.fr c.un=true->l.foldl (λ a c=>if yaw c.fr c.un then min a (yau c.fr c.un) else a) a<=yau c.fr c.un/\yat c.fr c.un<=l.foldl (λ a c=>if yaw c.fr c.un then max a (yat c.fr c.un) else a) b
 | [],a,b=>⟨Zv _,Zv _,by simp⟩
 | d::l,a,b=>by
   obtain ⟨h1,h2,h3⟩:=ynq l (if yaw d.fr d.un then min a (yau d.fr d.un) else a) (if yaw d.fr d.un then max b (yat d.fr d.un) else b);rw [List.foldl_cons,List.foldl_cons];have e1:(if yaw d.fr d.un then min a (yau d.fr d.un) else a)<=a:=(by split <;> omega);have e2:b<=(if yaw d.fr d.un then max b (yat d.fr d.un) else b):=(by split <;> omega);refine ⟨Int.le_trans h1 e1,Int.le_trans e2 h2,λ c hc hb=>?_⟩;rcases YF.1 hc with e | hc
   ·subst e;have f1:(if yaw c.fr c.un then min a (yau c.fr c.un) else a)<=yau c.fr c.un:=(by rw [Yd hb];omega);have f2:yat c.fr c.un<=(if yaw c.fr c.un then max b (yat c.fr c.un) else b):=(by rw [Yd hb];omega);exact ⟨Int.le_trans h1 f1,Int.le_trans f2 h2⟩
   ·exact h3 c hc hb
theorem yrf {n:Int} {k:Nat} (hk:k<86400) (h:yax cs n k=true):yrg cs=true/\yau (ybz cs) (yby cs)/86400<=n/\n<=yat (ybz cs) (yby cs)/86400/\0<=n/\n<146097:=by
 rw [yax,Yk] at h;obtain ⟨c,hc,h⟩:=h;obtain ⟨hb,g1,g2,g3,g4⟩:=yns h;obtain ⟨-,-,h3⟩:=ynq cs 12622780800 (-1);obtain ⟨k1,k2⟩:=h3 c hc hb;have ak:ybz cs<=yau c.fr c.un:=k1;have aj:yat c.fr c.un<=yby cs:=k2;have e:yrg cs=true:=zzZ zo;refine ⟨e,?_,?_,?_,?_⟩
 ·rw [yau,<- yrg,e,Yd rfl];omega
 ·rw [yat,<- yrg,e,Yd rfl];omega
 ·omega
 ·omega
theorem yeU (cs:List Cl) (f t:Int):yaN cs (yag (ynL cs f) (ynK cs t))=yaN cs (yag f t):=by
 rw [yaN,yaN,ynL,ynK];cases e:yrg cs
 ·rw [Yb zs,Yb zs,yg5 zo];rw [yeR λ n _ _=>?_];rfl;refine yic.2 λ k hk=>?_;cases hq:yax cs n k
  ·rfl
  ·rw [(yrf hk hq).1] at e;cases e
 ·rw [Yd rfl,Yd rfl];refine yoQ λ n hn=>?_;obtain ⟨k,hk,hq⟩:=ydL.1 hn;obtain ⟨-,g1,g2,-⟩:=yrf hk hq;exact ⟨g1,g2⟩
theorem yjn (cs:List Cl) {f:Int} (hf:f<=146097) (ht:-1<=t):0<=ynL cs f/\ynL cs f<=146097/\-1<=ynK cs t/\ynK cs t<=146096:=by
 rw [ynL,ynK];cases e:yrg cs
 ·simp
 ·obtain ⟨h1,h2,h3⟩:=yi5 e;rw [Yd rfl,Yd rfl];omega
abbrev F3 (F:Blk) (n:Nat):Blk:=λ b=>F b\/ b=n\/ b=n+1\/ b=n+2
theorem ytV {W':World} (h:yar W cs br bk bps F ws m) (hB:Bw W W') (hl:W.heap.size+2<W'.heap.size) (x1 x2 x3:Nat) (hx:x1=W.heap.size+1/\x2=W.heap.size+2/\x3=W.heap.size\/ x1=W.heap.size+2/\x2=W.heap.size+1/\x3=W.heap.size)
  (a b:Int) (c1:W'.cell? (Z x1 0 N)=G (E T a)) (c2:W'.cell? (Z x2 0 N)=G (E T b)) (c3:W'.cell? (Z x3 0 N)=G (R (G (Z br 0 N)))) (ac:(Nat->Bool)->Nat->Prop) (hI:ac ws m) :
  HA cs br bk bps x1 x2 x3 a b ac (F3 F W.heap.size) W':=by
 have no:∀b,W.heap.size<=b->¬RM br bk bps b:=λ b hb hM=>by have:=h.x.lt b (h.x.sub b hM);omega
 refine ⟨⟨ws,m,(h.below hB).wide (λ b hb=> .inl hb) (λ b hb=>?_),hI⟩,?_,?_,c1,c2,c3⟩
 ·rcases hb with h1 | h1 | h1 | h1
  ·exact zH (h.x.lt b h1) hB.size
  ·omega
  ·omega
  ·omega
 ·rcases hx with ⟨rfl,rfl,rfl⟩ | ⟨rfl,rfl,rfl⟩
  ·exact ⟨.inr (.inr (.inl rfl)), .inr (.inr (.inr rfl)), .inr (.inl rfl)⟩
  ·exact ⟨.inr (.inr (.inr rfl)), .inr (.inr (.inl rfl)), .inr (.inl rfl)⟩
 ·rcases hx with ⟨rfl,rfl,rfl⟩ | ⟨rfl,rfl,rfl⟩ <;> exact ⟨no _ zo,no _ zo,no _ zo⟩
theorem yeX (f t:Int) (h:yar W cs br bk bps F ws m) (ac:(Nat->Bool)->Nat->Prop) (hI:ac ws m) :
  H I 32 #[R (G (Z br 0 N)),E T f,E T t] W λ e W'=>e=Q (Xf (.func 85) #[] #[R (G (Z (W.heap.size+1) 0 N)),R (G (Z (W.heap.size+2) 0 N)),R (G (Z W.heap.size 0 N))])/\Bw W W'/\W.heap.size+2<W'.heap.size/\
   HA cs br bk bps (W.heap.size+1) (W.heap.size+2) W.heap.size (ynL cs f) (ynK cs t) ac (F3 F W.heap.size) W':=by
 obtain ⟨W3,aa⟩:=zx (((W.alloc (J #[R (G (Z br 0 N))] 73)).alloc (J #[E T f] 2)).alloc (J #[E T t] 2));have ae:Bw W W3:=by rw [<- aa];exact yaa (yaa (yaa (Ye _ _) zg) zs) (by simp;omega)
 have s3:W3.heap.size=W.heap.size+3:=by rw [<- aa];simp
 have cB:=hid (ymi f t (h.below ae));have k0:W3.cell? (Z W.heap.size 0 N)=G (R (G (Z br 0 N))):=by rw [<- aa];simp [go_sem]
 have k1:W3.cell? (Z (W.heap.size+1) 0 N)=G (E T f):=by rw [<- aa];simp [go_sem]
 have k2:W3.cell? (Z (W.heap.size+2) 0 N)=G (E T t):=by rw [<- aa];simp [go_sem]
 have z1:W3.frozen? (Z (W.heap.size+1) 0 N)=false:=by rw [<- aa];simp [go_sem]
 have z2:W3.frozen? (Z (W.heap.size+2) 0 N)=false:=by rw [<- aa];simp [go_sem]
 have Hq:=hid h;have HI:=hid hI;have ah:=hid ae;have ai:=hid aa;have S3:=hid s3;obtain ⟨X,hX⟩:=zx (ynL cs f);obtain ⟨Yq,hY⟩:=zx (ynK cs t);rw [hX,hY] at cB;rw [hX,hY];clear aa ae h hI s3 hX hY;go_enter Tryz.func32,Tryz.ntmps32
 go_wp2_with fail
 rw [ai];refine zm cB ?_;rintro w4 ab;have j0:=(ab.cell (p:=Z W.heap.size 0 N) (by have:=S3.out;simp only [];omega)).trans k0;have j1:=(ab.cell (p:=Z (W.heap.size+1) 0 N) (by have:=S3.out;simp only [];omega)).trans k1;have j2:=(ab.cell (p:=Z (W.heap.size+2) 0 N) (by have:=S3.out;simp only [];omega)).trans k2;have y1:=(ab.frozen (p:=Z (W.heap.size+1) 0 N) (by have:=S3.out;simp only [];omega)).trans z1;have y2:=(ab.frozen (p:=Z (W.heap.size+2) 0 N) (by have:=S3.out;simp only [];omega)).trans z2;have ag:Hid (Bw W w4):=zu ah ab;have S4:Hid (W.heap.size+2<w4.heap.size):=by have:=ab.size;have:=S3.out;show _<_;omega
 have ad:Hid (∀w5,w5= (w4.setCell (Z (W.heap.size+1) 0 N) (E T X)).setCell (Z (W.heap.size+2) 0 N) (E T Yq)->Bw W w5/\W.heap.size+2<w5.heap.size/\HA cs br bk bps (W.heap.size+1) (W.heap.size+2) W.heap.size X Yq ac (F3 F W.heap.size) w5):=by
  rintro w5 rfl;have af:Bw W ((w4.setCell (Z (W.heap.size+1) 0 N) (E T X)).setCell (Z (W.heap.size+2) 0 N) (E T Yq)):=yab (yab ag zo) zo;have s5:W.heap.size+2<((w4.setCell (Z (W.heap.size+1) 0 N) (E T X)).setCell (Z (W.heap.size+2) 0 N) (E T Yq)).heap.size:=by simpa using S4.out
  have z1:((w4.setCell (Z (W.heap.size+1) 0 N) (E T X)).setCell (Z (W.heap.size+2) 0 N) (E T Yq)).cell? (Z (W.heap.size+1) 0 N)=G (E T X):=by simp [go_sem,j1]
  have z2:((w4.setCell (Z (W.heap.size+1) 0 N) (E T X)).setCell (Z (W.heap.size+2) 0 N) (E T Yq)).cell? (Z (W.heap.size+2) 0 N)=G (E T Yq):=by simp [go_sem,j2]
  have z3:((w4.setCell (Z (W.heap.size+1) 0 N) (E T X)).setCell (Z (W.heap.size+2) 0 N) (E T Yq)).cell? (Z W.heap.size 0 N)=G (R (G (Z br 0 N))):=by simp [go_sem,j0]
  exact ⟨af,s5,ytV Hq af s5 _ _ _ (.inl ⟨rfl,rfl,rfl⟩) _ _ z1 z2 z3 ac HI⟩
 clear ab k0 k1 k2 z1 z2 ag;go_wp2;go_ret;exact ⟨rfl,ad _ rfl⟩
end
theorem ykT (w:World) :
  H I 136 #[R N] w λ e w'=>e=Q (Xf (.func 186) #[] #[R (G (Z w.heap.size 0 N))])/\DC w' w.heap.size (λ _=>0)/\Bw w w'/\w.heap.size<w'.heap.size:=by
 obtain ⟨W1,aa⟩:=zx (w.alloc (J Tryz.zeroCells161 161));have q1:DC W1 w.heap.size (λ _=>0):=by rw [<- aa];exact yrD w
 have q3:Bw w W1:=by rw [<- aa];exact yaa (Ye _ _) zg
 have q4:W1.heap.size=w.heap.size+1:=by rw [<- aa];simp
 have Qq:=hid (Ya q1 (Ya q3 (show w.heap.size<W1.heap.size by omega)));have ab:=hid aa;clear aa q1 q3 q4;go_enter Tryz.func136,Tryz.ntmps136
 go_wp2_with fail
 try rw [ab]
 try go_wp2
 go_ret;exact ⟨rfl,Qq⟩
theorem yip (d:Option Nat) (q:Nat->Bool) (w:World) (h:DiscO w d q) :
  H I 136 #[ybA d] w λ e w'=>e=Q (Xf (.func 186) #[] #[R (G (Z w.heap.size 0 N))])/\Hid (∃t,DC w' w.heap.size t/\(∀i,i<1350->t i<18446744073709551616)/\yb3 t 1350=yak q)/\Bw w w'/\w.heap.size<w'.heap.size:=by
 have key:∀t:Nat->Nat,(∀k,k<86400->ybM t k=q k)->yb3 t 1350=yak q:=λ t ht=>by
  rw [ygs,yak,show 64*1350=86400 from by decide];exact ygC λ k hk=>ht k hk
 cases d with
 | none=>exact (ykT w).mono λ e w' ⟨h1,h2,h3,h4⟩=>⟨h1,⟨_,h2,λ i _=>by omega,key _ λ k hk=>by rw [h k hk];simp [ybM]⟩,h3,h4⟩
 | some b=>
   obtain ⟨f,g1,g2,g3,g4,g5⟩:=h;exact (ysz b f w g1 g5).mono λ e w' ⟨h1,h2,h3,h4⟩=>⟨h1,⟨_,h2,g3,key _ g4⟩,h3,h4⟩
theorem ygb (q:Nat->Bool):(yak q).length<=86400:=yeh q 86400
section
attribute [local go_sem ↓] yaz
abbrev LrS (w:World) (c:Cl) (W:World):Prop:=(ydj (R (G (Z w.heap.size 0 N)))).run I W= .ok (clv c) W/\ClB W w.heap.size c/\Bw w W/\w.heap.size<W.heap.size
theorem LrS.of {w W:World} {c:Cl} (h:ClB W w.heap.size c) (hb:Bw w W) (hs:w.heap.size<W.heap.size):LrS w c W:=⟨h.ld,h,hb,hs⟩
theorem LrS.keep {w W W':World} {c:Cl} (h:LrS w c W) (hb:Bw W W'):LrS w c W':=
 LrS.of (h.2.1.below hb h.2.2.2) (h.2.2.1.trans (hb.mono (YY h.2.2.2))) (zH h.2.2.2 hb.size)
end
theorem yxh {cs:List Cl} {n:Int} {ws aa:Nat->Bool} {m m2:Nat} (h1:ybQ cs n ws m aa m2):m2<=m+1/\m<=m2:=by
 rcases h1 with ⟨-,-,e⟩ | ⟨-,-,-,e⟩ | ⟨-,-,-,e | e⟩
 ·omega
 ·rw [e];split <;> omega
 ·omega
 ·omega
def RdS (w:World) (l:List Cl) (br bk:Nat) (bps:List Nat) (k:Nat) (wr:World):Prop:=∃F ws m,yar wr l br bk bps F ws m/\m<=k/\Bw w wr
theorem RdS.below {w wr w':World} {l:List Cl} {br bk:Nat} {bps:List Nat} {k:Nat} (h:RdS w l br bk bps k wr) (hB:Bw wr w'):RdS w l br bk bps k w':=by
 obtain ⟨F,ws,m,h1,h2,h3⟩:=h;exact ⟨F,ws,m,h1.below hB,h2,zu h3 hB⟩
section
variable {f n t u x:Int} {cs:List Cl} {ds:List Int} {k:Nat}
def yai (cs:List Cl) (t:Int):Bool:=cs.any λ c=>yhv c t
theorem yce (cs:List Cl) (n:Int) (k:Nat):yax cs n k=yai cs (86400*n+k):=rfl
theorem yaK (h:yai cs t=true):0<=t/\t<12622780800:=by
 rw [yai,Yk] at h;obtain ⟨c,-,hc⟩:=h;obtain ⟨-,-,-,h1,h2⟩:=yns hc;exact ⟨h1,h2⟩
def yzv (cs:List Cl) (n u s:Int) (k:Nat):Bool:=yax cs n k&&(decide (s<=k)&&decide (86400*n+k<=u))
def yxy (cs:List Cl) (n u s:Int):List Int:=yak (yzv cs n u s)
theorem ygc {s:Int}:x∈yxy cs n u s↔∃k:Nat,k<86400/\x=k/\yax cs n k=true/\s<=k/\86400*n+k<=u:=by
 rw [yxy,yak,sel_mem];constructor
 ·rintro ⟨k,h1,h2,h3⟩;rw [yzv,zzX,zzX,zzY,zzY] at h2;exact ⟨k,h1,h3,h2.1,h2.2.1,h2.2.2⟩
 ·rintro ⟨k,h1,h3,h2,h4,h5⟩;exact ⟨k,h1,by rw [yzv,h2,zzZ h4,zzZ h5];rfl,h3⟩
theorem ygG (cs:List Cl) (n u s:Int):(yxy cs n u s).Pairwise (·< ·):=yaO _ _
theorem ydZ:∀{l m:List Int},l.Pairwise (·< ·)->m.Pairwise (·< ·)->(∀x,x∈l↔x∈m)->l=m
 | [],[],_,_,_=>rfl
 | [],y::m,_,_,h=>by have:=(h y).2 zs;simp at this
 | x::l,[],_,_,h=>by have:=(h x).1 zs;simp at this
 | x::l,y::m,hl,hm,h=>by
   rw [ZI] at hl hm;have e:x=y:=by
    rcases YF.1 ((h x).1 zs) with e | h1
    ·exact e
    ·rcases YF.1 ((h y).2 zs) with e | h2
     ·exact e.symm
     ·have a:=hm.1 x h1;have b:=hl.1 y h2;omega
   subst e;congr 1
   refine ydZ hl.2 hm.2 (λ z=>⟨λ hz=>?_,λ hz=>?_⟩)
   ·rcases YF.1 ((h z).1 (by simp [hz])) with e | h1
    ·subst e;have:=hl.1 z hz;omega
    ·exact h1
   ·rcases YF.1 ((h z).2 (by simp [hz])) with e | h1
    ·subst e;have:=hm.1 z hz;omega
    ·exact h1
def ypu (cs:List Cl) (f u n:Int):List Int:=(yxy cs n u (max 0 (f-86400*n))).map λ x=>86400*n+x
theorem ygm:t∈ypu cs f u n↔t/86400=n/\f<=t/\t<=u/\yai cs t=true:=by
 rw [ypu,YA];constructor
 ·rintro ⟨x,hx,rfl⟩;obtain ⟨k,h1,rfl,h2,h3,h4⟩:=ygc.1 hx;exact ⟨by omega,by omega,h4,h2⟩
 ·rintro ⟨rfl,h1,h2,h3⟩;have e:(((t%86400).toNat:Nat):Int)=t%86400:=Ze zo;refine ⟨t%86400,ygc.2 ⟨(t%86400).toNat,by omega,e.symm,?_,by omega,by omega⟩,by omega⟩;rw [yce,e,show 86400*(t/86400)+t%86400=t by omega];exact h3
theorem yrH (cs:List Cl) (f u n:Int):(ypu cs f u n).Pairwise (·< ·):=by
 rw [ypu,List.pairwise_map];exact (ygG _ _ _ _).imp λ h=>by omega
def ydv (cs:List Cl) (f u:Int) (ds:List Int):List Int:=ds.flatMap (ypu cs f u)
def yh9 (cs:List Cl) (f u:Int) (ds:List Int) (k:Nat):Nat:=(ydv cs f u (ds.take k)).length
theorem ykt (cs:List Cl) (f u:Int) (ds:List Int):yh9 cs f u ds 0=0:=rfl
theorem yur (cs:List Cl) (f u:Int) (ds:List Int):yh9 cs f u ds ds.length= (ydv cs f u ds).length:=by rw [yh9,YW]
theorem yrN (h:ds[k]? =G n):yh9 cs f u ds (k+1)=yh9 cs f u ds k+(ypu cs f u n).length:=by
 obtain ⟨hk,rfl⟩:=zzq.1 h;rw [yh9,yal ds k hk,ydv,ZE,YG,yh9,ydv];simp
theorem yoD (h:ds[k]? =G n):ydv cs f u ds=ydv cs f u (ds.take k)++(ypu cs f u n++ydv cs f u (ds.drop (k+1))):=by
 obtain ⟨hk,rfl⟩:=zzq.1 h;rw [ydv,ydv,ydv];conv=>lhs;rw [<- Zg k ds,Zw hk]
 rw [ZE,ZZ]
theorem ywJ {p:Nat} (h:ds[k]? =G n) (hx:(ypu cs f u n)[p]? =G x):(ydv cs f u ds)[yh9 cs f u ds k+p]? =G x:=by
 rw [yoD h,Yl (by rw [yh9];omega),yh9,show (ydv cs f u (ds.take k)).length+p-(ydv cs f u (ds.take k)).length=p by omega,Yo (zzq.1 hx).1,hx]
theorem yuj (a b:Int):(yag a b).Pairwise (·< ·):=by
 rw [yag,List.pairwise_map];exact List.Pairwise.imp (λ h=>by omega) List.pairwise_lt_range
theorem yw2 (cs:List Cl) (a b:Int):(yaN cs (yag a b)).Pairwise (·< ·):=(yuj a b).filter _
def ycJ (cs:List Cl) (f u:Int):List Int:=ydv cs f u (yaN cs (yag (f/86400) (u/86400)))
theorem yc5:t∈ycJ cs f u↔f<=t/\t<=u/\yai cs t=true:=by
 rw [ycJ,ydv,Zi];constructor
 ·rintro ⟨n,-,h⟩;obtain ⟨-,h1,h2,h3⟩:=ygm.1 h;exact ⟨h1,h2,h3⟩
 ·rintro ⟨h1,h2,h3⟩;refine ⟨t/86400,?_,ygm.2 ⟨rfl,h1,h2,h3⟩⟩;rw [yaN,Y5,ybH];refine ⟨⟨by omega,by omega⟩,ydL.2 ⟨(t%86400).toNat,by omega,?_⟩⟩;rw [yce,Ze zo,show 86400*(t/86400)+t%86400=t by omega];exact h3
theorem yd1 (cs:List Cl) (f u:Int):(ycJ cs f u).Pairwise (·< ·):=by
 have key:∀ds:List Int,ds.Pairwise (·< ·)->(ydv cs f u ds).Pairwise (·< ·):=by
  intro ds;induction ds with
  | nil=>intro _;exact List.Pairwise.nil
  | cons n ds ih=>
    intro hp;rw [ZI] at hp;rw [ydv,ZZ,List.pairwise_append];refine ⟨yrH _ _ _ _,ih hp.2,λ a ha b hb=>?_⟩;rw [Zi] at hb;obtain ⟨n',aa,hb⟩:=hb;obtain ⟨h1,-⟩:=ygm.1 ha;obtain ⟨h2,-⟩:=ygm.1 hb;have:=hp.1 n' aa;omega
 exact key _ (yw2 _ _ _)
end
section
variable {a:Act} {ab:Array Oper} {Qq:Exit->Act->World->Prop} {l n:Nat} {o:Oper} {P:Program} {w:World}
def ydF (o:Oper):Bool:=match o.op with | .defer _=>false | _=>true
theorem yot (h:ydF o=true):∀c,o.op≠ .defer c:=by
 intro c e;rw [ydF,e] at h;cases h
theorem yzB {K:Act->World->Prop} (hd:ydF o=true) (hL:¬LetsOut Qq) (h:o.wp P a w K Qq):o.wpIn (WF (G l)) n P a w K Qq:=by
 refine ⟨λ _ _=>trivial,?_⟩;have e2:o.semAt (WF (G l)).round a.eval=execOp a.eval o:=Oper.semAt_eq _ _ _ (yot hd);rw [e2];unfold Oper.wp at h;generalize (execOp a.eval o).run P w=r at *
 cases r with
 | ok x w'=>
   cases x <;> simp only [Oper.uponIn,Oper.upon] at h⊢<;>
    first
     | exact h
     | exact ⟨λ h=>(by cases h),wf_calls.mpr h⟩
     | exact ⟨λ h=>(by cases h),λ c cs _=>let ⟨v,w'',r,s⟩:=h c cs;⟨v,w'',r,stepsIn_wide.mpr s⟩⟩
 | halt x w'=>cases x <;> simp only [Oper.uponIn,Oper.upon] at h⊢<;> exact h
theorem opW {i:Nat} {K K':Act->World->Prop} (hd:ab.all ydF=true) (hL:¬LetsOut Qq) (hK:∀a w,K a w->K' a w) (h:wpOp P ab Qq i K a w):wpOpIn (WF (G l)) n P ab Qq i K' a w:=by
 unfold wpOp at h;unfold wpOpIn;cases ho:ab[i]? with
 | none=>simp only [ho] at h⊢;exact hK _ _ h
 | some o=>
   simp only [ho] at h⊢;have ad:ydF o=true:=by
    rw [Array.all_eq_true] at hd;obtain ⟨hi,rfl⟩:=YZ.1 ho;exact hd i hi
   split
   ·rename_i hw;rw [Yd hw] at h;rcases h with h | h
    ·exact yzB ad hL (Oper.wp_mono hK h)
    ·exact absurd h.2 hL
   ·rename_i hw;rw [Yb hw] at h;exact ⟨λ _ _=>trivial,hK _ _ h⟩
theorem yzX {md:Region.Mode} (hd:ab.all ydF=true) (hL:¬LetsOut Qq):∀(ac:Nat) (aa:Array Bool) (a:Act) (w:World),wpAny P md ab Qq ac aa a w->wpAnyIn (WF (G l)) n P md ab Qq ac aa a w
 | 0,_,_,_,h=>h
 | ac+1,aa,a,w,h=>⟨h.1,λ i hi=>opW hd hL (λ a w=>yzX hd hL ac _ a w) (h.2 i hi)⟩
theorem yxZ {id:Nat} {S:World->Prop} (hm:P.follows .mixedOrders=true) (hd:ab.all ydF=true) (hL:¬LetsOut Qq) (hS:S w.drew)
  (h:S w.drew->wpAnyH P .any ab Qq S ab.size (Array.replicate ab.size false) a w.drew):(Code.region id ab true).wpIn (WF (G l)) n P Qq a w:=
 wpIn_region_any hm (yzX hd hL _ _ _ _ (wpAny_of_held _ _ _ _ (h hS)))
end
section
variable {a:Act} {l:Array Bool} {aa:Array Oper} {Qq:Exit->Act->World->Prop} {U:List Nat} {i id n:Nat} {oi:Oper} {P:Program} {v:Value} {w:World} {S:World->Prop}
section
variable {P:Program} {aa:Array Oper} {Qq:Exit->Act->World->Prop} {md:Region.Mode} {S:World->Prop} {Zq:List Nat}
def OrdF (P:Program) (md:Region.Mode) (aa:Array Oper) (Qq:Exit->Act->World->Prop) (S:World->Prop) (Zq:List Nat):Nat->Array Bool->Act->World->Prop
 | 0,l,a,w=>Region.ready md aa l= []/\Qq .normal a w
 | n+1,l,a,w=>(Region.ready md aa l= []->Qq .normal a w)/\∀i∈Region.ready md aa l,wpOp P aa Qq i (λ a' w'=>(Zq.contains i=false->S w')/\OrdF P md aa Qq S Zq n (l.setIfInBounds i true) a' w') a w
theorem OrdF.any:∀(n:Nat) (l:Array Bool) (a:Act) (w:World),OrdF P md aa Qq S Zq n l a w->wpAny P md aa Qq n l a w
 | 0,_,_,_,h=>h
 | n+1,_,_,_,h=>⟨h.1,λ i hi=>wpOp_mono (λ a' w' h'=>OrdF.any n _ a' w' h'.2) (h.2 i hi)⟩
def yjH (md:Region.Mode) (aa:Array Oper) (z i:Nat):Bool:=match aa[z]? with
 | some o=>o.after.toList.any λ e=>Region.binds md e&&e.on==i
 | none=>true
theorem ypJ {z:Nat} (h:yjH md aa z i=true) (hi:l.getD i true=false):z ∉ Region.ready md aa l:=by
 intro hz;obtain ⟨-,o,ho,ae⟩:=mem_ready.1 hz;rw [yjH,ho] at h;obtain ⟨e,he,hb⟩:=Yk.1 h;rw [zzX,beq_iff_eq] at hb;have h1:=ae e (by simpa using he) hb.1;rw [hb.2] at h1;rcases ZK i l.size with h' | h'
 ·simp [h'] at hi h1;rw [hi] at h1;cases h1
 ·simp [Array.getElem?_eq_none h'] at h1
def yfu (md:Region.Mode) (aa:Array Oper) (l:Array Bool) (i:Nat) (Zq U:List Nat):Bool:=
 U.all (λ u=>!l.getD u true)&&(U.all (λ u=>u==i||U.any λ v=>yjH md aa u v)&&Zq.all λ z=>z != i&&U.contains z)
theorem OrdF.first (U:List Nat) (hi:aa[i]? =G oi) (ac:∀(j:Nat) (o:Oper) cs b,aa[j]? =G o->o.op≠ .select cs b) (hQ:∀c a w,Qq (.panic c) (a.put oi.dst v) w->Qq (.panic c) a w)
  (h2:∀u∈U,u=i\/ ∃v∈U,yjH md aa u v=true) (h3:∀z∈Zq,z≠i/\z∈U) :
  ∀(n:Nat) (l:Array Bool) (a:Act) (w:World),(∀u∈U,l.getD u true=false)->(∀j oj,aa[j]? =G oj->j≠i->l.getD j true=false->(∀e∈oj.after,Region.binds md e=true->e.on≠i)->oi.apart aa oj=true)->
   i∈Region.ready md aa l->YieldsIf P aa S oi v a->S w->OrdF P md aa Qq S Zq n (l.setIfInBounds i true) (a.put oi.dst v) w->OrdF P md aa Qq S Zq (n+1) l a w
 | n,l,a,w,h1,hf,hr,hy,hS,Hq=>by
   refine ⟨λ h=>(by rw [h] at hr;cases hr),λ j hj=>?_⟩;by_cases ad:j=i
   ·subst ad;exact hy.wpOp hi hS ⟨λ _=>hS,Hq⟩
   have h0:=(mem_ready.1 hr).1;have hU:j ∉ U:=λ hu=>by
    rcases h2 j hu with e | ⟨v,hv,hw⟩
    ·exact ad e
    ·exact ypJ hw (h1 v hv) hj
   have hZ:Zq.contains j=false:=by
    cases e:Zq.contains j
    ·rfl
    ·exact absurd (h3 j (by simpa using e)).2 hU
   cases n with
   | zero=>
     have:=ready_mono hj ad;rw [Hq.1] at this;cases this
   | succ n=>
     obtain ⟨ah,oj,af,ae⟩:=mem_ready.1 hj;have aj:∀e∈oj.after,Region.binds md e=true->e.on≠i:=λ e he hb al=>by
      have h1:=ae e he hb;rw [al] at h1;rcases ZK i l.size with h' | h'
      ·simp [h'] at h0 h1;rw [h0] at h1;cases h1
      ·simp [Array.getElem?_eq_none h'] at h1
     refine wpOp_mono (λ a' w' h4=>⟨λ _=>h4.2.1 hZ,OrdF.first U hi ac hQ h2 h3 n (l.setIfInBounds j true) a' w' (λ u hu=>?_) (λ k ok hk ak ag hn=>?_) (ready_mono hr (Ne.symm ad)) h4.1 (h4.2.1 hZ) ?_⟩)
      (wpOp_putIf af (hf j oj af ad ah aj) (λ cs b=>ac i oi cs b hi) (λ cs b=>ac j oj cs b af) hQ hy (Hq.2 j (ready_mono hj ad)))
     ·rw [getD_set_ne true (λ e=>hU (by rw [e];exact hu))];exact h1 u hu
     ·refine hf k ok hk ak ?_ hn;by_cases ai:j=k
      ·subst ai;exact ah
      ·rw [getD_set_ne true ai] at ag;exact ag
     ·rw [Array.setIfInBounds_comm _ _ ad];exact h4.2.2
theorem ybP (h:yfu md aa l i Zq U=true):(∀u∈U,l.getD u true=false)/\(∀u∈U,u=i\/ ∃v∈U,yjH md aa u v=true)/\∀z∈Zq,z≠i/\z∈U:=by
 rw [yfu,zzX,zzX,List.all_eq_true,List.all_eq_true,List.all_eq_true] at h;refine ⟨λ u hu=>by simpa using h.1 u hu,λ u hu=>?_,λ z hz=>by simpa using h.2.2 z hz⟩;have:=h.2.1 u hu;rw [Ys,beq_iff_eq,Yk] at this;exact this
theorem OrdF.take (hi:aa[i]? =G oi) (hs:Region.noSelect aa=true) (hf:Region.free md aa l i=true) (hr:(Region.ready md aa l).contains i=true) (hz:yfu md aa l i Zq U=true)
  (hQ:∀c a w,Qq (.panic c) (a.put oi.dst v) w->Qq (.panic c) a w) (hw:Region.wanted oi (yielded aa a.tmps)=true) (hS:S w) (hy:∀w,S w->(execOp a.eval oi).run P w= .ok (.value v) w)
  (h:OrdF P md aa Qq S Zq n (l.setIfInBounds i true) (a.put oi.dst v) w):OrdF P md aa Qq S Zq (n+1) l a w:=
 OrdF.first U hi (Region.noSelect_spec hs) hQ (ybP hz).2.1 (ybP hz).2.2 n l a w (ybP hz).1 (Region.free_spec hi hf) (by simpa using hr) (.inl ⟨hw,hy⟩) hS h
theorem OrdF.skip (hi:aa[i]? =G oi) (hs:Region.noSelect aa=true) (hf:Region.free md aa l i=true) (hr:(Region.ready md aa l).contains i=true) (hz:yfu md aa l i Zq U=true)
  (hQ:∀c a w,Qq (.panic c) (a.put oi.dst undef) w->Qq (.panic c) a w) (hw:Region.wanted oi (yielded aa a.tmps)=false) (hS:S w)
  (h:OrdF P md aa Qq S Zq n (l.setIfInBounds i true) (a.put oi.dst undef) w):OrdF P md aa Qq S Zq (n+1) l a w:=
 OrdF.first U hi (Region.noSelect_spec hs) hQ (ybP hz).2.1 (ybP hz).2.2 n l a w (ybP hz).1 (Region.free_spec hi hf) (by simpa using hr) (.inr ⟨hw,rfl⟩) hS h
theorem OrdF.one (hi:aa[i]? =G oi) (hr:Region.ready md aa l= [i])
  (h:∀K:Act->World->Prop,Hid (∀a w,(Zq.contains i=false->S w)->OrdF P md aa Qq S Zq n (l.setIfInBounds i true) a w->K a w)->if Region.wanted oi (yielded aa a.tmps)=true then Oper.wp P oi a w K Qq else K (a.put oi.dst undef) w):OrdF P md aa Qq S Zq (n+1) l a w:=
 ⟨λ h0=>(by rw [hr] at h0;cases h0),λ j hj=>by
  rw [hr,Yy] at hj;subst hj;exact wpOp_step hi (λ K' hK=>h K' (λ a w h1 h2=>hK a w ⟨h1,h2⟩))⟩
theorem OrdF.two {j:Nat} {oj:Oper} (hi:aa[i]? =G oi) (hj:aa[j]? =G oj) (hr:Region.ready md aa l= [i,j])
  (h1:∀K:Act->World->Prop,Hid (∀a w,(Zq.contains i=false->S w)->OrdF P md aa Qq S Zq n (l.setIfInBounds i true) a w->K a w)->if Region.wanted oi (yielded aa a.tmps)=true then Oper.wp P oi a w K Qq else K (a.put oi.dst undef) w)
  (h2:∀K:Act->World->Prop,Hid (∀a w,(Zq.contains j=false->S w)->OrdF P md aa Qq S Zq n (l.setIfInBounds j true) a w->K a w)->if Region.wanted oj (yielded aa a.tmps)=true then Oper.wp P oj a w K Qq else K (a.put oj.dst undef) w):OrdF P md aa Qq S Zq (n+1) l a w:=
 ⟨λ h0=>(by rw [hr] at h0;cases h0),λ k hk=>by
  rw [hr] at hk;rcases YF.1 hk with rfl | hk
  ·exact wpOp_step hi (λ K' hK=>h1 K' (λ a w h1 h2=>hK a w ⟨h1,h2⟩))
  ·rw [Yy] at hk;subst hk;exact wpOp_step hj (λ K' hK=>h2 K' (λ a w h1 h2=>hK a w ⟨h1,h2⟩))⟩
theorem OrdF.done (hr:Region.ready md aa l= []) (h:Qq .normal a w):∀n,OrdF P md aa Qq S Zq n l a w
 | 0=>⟨hr,h⟩
 | _+1=>⟨λ _=>h,by rw [hr];simp⟩
end
section
variable {P:Program} {aa:Array Oper} {Qq:Exit->Act->World->Prop} {md:Region.Mode} {S:World->Prop} {Zq:List Nat} {n:Nat} {l:Array Bool} {a:Act} {w:World} {oi:Oper}
theorem rgT (i:Nat) (hy:∀w,S w->(execOp a.eval oi).run P w= .ok (.value v) w) (h:OrdF P md aa Qq S Zq n (l.setIfInBounds i true) (a.put oi.dst v) w) (U:List Nat:=i::Zq) (hi:aa[i]? =G oi:=by rfl) (hs:Region.noSelect aa=true:=by kernel_rfl)
  (hf:Region.free md aa l i=true:=by kernel_rfl) (hr:(Region.ready md aa l).contains i=true:=by kernel_rfl) (hz:yfu md aa l i Zq U=true:=by kernel_rfl) (hQ:∀c a w,Qq (.panic c) (a.put oi.dst v) w->Qq (.panic c) a w:=by exact λ _ _ _ h=>h)
  (hw:Region.wanted oi (yielded aa a.tmps)=true:=by rfl) (hS:S w:=by assumption):OrdF P md aa Qq S Zq (n+1) l a w:=OrdF.take hi hs hf hr hz hQ hw hS hy h
theorem rgS (i:Nat) (h:OrdF P md aa Qq S Zq n (l.setIfInBounds i true) (a.put oi.dst undef) w) (U:List Nat:=i::Zq) (hi:aa[i]? =G oi:=by rfl) (hs:Region.noSelect aa=true:=by kernel_rfl)
  (hf:Region.free md aa l i=true:=by kernel_rfl) (hr:(Region.ready md aa l).contains i=true:=by kernel_rfl) (hz:yfu md aa l i Zq U=true:=by kernel_rfl) (hQ:∀c a w,Qq (.panic c) (a.put oi.dst undef) w->Qq (.panic c) a w:=by exact λ _ _ _ h=>h)
  (hw:Region.wanted oi (yielded aa a.tmps)=false:=by rfl) (hS:S w:=by assumption):OrdF P md aa Qq S Zq (n+1) l a w:=OrdF.skip hi hs hf hr hz hQ hw hS h
theorem rgO (i:Nat) (h:∀K:Act->World->Prop,Hid (∀a w,(Zq.contains i=false->S w)->OrdF P md aa Qq S Zq n (l.setIfInBounds i true) a w->K a w)->if Region.wanted oi (yielded aa a.tmps)=true then Oper.wp P oi a w K Qq else K (a.put oi.dst undef) w)
  (hi:aa[i]? =G oi:=by rfl) (hr:Region.ready md aa l= [i]:=by kernel_rfl):OrdF P md aa Qq S Zq (n+1) l a w:=OrdF.one hi hr h
end
theorem rgPut:(∀(a:Act) (d:Tmp) (v:Value),a.put (G d) v= {a with tmps:=a.tmps.setIfInBounds d v})/\(∀(a:Act) (v:Value),a.put N v=a)/\(type_of% @List.getElem_toArray.{0})/\(type_of% @List.getElem_cons_succ.{0})/\(type_of% @List.getElem_cons_zero.{0})/\(type_of% @List.setIfInBounds_toArray.{0})/\(type_of% @List.set_cons_zero.{0})/\(type_of% @List.set_cons_succ.{0}):=
 ⟨λ _ _ _=>rfl,λ _ _=>rfl,@List.getElem_toArray.{0},@List.getElem_cons_succ.{0},@List.getElem_cons_zero.{0},@List.setIfInBounds_toArray.{0},@List.set_cons_zero.{0},@List.set_cons_succ.{0}⟩
theorem ysJ (Zq:List Nat) (hm:P.follows .mixedOrders=true) (hS:S w.drew)
  (h:S w.drew->OrdF P .any aa Qq S Zq aa.size (Array.replicate aa.size false) a w.drew):(Code.region id aa true).wp P Qq a w:=
 wp_region_any hm (OrdF.any _ _ _ _ (h hS))
theorem yte {l:Nat} (Zq:List Nat) (hm:P.follows .mixedOrders=true) (hd:aa.all ydF=true) (hL:¬LetsOut Qq) (hS:S w.drew)
  (h:S w.drew->OrdF P .any aa Qq S Zq aa.size (Array.replicate aa.size false) a w.drew):(Code.region id aa true).wpIn (WF (G l)) n P Qq a w:=
 wpIn_region_any hm (yzX hd hL _ _ _ _ (OrdF.any _ _ _ _ (h hS)))
theorem zfA {P:Program} {aa:Array Oper} {Qq:Exit->Act->World->Prop} {md:Region.Mode} {S:World->Prop} {Zq:List Nat} {n:Nat} {l:Array Bool} {a:Act} {w:World} (i:Nat) {oi:Oper} {v:Value} {a2:Act} (h:OrdF P md aa Qq S Zq n (l.setIfInBounds i true) a2 w) (U:List Nat:=i::Zq) (hi:aa[i]? =G oi:=by rfl) (hy:∀w,S w->(execOp a.eval oi).run P w= .ok (.value v) w:=by intro w ab;(try replace ab:=ab.out);(try have f:=ab.3);(try have f:=ab.4);(try have f:=ab.5);(try have f:=ab.6);(try have f:=ab.7);(repeat (have f:=ab.1;replace ab:=ab.2));go_simp;(try with_reducible rfl)) (ha:a.put oi.dst v=a2:=by (try simp only [zP]);(try rfl)) (hs:Region.noSelect aa=true:=by kernel_rfl) (hf:Region.free md aa l i=true:=by kernel_rfl) (hr:(Region.ready md aa l).contains i=true:=by kernel_rfl) (hz:yfu md aa l i Zq U=true:=by kernel_rfl) (hQ:∀c a w,Qq (.panic c) (a.put oi.dst v) w->Qq (.panic c) a w:=by exact λ _ _ _ h=>h) (hw:Region.wanted oi (yielded aa a.tmps)=true:=by rfl) (hS:S w:=by assumption):OrdF P md aa Qq S Zq (n+1) l a w:=by subst ha;exact OrdF.take hi hs hf hr hz hQ hw hS hy h
theorem zfC {P:Program} {aa:Array Oper} {Qq:Exit->Act->World->Prop} {md:Region.Mode} {S:World->Prop} {Zq:List Nat} {n:Nat} {l:Array Bool} {a:Act} {w:World} (i:Nat) {oi:Oper} {v:Value} {a2:Act} (h:OrdF P md aa Qq S Zq n (l.setIfInBounds i true) a2 w) (U:List Nat:=i::Zq) (hi:aa[i]? =G oi:=by rfl) (hy:∀w,S w->(execOp a.eval oi).run P w= .ok (.value v) w:=by intro w ab;cases ab.out;clear ab;go_simp;(try with_reducible rfl)) (ha:a.put oi.dst v=a2:=by (try simp only [zP]);(try rfl)) (hs:Region.noSelect aa=true:=by kernel_rfl) (hf:Region.free md aa l i=true:=by kernel_rfl) (hr:(Region.ready md aa l).contains i=true:=by kernel_rfl) (hz:yfu md aa l i Zq U=true:=by kernel_rfl) (hQ:∀c a w,Qq (.panic c) (a.put oi.dst v) w->Qq (.panic c) a w:=by exact λ _ _ _ h=>h) (hw:Region.wanted oi (yielded aa a.tmps)=true:=by rfl) (hS:S w:=by assumption):OrdF P md aa Qq S Zq (n+1) l a w:=by subst ha;exact OrdF.take hi hs hf hr hz hQ hw hS hy h
theorem zfD {P:Program} {aa:Array Oper} {Qq:Exit->Act->World->Prop} {md:Region.Mode} {S:World->Prop} {Zq:List Nat} {n:Nat} {l:Array Bool} {a:Act} {w:World} (i:Nat) {oi:Oper} {v:Value} {a2:Act} (h:OrdF P md aa Qq S Zq n (l.setIfInBounds i true) a2 w) (U:List Nat:=i::Zq) (hi:aa[i]? =G oi:=by rfl) (hy:∀w,S w->(execOp a.eval oi).run P w= .ok (.value v) w:=by intro w ab;go_simp;(try with_reducible rfl)) (ha:a.put oi.dst v=a2:=by (try simp only [zP]);(try rfl)) (hs:Region.noSelect aa=true:=by kernel_rfl) (hf:Region.free md aa l i=true:=by kernel_rfl) (hr:(Region.ready md aa l).contains i=true:=by kernel_rfl) (hz:yfu md aa l i Zq U=true:=by kernel_rfl) (hQ:∀c a w,Qq (.panic c) (a.put oi.dst v) w->Qq (.panic c) a w:=by exact λ _ _ _ h=>h) (hw:Region.wanted oi (yielded aa a.tmps)=true:=by rfl) (hS:S w:=by assumption):OrdF P md aa Qq S Zq (n+1) l a w:=by subst ha;exact OrdF.take hi hs hf hr hz hQ hw hS hy h
theorem zfE {P:Program} {aa:Array Oper} {Qq:Exit->Act->World->Prop} {md:Region.Mode} {S:World->Prop} {Zq:List Nat} {n:Nat} {l:Array Bool} {a:Act} {w:World} (i:Nat) {oi:Oper} {v:Value} {a2:Act} (h:OrdF P md aa Qq S Zq n (l.setIfInBounds i true) a2 w) (U:List Nat:=i::Zq) (hi:aa[i]? =G oi:=by rfl) (hy:∀w,S w->(execOp a.eval oi).run P w= .ok (.value v) w:=by intro w ab;clear ab;go_simp;(try with_reducible rfl)) (ha:a.put oi.dst v=a2:=by (try simp only [zP]);(try rfl)) (hs:Region.noSelect aa=true:=by kernel_rfl) (hf:Region.free md aa l i=true:=by kernel_rfl) (hr:(Region.ready md aa l).contains i=true:=by kernel_rfl) (hz:yfu md aa l i Zq U=true:=by kernel_rfl) (hQ:∀c a w,Qq (.panic c) (a.put oi.dst v) w->Qq (.panic c) a w:=by exact λ _ _ _ h=>h) (hw:Region.wanted oi (yielded aa a.tmps)=true:=by rfl) (hS:S w:=by assumption):OrdF P md aa Qq S Zq (n+1) l a w:=by subst ha;exact OrdF.take hi hs hf hr hz hQ hw hS hy h
theorem zfF {P:Program} {aa:Array Oper} {Qq:Exit->Act->World->Prop} {md:Region.Mode} {S:World->Prop} {Zq:List Nat} {n:Nat} {l:Array Bool} {a:Act} {w:World} (i:Nat) {oi:Oper} {v:Value} {a2:Act} {Rq:World->Prop} (hR:∀w,S w->Rq w) (h:OrdF P md aa Qq S Zq n (l.setIfInBounds i true) a2 w) (U:List Nat:=i::Zq) (hi:aa[i]? =G oi:=by rfl) (hy:∀w,Rq w->(execOp a.eval oi).run P w= .ok (.value v) w:=by intro w ab;(repeat (have f:=ab.1;replace ab:=ab.2));go_simp;(try with_reducible rfl)) (ha:a.put oi.dst v=a2:=by (try simp only [zP]);(try rfl)) (hs:Region.noSelect aa=true:=by kernel_rfl) (hf:Region.free md aa l i=true:=by kernel_rfl) (hr:(Region.ready md aa l).contains i=true:=by kernel_rfl) (hz:yfu md aa l i Zq U=true:=by kernel_rfl) (hQ:∀c a w,Qq (.panic c) (a.put oi.dst v) w->Qq (.panic c) a w:=by exact λ _ _ _ h=>h) (hw:Region.wanted oi (yielded aa a.tmps)=true:=by rfl) (hS:S w:=by assumption):OrdF P md aa Qq S Zq (n+1) l a w:=by subst ha;exact OrdF.take hi hs hf hr hz hQ hw hS (λ w h=>hy w (hR w h)) h
theorem zfS {P:Program} {aa:Array Oper} {Qq:Exit->Act->World->Prop} {md:Region.Mode} {S:World->Prop} {Zq:List Nat} {n:Nat} {l:Array Bool} {a:Act} {w:World} (i:Nat) {oi:Oper} {a2:Act} (h:OrdF P md aa Qq S Zq n (l.setIfInBounds i true) a2 w) (U:List Nat:=i::Zq) (hi:aa[i]? =G oi:=by rfl) (ha:a.put oi.dst undef=a2:=by (try simp only [zP]);(try rfl)) (hs:Region.noSelect aa=true:=by kernel_rfl) (hf:Region.free md aa l i=true:=by kernel_rfl) (hr:(Region.ready md aa l).contains i=true:=by kernel_rfl) (hz:yfu md aa l i Zq U=true:=by kernel_rfl) (hQ:∀c a w,Qq (.panic c) (a.put oi.dst undef) w->Qq (.panic c) a w:=by exact λ _ _ _ h=>h) (hw:Region.wanted oi (yielded aa a.tmps)=false:=by rfl) (hS:S w:=by assumption):OrdF P md aa Qq S Zq (n+1) l a w:=by subst ha;exact OrdF.skip hi hs hf hr hz hQ hw hS h
theorem zzO {P:Program} {aa:Array Oper} {Qq:Exit->Act->World->Prop} {md:Region.Mode} {S:World->Prop} {Zq:List Nat} {n:Nat} {l:Array Bool} {a:Act} {w:World} (i:Nat) {oi:Oper} (h:∀K:Act->World->Prop,Hid (∀a w,(Zq.contains i=false->S w)->OrdF P md aa Qq S Zq n (l.setIfInBounds i true) a w->K a w)->Oper.wp P oi a w K Qq) (hi:aa[i]? =G oi:=by rfl) (hr:Region.ready md aa l= [i]:=by kernel_rfl) (hw:Region.wanted oi (yielded aa a.tmps)=true:=by rfl):OrdF P md aa Qq S Zq (n+1) l a w:=OrdF.one hi hr λ K hK=>by rw [Yd hw];exact h K hK
end
def yxE (cs:List Cl) (f u:Int):Nat:=(ycJ cs f u).length
theorem yrc (cs:List Cl) {f u:Int} {n:Nat} (h:n<(ycJ cs f u).length):ycJ cs f ((ycJ cs f u)[n])= (ycJ cs f u).take (n+1):=by
 have hp:=yd1 cs f u;have hm:=λ x=>yc5 (cs:=cs) (f:=f) (u:=u) (t:=x);have hx:=(hm _).1 (zzr h);have e:∀x,x∈ycJ cs f ((ycJ cs f u)[n])↔x∈ycJ cs f u/\x<=(ycJ cs f u)[n]:=λ x=>by
  rw [yc5,yc5];constructor
  ·rintro ⟨g1,g2,g3⟩;exact ⟨⟨g1,by omega,g3⟩,g2⟩
  ·rintro ⟨⟨g1,g2,g3⟩,g4⟩;exact ⟨g1,g4,g3⟩
 refine ydZ (yd1 _ _ _) (List.Pairwise.sublist (List.take_sublist _ _) hp) (λ x=>?_);rw [e];generalize ycJ cs f u=L at *
 clear e hm hx;rw [Za] at hp;constructor
 ·rintro ⟨g1,g2⟩;obtain ⟨j,hj,rfl⟩:=ZO.1 g1;have:j<n+1:=by
   apply Nat.lt_of_not_le;intro h2;have:=hp n j h hj zo;omega
  rw [ZO];exact ⟨j,by rw [YX];omega,List.getElem_take⟩
 ·intro hx;obtain ⟨j,hj,rfl⟩:=ZO.1 hx;have aa:j<L.length:=by rw [YX] at hj;omega
  have ab:j<n+1:=by rw [YX] at hj;omega
  rw [List.getElem_take];refine ⟨zzr aa,?_⟩;rcases ZK j n with h2 | h2
  ·have:=hp j n aa h h2;omega
  ·obtain rfl:j=n:=zo;exact Zv _
theorem yrL (cs:List Cl) {f u:Int} {n:Nat} (h:n<(ycJ cs f u).length):yxE cs f ((ycJ cs f u)[n])=n+1:=by
 rw [yxE,yrc cs h,YX];omega
theorem yoS (cs:List Cl) {f u n:Int} (h1:f<=86400*n) (h2:86400*n+86399<=u):(ypu cs f u n).length= (yak (yax cs n)).length:=by
 have e:yxy cs n u (max 0 (f-86400*n))=yak (yax cs n):=by
  refine ydZ (ygG _ _ _ _) (yaO _ _) (λ x=>?_);rw [ygc,yak,sel_mem];constructor
  ·rintro ⟨k,g1,g2,g3,-⟩;exact ⟨k,g1,g3,g2⟩
  ·rintro ⟨k,g1,g3,g2⟩;exact ⟨k,g1,g2,g3,by omega,by omega⟩
 rw [ypu,Yi,e]
theorem yun (cs:List Cl) {f u n:Int} (h1:f<=86400*n) (h2:86400*n+86399<=u):ypu cs f u n= (yak (yax cs n)).map λ x=>86400*n+x:=by
 have e:yxy cs n u (max 0 (f-86400*n))=yak (yax cs n):=by
  refine ydZ (ygG _ _ _ _) (yaO _ _) (λ x=>?_);rw [ygc,yak,sel_mem];constructor
  ·rintro ⟨k,g1,g2,g3,-⟩;exact ⟨k,g1,g3,g2⟩
  ·rintro ⟨k,g1,g3,g2⟩;exact ⟨k,g1,g2,g3,by omega,by omega⟩
 rw [ypu,e]
theorem ybu {P:Program} {m:Nat} {g:Operand} {ps:Array Tmp} {assign body:Code} {Qq:Exit->Act->World->Prop} {a:Act} {w:World} {gf:Nat} {lb:Array Value} {n:Nat} {V:Nat->Array Value->Blk->World->Prop} {Hq HN HS:Blk->World->Prop} {M F:Blk}
  (hg:a.eval g=Xf (.func gf) #[] lb) (eg:∀args w,(callFunc gf args).run P w= .ok (.enter gf args) w) (Ow:Blk) (az:∀k vs F W,V k vs F W->vs.size=ps.size) (an:yeV P gf lb n V Hq HN HS M) (hH:ych Hq M) (hN:ych HN M) (hS:ych HS M) (hF:Hq F w) (aJ:∀b,F b->¬Ow b)
  (Iq:ydt) (Ix:Code->ydt) (hI:StabF M Iq) (av:∀c,StabF M (Ix c)) (aw:LtF Iq) (ap:∀c,LtF (Ix c)) (h0:Iq 0 Ow F w)
  (A:Nat->Blk->Blk->Act->World->Prop) (hA:∀l o k O F a' W,(∃r,W.heap[l]? =G (.loop r))->¬O l->¬F l->A k O F a' W->A k O F a' (W.putObj l o))
  (ab:∀l k O F W vs (K:Act->World->Prop),k<n->Iq k O F W->(∀b,F b->¬O b/\b≠l)->V k vs F W->yci M Ow O w W->(∀a' O' W',yaM O O' W W'->A k O' F a' W'->K a' W')->
    assign.wpIn (WF (G l)) m P (Exit.then K (λ _ _ _=>False)) {tmps:=(ps.zip vs).foldl (λ t (p,v)=>t.setIfInBounds p v) a.tmps,defers:= []} W)
  (ai:∀l k O F a' W,k<n->yci M Ow O w W->w.heap.size<=l->(∃r,W.heap[l]? =G (.loop r))->¬O l->¬F l->A k O F a' W->body.wpIn (WF (G l)) m P (ymh (atF Iq F) (λ c=>atF (Ix c) F) k O W) a' W)
  (ag:∀O' F' W',yci M Ow O' w W'->HN F' W'->(∀b,F b->F' b)->(∀b,F' b->F b\/ w.heap.size<=b)->(∀b,F' b->¬O' b)->Iq n O' F' W'->W'.heap[w.heap.size]? =G (.deferred (G []))->¬O' w.heap.size->¬F' w.heap.size->Qq .normal {a with defers:={target:= .collected w.heap.size,args:=#[]} ::a.defers} W')
  (af:∀c k O' F' W',1<=k->k<=n->yci M Ow O' w W'->HS F' W'->(∀b,F b->F' b)->(∀b,F' b->F b\/ w.heap.size<=b)->(∀b,F' b->¬O' b)->Ix c k O' F' W'->W'.heap[w.heap.size]? =G (.deferred (G []))->¬O' w.heap.size->¬F' w.heap.size->
    c.wpIn (WF N) m P Qq {a with defers:={target:= .collected w.heap.size,args:=#[]} ::a.defers} W') :
  (Code.rangeFunc g ps assign body).wpIn (WF N) m P Qq a w:=by
 refine wpIn_rangeFunc ?_;intro fn aM;obtain ⟨W1,am⟩:=zx ((w.alloc (.deferred (G []))).alloc (.loop (yaj fn a.tmps ps assign body w.heap.size .ready N)));have au:W1.heap[w.heap.size+1]? =G (.loop (yaj fn a.tmps ps assign body w.heap.size .ready N)):=by
  rw [<- am];have:=Y1 (w.alloc (.deferred (G []))) (.loop (yaj fn a.tmps ps assign body w.heap.size .ready N));(try unfold Bw at this);rwa [zzN] at this
 have ad:Bw w W1:=by rw [<- am];exact ((Ye _ w).alloc zg _).alloc zs _
 have aG:W1.heap[w.heap.size]? =G (.deferred (G [])):=by
  rw [<- am];exact (Y4 _ _ _ zs).trans (Y1 w _)
 have hlt:=aw 0 Ow F w h0;have ac:=hH.lt F w hF;have aK:Hq F W1:=hH.stab F w W1 hF ad.size (λ b hb=>ad.block b (ac b hb));have aF:∀b,M b->b<w.heap.size:=λ b hb=>ac b (hH.sub F w hF b hb);have hJ:RJF (yaj fn a.tmps ps assign body w.heap.size .ready N) (w.heap.size+1) (G w.heap.size) Iq 0 (λ b=>Ow b\/ b=w.heap.size+1\/ G w.heap.size=G b) F W1:=
  ⟨Ow,λ b=>Y6,λ h=>by have:=hlt _ h;omega,λ d hd=>by cases hd;exact ⟨λ h=>by have:=hlt _ h;omega,by omega,aG⟩,hI 0 Ow F F w W1 h0 ad.size zi (λ b hb=>ad.block b (hb.elim (hlt b) (λ h=>ac b h.1))),au⟩
 have aL:=yam au;have hC:=yj6 (P:=P) (m:=m) (fn:=fn) (tmps:=a.tmps) (D:=w.heap.size) (l:=w.heap.size+1) (Dk:=G w.heap.size) (n:=n) (V:=V) (M:=M) az hI av aw ap A hA Ow (λ b=>Ow b\/ b=w.heap.size+1\/ G w.heap.size=G b) w W1 zo (λ O O1 W hO hG=>⟨λ b hb=>by
   have aD:=hlt b hb;rcases (hO b).mp (hG.sub b (.inl hb)) with h | h | h
   ·exact h
   ·omega
   ·cases h;omega,λ b hb=>by
   rcases hG.new b ((hO b).mpr (.inl hb)) with (h | h | h) | h
   ·exact .inl h
   ·exact .inr zo
   ·cases h;exact .inr zo
   ·exact .inr (zp ad.size),(Eff.of_below (O:=λ b=>Ow b\/ M b) ad).trans hG.eff λ b hb=>by
   rcases hb with (h | h | h) | h
   ·exact .inl (.inl h)
   ·exact .inr zo
   ·cases h;exact .inr zo
   ·exact .inl (.inr h)⟩) (ab (w.heap.size+1)) (λ k O F a' W hk hG=>ai (w.heap.size+1) k O F a' W hk hG zo)
 have ah:=an _ _ _ _ F W1 aK (λ b hb h=>by
  have:=ac b hb;rcases h with h | h | h
  ·exact aJ b hb h
  ·omega
  ·cases h;omega) hC hJ
 refine ⟨w.heap.size+1,[{target:= .collected w.heap.size,args:=#[]}],W1,{target:= .fn (.func gf) lb,args:=#[.func (.yield (w.heap.size+1)) #[] #[]]},W1,gf,
  #[.func (.yield (w.heap.size+1)) #[] #[]]++lb,W1,?_,?_,λ _ _=>trivial,?_,(λ h=>nomatch h),?_⟩
 ·rw [<- am];exact run_enterLoop_outer _ _ _ _ _
 ·simp only [resolve,hg];simp [go_sem]
 ·simp [invoke,go_sem,eg]
 ·refine wf_calls.mpr (ah.mono ?_);have al:∀(X:ydt) (H2:Blk->World->Prop) (k:Nat) (O' F':Nat->Prop) (W2:World) (st:LoopState) (pe:Option Code),StabF M X->ych H2 M->st≠ .busy->yci M (λ b=>Ow b\/ b=w.heap.size+1\/ G w.heap.size=G b) O' W1 W2->
    H2 F' W2->(∀b,F' b->¬O' b)->RJF (yaj fn a.tmps ps assign body w.heap.size st pe) (w.heap.size+1) (G w.heap.size) X k O' F' W2->
    (Instr.endLoop (w.heap.size+1)).run P W2= .ok pe (W2.putObj (w.heap.size+1) (.loop (yaj fn a.tmps ps assign body w.heap.size .exhausted pe)))/\∃O2,yci M Ow O2 w (W2.putObj (w.heap.size+1) (.loop (yaj fn a.tmps ps assign body w.heap.size .exhausted pe)))/\
      H2 F' (W2.putObj (w.heap.size+1) (.loop (yaj fn a.tmps ps assign body w.heap.size .exhausted pe)))/\(∀b,F' b->¬O2 b)/\X k O2 F' (W2.putObj (w.heap.size+1) (.loop (yaj fn a.tmps ps assign body w.heap.size .exhausted pe)))/\
      (W2.putObj (w.heap.size+1) (.loop (yaj fn a.tmps ps assign body w.heap.size .exhausted pe))).heap[w.heap.size]? =G (.deferred (G []))/\¬O2 w.heap.size:=by
   rintro X H2 k O' F' W2 st pe hX aH ay ae ak aa ⟨O1,hO,aA,hD,hi,hl⟩;have hr:=run_endLoop (P:=P) hl ay;have aE:∀b,O1 b->O' b:=λ b hb=>(hO b).mpr (.inl hb);have ar:O' (w.heap.size+1):=(hO _).mpr (.inr (.inl rfl));refine ⟨hr,O1,⟨λ b hb=>?_,λ b hb=>?_,?_⟩,aH.stab F' W2 _ ak (by rw [Yg];exact zG _) (λ b hb=>Yc (λ e=>aa b hb (e ▸ ar))),λ b hb h=>aa b hb (aE b h),hX _ _ _ _ _ _ hi (by rw [Yg];exact zG _) zi (λ b hb=>Yc (λ e=>by
     rcases hb with hb | hb
     ·exact aA (e ▸ hb)
     ·exact aa b hb.1 (e ▸ ar))),(Yc zo).trans (hD _ rfl).2.2,(hD _ rfl).1⟩
   ·have aD:=hlt b hb;rcases (hO b).mp (ae.sub b (.inl hb)) with h | h | h
    ·exact h
    ·omega
    ·cases h;omega
   ·rcases ae.new b ((hO b).mpr (.inl hb)) with (h | h | h) | h
    ·exact .inl h
    ·exact .inr zo
    ·cases h;exact .inr zo
    ·exact .inr (zp ad.size)
   ·refine Eff.putObj ((Eff.of_below (O:=λ b=>Ow b\/ M b) ad).trans ae.eff λ b hb=>?_) (.inr zo) _;rcases hb with (h | h | h) | h
    ·exact .inl (.inl h)
    ·exact .inr zo
    ·cases h;exact .inr zo
    ·exact .inl (.inr h)
  rintro e W2 ⟨⟨v,rfl⟩,O',F',ae,ax,aI,aa,ao⟩;have aj:∀b,F' b->F b\/ w.heap.size<=b:=λ b hb=>by
   rcases aI b hb with h | h
   ·exact .inl h
   ·exact .inr (zp ad.size)
  have aq:¬F' w.heap.size:=λ h=>aa _ h (ae.sub _ (.inr (.inr rfl)));rcases ao with ⟨ak,hj⟩ | ⟨ak,k,aC,aB,c,hj⟩
  ·obtain ⟨h1,O2,h2,h3,h4,h5,h6,h7⟩:=al Iq HN n O' F' W2 .ready N hI hN zs ae ak aa hj;exact ⟨N,_,h1,ag O2 F' _ h2 h3 ax aj h4 h5 h6 h7 aq⟩
  ·obtain ⟨h1,O2,h2,h3,h4,h5,h6,h7⟩:=al (Ix c) HS k O' F' W2 .done (G c) (av c) hS zs ae ak aa hj;exact ⟨G c,_,h1,af c k O2 F' _ aC aB h2 h3 ax aj h4 h5 h6 h7 aq⟩
section
attribute [local go_sem] Yw
variable {F M:Blk} {n:Int} {cs:List Cl} {m:Nat} {ws:Nat->Bool} {W:World}
theorem yyY {r:Option Nat} {n:Nat} {P:Program} {ac:Array Oper} {rest:List Oper} {o:Oper} {a:Act} {Qq:Exit->Act->World->Prop} (s x:Operand) (t:TypeId)
  (hw:Region.wanted o (yielded ac a.tmps)=true) (ho:o.op= .call {callee:= .value s,args:=#[x],argTypes:=#[t]}) {y u:Value} (hs:a.eval s=y) (hx:a.eval x=u) {Rq:Ending->World->Prop}
  (h:CallV P y #[u] W Rq) (hK:∀e W',Rq e W'->∃v,e=Q v/\wpListIn (WF r) n P ac Qq rest (a.put o.dst v) W') :
  wpListIn (WF r) n P ac Qq (o::rest) a W:=by
 refine wpListIn_step λ K ae=>?_;rw [Yd hw];unfold Oper.wpIn;refine ⟨λ _ _=>trivial,?_⟩;rw [Oper.semAt_plain (WF r) _ _ (by rw [ho];intro c hc;cases hc)];rcases h with ⟨f,cap,rfl,he,hc⟩ | ⟨l,fn,tmps,assign,body,rfl,hy,hc⟩
 ·simp [execOp,ho,resolve,invoke,hs,hx,he,Deferred.ofValue];rw [Oper.uponIn_enter];refine ⟨λ h=>(by cases h),wf_calls.mpr ((show H P f (#[u]++cap) W Rq from hc).mono λ e w' hr=>?_)⟩;obtain ⟨v,rfl,hw⟩:=hK e w' hr;exact ae _ _ hw
 ·simp [execOp,ho,resolve,invoke,hs,hx,hy,Deferred.ofValue];rw [Oper.uponIn_round];refine ⟨λ h=>(by cases h),RoundIn.mono (hc _) λ e w' hr=>?_⟩;obtain ⟨v,rfl,hw⟩:=hK e w' hr;exact ae _ _ hw
structure BxF (M:Blk) (xf xu:Nat) (f u:Int) (F:Blk) (W:World):Prop where
 inf:F xf/\¬M xf
 inu:F xu/\¬M xu
 cf:W.cell? (Z xf 0 N)=G (E T f)
 cu:W.cell? (Z xu 0 N)=G (E T u)
theorem BxF.keep {xf xu:Nat} {f u:Int} {F':Blk} {W':World} (h:BxF M xf xu f u F W) (hF:∀b,F b->F' b) (hb:∀b,F b/\¬M b->W'.heap[b]? =W.heap[b]?):BxF M xf xu f u F' W':=
 ⟨⟨hF _ h.inf.1,h.inf.2⟩,⟨hF _ h.inu.1,h.inu.2⟩,(zzJ (w:=W) (a:=Z xf 0 N) (hb _ h.inf)).trans h.cf,(zzJ (w:=W) (a:=Z xu 0 N) (hb _ h.inu)).trans h.cu⟩
structure HSk (cs:List Cl) (br bk:Nat) (bps:List Nat) (xe xf xu xr:Nat) (f u:Int) (aa:(Nat->Bool)->Nat->Prop) (F:Blk) (W:World):Prop where
 roll:∃ws m,yar W cs br bk bps F ws m/\aa ws m
 bx:BxF (RM br bk bps) xf xu f u F W
 ine:F xe/\¬RM br bk bps xe
 inr:F xr/\¬RM br bk bps xr
 ce:W.cell? (Z xe 0 N)=G (E T 0)
 cr:W.cell? (Z xr 0 N)=G (R (G (Z br 0 N)))
section
variable {cs:List Cl} {br bk:Nat} {bps:List Nat} {xe xf xu xr:Nat} {f u:Int} {aa ab:(Nat->Bool)->Nat->Prop} {F F':Blk} {W W':World}
theorem HSk.keep (h:HSk cs br bk bps xe xf xu xr f u aa F W) (hs:W.heap.size<=W'.heap.size) (hb:∀b,F b->W'.heap[b]? =W.heap[b]?):HSk cs br bk bps xe xf xu xr f u aa F W':=by
 obtain ⟨ws,m,h1,h2⟩:=h.roll;exact ⟨⟨ws,m,h1.keep hs hb,h2⟩,h.bx.keep zi (λ b hF=>hb b hF.1),h.ine,h.inr,(zzJ (w:=W) (a:=Z xe 0 N) (hb _ h.ine.1)).trans h.ce,(zzJ (w:=W) (a:=Z xr 0 N) (hb _ h.inr.1)).trans h.cr⟩
theorem HSk.lt (h:HSk cs br bk bps xe xf xu xr f u aa F W):∀b,F b->b<W.heap.size:=by
 obtain ⟨ws,m,h1,h2⟩:=h.roll;exact h1.x.lt
theorem HSk.sub (h:HSk cs br bk bps xe xf xu xr f u aa F W):∀b,RM br bk bps b->F b:=by
 obtain ⟨ws,m,h1,h2⟩:=h.roll;exact h1.x.sub
theorem HSk.host:ych (HSk cs br bk bps xe xf xu xr f u aa) (RM br bk bps):=⟨λ F W W' h hs hb=>h.keep hs hb,λ F W h=>h.lt,λ F W h=>h.sub⟩
theorem HSk.step (h:HSk cs br bk bps xe xf xu xr f u aa F W) (hR:yar W' cs br bk bps F' ws m) (hI:ab ws m) (hF:∀b,F b->F' b) (hb:∀b,F b->¬RM br bk bps b->W'.heap[b]? =W.heap[b]?):HSk cs br bk bps xe xf xu xr f u ab F' W':=
 ⟨⟨ws,m,hR,hI⟩,h.bx.keep hF (λ b hF=>hb b hF.1 hF.2),⟨hF _ h.ine.1,h.ine.2⟩,⟨hF _ h.inr.1,h.inr.2⟩,(zzJ (w:=W) (a:=Z xe 0 N) (hb _ h.ine.1 h.ine.2)).trans h.ce,(zzJ (w:=W) (a:=Z xr 0 N) (hb _ h.inr.1 h.inr.2)).trans h.cr⟩
end
def ymn (j:Nat) (ws:Nat->Bool) (m:Nat):Prop:=m<=j
theorem yeJ {j:Nat} {ad:Nat->Bool} {m':Nat} (h:ymn j ws m) (hs:ybQ cs n ws m ad m'):ymn (j+1) ad m':=by
 have:=(yxh hs).1;rw [ymn] at h⊢;omega
theorem yca (args:Array Value) (w:World):(callFunc 85 args).run I w= .ok (.enter 85 args) w:=by simp [go_sem]
structure SkD (cs:List Cl) (M:Blk) (n:Int) (d bx:Nat) (O F:Blk) (W:World):Prop where
 dj:∀b,F b->¬O b
 di:DiF W F M d (yax cs n)
 tab:Tab W/\F 0
 lt:∀b,F b->b<W.heap.size
 lx:bx<W.heap.size
 nx:¬O bx/\¬F bx
 sh:ShS W bx (shF n)
theorem SkD.put {d bx l:Nat} {O:Blk} {o:Obj} (h:SkD cs M n d bx O F W) (hr:∃r,W.heap[l]? =G (.loop r)) (hF:¬F l):SkD cs M n d bx O F (W.putObj l o):=by
 have ps:(W.putObj l o).heap.size=W.heap.size:=Yg;have ko:∀b,F b->(W.putObj l o).heap[b]? =W.heap[b]?:=λ b hb=>Yc (λ e=>hF (e ▸ hb));exact ⟨h.dj,⟨h.di.1,h.di.2.1,h.di.2.2.block (by rw [ps];exact zG _) (ko _ h.di.1)⟩,⟨⟨by rw [ps];exact h.tab.1.1,λ i hi=>(zzJ (w:=W) (a:=⟨0,i,N⟩) (ko _ h.tab.2)).trans (h.tab.1.2 i hi)⟩,h.tab.2⟩,by rw [ps];exact h.lt,by rw [ps];exact h.lx,h.nx,yle h.sh hr⟩
def SkT (h0 h1 h2 h3 h4 h5 h6 h7:Value) (ds:List Deferred) (a:Act):Prop:=∃V:Nat->Value,a= {tmps:=#[h0,h1,h2,h3,h4,h5,h6,h7,V 8,V 9,V 10,V 11,V 12,V 13,V 14,V 15,V 16,V 17,V 18,V 19,V 20,V 21,V 22,V 23,V 24,V 25,V 26,V 27,V 28,V 29,V 30,V 31,V 32,V 33,V 34,V 35,V 36,V 37,V 38,V 39,V 40,V 41,V 42,V 43,V 44,V 45,V 46,V 47,V 48,V 49,V 50,V 51,V 52,V 53,V 54,V 55,V 56,V 57,V 58],defers:=ds}
theorem SkT.of {t:Array Value} {h0 h1 h2 h3 h4 h5 h6 h7:Value} {ds:List Deferred} (hs:t.size=59:=by rfl) (k0:tg t 0=h0:=by rfl) (k1:tg t 1=h1:=by rfl) (k2:tg t 2=h2:=by rfl) (k3:tg t 3=h3:=by rfl) (k4:tg t 4=h4:=by rfl) (k5:tg t 5=h5:=by rfl) (k6:tg t 6=h6:=by rfl) (k7:tg t 7=h7:=by rfl):SkT h0 h1 h2 h3 h4 h5 h6 h7 ds {tmps:=t,defers:=ds}:=⟨tg t,by subst_vars;exact tgE hs ds⟩
end
def yfn (t:Int):Int:=min (max t (-1)) 12622780800
section
attribute [local go_sem] Yw
def yyB:List Int->Int × Int
 | []=>(0,15)
 | x::_=>(x,0)
def yhu (l:List Cl) (t:Int):Int × Int:=if yaf l≠0 then (0,yaf l) else yyB (ycJ l (yfn t+1) 12622780799)
structure yoZ (b:Nat) (x y:Int) (O:Blk) (W:World):Prop where
 c4:W.cell? (Z b 0 N)=G (E T x)
 c5:W.cell? (Z (b+1) 0 N)=G (E T y)
 f4:W.frozen? (Z b 0 N)=false
 f5:W.frozen? (Z (b+1) 0 N)=false
 o4:O b
 o5:O (b+1)
 lt:∀c,O c->c<W.heap.size
theorem yoZ.keep {b:Nat} {x y:Int} {O:Blk} {W W':World} (h:yoZ b x y O W) (hs:W.heap.size<=W'.heap.size) (hb:∀c,O c->W'.heap[c]? =W.heap[c]?):yoZ b x y O W':=
 ⟨(zzJ (w:=W) (a:=Z b 0 N) (hb _ h.o4)).trans h.c4,(zzJ (w:=W) (a:=Z (b+1) 0 N) (hb _ h.o5)).trans h.c5,
  (zzM (w:=W) (a:=Z b 0 N) (hb _ h.o4)).trans h.f4,(zzM (w:=W) (a:=Z (b+1) 0 N) (hb _ h.o5)).trans h.f5,h.o4,h.o5,λ c hc=>zH (h.lt c hc) hs⟩
theorem yoZ.set {b:Nat} {x y x' y':Int} {O:Blk} {W:World} (h:yoZ b x y O W):yoZ b x' y' O ((W.setCell (Z b 0 N) (E T x')).setCell (Z (b+1) 0 N) (E T y')):=by
 obtain ⟨h1,h2,h3,h4,h5,h6,h7⟩:=h;refine ⟨?_,?_,?_,?_,h5,h6,λ c hc=>by simpa using h7 c hc⟩ <;> simp [go_sem,h1,h2,h3,h4]
end
section
variable {F M:Blk} {m:Int} {bl d x:Nat} {c:Option Nat} {P:Program} {W W' w:World}
theorem yeD (cd:(w.cell? (Z d 0 N)).isSome=true) (cx:(w.cell? (Z x 0 N)).isSome=true) (hd:∀i,w.frozen? (Z d i N)=false) (hx:∀i,w.frozen? (Z x i N)=false) (aa:d≠x) :
  (sameAddr (Z d 0 N) (Z x 0 N)).run P w= .ok false w:=by
 have key:∀b,(w.cell? (Z b 0 N)).isSome=true->∃c t s,w.heap[b]? =G (J c t s):=λ b h=>by
  unfold World.cell? at h;split at h
  ·exact ⟨_,_,_,by assumption⟩
  ·cases h
 obtain ⟨c1,t1,s1,e1⟩:=key d cd;obtain ⟨c2,t2,s2,e2⟩:=key x cx;have sd:w.shape? d=G (t1,c1.size):=by unfold World.shape?;rw [e1]
 have sx:w.shape? x=G (t2,c2.size):=by unfold World.shape?;rw [e2]
 simp [sameAddr,aa,noView,viewAt,mayBeOne,stringish,hd,hx,sd,sx]
theorem yto {tp te:TypeId} {j:TypeInfo} (hp:P.underlying tp=G (.pointer te)) (ac:P.info? te=G j) (hsz:j.size≠0) (cd:(w.cell? (Z d 0 N)).isSome=true) (cx:(w.cell? (Z x 0 N)).isSome=true) (hd:∀i,w.frozen? (Z d i N)=false) (hx:∀i,w.frozen? (Z x i N)=false) :
  (binOp .neq tp (R (G (Z d 0 N))) (R (G (Z x 0 N)))).run P w= .ok (Xb (decide (d≠x))) w:=by
 have hs:(sameAddr (Z d 0 N) (Z x 0 N)).run P w= .ok (decide (d=x)) w:=by
  by_cases aa:d=x
  ·subst aa;rw [run_sameAddr_same];simp
  ·rw [yeD cd cx hd hx aa];simp [aa]
 have h:∀n:Nat,(Op.equalIn (n+1) tp (R (G (Z d 0 N))) (R (G (Z x 0 N)))).run P w= .ok (decide (d=x)) w:=λ n=>by
  simp [Op.equalIn,run_underlying hp,sizeOf,typeInfo,ac,hsz,hs]
 simp only [binOp];simp [Op.equal,Op.maxDepth,h 9999]
theorem ynC {q q':Nat->Bool} (hd:DiscAt w d q) (hx:DiscAt w x q'):(binOp .neq 84 (R (G (Z d 0 N))) (R (G (Z x 0 N)))).run I w= .ok (Xb (decide (d≠x))) w:=by
 have hi:((Tryz.prog.info? 163).map λ i=>decide (i.size≠0))=G true:=by kernel_rfl
 obtain ⟨f,h1,h2,-⟩:=hd;obtain ⟨g,g1,g2,-⟩:=hx;cases hj:Tryz.prog.info? 163 with
 | none=>rw [hj] at hi;cases hi
 | some j=>
   rw [hj] at hi;exact yto Tryz.underlying84 hj (by simpa using hi) (by rw [h1 0 zo];rfl) (by rw [g1 0 zo];rfl) h2 g2
structure ysL (bl:Nat) (c:Option Nat) (m:Int) (W:World):Prop where
 cl:W.cell? (Z bl 0 N)=G (ybA c)
 cm:W.cell? (Z (bl+1) 0 N)=G (E T m)
 fl:W.frozen? (Z bl 0 N)=false
 fm:W.frozen? (Z (bl+1) 0 N)=false
 lt:bl+1<W.heap.size
theorem ysL.block (h:ysL bl c m W) (hs:W.heap.size<=W'.heap.size) (h0:W'.heap[bl]? =W.heap[bl]?) (h1:W'.heap[bl+1]? =W.heap[bl+1]?):ysL bl c m W':=
 ⟨(zzJ (w:=W) (a:=Z bl 0 N) h0).trans h.cl,(zzJ (w:=W) (a:=Z (bl+1) 0 N) h1).trans h.cm,
  (zzM (w:=W) (a:=Z bl 0 N) h0).trans h.fl,(zzM (w:=W) (a:=Z (bl+1) 0 N) h1).trans h.fm,zH h.lt hs⟩
theorem ysL.set {c':Option Nat} {m':Int} (h:ysL bl c m W):ysL bl c' m' ((W.setCell (Z bl 0 N) (ybA c')).setCell (Z (bl+1) 0 N) (E T m')):=by
 obtain ⟨h1,h2,h3,h4,h5⟩:=h;refine ⟨?_,?_,?_,?_,by simpa using h5⟩ <;> simp [go_sem,h1,h2,h3,h4]
def Knows (c:Option Nat) (m:Int) (M F:Blk) (W:World):Prop:=∀x,c=G x->F x/\¬M x/\∃q,DiscAt W x q/\m= ((yak q).length:Nat)
theorem Knows.none:Knows N m M F W:=λ x h=>by cases h
theorem Knows.keep {F':Blk} (h:Knows c m M F W) (hs:W.heap.size<=W'.heap.size) (hF:∀b,F b->F' b) (hb:∀b,F b/\¬M b->W'.heap[b]? =W.heap[b]?):Knows c m M F' W':=λ x hx=>by
 obtain ⟨h1,h2,q,h3,h4⟩:=h x hx;exact ⟨hF x h1,h2,q,h3.block hs (hb x ⟨h1,h2⟩),h4⟩
abbrev yAh (bl:Nat):Value:=Xf (.func 113) #[] #[R (G (Z bl 0 N)),R (G (Z (bl+1) 0 N))]
theorem ymr (w:World):H I 55 #[] w λ e w'=>e=Q (Xf (.func 113) #[] #[R (G (Z w.heap.size 0 N)),R (G (Z (w.heap.size+1) 0 N))])/\w' = (w.alloc (J #[R N] 84)).alloc (J #[E T 0] 2):=by
 go_enter Tryz.func55,Tryz.ntmps55
 go_wp2;go_ret;exact ⟨rfl,rfl⟩
theorem yxs (bl d:Nat) (q:Nat->Bool) (c:Option Nat) (m:Int) (W:World) (h:ysL bl c m W) (hk:∀x,c=G x->∃q,DiscAt W x q/\m= ((yak q).length:Nat)) (hd:DiscAt W d q) :
  H I 113 #[R (G (Z d 0 N)),R (G (Z bl 0 N)),R (G (Z (bl+1) 0 N))] W λ e W'=>e=Q (E T ((yak q).length:Nat))/\Eff (λ b=>b=bl\/ b=bl+1) W W'/\ysL bl (G d) ((yak q).length:Nat) W':=by
 have cL:=hid (ykV (G d) q W hd);have hl:=ygb q;have hu:∀q',DiscAt W d q'->(yak q').length= (yak q).length:=λ q' h'=>by
  have e:(List.range 86400).filter q' = (List.range 86400).filter q:=List.filter_congr λ k hk=>DiscAt.unique h' hd k (YT.1 hk);rw [yak,yak,sel,sel,e]
 by_cases hc:c=G d
 ·subst hc;obtain ⟨q',h1,rfl⟩:=hk d rfl;have e:=hu q' h1;have hb:=ynC hd h1;rw [show decide (d≠d)=false by simp] at hb;have Hq:=hid h;rw [e] at Hq;obtain ⟨c1,c2,f1,f2,-⟩:=h;rw [e] at c2;replace c1:W.cell? (Z bl 0 N)=G (R (G (Z d 0 N))):=c1;generalize (yak q).length=L at *
  clear hd hu cL h1 e hk;go_enter Tryz.func113,Tryz.ntmps113
  go_wp2;go_ret;exact ⟨rfl,Eff.refl _ _,Hq⟩
 ·have hX:=hid (h.set (c':=G d) (m':=((yak q).length:Nat)));have hE:Hid (Eff (λ b=>b=bl\/ b=bl+1) W ((W.setCell (Z bl 0 N) (ybA (G d))).setCell (Z (bl+1) 0 N) (E T ((yak q).length:Nat)))):=((Eff.refl _ W).set (.inl rfl) _ _).set (.inr rfl) _ _;obtain ⟨c1,c2,f1,f2,-⟩:=h;generalize (yak q).length=L at *
  have ad:IntKind.i64.wrap (L:Int)=L:=Yn (L:Int) zo;clear hu;cases c with
  | none=>
    clear hd hk;replace c1:W.cell? (Z bl 0 N)=G (R N):=c1;go_enter Tryz.func113,Tryz.ntmps113
    go_wp2_with fail
    refine zm cL ?_;rintro w1 rfl;go_wp2;go_ret;exact ⟨rfl,hE,hX⟩
  | some x=>
    have hx:x≠d:=λ e=>hc (by rw [e]);have ab:d≠x:=λ e=>hx e.symm;obtain ⟨q',h1,-⟩:=hk x rfl;have hb:=ynC hd h1;rw [zzZ ab] at hb;clear h1 hd hk;replace c1:W.cell? (Z bl 0 N)=G (R (G (Z x 0 N))):=c1;go_enter Tryz.func113,Tryz.ntmps113
    go_wp2_with fail
    refine zm cL ?_;rintro w1 rfl;go_wp2;go_ret;exact ⟨rfl,hE,hX⟩
end
structure MtS (w:World) (F U:Int) (W:World):Prop where
 r0:W.cell? (Z w.heap.size 0 N)=G (E T 0)
 r1:W.cell? (Z w.heap.size 1 N)=G (E T 0)
 g0:W.frozen? (Z w.heap.size 0 N)=false
 g1:W.frozen? (Z w.heap.size 1 N)=false
 c0:W.cell? (Z (w.heap.size+1) 0 N)=G (E T F)
 c1:W.cell? (Z (w.heap.size+1) 1 N)=G (E T U)
 f0:W.frozen? (Z (w.heap.size+1) 0 N)=false
 f1:W.frozen? (Z (w.heap.size+1) 1 N)=false
 be:Bw w W
 l:w.heap.size+1<W.heap.size
theorem MtS.drew {w W:World} {F U:Int} (h:MtS w F U W):MtS w F U W.drew:=by
 have hd:Bw W W.drew:=(Ye _ _).drew;have l1:w.heap.size<W.heap.size:=by have:=h.l;omega
 exact ⟨(hd.cell (p:=Z w.heap.size 0 N) l1).trans h.r0,(hd.cell (p:=Z w.heap.size 1 N) l1).trans h.r1,(hd.frozen (p:=Z w.heap.size 0 N) l1).trans h.g0,(hd.frozen (p:=Z w.heap.size 1 N) l1).trans h.g1,
  (hd.cell (p:=Z (w.heap.size+1) 0 N) h.l).trans h.c0,(hd.cell (p:=Z (w.heap.size+1) 1 N) h.l).trans h.c1,(hd.frozen (p:=Z (w.heap.size+1) 0 N) h.l).trans h.f0,(hd.frozen (p:=Z (w.heap.size+1) 1 N) h.l).trans h.f1,h.be.trans (hd.mono zo),zH h.l hd.size⟩
section
variable {b3:Nat} {g:Nat->Nat} {W w:World}
def yv4 (s:Nat->Nat):List Value:= [E Y (s 0:Nat),E Y (s 1:Nat),E Y (s 2:Nat),E Y (s 3:Nat),E Y (s 4:Nat),E Y (s 5:Nat),E Y (s 6:Nat)]
def sets (L:List (Nat->Nat)):List Value:=L.flatMap yv4
theorem ylg (L:List (Nat->Nat)):(sets L).length=L.length*7:=by
 induction L with
 | nil=>rfl
 | cons s L ih=>
   have:sets (s::L)=yv4 s++sets L:=by simp [sets]
   rw [this,YG,ih,Yu,Zk];simp [yv4];omega
theorem ymM:∀(L:List (Nat->Nat)) (k:Nat) (hk:k<L.length) (i:Nat),i<7->(sets L)[k*7+i]? =G (E Y (L[k] i:Nat))
 | s::L,0,_,i,hi=>by
   have e:sets (s::L)=yv4 s++sets L:=(by simp [sets]);rw [e,ZJ,zzn,Yo (by simpa [yv4] using hi)];rcases ylf hi with rfl | rfl | rfl | rfl | rfl | rfl | rfl <;> rfl
 | s::L,k+1,hk,i,hi=>by
   have e:sets (s::L)=yv4 s++sets L:=(by simp [sets]);have h7:(yv4 s).length=7:=rfl;rw [e,Yl (by rw [h7];omega),h7,show (k+1)*7+i-7=k*7+i by omega,ymM L k (by simpa using hk) i hi];rfl
theorem Sl.atW {a:Option Addr} {L:List (Nat->Nat)} (h:Sl w a (sets L)) {k:Nat} (hk:k<L.length) :
  ∃b off,a=G (Z b off N)/\b<w.heap.size/\∀j (h:j<L.length) i,i<7->w.cell? ⟨b,off+j*7+i,N⟩=G (E Y (L[j] i:Nat)):=by
 obtain ⟨b,off,rfl,hlt,hc⟩:=Sl.at h (k:=k*7) (by rw [ylg];omega);refine ⟨b,off,rfl,hlt,λ j hj i hi=>?_⟩;obtain ⟨h1,h2⟩:=zzq.1 (ymM L j hj i hi);rw [ZN,hc _ h1,h2]
def BoK (w W:World) (b3:Nat) (g:Nat->Nat):Prop:=WCells W b3 g/\WFree W b3/\WCells W w.heap.size (λ _=>0)/\WFree W w.heap.size/\Bw w W/\w.heap.size<b3/\b3<W.heap.size
theorem BoK.below {W':World} (h:BoK w W b3 g) (hb:Bw W W'):BoK w W' b3 g:=by
 obtain ⟨d1,d2,d3,d4,d5,d6,d7⟩:=h;exact ⟨d1.below hb d7,d2.below hb d7,d3.below hb zo,d4.below hb zo,d5.trans (hb.mono zo),d6,zH d7 hb.size⟩
theorem BoK.set (h:BoK w W b3 g) {i:Nat} (hi:i<7) (v:Nat):BoK w (W.setCell (Z b3 i N) (E Y v)) b3 (λ j=>if j=i then v else g j):=by
 obtain ⟨d1,d2,d3,d4,d5,d6,d7⟩:=h;exact ⟨d1.set hi,d2.set _ _,λ j hj=>(zzJ (w:=W) (a:=Z w.heap.size j N) (Ym _ _ _ _ (by simp only [];omega))).trans (d3 j hj),d4.set _ _,yab d5 zo,d6,by simpa [go_sem] using d7⟩
theorem BoK.drew (h:BoK w W b3 g):BoK w W.drew b3 g:=⟨h.1,h.2.1,h.2.2.1,h.2.2.2.1,h.2.2.2.2.1.drew,h.2.2.2.2.2⟩
theorem BoK.congr {t:Nat->Nat} (h:BoK w W b3 g) (e:∀i,i<7->g i=t i):BoK w W b3 t:=⟨h.1.congr e,h.2⟩
end
section
variable {a:Act} {ae:Array Oper} {Qq:Exit->Act->World->Prop} {rest:List Oper} {xs:List Value} {base bytes n nn:Nat} {o:Oper} {r:Option Nat} {P:Program} {e t:TypeId} {v z:Value} {W:World}
theorem yvK {size:Nat} (Eq1:El P t e z size bytes) (s x:Operand)
  (ag:o.guard=N) (ho:o.op= .call {callee:= .builtin .append,args:=#[s,x],argTypes:=#[t,t]})
     {ax:Option Addr} {m c:Nat} {news:List Value} (hs:a.eval s=v) (hx:a.eval x=Xs ax m c) (ac:W.ownsRow base e size v n xs)
  (hl:news.length=m*size) (af:Sl W ax news) (ad:ax=N->c=0) (h1:∀u∈news,u.oneCell' =true)
  (hn:n+m<=1000000000000) (ah:(n+m)*bytes<=140737488355328) (ab:base<=W.heap.size)
  (K:∀a' aa w',w'.ownsRow base e size (Xs a' (n+m) aa) (n+m) (xs++news)->W.grownBy w' v.ownBlock->Below base W w'->
    (∀k,Value.ownBlock (Xs a' (n+m) aa)=G k->v.ownBlock=G k\/ W.heap.size<=k)->wpListIn (WF r) nn P ae Qq rest (a.put o.dst (Xs a' (n+m) aa)) w') :
  wpListIn (WF r) nn P ae Qq (o::rest) a W:=by
 refine wpListIn_plain ag λ K' aj=>?_;obtain ⟨a',aa,w',hr,ai,hg,hb,hf⟩:=ylk Eq1 W o.type ac hl af ad h1 hn ah ab;unfold Oper.wpIn;refine ⟨λ _ _=>trivial,?_⟩;rw [Oper.semAt_plain (WF r) _ _ (by rw [ho];intro c hc;cases hc)];unfold execOp;simp only [ho,resolve,invoke,builtin,ZC,ZR,Zf,List.map_toArray,List.map_cons,ZS,hs,hx,hr];exact aj _ _ (K a' aa w' ai hg hb hf)
theorem yy4 (Eq1:El P t e z 1 bytes) (s x:Operand)
  (ag:o.guard=N) (ho:o.op= .call {callee:= .builtin .append,args:=#[s,x],argTypes:=#[t,t]})
     {u:Value} (hs:a.eval s=v) {g:Nat} (hx:a.eval x=Xs (G (Z g 0 N)) 1 1) (hg:g=W.heap.size) (ac:W.ownsRow base e 1 v n xs) (hu:u.oneCell' =true)
  (hn:n+1<=1000000000000) (ah:(n+1)*bytes<=140737488355328) (ab:base<=W.heap.size)
  (K:∀a' aa w',w'.ownsRow base e 1 (Xs a' (n+1) aa) (n+1) (xs ++ [u])->W.grownBy w' v.ownBlock->Below base W w'->
    (∀k,Value.ownBlock (Xs a' (n+1) aa)=G k->v.ownBlock=G k\/ W.heap.size<=k)->wpListIn (WF r) nn P ae Qq rest (a.put o.dst (Xs a' (n+1) aa)) w') :
  wpListIn (WF r) nn P ae Qq (o::rest) a (W.alloc (J #[u] e)):=by
 subst hg;refine yvK Eq1 s x ag ho hs hx (ac.alloc _) (news:= [u]) rfl ?_ (λ h=>by cases h) ?_ hn ah (by simp;omega) ?_
 ·refine .inr ⟨W.heap.size,0,rfl,by simp,λ j hj=>?_⟩;have:j=0:=by simp at hj;omega
  subst this;simp
 ·intro y hy;simp at hy;subst hy;exact hu
 ·intro a' aa w' h1 h2 h3 h4;refine K a' aa w' h1 (ydl (World.grownBy_alloc W _ _) h2) (((Ye base W).alloc ab _).trans h3) (λ k hk=>?_);rcases h4 k hk with h | h
  ·exact .inl h
  ·refine .inr (zI ?_ h);simp
end
end Go.Proofs.YtkdaiadfgfbgmaaGreatDoor
namespace Go.Proofs.YtkdaiadfgfbgmaaGreatDoor.Cov
open Go.RowKit Go.Maps
set_option linter.unusedVariables false
theorem _root_.Go.Proofs.YtkdaiadfgfbgmaaGreatDoor.Sl.drop {w:World} {b off:Nat} {cs:List Value} (h:Sl w (G (Z b off N)) cs) (k:Nat):Sl w (G (Z b (off+k) N)) (cs.drop k):=by
 rcases h with h | ⟨b',aa,e,hb,hc⟩
 ·subst h;exact .inl zs
 ·cases e;refine .inr ⟨b,off+k,rfl,hb,λ j hj=>?_⟩;have:=hc (k+j) (by simp at hj;omega);rw [ZN,this];simp
end Go.Proofs.YtkdaiadfgfbgmaaGreatDoor.Cov
namespace Go.Proofs.YtkdaiadfgfbgmaaGreatDoor
open Go.RowKit Go.Maps
set_option linter.unusedVariables false
section
attribute [local go_sem] Yw
theorem yjy (gf:Nat) (lb:Array Value) (ab:∀args w,(callFunc gf args).run I w= .ok (.enter gf args) w) (xs:List Int) (ae:xs.length<=100000) (w:World)
  (aa:∀W,Bw w W->W.heap.size=w.heap.size+1->yfV I gf lb xs (λ b=>b=w.heap.size) W) :
  H I 215 #[Xs N 0 0,Xf (.func gf) #[] lb] w λ e w'=>∃v,e=Q v/\w'.ownsRow w.heap.size 3 1 v xs.length (yaR xs)/\Bw w w':=by
 have aj:=hid aa;clear aa;obtain ⟨W1,ac⟩:=zx (w.alloc (J #[Xs N 0 0] 22));have q1:W1.cell? (Z w.heap.size 0 N)=G (Xs N 0 0):=by rw [<- ac];simp [go_sem]
 have q2:W1.frozen? (Z w.heap.size 0 N)=false:=by rw [<- ac];simp [go_sem]
 have q3:W1.heap.size=w.heap.size+1:=by rw [<- ac];simp
 have q4:Hid (Bw w W1):=by rw [<- ac];exact yaa (Ye _ _) zg
 have ap:Hid (CollK w.heap.size (w.heap.size+1) xs 0 (λ b=>b=w.heap.size) W1):=
  ⟨_,q1,ZA _ _ _ _,q2,by omega,by omega,rfl,(λ b h=>nomatch h),λ b hb=>by omega⟩
 have ao:=hid ac;clear ac q1 q2;refine (wf_calls (r:=N) (n:=1)).mp ?_;refine callsIn_of_wp_marks Tryz.func215 rfl trivial ?_ rfl;simp only [Tryz.ntmps215,Yp,Yu,YS,Nat.reduceAdd,Nat.reduceSub,YE,YD,YQ,YJ,Y0,YH];gi_wp2_with fail
 rw [ao];refine ybj (gf:=gf) (lb:=lb) rfl ab xs (λ b=>b=w.heap.size) rfl (aj W1 q4 q3)
  (CollK w.heap.size (w.heap.size+1) xs) (λ _ _ _ _=>False) (λ k O W W' h hs hO=>h.stab hs hO) (λ _ _ _ _ _ h _ _=>h.elim) (λ k O W h=>h.lt) (λ _ _ _ _ h=>h.elim) ap
  (λ k O a' W=>CollK w.heap.size (w.heap.size+1) xs k O W/\∀hk:k<xs.length,a' = {tmps:=#[Xs N 0 0,Xf (.func gf) #[] lb,R (G (Z w.heap.size 0 N)),undef,Xs N 0 0,E T xs[k],Xf (.func gf) #[] lb,E T xs[k],undef,undef,undef,undef,undef],defers:= []})
  (λ l o k O a' W' hr hn h=>⟨ybJ (λ k O W W' h hs hO=>h.stab hs hO) h.1 hn o,h.2⟩) ?assign ?body ?done ?stop
 case assign=>
  intro l k O W K hk hI hG hK;gi_wp2
  exact hK _ O W (yaM.refl _ _) ⟨hI,λ _=>rfl⟩
 case body=>
  rintro l k O a' W hk hG hl ak ar ⟨⟨v,h1,h3,h4,h5,h8,g1,g3,g4⟩,ha⟩;rw [ha hk];obtain ⟨x,hx⟩:=zx (xs[k]);have ht:=hid (yal xs k hk);rw [hx] at ht⊢;clear hx ha;obtain ⟨a,cap,rfl,hs,ai⟩:=ya5 h3;have H3:=hid h3;have Gq:=hid (Ya g1 (Ya g3 g4));clear g1 g3 g4 hs h3;gi_wp2_with (gi_at_builtin;refine yy4 yAf (.tmp 8) (.tmp 10) rfl rfl rfl rfl rfl H3 rfl zo zo zo ?_)
  intro a' ag w' ad hg hb hf;have e1:=yh3 hg h1 (λ e=>by have:=ybl H3 e;omega);have ah:=hid ad;have Hf:=hid hf;have Hb:=hid hb;have Hg:=hid hg;have an:w'.frozen? (Z w.heap.size 0 N)=false:=(hb.frozen (p:=Z w.heap.size 0 N) h5).trans h4;clear ad hf hb hg h1 h4;gi_wp2
  obtain ⟨g1,g3,g4⟩:=Gq.out;have af:=Hg.out;have hsz:W.heap.size<=w'.heap.size:=af.size;have aq:(w'.setCell (Z w.heap.size 0 N) (Xs a' (k+1) ag)).heap.size=w'.heap.size:=by simp [go_sem]
  refine ⟨λ b=>O b\/ (W.heap.size<=b/\b<w'.heap.size),⟨λ b h=> .inl h,λ b h=>h.imp id (·.1),?_⟩,?_⟩
  ·refine ⟨af.os,af.tape,af.output,by omega,λ b hb hn=>?_⟩;have al:b≠w.heap.size:=λ e=>hn (e ▸ g1);rw [Ym _ _ _ _ al];exact af.block b hb (λ e=>hn (g3 b e.symm))
  ·refine ⟨Xs a' (k+1) ag,by simp [go_sem,e1],?_,by simp [go_sem,an],h5,by omega, .inl g1,λ b hb=>?_,λ b hb=>?_⟩
   ·rw [ht,ygY,ytQ];exact ownsRow_setCell_below ah zs _
   ·rcases Hf b hb with h | h
    ·exact .inl (g3 b h)
    ·exact .inr ⟨h,(ybl ah hb).2⟩
   ·rcases hb with h | h
    ·have:=g4 b h;omega
    ·omega
 case done=>
  rintro O' W' hG ⟨v,h1,h3,h4,h5,h8,g1,g3,g4⟩ hD am;rw [YW] at h3;have HO:=hid h3;obtain ⟨a,cap,rfl,hs,ai⟩:=ya5 h3;clear hs h3;gi_wp2
  refine ⟨by simp, .inl ⟨_,_,rfl,YM hD,?_⟩⟩;refine ⟨_,results_tmp rfl _ _ _,_,rfl,?_,yaF (q4.trans (hG.eff.below (by rintro b rfl;exact zG _) q4.size)) zo _⟩;refine yaJ (ydE HO zo) (λ b hb=>Yc (λ e=>am ?_));exact e ▸ g3 b hb
 case stop=>
  intro c k O' W' _ _ _ h;exact h.elim
theorem ymv (gf:Nat) (lb:Array Value) (ab:∀args w,(callFunc gf args).run I w= .ok (.enter gf args) w) (xs:List Int) (ae:xs.length<=100000) (w:World)
  (aa:∀W,Bw w W->W.heap.size=w.heap.size+1->yfV I gf lb xs (λ b=>b=w.heap.size) W) :
  H I 200 #[Xf (.func gf) #[] lb] w λ e w'=>∃v,e=Q v/\w'.ownsRow w.heap.size 3 1 v xs.length (yaR xs)/\Bw w w':=by
 have c1:=hid (yjy gf lb ab xs ae w aa);clear aa ab;go_enter Tryz.func200,Tryz.ntmps200
 go_wp2_with fail
 refine (yel c1).mono ?_;rintro e w1 ⟨a,n,cap,rfl,hn,hs,ho,hB⟩;have Ho:=hid ho;have HB:=hid hB;obtain rfl:=hn.out;clear ho hs hB hn;go_wp2;go_ret;exact ⟨_,rfl,Ho,HB⟩
end
section
attribute [local go_sem] Yw
structure SmC (b5 bg base:Nat) (many:Int) (xs:List Int) (k:Nat) (O:Nat->Prop) (W:World) (v:Value):Prop where
 cg:W.cell? (Z bg 0 N)=G v
 c5:W.cell? (Z b5 0 N)=G (E T many)
 own:W.ownsRow base 2 1 v k (yaR (xs.take k))
 fg:W.frozen? (Z bg 0 N)=false
 lg:bg<base
 l5:b5<base
 ne:bg≠b5
 bs:base<=W.heap.size
 og:O bg
 o5:O b5
 ov:∀b,v.ownBlock=G b->O b
 lt:∀b,O b->b<W.heap.size
theorem SmC.keep {b5 bg base:Nat} {many:Int} {xs:List Int} {k:Nat} {O:Nat->Prop} {W W':World} {v:Value} (h:SmC b5 bg base many xs k O W v) (hs:W.heap.size<=W'.heap.size) (hO:∀b,O b->W'.heap[b]? =W.heap[b]?):SmC b5 bg base many xs k O W' v:=
 ⟨(zzJ (w:=W) (a:=Z bg 0 N) (hO bg h.og)).trans h.cg,(zzJ (w:=W) (a:=Z b5 0 N) (hO b5 h.o5)).trans h.c5,yaJ h.own (λ b hb=>hO b (h.ov b hb)),
   (zzM (w:=W) (a:=Z bg 0 N) (hO bg h.og)).trans h.fg,h.lg,h.l5,h.ne,zI h.bs hs,h.og,h.o5,h.ov,λ b hb=>zH (h.lt b hb) hs⟩
def SmT (h0 h1 h2 h3 h4 h5 h6 h7:Value) (ds:List Deferred) (a:Act):Prop:=∃u:Nat->Value,a= {tmps:=#[h0,h1,h2,h3,h4,h5,u 0,u 1,u 2,u 3,h6,h7,u 4,u 5,u 6,u 7,u 8,u 9,u 10,u 11,u 12,u 13,u 14,u 15,u 16,u 17,u 18,u 19,u 20,u 21,u 22,u 23,u 24,u 25,u 26,u 27,u 28,u 29,u 30,u 31,u 32],defers:=ds}
theorem SmT.of {h0 h1 h2 h3 h4 h5 h6 h7 u6 u7 u8 u9 aE aD aC aB aA az ay ax aw av au ar aq ap ao an am al ak aj ai ah ag af ae ad ac ab aa:Value} {ds:List Deferred}:SmT h0 h1 h2 h3 h4 h5 h6 h7 ds {tmps:=#[h0,h1,h2,h3,h4,h5,u6,u7,u8,u9,h6,h7,aE,aD,aC,aB,aA,az,ay,ax,aw,av,au,ar,aq,ap,ao,an,am,al,ak,aj,ai,ah,ag,af,ae,ad,ac,ab,aa],defers:=ds}:=
 ⟨λ i=>(#[u6,u7,u8,u9,aE,aD,aC,aB,aA,az,ay,ax,aw,av,au,ar,aq,ap,ao,an,am,al,ak,aj,ai,ah,ag,af,ae,ad,ac,ab,aa]:Array Value).getD i undef,rfl⟩
end
section
variable {L:List Value} {b k:Nat} {W:World}
structure LsB (b:Nat) (L:List Value) (W:World):Prop where
 r:W.rangeAt b 0 L
 z:∀i,W.frozen? (Z b i N)=false
 lt:b<W.heap.size
theorem LsB.block {W':World} (h:LsB b L W) (hs:W.heap.size<=W'.heap.size) (hb:W'.heap[b]? =W.heap[b]?):LsB b L W':=
 ⟨λ j v hv=>(zzJ (w:=W) (a:=Z b (0+j) N) hb).trans (h.r j v hv),λ i=>(zzM (w:=W) (a:=Z b i N) hb).trans (h.z i),zH h.lt hs⟩
theorem LsB.set (h:LsB b L W) (hk:k<L.length) (u:Value):LsB b (L.set k u) (W.setCell (Z b k N) u):=by
 refine ⟨λ j v hv=>?_,λ i=>by simpa [go_sem] using h.z i,by simpa using h.lt⟩;rw [zzn];by_cases hj:j=k
 ·subst hj;rw [List.getElem?_set_self hk] at hv;have aa:u=v:=by simpa using hv
  have h6:=h.r j _ (zzp hk);rw [zzn] at h6;rw [<- aa];exact zzW _ _ _ (by rw [h6])
 ·rw [List.getElem?_set_ne zo] at hv;have h6:=h.r j v hv;rw [zzn] at h6;rw [zzL _ _ _ _ (by intro e;injection e with _ e2 _;exact hj zo)];exact h6
theorem LsB.at (h:LsB b L W) {v:Value} (e:L[k]? =G v):W.cell? (Z b k N)=G v:=by
 have:=h.r k v e;rwa [zzn] at this
def yiK:List Value->Nat->List Value->List Value
 | L,_,[]=>L
 | L,o,v::vs=>yiK (L.set o v) (o+1) vs
@[simp] theorem putCs_len:∀(vs:List Value) (o:Nat) (L:List Value),(yiK L o vs).length=L.length
 | [],_,_=>rfl
 | v::vs,o,L=>by rw [yiK,putCs_len vs,List.length_set]
theorem LsB.sets:∀(vs:List Value) (o:Nat) {L:List Value} {W:World},LsB b L W->o+vs.length<=L.length->LsB b (yiK L o vs) (W.setCells b o vs)
 | [],_,_,_,h,_=>h
 | v::vs,o,L,W,h,hl=>by
   rw [yiK,World.setCells];rw [Yu] at hl;exact LsB.sets vs (o+1) (h.set zo v) (by rw [List.length_set];omega)
theorem LsB.there (h:LsB b L W) {o n:Nat} (hl:o+n<=L.length):W.there b o n:=λ j hj=>by
 have h6:=h.at (zzp (l:=L) (i:=o+j) zo);exact ⟨by rw [h6];rfl,h.z (o+j)⟩
end
section
open Go.ChangeShapes Go.WideShapes Go.ChangeAt Go.RowKit
theorem ylp:ownKnob Tryz.prog.godebug=N:=by kernel_rfl
theorem yra:laidOutB I=true:=by kernel_rfl
theorem yAc:Tryz.prog.globalNamed "math/bits.deBruijn64tab" =some 0:=by kernel_rfl
theorem ytY:(Tryz.prog.globals[0]?).map (·.type)=G 274:=by kernel_rfl
theorem yuu:Tryz.prog.cellsOf 274=64:=by kernel_rfl
theorem yxd:Tryz.prog.cellsOf 5=1:=by kernel_rfl
def tabInts:List Int:=Lib.deBruijn64tab.map λ (n:Nat)=>(n:Int)
theorem ylb:∀i,i<64->tabInts.getD i 0= ((Lib.deBruijn64tab.getD i 0:Nat):Int):=by decide
theorem yxS {W:World} (h:laidMetH Tryz.prog [("math/bits.deBruijn64tab",Rows.laid_math_bits_deBruijn64tab)] W):Tab W:=by
 have ht:Lib.TabIs Tryz.prog W "math/bits.deBruijn64tab" .u8 tabInts:=Lib.tabIs_of_head (rest:= []) yAc ytY Tryz.underlying274 Tryz.underlying5 yxd yuu h;have hc:∀i,i<64->W.cell? ⟨0,i,N⟩=G (.int .u8 (tabInts.getD i 0)):=λ i hi=>ht.cell yAc i hi;exact ⟨Nat.lt_of_le_of_lt (Zm _) (World.block_lt_of_cell? W _ (hc 0 zo)),λ i hi=>by rw [hc i hi,ylb i hi]⟩
noncomputable def ygX (os:Os):World:=
 {World.holding I os ⟨#[],#[],[]⟩ with heap:=(World.holding I os ⟨#[],#[],[]⟩).heap.modify 0 λ
   | J _ t frozen=>J (tabInts.map (Value.int .u8)).toArray t frozen
   | o=>o}
end
