/- torule.list makes the list of a mask's numbers; to -/
import Derived.Test.YtkdaiadfgfbgmaaGreatDoorQfbd445
import Derived.Test.YtkdaiadfgfbgmaaGreatDoorQ14fdf2
set_option maxRecDepth 100000
set_option maxHeartbeats 25600000
set_option linter.unusedSimpArgs false
open Option renaming none -> N, some -> G
open Go.Value renaming int -> E, pointer -> R, slice -> Xs, bool -> Xb, func -> Xf, tuple -> Xt
open Go.IntKind renaming i64 -> T, u64 -> Y
open Go.Addr renaming mk -> Z
open Go renaming Calls -> H
open Go.Proofs.Tryz renaming prog -> I
open Go.Obj renaming cells -> J
open Go.Ending renaming returned -> Q
namespace Go.Proofs.YtkdaiadfgfbgmaaGreatDoor
open Go.RowKit Go.Maps
set_option linter.unusedVariables false
def mkN (m:Nat):List Int:=sel m.testBit 64
theorem ya1 (m:Nat):(mkN m).length<=64:=yeh m.testBit 64
theorem yhe (m:Nat) (w:World) (hm:m<18446744073709551616) (hT:Tab w) :
  H I 163 #[E Y m] w λ e w'=>∃v,e=Q v/\w'.ownsRow w.heap.size 3 1 v (mkN m).length (yaR (mkN m))/\Bw w w':=by
 have c1:=hid (yd6 m w hm);have af:=ya1 m;have HT:=hid hT;have h0:=hT.1;have c2:=hid (λ W b (hB:Bw w W) (hb:b<W.heap.size) (ag:W.cell? (Z b 0 N)=G (E Y m))=>yel (ymv 201 #[R (G (Z b 0 N))] yb8 (mkN m) zo W
  (λ W1 al ae=>yb7 m b _ W1 hm zo zo ((al.cell (p:=Z b 0 N) hb).trans ag) ((HT.later hB).later al) (zp hB.size))))
 generalize am:mkN m=xs at c2 af⊢
 clear hT am;go_enter Tryz.func163,Tryz.ntmps163
 go_wp2_with fail
 refine zm c1 ?_;rintro w1 ⟨ak,ac,aj⟩;have c4:=hid (c2 w1 _ ac aj ak);have an:=hid ac;have ae:=ac.size;clear ak ac aj;go_wp2_with fail
 refine c4.mono ?_;rintro e w2 ⟨a,n,cap,rfl,hn,hs,ho,hB⟩;obtain rfl:=hn.out;have ah:=hid (an.trans (hB.mono ae));have Ho:=hid (ydE ho ae);clear hs ho hB hn;go_wp2;go_ret;exact ⟨_,rfl,Ho,ah⟩
def yb1 (l:List Int):List Int:=l.map λ x=>-x
def ykZ (l:List Int) (k:Nat):List Int:=yb1 (l.take k)++l.drop k
theorem ytE (l:List Int) (k:Nat):(ykZ l k).length=l.length:=by
 rw [ykZ,yb1,YG,Yi,YX,List.length_drop];omega
theorem ywr (l:List Int) {k:Nat} (hk:k<l.length):(ykZ l k)[k]? =G l[k]:=by
 rw [ykZ,Yl (by rw [yb1,Yi,YX];omega),yb1,Yi,YX,List.getElem?_drop];rw [show k+(k-min k l.length)=k by omega,zzp hk]
theorem ytD (l:List Int) {k:Nat} (hk:k<l.length):(ykZ l k).set k (-(l[k]))=ykZ l (k+1):=by
 apply List.ext_getElem?;intro j;rw [List.getElem?_set,ytE,Yd hk];by_cases h:k=j
 ·subst h;rw [Yd rfl,ykZ,Yo (by rw [yb1,Yi,YX];omega),yb1,Y9,List.getElem?_take,Yd zo,zzp hk];rfl
 ·rw [Yb h];by_cases hj:j<k
  ·rw [ykZ,ykZ,Yo (by rw [yb1,Yi,YX];omega),Yo (by rw [yb1,Yi,YX];omega),yb1,yb1,Y9,Y9,List.getElem?_take,List.getElem?_take,Yd hj,Yd zo]
  ·rw [ykZ,ykZ,Yl (by rw [yb1,Yi,YX];omega),Yl (by rw [yb1,Yi,YX];omega),yb1,yb1,Yi,Yi,YX,YX,List.getElem?_drop,List.getElem?_drop];congr 1;omega
theorem ytP (l:List Int) (k:Nat) (x:Int):(yaR l).set k (E T x)=yaR (l.set k x):=by rw [yaR,yaR,List.map_set]
theorem yfx (B:Nat) (v:Value) (l:List Int) (w:World) (hl:l.length<=64) (hx:∀x∈l,-100<=x/\x<=100) (ho:w.ownsRow B 3 1 v l.length (yaR l)) (hb:B<=w.heap.size) :
  H I 165 #[v] w λ e w'=>e=Q v/\w'.ownsRow B 3 1 v l.length (yaR (yb1 l))/\Below B w w':=by
 obtain ⟨a,cap,rfl,-,-⟩:=ya5 ho;have HX:=hid hx;have Ho:=hid ho;have ap:(l.length:Int)<=64:=zo;clear hx ho;go_enter Tryz.func165,Tryz.ntmps165
 go_wp2_with fail
 go_loopw [3,6] (λ v3 v6 wr=>∃k:Nat,v6=E T k/\k<=l.length/\Hid (wr.ownsRow B 3 1 (Xs a l.length cap) l.length (yaR (ykZ l k)))/\Hid (Below B w wr)) (λ _ v6 _=>l.length-(intOf v6).toNat)
 case atStart=>exact ⟨0,rfl,by omega,by rw [ykZ,List.take_zero,List.drop_zero];exact Ho,Ye _ _⟩
 case round=>
  obtain ⟨k,rfl,hk,HO,HB⟩:=hrel;by_cases hlt:k<l.length
  ·obtain ⟨g,aa,ad,hv,hg,hc,-⟩:∃g aa ad,Value.slice a l.length cap=Xs (G (Z g 0 N)) l.length aa/\B<=g/\wr.heap[g]? =G (J ad 3 (0,0))/\True:=by
    rcases HO.2 with ⟨-,h⟩ | ⟨g,aa,ad,h1,h2,h3,-⟩
    ·omega
    ·exact ⟨g,aa,ad,h1,h2,h3,trivial⟩
   injection hv with e1 e2 e3
   subst e1;have h0:=HO.out;have c0:=h0.cellAt k zo;have z0:=h0.frozenAt k;rw [yaR,Y9,ywr l hlt] at c0;have ai:=HX l[k] (zzr hlt);have ab:=(h0.stored k (E T (-(l[k])))).1;rw [show (yaR (ykZ l k)).set k (E T (-(l[k])))=yaR (ykZ l (k+1)) by rw [ytP,ytD l hlt]] at ab;obtain ⟨x,hx⟩:=zx (l[k]);rw [hx] at c0 ab ai;have ao:IntKind.i64.wrap (-x)= -x:=Yn _ zo;have HS:=hid ab;have ah:Hid (Below B w (wr.setCell (Z g k N) (E T (-x)))):=HB.setCell (p:=Z g k N) hg _;clear h0 ab hx hc ai;go_wp2;exact ⟨⟨k+1,by go_num,by omega,HS,ah⟩,by simp [intOf];omega⟩
  ·obtain rfl:k=l.length:=zo;have h:=HO.out;rw [ykZ,YW,List.drop_length,List.append_nil] at h;have HO:=hid h;clear h;go_wp2;go_ret;exact ⟨rfl,HO,HB⟩
section
variable {F F':Blk} {m:Nat} {W W':World}
def RuE (c r:Ru):Prop:=r= {c with a5:=r.a5,c5:=r.c5,a6:=r.a6,c6:=r.c6,a7:=r.a7,c7:=r.c7,a8:=r.a8,c8:=r.c8,a9:=r.a9,c9:=r.c9,ax:=r.ax,cx:=r.cx}
theorem RuE.refl (r:Ru):RuE r r:=rfl
def ybF (u:Nat->Nat) (fi la:Int) (g:Nat->Int) (q:Nat):Ru:={st:=fi,fq:=(q:Int),iv:=max (g q) 1,co:=0,un:=la,l5:=mkN (u 3),a5:=N,c5:=0,l6:= [],a6:=N,c6:=0,l7:= [],a7:=N,c7:=0,l8:=mkN (u 2),a8:=N,c8:=0,l9:=mkN (u 1),a9:=N,c9:=0,lx:=mkN (u 0),ax:=N,cx:=0}
def yhS (u:Nat->Nat) (how:Int) (aa:Bool) (d:Nat):List Int:=
 if how=1 then (if aa=true then mkN (u (30+d)) else mkN (u (14+d))) else if how=2 then (if aa=true then yb1 (mkN (u (38+d))) else yb1 (mkN (u (22+d)))) else [0]
def ysK (u:Nat->Nat) (how:Int) (aa:Bool) (d:Int):List (Int × Int):=(yhS u how aa d.toNat).map λ n=>(n,d)
def ydb (u:Nat->Nat) (how:Int) (aa:Bool):List (Int × Int):=(mkN (u 6)).flatMap (ysK u how aa)
def ykY (u:Nat->Nat) (r:Ru) (ds:List Int) (h:Int):Ru:={r with l6:=ds,l7:=ydb u h (decide (r.l5.length=0))}
def ya0 (u:Nat->Nat) (r:Ru) (hows:List Int):List Ru:=(hows.map (ykY u r (mkN (u 4))))++hows.map (ykY u r (yb1 (mkN (u 5))))
def ofL (u:Nat->Nat) (fi la:Int) (g:Nat->Int) (q:Nat):List Ru:=
 if q=4 then [{ybF u fi la g q with l7:=ydb u 0 false}] else if q=5 then ya0 u (ybF u fi la g q) [0,1,2] else if q=6 then ya0 u (ybF u fi la g q) [0,1,2]++ya0 u {ybF u fi la g q with l5:= []} [1,2] else ya0 u (ybF u fi la g q) [0]
theorem ytu (u:Nat->Nat) (how:Int) (aa:Bool) (d:Nat):(yhS u how aa d).length<=64:=by
 unfold yhS;split
 ·split <;> exact ya1 _
 ·split
  ·split <;> (rw [yb1,Yi];exact ya1 _)
  ·decide
theorem yjf {α β:Type} (f:α->List β) (m:Nat) (hf:∀x,(f x).length<=m):∀l:List α,(l.flatMap f).length<=l.length*m
 | []=>by simp
 | x::l=>by
   rw [ZZ,YG,Yu,Nat.add_mul,Nat.one_mul];have:=hf x;have:=yjf f m hf l;omega
theorem ym9 (u:Nat->Nat) (how:Int) (aa:Bool) (d:Int):(ysK u how aa d).length<=64:=by rw [ysK,Yi];exact ytu _ _ _ _
theorem yna (u:Nat->Nat) (how:Int) (aa:Bool):(ydb u how aa).length<=4096:=
 zI (yjf _ 64 (ym9 u how aa) _) (zp (ya1 (u 6)))
theorem yea {x:Int}:x∈mkN m↔∃k:Nat,k<64/\m.testBit k=true/\x= (k:Int):=by
 rw [mkN,sel,YA];constructor
 ·rintro ⟨k,hk,rfl⟩;rw [Y5,YT] at hk;exact ⟨k,hk.1,hk.2,rfl⟩
 ·rintro ⟨k,h1,h2,rfl⟩;exact ⟨k,Y5.2 ⟨YT.2 h1,h2⟩,rfl⟩
def SlB (F:Blk) (a:Option Addr) (cs:List Value) (W:World):Prop:=cs= []\/ ∃b off,a=G (Z b off N)/\F b/\b<W.heap.size/\∀j (h:j<cs.length),W.cell? (Z b (off+j) N)=G cs[j]
section
variable {F F':Blk} {W W':World} {a:Option Addr} {cs:List Value}
theorem SlB.sl (h:SlB F a cs W):Sl W a cs:=by
 rcases h with h | ⟨b,off,e,-,hb,hc⟩
 ·exact .inl h
 ·exact .inr ⟨b,off,e,hb,hc⟩
theorem SlB.keep (h:SlB F a cs W) (hs:W.heap.size<=W'.heap.size) (hF:∀b,F b->F' b) (hb:∀b,F b->W'.heap[b]? =W.heap[b]?):SlB F' a cs W':=by
 rcases h with h | ⟨b,off,e,h1,h2,hc⟩
 ·exact .inl h
 ·exact .inr ⟨b,off,e,hF b h1,zH h2 hs,λ j hj=>(zzJ (w:=W) (a:=Z b (off+j) N) (hb b h1)).trans (hc j hj)⟩
theorem SlB.own {e:TypeId} {s n cap B:Nat} (h:W.ownsRow B e s (Xs a n cap) n cs) (hF:∀b,B<=b->b<W.heap.size->F b):SlB F a cs W:=by
 rcases h.2 with ⟨he,hn⟩ | ⟨g,ab,ac,he,hb,hg,-,-,-,ht⟩
 ·refine .inl (YB ?_);rw [h.1,hn,ZJ]
 ·injection he with e1
  have hlt:g<W.heap.size:=(YZ.1 hg).1;rcases ylo h with h0 | ⟨b,off,e2,h2,h3⟩
  ·exact .inl h0
  ·rw [e1] at e2;injection e2 with e2
   injection e2 with e3 e4
   subst e3;subst e4;exact .inr ⟨_,_,e1,hF _ hb h2,h2,h3⟩
end
structure RuK (F:Blk) (r:Ru) (W:World):Prop where
 s5:SlB F r.a5 (yaR r.l5) W
 s6:SlB F r.a6 (yaR r.l6) W
 s7:SlB F r.a7 (yeF r.l7) W
 s8:SlB F r.a8 (yaR r.l8) W
 s9:SlB F r.a9 (yaR r.l9) W
 sx:SlB F r.ax (yaR r.lx) W
theorem RuK.s {r:Ru} (h:RuK F r W):RuS W r:=⟨h.s5.sl,h.s6.sl,h.s7.sl,h.s8.sl,h.s9.sl,h.sx.sl⟩
theorem RuK.keep {r:Ru} (h:RuK F r W) (hs:W.heap.size<=W'.heap.size) (hF:∀b,F b->F' b) (hb:∀b,F b->W'.heap[b]? =W.heap[b]?):RuK F' r W':=
 ⟨h.s5.keep hs hF hb,h.s6.keep hs hF hb,h.s7.keep hs hF hb,h.s8.keep hs hF hb,h.s9.keep hs hF hb,h.sx.keep hs hF hb⟩
def VRu (cs:List Ru) (k:Nat) (vs:Array Value) (F:Blk) (W:World):Prop:=∃c r,cs[k]? =G c/\vs= #[ruv r]/\RuE c r/\RuK F r W/\∀b,F b->b<W.heap.size
abbrev noM:Blk:=λ _=>False
def ycv (F:Blk) (W W':World):Blk:=λ b=>F b\/ (W.heap.size<=b/\b<W'.heap.size)
structure TlS (Jq:ydt) (O0 F0:Blk) (W0:World) (k:Nat) (O F:Blk) (W:World):Prop where
 j:Jq k O F W
 gr:yci noM O0 O W0 W
 sub:∀b,F0 b->F b
 new:∀b,F b->F0 b\/ W0.heap.size<=b
 dj:∀b,F b->¬O b
 lt:∀b,F b->b<W.heap.size
section
variable {P:Program} {y:Value} {n:Nat} {V:Nat->Array Value->Blk->World->Prop} {Jq Jx:ydt} {O0 F0 O F O':Blk} {W0 W W':World} {k:Nat}
theorem TlS.start (hC:yfB P y n V noM Jq Jx O0 W0) (hJ:Jq 0 O0 F0 W0) (hd:∀b,F0 b->¬O0 b) (hl:∀b,F0 b->b<W0.heap.size):TlS Jq O0 F0 W0 0 O0 F0 W0:=
 ⟨hJ,yci.refl _ _ _,λ _ h=>h,λ _ h=> .inl h,hd,hl⟩
theorem TlS.olt (h:TlS Jq O0 F0 W0 k O F W) (hC:yfB P y n V noM Jq Jx O0 W0):∀b,O b->b<W.heap.size:=hC.lt k O F W h.j
theorem TlS.call (h:TlS Jq O0 F0 W0 k O F W) (hC:yfB P y n V noM Jq Jx O0 W0) (hB:Bw W W'):TlS Jq O0 F0 W0 k O (ycv F W W') W':=by
 have hO:=h.olt hC;refine ⟨hC.stab k O F _ W W' h.j hB.size (λ b hb=> .inl hb) (λ b hb=>hB.block b (hb.elim (hO b) λ h1=>h.lt b h1.1)),h.gr.trans ⟨λ _ h=>h,λ _ h=> .inl h,Eff.of_below hB⟩,λ b hb=> .inl (h.sub b hb),λ b hb=>?_,λ b hb ho=>?_,λ b hb=>?_⟩
 ·rcases hb with hb | hb
  ·exact h.new b hb
  ·exact .inr (zI h.gr.eff.size hb.1)
 ·rcases hb with hb | hb
  ·exact h.dj b hb ho
  ·have:=hO b ho;omega
 ·rcases hb with hb | hb
  ·exact zH (h.lt b hb) hB.size
  ·exact hb.2
theorem TlS.told (h:TlS Jq O0 F0 W0 k O F W) {J':ydt} (hJ:J' m O' F W') (h1:∀b,O b->O' b) (h2:∀b,O' b->O b\/ W.heap.size<=b) (hE:Eff O W W'):TlS J' O0 F0 W0 m O' F W':=
 ⟨hJ,h.gr.trans ⟨h1,h2,hE.wide λ b hb=> .inl hb⟩,h.sub,h.new,λ b hb ho=>by
  rcases h2 b ho with h3 | h3
  ·exact h.dj b hb h3
  ·have:=h.lt b hb;omega,λ b hb=>zH (h.lt b hb) hE.size⟩
end
theorem yg3 (w:World) (t:TypeId) (u:Nat->Nat) (fi la n:Int) (ev sq:Bool):FcB w.heap.size u fi la n ev sq (w.alloc (J (fcL u fi la n ev sq).toArray t)):=by
 have key:∀j v,(fcL u fi la n ev sq)[j]? =G v->(w.alloc (J (fcL u fi la n ev sq).toArray t)).cell? (Z w.heap.size j N)=G v:=λ j v hv=>by
  have:=yap w (fcL u fi la n ev sq) t j v hv;rwa [zzn] at this
 refine ⟨λ i hi=>key i _ ?_,key 46 _ rfl,key 47 _ rfl,key 48 _ rfl,key 49 _ rfl,key 50 _ rfl,λ i=>yan w _ _ i,by simp⟩;simp only [fcL];rw [Yo (by simpa using hi)];simp [hi]
structure FcF (bf:Nat) (u:Nat->Nat) (fi la n:Int) (ev sq:Bool) (F:Blk) (W:World):Prop where
 c:FcB bf u fi la n ev sq W
 tab:Tab W
 inF:F bf/\F 0
 lt:∀b,F b->b<W.heap.size
theorem FcF.keep {bf:Nat} {u:Nat->Nat} {fi la n:Int} {ev sq:Bool} (h:FcF bf u fi la n ev sq F W) (hs:W.heap.size<=W'.heap.size) (hF:∀b,F b->F' b) (hl:∀b,F' b->b<W'.heap.size) (hb:∀b,F b->W'.heap[b]? =W.heap[b]?):FcF bf u fi la n ev sq F' W':=
 ⟨h.c.block hs (hb _ h.inF.1),⟨zH h.tab.1 hs,λ i hi=>(zzJ (w:=W) (a:=⟨0,i,N⟩) (hb _ h.inF.2)).trans (h.tab.2 i hi)⟩,⟨hF _ h.inF.1,hF _ h.inF.2⟩,hl⟩
end
section
attribute [local go_sem] Yw
variable {t:Array Value} {h0 h1 h2 h3 h4 h5 h6 h7 v:Value}
theorem yzO:El I 23 102 (.agg #[E T 0,E T 0]) 2 16:=⟨Tryz.underlying23,by kernel_rfl,by kernel_rfl,by decide⟩
theorem ytx (a b:List (Int × Int)):yeF (a++b)=yeF a++yeF b:=by rw [yeF,yeF,yeF,ZE]
def CoN (bg base:Nat) (L:List (Int × Int)) (O:Blk) (W:World):Prop:=
 ∃v,W.cell? (Z bg 0 N)=G v/\W.ownsRow base 102 2 v L.length (yeF L)/\W.frozen? (Z bg 0 N)=false/\bg<base/\base<=W.heap.size/\O bg/\(∀b,v.ownBlock=G b->O b)/\(∀b,O b->b<W.heap.size)
section
variable {bg base:Nat} {L:List (Int × Int)} {O:Blk} {W W':World}
theorem CoN.stab (h:CoN bg base L O W) (hs:W.heap.size<=W'.heap.size) (hO:∀b,O b->W'.heap[b]? =W.heap[b]?):CoN bg base L O W':=by
 obtain ⟨v,h1,h3,h4,h5,h8,g1,g3,g4⟩:=h;exact ⟨v,(zzJ (w:=W) (a:=Z bg 0 N) (hO bg g1)).trans h1,yaJ h3 (λ b hb=>hO b (g3 b hb)),
  (zzM (w:=W) (a:=Z bg 0 N) (hO bg g1)).trans h4,h5,by omega,g1,g3,λ b hb=>by have:=g4 b hb;omega⟩
theorem CoN.lt (h:CoN bg base L O W):∀b,O b->b<W.heap.size:=by
 obtain ⟨v,h1,h3,h4,h5,h8,g1,g3,g4⟩:=h;exact g4
theorem CoN.call (h:CoN bg base L O W) (hB:Bw W W'):CoN bg base L O W':=h.stab hB.size λ b hb=>hB.block b (h.lt b hb)
theorem CoN.app (h:CoN bg base L O W) (hv:W.cell? (Z bg 0 N)=G v) {x:Int × Int} {a':Option Addr} {ac:Nat} (ho:W'.ownsRow base 102 2 (Xs a' (L.length+1) ac) (L.length+1) (yeF L++ypr x)) (hg:W.grownBy W' v.ownBlock) (hb:Below base W W')
  (hf:∀k,Value.ownBlock (Xs a' (L.length+1) ac)=G k->v.ownBlock=G k\/ W.heap.size<=k) :
  CoN bg base (L ++ [x]) (λ b=>O b\/ (W.heap.size<=b/\b<W'.heap.size)) (W'.setCell (Z bg 0 N) (Xs a' (L.length+1) ac))/\Eff O W (W'.setCell (Z bg 0 N) (Xs a' (L.length+1) ac))/\W'.frozen? (Z bg 0 N)=false/\(W'.cell? (Z bg 0 N)).isSome=true:=by
 obtain ⟨v',h1,h3,h4,h5,h8,g1,g3,g4⟩:=h;rw [hv] at h1;injection h1 with h1;subst h1;have e1:=yh3 hg hv (λ e=>by have:=ybl h3 e;omega);have hsz:=hg.size;have aY:W'.frozen? (Z bg 0 N)=false:=(hb.frozen (p:=Z bg 0 N) h5).trans h4;have bB:(W'.setCell (Z bg 0 N) (Xs a' (L.length+1) ac)).heap.size=W'.heap.size:=by simp [go_sem]
 refine ⟨⟨Xs a' (L.length+1) ac,by simp [go_sem,e1],?_,by simp [go_sem,aY],h5,by omega, .inl g1,λ b hb=>?_,λ b hb=>?_⟩,⟨hg.os,hg.tape,hg.output,by omega,λ b hb hn=>?_⟩,aY,by rw [e1];rfl⟩
 ·rw [YG,ytx];exact ownsRow_setCell_below ho (by show bg<base;exact h5) _
 ·rcases hf b hb with h | h
  ·exact .inl (g3 b h)
  ·exact .inr ⟨h,(ybl ho hb).2⟩
 ·rcases hb with h | h
  ·have:=g4 b h;omega
  ·omega
 ·have bl:b≠bg:=λ e=>hn (e ▸ g1);rw [Ym _ _ _ _ bl];exact hg.block b hb (λ e=>hn (g3 b e.symm))
end
def WkT (h0 h1 h2 h3 h4 h5 h6 h7 aA:Value) (ds:List Deferred) (a:Act):Prop:=∃V:Nat->Value,a= {tmps:=#[h0,h1,h2,h3,h4,h5,h6,h7,V 8,V 9,V 10,V 11,V 12,V 13,V 14,V 15,aA,V 17,V 18,V 19,V 20,V 21,V 22,V 23,V 24,V 25,V 26,V 27,V 28,V 29,V 30,V 31,V 32,V 33,V 34,V 35,V 36,V 37,V 38,V 39,V 40,V 41,V 42,V 43,V 44,V 45,V 46,V 47,V 48,V 49,V 50,V 51,V 52,V 53,V 54,V 55,V 56,V 57,V 58,V 59,V 60,V 61,V 62,V 63,V 64,V 65,V 66,V 67,V 68,V 69,V 70,V 71],defers:=ds}
theorem WkT.of {aA:Value} {ds:List Deferred} (hs:t.size=72:=by rfl) (k0:tg t 0=h0:=by rfl) (k1:tg t 1=h1:=by rfl) (k2:tg t 2=h2:=by rfl) (k3:tg t 3=h3:=by rfl) (k4:tg t 4=h4:=by rfl) (k5:tg t 5=h5:=by rfl) (k6:tg t 6=h6:=by rfl) (k7:tg t 7=h7:=by rfl) (bA:tg t 16=aA:=by rfl):WkT h0 h1 h2 h3 h4 h5 h6 h7 aA ds {tmps:=t,defers:=ds}:=⟨tg t,by subst_vars;exact tgE hs ds⟩
def WkU (h0 h1 h2 h3 h4 h5 h6 h7 h8:Value) (ds:List Deferred) (a:Act):Prop:=∃V:Nat->Value,a= {tmps:=#[h0,h1,h2,h3,h4,h5,h6,h7,h8,V 9,V 10,V 11,V 12,V 13,V 14,V 15,V 16,V 17,V 18,V 19,V 20,V 21,V 22,V 23,V 24,V 25,V 26,V 27,V 28,V 29,V 30,V 31,V 32,V 33,V 34,V 35,V 36,V 37,V 38,V 39,V 40,V 41,V 42,V 43,V 44,V 45,V 46,V 47,V 48,V 49,V 50,V 51,V 52,V 53,V 54,V 55,V 56,V 57,V 58,V 59,V 60,V 61,V 62,V 63,V 64,V 65,V 66,V 67,V 68,V 69,V 70,V 71],defers:=ds}
theorem WkU.of {h8:Value} {ds:List Deferred} (hs:t.size=72:=by rfl) (k0:tg t 0=h0:=by rfl) (k1:tg t 1=h1:=by rfl) (k2:tg t 2=h2:=by rfl) (k3:tg t 3=h3:=by rfl) (k4:tg t 4=h4:=by rfl) (k5:tg t 5=h5:=by rfl) (k6:tg t 6=h6:=by rfl) (k7:tg t 7=h7:=by rfl) (k8:tg t 8=h8:=by rfl):WkU h0 h1 h2 h3 h4 h5 h6 h7 h8 ds {tmps:=t,defers:=ds}:=⟨tg t,by subst_vars;exact tgE hs ds⟩
theorem yy3 {r:Option Nat} {nn:Nat} {W:World} {aU:Array Oper} {rest:List Oper} {o:Oper} {a:Act} {Qq:Exit->Act->World->Prop} (s x:Operand)
  (bn:o.guard=N) (ho:o.op= .call {callee:= .builtin .append,args:=#[s,x],argTypes:=#[23,23]})
  {base:Nat} {n:Nat} {xs:List Value} {y z:Int} (hs:a.eval s=v) {g:Nat} (hx:a.eval x=Xs (G (Z g 0 N)) 1 1) (hg:g=W.heap.size) (ak:W.ownsRow base 102 2 v n xs) (hn:n<=1000000) (ax:base<=W.heap.size)
  (K:∀a' ac w',w'.ownsRow base 102 2 (Xs a' (n+1) ac) (n+1) (xs++ypr (y,z))->W.grownBy w' v.ownBlock->Below base W w'->
    (∀k,Value.ownBlock (Xs a' (n+1) ac)=G k->v.ownBlock=G k\/ W.heap.size<=k)->wpListIn (WF r) nn I aU Qq rest (a.put o.dst (Xs a' (n+1) ac)) w') :
  wpListIn (WF r) nn I aU Qq (o::rest) a (W.alloc (J #[E T y,E T z] 102)):=by
 subst hg;refine yvK yzO s x bn ho hs hx (ak.alloc _) (news:=ypr (y,z)) rfl ?_ (λ h=>by cases h) ?_ zo zo (by simp;omega) ?_
 ·refine .inr ⟨W.heap.size,0,rfl,by simp,λ j hj=>?_⟩;have:j=0\/ j=1:=by simp [ypr] at hj;omega
  rcases this with rfl | rfl <;> simp [ypr,go_sem]
 ·intro u hu;simp [ypr] at hu;rcases hu with rfl | rfl <;> rfl
 ·intro a' ac w' h1 h2 h3 h4;refine K a' ac w' h1 (ydl (World.grownBy_alloc W _ _) h2) (((Ye base W).alloc ax _).trans h3) (λ k hk=>?_);rcases h4 k hk with h | h
  ·exact .inl h
  ·refine .inr (zI ?_ h);simp
def yjA (u:Nat->Nat) (how:Int) (aa:Bool) (k:Nat):List (Int × Int):=((mkN (u 6)).take k).flatMap (ysK u how aa)
theorem ytl (u:Nat->Nat) (how:Int) (aa:Bool):yjA u how aa (mkN (u 6)).length=ydb u how aa:=by rw [yjA,YW,ydb]
theorem yqg (u:Nat->Nat) (how:Int) (aa:Bool) {k:Nat} (hk:k<(mkN (u 6)).length):yjA u how aa k++ysK u how aa (mkN (u 6))[k]=yjA u how aa (k+1):=by
 rw [yjA,yjA,List.take_add_one,ZE,zzp hk];simp
theorem ytk (u:Nat->Nat) (how:Int) (aa:Bool) (k:Nat):(yjA u how aa k).length<=4096:=
 zI (yjf _ 64 (ym9 u how aa) _) (by have:=ya1 (u 6);rw [YX];omega)
theorem ykG (u:Nat->Nat) (fi la n:Int) (ev sq:Bool) (how:Int) (aa:Bool) (w:World) (hh:how=0\/ how=1\/ how=2) (hu:∀i,i<46->u i<18446744073709551616) (h6:∀x∈mkN (u 6),x<8) (hT:Tab w) :
  H I 116 #[fcv u fi la n ev sq,E T how,Xb aa] w λ e w'=>∃v,e=Q v/\w'.ownsRow w.heap.size 102 2 v (ydb u how aa).length (yeF (ydb u how aa))/\Bw w w':=by
 have ap:=hT.1;have hA:=yg3 w 43 u fi la n ev sq;have e0:(w.alloc (J (fcL u fi la n ev sq).toArray 43)).heap.size=w.heap.size+1:=zzN _ _;have b0:Bw w (w.alloc (J (fcL u fi la n ev sq).toArray 43)):=yaa (Ye _ _) zg;rw [yhx];generalize bq:(fcL u fi la n ev sq).toArray=A at hA e0 b0⊢
 obtain ⟨W0,aK⟩:=zx (w.alloc (J A 43));rw [aK] at hA e0 b0;obtain ⟨W4,ao⟩:=zx (((W0.alloc (J #[E T how] 3)).alloc (J #[Xb aa] 4)).alloc (J #[Xs N 0 0] 23));have s4:W4.heap.size=W0.heap.size+3:=by rw [<- ao];simp
 have b4:Bw W0 W4:=by rw [<- ao];exact yaa (yaa (yaa (Ye _ _) zg) zs) (by simp;omega)
 have B4:Bw w W4:=zu b0 b4;have ch:W4.cell? (Z W0.heap.size 0 N)=G (E T how):=by rw [<- ao];simp [go_sem]
 have cy:W4.cell? (Z (W0.heap.size+1) 0 N)=G (Xb aa):=by rw [<- ao];simp [go_sem]
 have cg:W4.cell? (Z (W0.heap.size+2) 0 N)=G (Xs N 0 0):=by rw [<- ao];simp [go_sem]
 have zg:W4.frozen? (Z (W0.heap.size+2) 0 N)=false:=by rw [<- ao];simp [go_sem]
 have aN:=hA.block b4.size (b4.block _ hA.lt);have aB:Hid (CoN (W0.heap.size+2) W4.heap.size (yjA u how aa 0) (λ b=>b=W0.heap.size+2) W4):=
  ⟨_,cg,ZA _ _ _ _,zg,by omega,zG _,rfl,(λ b h=>nomatch h),λ b hb=>by omega⟩
 have bb:=hid (hT.later B4);have aT:=hid B4;have aD:=hid aN;have Ch:=hid ch;have Cy:=hid cy;have bs:=hid aK;have br:=hid ao;have E0:=hid e0;have S4:=hid s4;have cM:=hid (λ W=>yd6 (u 6) W (hu 6 zo));have cL:=hid (λ i W (hi:i<46) hT=>yel (yhe (u i) W (hu i hi) hT));have H6:=hid h6;have c6:=aN.c 6 zo;have Hu:=hid hu;obtain ⟨bf,aP⟩:=zx w.heap.size;obtain ⟨bh,aO⟩:=zx W0.heap.size;rw [aP] at c6 aD;rw [aO] at aB Ch Cy;have aE:=hid aP;have bH:=hid aO;obtain ⟨bY,aI⟩:=zx (bh+1);obtain ⟨bg,a0⟩:=zx (bh+2);have ae:Hid (bf+1=bh/\bh+1=bY/\bY+1=bg/\bg+1=W4.heap.size):=⟨by omega,aI,by omega,by omega⟩;rw [a0] at aB;rw [aI] at Cy;clear aI a0;clear bq hA e0 b0 aK ao s4 b4 B4 ch cy cg zg aN hT hu h6 aP aO;refine (wf_calls (r:=N) (n:=1)).mp ?_;refine callsIn_of_wp_marks Tryz.func116 rfl trivial ?_ rfl;simp only [Tryz.ntmps116,Yp,Yu,YS,Nat.reduceAdd,Nat.reduceSub,YE,YD,YQ,YJ,Y0,YH];gi_upto_region 2 with fail
 rw [bs,br,aE,ae.1,ae.2.1,ae.2.2.1];gi_wp2_with fail
 refine (wf_calls.mpr (cM W4)).mono ?_;rintro e w5 ⟨rfl,aX,am,aW⟩;have bv:=hid (aB.call am);have be:=hid (aD.block am.size (am.block _ aD.lt));have bx:=hid ((am.cell (p:=Z bh 0 N) (show bh<W4.heap.size by have:=ae.out;omega)).trans Ch);have bw:=hid ((am.cell (p:=Z bY 0 N) (show bY<W4.heap.size by have:=ae.out;omega)).trans Cy);have ba:=hid (bb.later am);have aS:=hid (zu aT am);have tn:Hid (¬0=bg):=by
  have h1:=ap;have h2:=ae.out;have h3:=aE.out;show¬_;omega
 have tl:=hid (yb7 (u 6) (W4.heap.size+1) (λ b=>b=bg) w5 (Hu 6 zo) aW (by show¬_ = _;have:=ae.out;omega) aX ba (by exact tn));have S5:Hid (W4.heap.size<=w5.heap.size):=am.size;clear aX am aW c6 aB bb aD Ch Cy aT ap;gi_wp2_with fail
 have a2:ybI (λ k O W=>CoN bg W4.heap.size (yjA u how aa k) O W):=λ k O W W' h hs hO=>h.stab hs hO;refine ybj (gf:=201) (lb:=#[R (G (Z (W4.heap.size+1) 0 N))]) rfl yb8 (mkN (u 6)) (λ b=>b=bg) rfl tl
  (λ k O W=>CoN (bg) W4.heap.size (yjA u how aa k) O W) (λ _ _ _ _=>False) a2 (λ _ _ _ _ _ h _ _=>h.elim) (λ k O W h=>h.lt) (λ _ _ _ _ h=>h.elim) bv
  (λ k O a' W=>CoN (bg) W4.heap.size (yjA u how aa k) O W/\∃x,(mkN (u 6))[k]? =G x/\WkU (.agg A) (E T how) (Xb aa) (R (G (Z bf 0 N))) (R (G (Z bh 0 N))) (R (G (Z bY 0 N))) (Xs N 0 0) (R (G (Z bg 0 N))) (E T x) [] a')
  (λ l o k O a' W' hr hn h=>⟨ybJ a2 h.1 hn o,h.2⟩) ?assign ?body ?done ?stop
 case assign=>
  intro l k O W K hk hI hG hK;gi_wp2
  exact hK _ O W (yaM.refl _ _) ⟨hI,_,zzp hk,WkU.of⟩
 case stop=>
  intro c k O' W' _ _ _ h;exact h.elim
 case done=>
  rintro O' W' hG ⟨v,h1,h3,h4,h5,h8,g1,g3,g4⟩ hD bm;rw [ytl] at h3;have HO:=hid h3;obtain ⟨a,cap,rfl,hs,bo⟩:=ya5 h3;have HG:=hid hG;clear hs h3 hG;gi_wp2
  refine ⟨by simp, .inl ⟨_,_,rfl,YM hD,?_⟩⟩;refine ⟨_,results_tmp rfl _ _ _,_,rfl,?_,yaF (aS.trans (HG.eff.below (by rintro b rfl;have:=ae.out;have:=aE.out;omega) aS.size)) (zp aS.out.size) _⟩;refine yaJ (ydE HO (by have:=ae.out;have:=aE.out;omega)) (λ b hb=>Yc (λ e=>bm ?_));exact e ▸ g3 b hb
 case body=>
  rintro l k O a' W hk hG hl bk bC ⟨hI,x,ex,U,rfl⟩;obtain ⟨aH,aG⟩:=zzq.1 ex;have al:=zzr aH;rw [aG] at al;obtain ⟨d,-,-,rfl⟩:=yea.1 al;have aZ:=H6 _ al;have bF:(d:Int)<8:=aZ;have hd:d<8:=zo;have a4:=hI.lt;have aV:Hid (yjA u how aa k++(yhS u how aa d).map (λ n=>(n,(d:Int)))=yjA u how aa (k+1)):=by
   have h:=yqg u how aa aH;rw [aG] at h;exact h
  have kf:FcB bf u fi la n ev sq W:=be.block hG.eff.size (hG.eff.block _ be.lt (zp ae.out));have kh:=(hG.cell (b:=bh) (by have:=ae.out;have:=S5.out;omega) (zp ae.out) 0).trans bx;have ky:=(hG.cell (b:=bY) (by have:=ae.out;have:=S5.out;omega) (zp ae.out) 0).trans bw;have a1:Tab W:=ba.eff hG.eff (by exact tn);have HI:=hid hI;have HO:=hid a4;have HG:=hid hG;clear hk aG al aZ hI a4 hG ex aH tl;have a7:Hid (bf<W.heap.size/\bh<W.heap.size/\bY<W.heap.size/\bg<W.heap.size):=by
   have h1:=HG.eff.size;have h2:=S5.out;have h3:=ae.out;exact ⟨by omega,by omega,by omega,by omega⟩
  have an:Bw W (W.alloc (J #[E T 0] 3)):=yaa (Ye _ _) zg;have aR:Hid (SlB (λ b=>W.heap.size<=b) (G (Z W.heap.size 0 N)) (yaR [0]) (W.alloc (J #[E T 0] 3))):=
   .inr ⟨W.heap.size,0,rfl,zG _,by simp,λ j hj=>by
    have:j=0:=by simp [yaR] at hj;omega
    subst this;simp [yaR,go_sem]⟩
  have bj:=(an.cell (p:=Z bh 0 N) a7.2.1).trans kh;have bi:=(an.cell (p:=Z bY 0 N) a7.2.2.1).trans ky;have au:=kf.block an.size (an.block _ kf.lt);have ap:=a1.later an;obtain ⟨WN,aJ⟩:=zx (W.alloc (J #[E T 0] 3));rw [aJ] at aR an bj bi au ap;have a8:=hid aJ;have ag:=hid an;clear an aJ kh ky kf a1;gi_upto_region 4 with fail
  iterate 11 gi_step
  rw [a8];(try dsimp only);gi_cut [9] from 18 (λ x9 wx=>Hid (∃(a:Option Addr) (n c:Nat) (NS:List Int),x9=Xs a n c/\SlB (λ b=>W.heap.size<=b) a (yaR NS) wx/\Bw W wx/\n=NS.length/\NS.length<=64/\NS=yhS u how aa d))
  case first=>
   rcases hh with rfl | rfl | rfl;focus
    have ay:Hid (SlB (λ b=>W.heap.size<=b) (G (Z W.heap.size 0 N)) (yaR [0]) WN/\Bw W WN/\1= ([0]:List Int).length/\([0]:List Int).length<=64/\ [0]=yhS u 0 aa d):=⟨aR,ag,rfl,by decide,rfl⟩;clear aR
   rotate_left;focus
    cases aa;focus
     have cf:=au.c (14+d) zo;gi_wp2_with fail
     refine (wf_calls.mpr (cL (14+d) _ zo ap)).mono ?_;rintro e wn ⟨a9,n9,c9,rfl,ad,-,af,aj⟩;have ab:=ya1 (u (14+d));have ah:Hid (mkN (u (14+d))=yhS u 1 false d):=rfl;obtain ⟨NS,ai⟩:=zx (mkN (u (14+d)));rw [ai] at ad af ab ah;have ay:Hid (SlB (λ b=>W.heap.size<=b) a9 (yaR NS) wn/\Bw W wn/\n9=NS.length/\NS.length<=64/\NS=yhS u 1 false d):=⟨SlB.own af (λ b h _=>zI ag.size h),zu ag aj,ad,ab,ah⟩
    rotate_left;focus
     have cf:=au.c (30+d) zo;gi_wp2_with fail
     refine (wf_calls.mpr (cL (30+d) _ zo ap)).mono ?_;rintro e wn ⟨a9,n9,c9,rfl,ad,-,af,aj⟩;have ab:=ya1 (u (30+d));have ah:Hid (mkN (u (30+d))=yhS u 1 true d):=rfl;obtain ⟨NS,ai⟩:=zx (mkN (u (30+d)));rw [ai] at ad af ab ah;have ay:Hid (SlB (λ b=>W.heap.size<=b) a9 (yaR NS) wn/\Bw W wn/\n9=NS.length/\NS.length<=64/\NS=yhS u 1 true d):=⟨SlB.own af (λ b h _=>zI ag.size h),zu ag aj,ad,ab,ah⟩
    rotate_left;all_goals
     clear ad af aj ai ab ah cf
   rotate_left 2;focus
    cases aa;focus
     have cf:=au.c (22+d) zo;gi_wp2_with fail
     refine (wf_calls.mpr (cL (22+d) _ zo ap)).mono ?_;rintro e wn ⟨a9,n9,c9,rfl,ad,-,af,aj⟩;have ab:=ya1 (u (22+d));have ah:Hid (yb1 (mkN (u (22+d)))=yhS u 2 false d):=rfl;obtain ⟨NS,ai⟩:=zx (mkN (u (22+d)));rw [ai] at ad af ab ah;have av:∀x∈NS,-100<=x/\x<=100:=λ x hx=>by
      rw [<- ai] at hx;obtain ⟨k,h1,-,rfl⟩:=yea.1 hx;omega
     have ar:=af;rw [ad] at ar;have cB:=hid (yfx WN.heap.size _ NS wn ab av ar aj.size);rw [<- ad] at cB;have aC:=hid aj;have aQ:=hid ad.out;clear ad af ar aj av ai cf;gi_wp2_with fail
     refine (wf_calls.mpr cB).mono ?_;rintro e wm ⟨rfl,ho,az⟩;have ay:Hid (SlB (λ b=>W.heap.size<=b) a9 (yaR (yb1 NS)) wm/\Bw W wm/\n9= (yb1 NS).length/\(yb1 NS).length<=64/\yb1 NS=yhS u 2 false d):=
      ⟨SlB.own ho (λ b h _=>zI ag.size h),ag.trans ((aC.trans az).mono ag.size),by rw [yb1,Yi];exact aQ,by rw [yb1,Yi];exact ab,ah⟩
    rotate_left;focus
     have cf:=au.c (38+d) zo;gi_wp2_with fail
     refine (wf_calls.mpr (cL (38+d) _ zo ap)).mono ?_;rintro e wn ⟨a9,n9,c9,rfl,ad,-,af,aj⟩;have ab:=ya1 (u (38+d));have ah:Hid (yb1 (mkN (u (38+d)))=yhS u 2 true d):=rfl;obtain ⟨NS,ai⟩:=zx (mkN (u (38+d)));rw [ai] at ad af ab ah;have av:∀x∈NS,-100<=x/\x<=100:=λ x hx=>by
      rw [<- ai] at hx;obtain ⟨k,h1,-,rfl⟩:=yea.1 hx;omega
     have ar:=af;rw [ad] at ar;have cB:=hid (yfx WN.heap.size _ NS wn ab av ar aj.size);rw [<- ad] at cB;have aC:=hid aj;have aQ:=hid ad.out;clear ad af ar aj av ai cf;gi_wp2_with fail
     refine (wf_calls.mpr cB).mono ?_;rintro e wm ⟨rfl,ho,az⟩;have ay:Hid (SlB (λ b=>W.heap.size<=b) a9 (yaR (yb1 NS)) wm/\Bw W wm/\n9= (yb1 NS).length/\(yb1 NS).length<=64/\yb1 NS=yhS u 2 true d):=
      ⟨SlB.own ho (λ b h _=>zI ag.size h),ag.trans ((aC.trans az).mono ag.size),by rw [yb1,Yi];exact aQ,by rw [yb1,Yi];exact ab,ah⟩
    rotate_left;all_goals
     clear ho az aC cB ab ah
   rotate_left 2;all_goals
    gi_wp2_with fail
    gi_meet
    exact hid ⟨_,_,_,_,rfl,ay⟩
  case rest=>
   obtain ⟨a9,n9,c9,NS,rfl,a3,aM,rfl,ab,a5⟩:=hcut.out;have bt:=hid a3;have bd:=hid aM;have bu:=hid (HI.call aM);have a6:=hid aV.out;rw [<- a5] at a6;clear hcut a3 aM aV a5 HI ag a8;gi_wp2_with fail
   gi_loopw [11,60] (λ bz aF wr=>∃(j:Nat) (O':Blk),aF=E T j/\j<=NS.length/\Hid (CoN bg W4.heap.size (yjA u how aa k++(NS.take j).map (λ n=>(n,(d:Int)))) O' wr/\(∀b,O b->O' b)/\(∀b,O' b->O b\/ wc.heap.size<=b)/\Eff O wc wr)) (λ _ aF _=>NS.length-(intOf aF).toNat)
   case atStart=>exact ⟨0,O,rfl,by omega,by simpa using bu.out,λ _ h=>h,λ _ h=> .inl h,Eff.refl _ _⟩
   case round=>
    obtain ⟨j,O',rfl,hj,HJ⟩:=hrel;by_cases hlt:j<NS.length
    ·obtain ⟨b,off,rfl,bG,bp,hc⟩:∃b off,a9=G (Z b off N)/\W.heap.size<=b/\b<wc.heap.size/\∀j (h:j<NS.length),wc.cell? (Z b (off+j) N)=G (E T NS[j]):=by
      rcases bt.out with h | ⟨b,off,e,h1,h2,hc⟩
      ·have:(yaR NS).length=0:=by rw [h];rfl
       rw [yaX] at this;omega
      ·exact ⟨b,off,e,h1,h2,λ j hj=>by rw [hc j (by rw [yaX];exact hj)];simp [yaR]⟩
     have e1:=(HJ.2.2.2.cell (p:=Z b (off+j) N) bp (λ h=>by have:=HO b h;omega)).trans (hc j hlt);obtain ⟨v,h1,h3,h4,h5,h8,g1,g3,g4⟩:=HJ.1;have aq:Hid ((NS.take j).map (λ n=>(n,(d:Int))) ++ [(NS[j],(d:Int))]= (NS.take (j+1)).map (λ n=>(n,(d:Int)))):=by
      show _ = _;rw [List.take_add_one,zzp hlt,Zl];rfl
     obtain ⟨y,hy⟩:=zx (NS[j]);rw [hy] at e1 aq;have aw:(yjA u how aa k++(NS.take j).map (λ n=>(n,(d:Int)))).length<=1000000:=by
      have:=ytk u how aa k;rw [YG,Yi,YX];omega
     have bD:(NS.length:Int)<=64:=zo;obtain ⟨PL,aL⟩:=zx (yjA u how aa k++(NS.take j).map (λ n=>(n,(d:Int))));have bc:Hid (PL ++ [(y,(d:Int))]=yjA u how aa k++(NS.take (j+1)).map (λ n=>(n,(d:Int)))):=by
      show _ = _;rw [<- aL,List.append_assoc,aq]
     rw [aL] at h3 aw HJ;have H3:=hid h3;have H8:=hid h8;have H1:=hid h1;clear aL aq hc hy g1 g3 g4 h4 h3 h8;gi_wp2_with (gi_at_builtin;refine yy3 (.tmp 64) (.tmp 68) rfl rfl rfl rfl rfl H3 aw H8 ?_)
     intro a' ac w' ak hg hb hf;obtain ⟨k1,k2,k3,k4⟩:=HJ.1.app H1 (x:=(y,(d:Int))) ak hg hb hf;obtain ⟨uu,k5⟩:=Option.isSome_iff_exists.1 k4;have bE:=hg.size;have HK:Hid (CoN bg W4.heap.size (yjA u how aa k++(NS.take (j+1)).map (λ n=>(n,(d:Int)))) (λ b=>O' b\/ (wr.heap.size<=b/\b<w'.heap.size)) (w'.setCell (Z bg 0 N) (Xs a' (PL.length+1) ac))/\(∀b,O b->O' b\/ (wr.heap.size<=b/\b<w'.heap.size))/\(∀b,(O' b\/ (wr.heap.size<=b/\b<w'.heap.size))->O b\/ wc.heap.size<=b)/\Eff O wc (w'.setCell (Z bg 0 N) (Xs a' (PL.length+1) ac))):=by
      refine ⟨by rw [<- bc];exact k1,λ b h=> .inl (HJ.2.1 b h),λ b h=>?_,HJ.2.2.2.trans k2 HJ.2.2.1⟩;rcases h with h | h
      ·exact HJ.2.2.1 b h
      ·have:=HJ.2.2.2.size;exact .inr zo
     clear ak hg hb hf k1 k2 k4 bc H3 H8 H1 HJ h1;gi_wp2
     exact ⟨⟨j+1,_,by go_num,by omega,HK⟩,by simp [intOf];omega⟩
    ·obtain rfl:j=NS.length:=zo;rw [YW,a6] at HJ;have hq:¬((NS.length:Int)<(NS.length:Int)):=zo;clear hlt hj;gi_wp2
     refine ⟨O',⟨HJ.2.1,λ b h=>?_,(Eff.of_below bd).trans HJ.2.2.2 (λ b hb=> .inl hb)⟩,HJ.1⟩;rcases HJ.2.2.1 b h with h | h
     ·exact .inl h
     ·exact .inr (zI bd.size h)
end
section
attribute [local irreducible] yak
def ybS (r:Ru):Cl:=if 0<r.co/\(yiR [ydu r] r.co).2=0 then {ydu r with un:=(yiR [ydu r] r.co).1} else ydu r
theorem yqO {r:Ru} (hc:yah r=0):yaf [ydu r]=0:=by
 have h:yhV [ydu r]=true:=by simp [yhV,yiX hc]
 rw [ycG,zzY] at h;exact h
theorem ylx {r:Ru} (hc:yah r=0) (hn:1<=r.co):(∃x,yiR [ydu r] r.co= (x,0)/\yhv (ydu r) x=true)\/ yiR [ydu r] r.co= (0,15):=by
 rcases yqA (yqO hc) hn with ⟨x,e,h,-⟩ | ⟨e,-⟩
 ·exact .inl ⟨x,e,by simpa [yai] using h⟩
 ·exact .inr e
theorem ylz {r:Ru} (hn:r.Num) (hc:yah r=0):(ybS r).Ok:=by
 have h:=yqM hn;rw [ybS];split
 ·rename_i hp;rcases ylx hc zo with ⟨x,e,hx⟩ | e
  ·refine {h with un:=?_};have hw:=(Bool.and_eq_true_iff.1 (by rw [yhv] at hx;exact hx)).1;have:=ymC hw;show yaA (yiR [ydu r] r.co).1;rw [e];unfold yaA;simp only [];omega
  ·rw [e] at hp;exact absurd hp.2 zd
 ·exact h
theorem ytI {r:Ru} (hc:yah r=0):yb2 (ybS r)=true:=by
 have h:=yiX hc;rw [ybS];split
 ·exact h
 ·exact h
end
section
attribute [local irreducible] yak
theorem ymg (r:Ru) (w:World) (hr:RuS w r) (hm:r.Sm 1000000):H I 49 #[ruv r] w λ e w'=>e=Q (E T (ycH r))/\Bw w w':=by
 have ac:Bw w (w.alloc (J (yad r).toArray 25)):=yaa (Ye _ _) zg;have cB:=hid (yhn r _ (hr.below ac) hm);have ae:=hid ac;have ad:=hid (ybk w r 25);obtain ⟨c,hc⟩:=zx (yah r);have HE:Hid (ycH r=if c=0 then (if 100000000000<r.iv\/ 1000000<r.co then 14 else 0) else c):=by show _ = _;rw [ycH,hc]
 generalize hx:ycH r=x at HE⊢
 rw [hc] at cB;clear hc hx hr hm ac;go_enter Tryz.func49,Tryz.ntmps49
 go_wp2_with fail
 refine zm cB ?_;rintro w1 ab;have aa:=hid (zu ae ab);obtain ⟨⟨-,-,k2,k3,-⟩,-⟩:=(ad.below ab (by rw [zzN];omega)).all;clear ab cB ad;by_cases h0:c=0
 ·have hE:=HE.out;rw [Yd h0] at hE;subst h0;by_cases h1:100000000000<r.iv
  ·rw [Yd (.inl h1)] at hE;have HX:=hid hE;clear hE;go_wp2;go_ret;exact ⟨by rw [HX] <;> rfl,aa⟩
  ·by_cases h2:1000000<r.co
   ·rw [Yd (.inr h2)] at hE;have HX:=hid hE;clear hE;go_wp2;go_ret;exact ⟨by rw [HX] <;> rfl,aa⟩
   ·rw [Yb zo] at hE;have HX:=hid hE;clear hE;go_wp2;go_ret;exact ⟨by rw [HX] <;> rfl,aa⟩
 ·have hE:=HE.out;rw [Yb h0] at hE;have HX:=hid hE;have q1:(c==0)=false:=by simpa using h0
  have q2:(c != 0)=true:=by simpa using h0
  clear hE;go_wp2;go_ret;exact ⟨by rw [HX] <;> rfl,aa⟩
end
section
attribute [local irreducible] yak
variable {b k:Nat} {W:World}
def ydH (v:Value):Sem Value:=Instr.loadAt 25 v
theorem ybd (v:Value):Instr.loadAt 25 v=ydH v:=rfl
theorem yh0:(Tryz.prog.info? 25).map (·.size)=G 11:=by kernel_rfl
theorem RuB.ldw {r:Ru} (h:RuB W b r):(ydH (R (G (Z b 0 N)))).run I W= .ok (ruv r) W:=by
 unfold ydH;simp only [Instr.loadAt,Instr.sureAddr,ZC,ZR,Zf,Zr W b 0 25 (yad r) _ h Tryz.underlying25 rfl yh0]
def yiA (v x:Value):Sem Unit:=Instr.storeAt 57 v x
theorem yn9 (v x:Value):Instr.storeAt 57 v x=yiA v x:=rfl
theorem LsB.stO {L:List Value} (h:LsB b L W) (hl:L.length=30) (oin:Int) (oback:Bool) (od:Nat->Nat):(yiA (R (G (Z b 8 N))) (ypp oin oback od)).run I W= .ok () (W.setCells b 8 (ycF oin oback od)):=by
 unfold yiA;exact Zy W b 8 57 (ycF oin oback od).toArray (h.there (by rw [hl];show 8+10<=30;omega)) yfm (by simp [Value.oneCell'])
def yqP (r:Ru) (x:Int):Cl:={m:=yzf r,or:=false,oin:=woI r,oback:=woB r,od:=woD r,ys:=yc6,unit:=r.fq,step:=r.iv,anchor:=r.st,fr:=r.st,un:=x}
theorem yvr (r:Ru):ydu r=yqP r (if r.un= -1 then 12622780799 else r.un):=rfl
structure RwC (w:World) (r:Ru) (b1 b2 b5:Nat) (L:List Value) (W:World):Prop where
 ru:RuB W b1 r
 l:LsB b5 L W
 t:W.there b2 0 30
 be:Bw w W
 o:w.heap.size<=b1/\b1<b2/\b2<b5
section
variable {w:World} {r:Ru} {b1 b2 b5:Nat} {L:List Value} {W W':World}
theorem RwC.call (h:RwC w r b1 b2 b5 L W) (hB:Bw W W'):RwC w r b1 b2 b5 L W':=
 have hl:=h.l.lt;have ho:=h.o
 ⟨h.ru.below hB zo,h.l.block hB.size (hB.block _ hl),λ j hj=>⟨by rw [hB.cell (p:=Z b2 (0+j) N) (show b2<_ by omega)];exact (h.t j hj).1,by rw [hB.frozen (p:=Z b2 (0+j) N) (show b2<_ by omega)];exact (h.t j hj).2⟩,h.be.trans (hB.mono h.be.size),ho⟩
theorem RwC.eff {L':List Value} (h:RwC w r b1 b2 b5 L W) (hE:Eff (λ b=>b=b5) W W') (aa:LsB b5 L' W'):RwC w r b1 b2 b5 L' W':=by
 have hl:=h.l.lt;have ho:=h.o;have e1:=hE.block b1 zo zo;have e2:=hE.block b2 zo zo;exact ⟨λ j v hv=>(zzJ (w:=W) (a:=Z b1 (0+j) N) e1).trans (h.ru j v hv),aa,λ j hj=>⟨by rw [zzJ (w:=W) (a:=Z b2 (0+j) N) e2];exact (h.t j hj).1,by rw [zzM (w:=W) (a:=Z b2 (0+j) N) e2];exact (h.t j hj).2⟩,h.be.trans (hE.below (λ b e=>by omega) h.be.size),ho⟩
theorem RwC.set (h:RwC w r b1 b2 b5 L W) (hk:k<L.length) (v:Value):RwC w r b1 b2 b5 (L.set k v) (W.setCell (Z b5 k N) v):=
 h.eff ((Eff.refl (λ b=>b=b5) W).set rfl _ _) (h.l.set hk v)
theorem RwC.sets (h:RwC w r b1 b2 b5 L W) {o:Nat} {vs:List Value} (hk:o+vs.length<=L.length):RwC w r b1 b2 b5 (yiK L o vs) (W.setCells b5 o vs):=
 h.eff (Eff.setCells (O:=λ x=>x=b5) rfl vs o W (Eff.refl _ _)) (h.l.sets vs o hk)
theorem RwC.nxt (h:RwC w r b1 b2 b5 L W) (hl:L.length=30) (hk:k<30) (v:Value):∃L' u,L.set k v=L'/\L'.length=30/\W.cell? (Z b5 k N)=G u/\RwC w r b1 b2 b5 L' (W.setCell (Z b5 k N) v):=
 ⟨_,_,rfl,by rw [List.length_set];exact hl,h.l.at (zzp (i:=k) zo),h.set zo v⟩
theorem RwC.nxtO (h:RwC w r b1 b2 b5 L W) (hl:L.length=30) (oin:Int) (oback:Bool) (od:Nat->Nat):∃L',yiK L 8 (ycF oin oback od)=L'/\L'.length=30/\RwC w r b1 b2 b5 L' (W.setCells b5 8 (ycF oin oback od)):=
 ⟨_,rfl,by rw [putCs_len];exact hl,h.sets (by rw [hl];show 8+10<=30;omega)⟩
end
end
section
variable {b:Nat} {r:Ru} {W:World}
def ycP (v x:Value):Sem Unit:=Instr.storeAt 25 v x
theorem ybb (v x:Value):Instr.storeAt 25 v x=ycP v x:=rfl
structure RuW (W:World) (b:Nat) (r:Ru):Prop where
 c:RuB W b r
 z:∀i,W.frozen? (Z b i N)=false
 lt:b<W.heap.size
theorem RuW.block {W':World} (h:RuW W b r) (hs:W.heap.size<=W'.heap.size) (hb:W'.heap[b]? =W.heap[b]?):RuW W' b r:=
 ⟨λ j v hv=>(zzJ (w:=W) (a:=Z b (0+j) N) hb).trans (h.c j v hv),λ i=>(zzM (w:=W) (a:=Z b i N) hb).trans (h.z i),zH h.lt hs⟩
theorem RuW.set {r':Ru} (h:RuW W b r) {i:Nat} {v:Value} (hi:i<11) (e:(yad r).set i v=yad r'):RuW (W.setCell (Z b i N) v) b r'/\∃u,W.cell? (Z b i N)=G u:=by
 have h0:=h.c.at i (zzp (l:=yad r) (i:=i) hi);refine ⟨⟨λ j x hx=>?_,λ j=>by simpa [go_sem] using h.z j,by simpa [go_sem] using h.lt⟩,_,h0⟩;rw [<- e,List.getElem?_set] at hx;rw [zzn];by_cases c:i=j
 ·subst c;rw [Yd rfl,Yd (show i<(yad r).length from hi)] at hx;rw [<- hx];exact zzW _ _ _ (by rw [h0])
 ·rw [Yb c] at hx;rw [zzL _ _ _ _ (by intro e;injection e with _ e2;exact c e2)];have:=h.c j x hx;rwa [zzn] at this
theorem RuW.ld (h:RuW W b r):(ydH (R (G (Z b 0 N)))).run I W= .ok (ruv r) W:=h.c.ldw
theorem ymR (h:RuW W b r):W.there b 0 11:=λ j hj=>by
 have h0:=h.c.at j (zzp (l:=yad r) (i:=j) hj);exact ⟨by rw [zzn,h0];rfl,by rw [zzn];exact h.z j⟩
theorem RuW.put (ht:W.there b 0 11) (hz:∀i,W.frozen? (Z b i N)=false) (hl:b<W.heap.size) (r:Ru):(ycP (R (G (Z b 0 N))) (ruv r)).run I W= .ok () (W.setCells b 0 (yad r))/\RuW (W.setCells b 0 (yad r)) b r/\(W.setCells b 0 (yad r)).heap.size=W.heap.size:=by
 refine ⟨?_,⟨?_,λ i=>by rw [Zj];exact hz i,by rw [ya4];exact hl⟩,ya4 _ _ _ _⟩
 ·unfold ycP;exact Zy W b 0 25 (yad r).toArray ht yh0 (by simp [yad,Value.oneCell'])
 ·exact Zd _ _ _ _ (by exact ht)
theorem ycj (W:World) (r:Ru):(ycP (R (G (Z W.heap.size 0 N))) (ruv r)).run I (W.alloc (J zl0 25))= .ok () ((W.alloc (J zl0 25)).setCells W.heap.size 0 (yad r))/\
  RuW ((W.alloc (J zl0 25)).setCells W.heap.size 0 (yad r)) W.heap.size r/\Bw W ((W.alloc (J zl0 25)).setCells W.heap.size 0 (yad r))/\((W.alloc (J zl0 25)).setCells W.heap.size 0 (yad r)).heap.size=W.heap.size+1:=by
 obtain ⟨h1,h2,h3⟩:=RuW.put (W:=W.alloc (J zl0 25)) (b:=W.heap.size) (yaL W _ _) (λ i=>yan W _ _ i) zs r;exact ⟨h1,h2,yaB zg _ 0 _ (yaa (Ye _ _) zg),by rw [h3];simp⟩
end
section
attribute [local go_sem] Yw
attribute [local go_sem ↓] ycd ybd ybb
variable {F F0 O O0:Blk} {n:Nat} {W W0:World}
structure HWt (bf bh br:Nat) (u:Nat->Nat) (fi la n:Int) (ev sq:Bool) (hows:List Int) (r:Ru) (F:Blk) (W:World):Prop where
 f:FcF bf u fi la n ev sq F W
 h:∃ah ch,W.cell? (Z bh 0 N)=G (Xs ah hows.length ch)/\SlB F ah (yaR hows) W
 ru:RuB W br r
 rk:RuK F r W
 inF:F bh/\F br
section
variable {bf bh br:Nat} {u:Nat->Nat} {fi la n:Int} {ev sq:Bool} {hows:List Int} {r:Ru} {F F':Blk} {W W':World}
theorem HWt.keep (h:HWt bf bh br u fi la n ev sq hows r F W) (hs:W.heap.size<=W'.heap.size) (hF:∀b,F b->F' b) (hl:∀b,F' b->b<W'.heap.size) (hb:∀b,F b->W'.heap[b]? =W.heap[b]?):HWt bf bh br u fi la n ev sq hows r F' W':=by
 obtain ⟨ah,ch,h1,h2⟩:=h.h;exact ⟨h.f.keep hs hF hl hb,⟨ah,ch,(zzJ (w:=W) (a:=Z bh 0 N) (hb _ h.inF.1)).trans h1,h2.keep hs hF hb⟩,
  λ j v hv=>(zzJ (w:=W) (a:=Z br (0+j) N) (hb _ h.inF.2)).trans (h.ru j v hv),h.rk.keep hs hF hb,⟨hF _ h.inF.1,hF _ h.inF.2⟩⟩
theorem HWt.host:ych (HWt bf bh br u fi la n ev sq hows r) noM:=⟨λ F W W' h hs hb=>h.keep hs zi (λ b hF=>zH (h.f.lt b hF) hs) hb,λ F W h=>h.f.lt,λ F W h b hb=>hb.elim⟩
end
theorem ybE (u:Nat->Nat) (r:Ru) (hows:List Int):(ya0 u r hows).length=2*hows.length:=by rw [ya0,YG,Yi,Yi];omega
theorem ysS (u:Nat->Nat) (r:Ru) (hows:List Int) {i j:Nat} (hi:i<2) (hj:j<hows.length):(ya0 u r hows)[i*hows.length+j]? =G (ykY u r (if i=0 then mkN (u 4) else yb1 (mkN (u 5))) hows[j]):=by
 have:i=0\/ i=1:=zo
 rcases this with rfl | rfl
 ·rw [ZJ,zzn,ya0,Yo (by rw [Yi];exact hj),Y9,zzp hj];rfl
 ·rw [Nat.one_mul,ya0,Yl (by rw [Yi];omega),Yi,Zn,Y9,zzp hj];rfl
structure WtS (Jq:ydt) (O0 F0:Blk) (W0:World) (bf bh br:Nat) (u:Nat->Nat) (fi la n:Int) (ev sq:Bool) (hows:List Int) (r:Ru) (aa:Nat) (a1:Option Addr) (c1:Nat) (a2:Option Addr) (c2:Nat) (D1 D2:List Int) (k:Nat) (O F:Blk) (W:World):Prop where
 t:TlS Jq O0 F0 W0 k O F W
 h:HWt bf bh br u fi la n ev sq hows r F W
 d1:SlB F a1 (yaR D1) W
 d2:SlB F a2 (yaR D2) W
 in17:F aa
 e1:W.cell? (Z aa 0 N)=G (Xs a1 D1.length c1)
 e2:W.cell? (Z aa 1 N)=G (Xs a2 D2.length c2)
section
variable {P:Program} {y:Value} {nn:Nat} {V:Nat->Array Value->Blk->World->Prop} {Jq Jx:ydt} {O0 F0:Blk} {W0:World} {bf bh br:Nat} {u:Nat->Nat} {fi la n:Int} {ev sq:Bool} {hows:List Int} {r:Ru} {aa:Nat} {a1:Option Addr} {c1:Nat} {a2:Option Addr} {c2:Nat} {D1 D2:List Int} {k m:Nat} {O F O' F':Blk} {W W':World}
theorem WtS.keep (h:WtS Jq O0 F0 W0 bf bh br u fi la n ev sq hows r aa a1 c1 a2 c2 D1 D2 k O F W) (ht:TlS Jq O0 F0 W0 m O' F' W') (hs:W.heap.size<=W'.heap.size) (hF:∀b,F b->F' b) (hb:∀b,F b->W'.heap[b]? =W.heap[b]?):WtS Jq O0 F0 W0 bf bh br u fi la n ev sq hows r aa a1 c1 a2 c2 D1 D2 m O' F' W':=
 ⟨ht,h.h.keep hs hF ht.lt hb,h.d1.keep hs hF hb,h.d2.keep hs hF hb,hF _ h.in17,(zzJ (w:=W) (a:=Z aa 0 N) (hb _ h.in17)).trans h.e1,(zzJ (w:=W) (a:=Z aa 1 N) (hb _ h.in17)).trans h.e2⟩
theorem WtS.call (h:WtS Jq O0 F0 W0 bf bh br u fi la n ev sq hows r aa a1 c1 a2 c2 D1 D2 k O F W) (hC:yfB P y nn V noM Jq Jx O0 W0) (hB:Bw W W'):WtS Jq O0 F0 W0 bf bh br u fi la n ev sq hows r aa a1 c1 a2 c2 D1 D2 k O (ycv F W W') W':=
 h.keep (h.t.call hC hB) hB.size (λ b hb=> .inl hb) (λ b hb=>hB.block b (h.t.lt b hb))
theorem WtS.told (h:WtS Jq O0 F0 W0 bf bh br u fi la n ev sq hows r aa a1 c1 a2 c2 D1 D2 k O F W) (hJ:Jq m O' F W') (h1:∀b,O b->O' b) (h2:∀b,O' b->O b\/ W.heap.size<=b) (hE:Eff O W W'):WtS Jq O0 F0 W0 bf bh br u fi la n ev sq hows r aa a1 c1 a2 c2 D1 D2 m O' F W':=
 h.keep (h.t.told hJ h1 h2 hE) hE.size (λ b hb=>hb) (λ b hb=>hE.block b (h.t.lt b hb) (h.t.dj b hb))
end
theorem yf9 {HN HS:Blk->World->Prop} {Jq Jx:ydt} (h:TlS Jq O0 F0 W0 n O F W) (hH:HN F W):yo0 n HN HS noM Jq Jx O0 F0 W0 W:=⟨O,F,h.gr,h.sub,h.new,h.dj, .inl ⟨hH,h.j⟩⟩
theorem ygw {k:Nat} {HN HS:Blk->World->Prop} {Jq Jx:ydt} (h:TlS Jx O0 F0 W0 k O F W) (hH:HS F W) (h1:1<=k) (h2:k<=n):yo0 n HN HS noM Jq Jx O0 F0 W0 W:=⟨O,F,h.gr,h.sub,h.new,h.dj, .inr ⟨hH,k,h1,h2,h.j⟩⟩
theorem yig (bf bh br:Nat) (u:Nat->Nat) (fi la n:Int) (ev sq:Bool) (hows:List Int) (r:Ru) (hh:∀h∈hows,h=0\/ h=1\/ h=2) (bD:hows.length<=3) (bS:r.l5.length<=1000000) (hu:∀i,i<46->u i<18446744073709551616) (h6:∀x∈mkN (u 6),x<8) :
  yeV I 166 #[R (G (Z bf 0 N)),R (G (Z bh 0 N)),R (G (Z br 0 N))] (2*hows.length) (VRu (ya0 u r hows)) (HWt bf bh br u fi la n ev sq hows r) (HWt bf bh br u fi la n ev sq hows r) (HWt bf bh br u fi la n ev sq hows r) noM:=by
 intro y Jq Jx O F W hH bu hC hJ;obtain ⟨yf,yi,yc,rfl⟩:=hC.form;show H I 166 #[.func yf yi yc,R (G (Z bf 0 N)),R (G (Z bh 0 N)),R (G (Z br 0 N))] W _;have bl:=TlS.start hC hJ bu hH.f.lt;have cL:=hid (λ i W (hi:i<46) hT=>yel (yhe (u i) W (hu i hi) hT));have cB:=hid (λ B v l W h1 h2 h3 h4=>yfx B v l W h1 h2 h3 h4);have cW:=hid (λ how aQ W h1 hT=>ykG u fi la n ev sq how aQ W h1 hu h6 hT);have HC:=hid hC;have bz:=hid bl;have a8:=hid hH;have Hh:=hid hh;have au:Bw W W.drew:=(Ye _ _).drew;have k4:=(hH.f.c.block au.size (au.block _ hH.f.c.lt)).c 4 zo;have k5:=(hH.f.c.block au.size (au.block _ hH.f.c.lt)).c 5 zo;have ai:Hid (∀W2:World,Bw W W2->Hid (W2.cell? (Z bf 4 N)=G (E Y (u 4:Nat))/\W2.cell? (Z bf 5 N)=G (E Y (u 5:Nat)))/\Tab W2):=λ W2 hB=>
  ⟨⟨(hH.f.c.block hB.size (hB.block _ hH.f.c.lt)).c 4 zo,(hH.f.c.block hB.size (hB.block _ hH.f.c.lt)).c 5 zo⟩,hH.f.tab.later hB⟩
 clear hH bu hC hJ bl hu h6 hh k4 k5 au;refine (wf_calls (r:=N) (n:=1)).mp ?_;refine callsIn_of_wp_marks Tryz.func166 rfl trivial ?_ rfl;simp only [Tryz.ntmps166,Yp,Yu,YS,Nat.reduceAdd,Nat.reduceSub,YE,YD,YQ,YJ,Y0,YH];gi_wp2_with fail
 refine ybO ?_;gi_wp2_with fail
 refine wpIn_label ?_;gi_upto_region 0 with fail
 refine wf_wp.mpr ?_;refine yk5 ?_;refine ysJ [] (S:=λ W2=>Hid (W2.cell? (Z bf 4 N)=G (E Y (u 4:Nat))/\W2.cell? (Z bf 5 N)=G (E Y (u 5:Nat)))) zk (ai _ (Ye _ _).drew).1 (λ ay=>?_);refine zfA 0 ?_;refine zfA 1 ?_;refine zfA 3 ?_;refine zfA 4 ?_;refine zfA 9 ?_;have aB:Bw W W.drew:=(Ye _ _).drew;refine rgO 2 (λ K hK=>?_);rw [Yd (by rfl)];go_simp;refine (cL 4 _ zo (ai _ aB).2).mono ?_;rintro e w1 ⟨a1,n1,c1,rfl,aH,-,aW,aO⟩;have ab:=zu aB aO;have bs:=(ai _ ab).1;refine hK _ _ (λ _=>bs) ?_;clear hK;refine rgO 5 (λ K hK=>?_);rw [Yd (by rfl)];go_simp;refine (cL 5 _ zo (ai _ ab).2).mono ?_;rintro e w2 ⟨a2,n2,c2,rfl,aG,-,bi,am⟩;have aA:=zu ab am;have bq:=(ai _ aA).1;refine hK _ _ (λ _=>bq) ?_;clear hK;have be:∀x∈mkN (u 5),-100<=x/\x<=100:=λ x hx=>by
  obtain ⟨k,h1,-,rfl⟩:=yea.1 hx;omega
 have bt:=ya1 (u 5);have aj:=bi;rw [aG] at aj;have cb:=cB w1.heap.size _ (mkN (u 5)) w2 bt be aj am.size;rw [<- aG] at cb;refine rgO 6 (λ K hK=>?_);rw [Yd (by rfl)];go_simp;refine zm cb ?_;rintro w3 ⟨aV,az⟩;have ae:Bw W w3:=ab.trans ((am.trans az).mono ab.size);have bp:=(ai _ ae).1;refine hK _ _ (λ _=>bp) ?_;clear hK;have aw:Bw w3 (w3.alloc (J #[Xs a1 n1 c1,Xs a2 n2 c2] 22)):=yaa (Ye _ _) zg;have ap:=zu ae aw;have bo:=(ai _ ap).1;refine rgO 7 (λ K hK=>?_);rw [Yd (by rfl)];go_simp;refine hK _ _ (λ _=>bo) ?_;clear hK;refine zfA 8 ?_;refine OrdF.done zk ?_ _;obtain ⟨D1,a3⟩:=zx (mkN (u 4));obtain ⟨D2,aM⟩:=zx (yb1 (mkN (u 5)));rw [a3] at aH aW;rw [aM] at aV;have ak:n2=D2.length:=by rw [aG,<- aM,yb1,Yi]
 obtain ⟨w4,an⟩:=zx (w3.alloc (J #[Xs a1 n1 c1,Xs a2 n2 c2] 22));obtain ⟨aa,aq⟩:=zx w3.heap.size;have aJ:=bz.call HC ap;rw [an] at aw ap aJ;have hsz:w4.heap.size=w3.heap.size+1:=by rw [<- an];simp
 have d1:SlB (ycv F W w4) a1 (yaR D1) w4:=SlB.own (yd0 (yd0 aW (am.trans az) (zp aO.size)) aw (by have:=aO.size;have:=(am.trans az).size;omega)) λ b h1 h2=> .inr ⟨zI aB.size h1,h2⟩;have d2:SlB (ycv F W w4) a2 (yaR D2) w4:=SlB.own (yd0 aV aw (by have:=am.size;have:=az.size;omega)) λ b h1 h2=> .inr ⟨zI ab.size h1,h2⟩;have HS:Hid (WtS Jq O F W bf bh br u fi la n ev sq hows r aa a1 c1 a2 c2 D1 D2 0 O (ycv F W w4) w4):=
  ⟨aJ,a8.keep ap.size (λ b hb=> .inl hb) aJ.lt (λ b hb=>ap.block b (a8.f.lt b hb)),d1,d2, .inr ⟨by rw [<- aq];exact ae.size,by rw [<- aq];omega⟩,by rw [<- an,<- aq,<- aH];simp [go_sem],by rw [<- an,<- aq,<- ak];simp [go_sem]⟩
 obtain ⟨F1,bv⟩:=zx (ycv F W w4);rw [bv] at HS;have HX:Hid (∀c,c<2->(if c=0 then mkN (u 4) else yb1 (mkN (u 5)))=if c=0 then D1 else D2):=λ c hc=>by rw [a3,aM]
 have bM:=hid an;have bQ:=hid aq;obtain ⟨aX,av⟩:n1=D1.length/\n2=D2.length:=⟨aH,ak⟩;subst aX;subst av;clear aB aW aO ab bs aG bi aj am aA bq be bt cb aV az ae bp aw ap bo a3 aM an aq aJ hsz d1 d2 bv ay aH ak bz a8 cL cB ai;rw [bM,bQ];gi_wp2_with fail
 gi_loopw [19] (λ aS wr=>∃(i:Nat) (O' F':Blk),aS=E T i/\i<=2/\Hid (WtS Jq O F W bf bh br u fi la n ev sq hows r aa a1 c1 a2 c2 D1 D2 (i*hows.length) O' F' wr)) (λ aS _=>2-(intOf aS).toNat)
 case atStart=>exact ⟨0,O,F1,rfl,by omega,by rw [ZJ];exact HS⟩
 case round=>
  obtain ⟨i,O1,F2,rfl,hi,HI⟩:=hrel;by_cases bG:i<2
  ·have bF:(i:Int)<2:=zo;obtain ⟨ad,cd,D,hD,bn,bw⟩:∃ad cd D,wr.cell? (Z aa i N)=G (.slice ad (D:List Int).length cd)/\SlB F2 ad (yaR D) wr/\D=if i=0 then mkN (u 4) else yb1 (mkN (u 5)):=by
    have:i=0\/ i=1:=zo
    rcases this with rfl | rfl
    ·exact ⟨a1,c1,D1,HI.e1,HI.d1,((HX 0 zo).trans rfl).symm⟩
    ·exact ⟨a2,c2,D2,HI.e2,HI.d2,((HX 1 zo).trans rfl).symm⟩
   obtain ⟨ah,ch,kh,bm⟩:=HI.h.h;have bO:Hid (WtS Jq O F W bf bh br u fi la n ev sq hows r aa a1 c1 a2 c2 D1 D2 (i*hows.length+0) O1 F2 wr/\SlB F2 ad (yaR D) wr/\SlB F2 ah (yaR hows) wr):=⟨HI,bn,bm⟩;have bP:=hid bw;clear bn bm bw HI HS;gi_wp2_with fail
   gi_loopw [25] (λ aR wr=>∃(j:Nat) (O' F':Blk),aR=E T j/\j<=hows.length/\Hid (WtS Jq O F W bf bh br u fi la n ev sq hows r aa a1 c1 a2 c2 D1 D2 (i*hows.length+j) O' F' wr/\SlB F' ad (yaR D) wr/\SlB F' ah (yaR hows) wr)) (λ aR _=>hows.length-(intOf aR).toNat)
   case atStart=>exact ⟨0,O1,F2,rfl,by omega,bO⟩
   case round=>
    clear hD kh;obtain ⟨j,O3,F3,rfl,hj,HJ⟩:=hrel;by_cases hlt:j<hows.length
    ·obtain ⟨b,off,rfl,hc⟩:∃b off,ah=G (Z b off N)/\∀j (h:j<hows.length),wr.cell? (Z b (off+j) N)=G (E T hows[j]):=by
      rcases HJ.2.2 with h | ⟨b,off,e,-,-,hc⟩
      ·have:(yaR hows).length=0:=by rw [h];rfl
       rw [yaX] at this;omega
      ·exact ⟨b,off,e,λ j hj=>by rw [hc j (by rw [yaX];exact hj)];simp [yaR]⟩
     have cj:=hc j hlt;have af:=Hh hows[j] (zzr hlt);have a0:=ysS u r hows bG hlt;obtain ⟨how,bk⟩:=zx (hows[j]);rw [bk] at cj af a0;have bc:=HJ.1.h.ru;have bA:=bc.ldw;obtain ⟨m1,m2,m3,m4⟩:=ycj wr r;obtain ⟨w6,bb⟩:=zx ((wr.alloc (J zl0 25)).setCells wr.heap.size 0 (yad r));rw [bb] at m1 m2 m3 m4;obtain ⟨b9,aI⟩:=zx wr.heap.size;rw [aI] at m2;obtain ⟨m5,u6,m6⟩:=m2.set (r':={r with l6:=D,a6:=ad,c6:=cd}) (i:=6) (v:=Xs ad D.length cd) zo rfl;have z6:=m2.z 6;obtain ⟨w7,aF⟩:=zx (w6.setCell (Z b9 6 N) (Xs ad D.length cd));rw [aF] at m5;have B7:Bw wr w7:=(by rw [<- aF];exact m3.setCell (p:=Z b9 6 N) (Nat.le_of_eq aI) _);have aK:=HJ.1.call HC B7;have bB:=aK.h.f.c.ld;have c5:=aK.h.ru.at 5 (v:=Xs r.a5 r.l5.length r.c5) rfl;have cK:=hid (yel (cW how (decide (r.l5.length=0)) w7 af aK.h.f.tab));have q5:((r.l5.length:Int)==0)=decide (r.l5.length=0):=by
      by_cases h:r.l5.length=0
      ·rw [h];rfl
      ·rw [zzd h,ZD];omega
     have bE:(r.l5.length:Int)<=1000000:=zo;obtain ⟨yr,aU⟩:=zx (decide (r.l5.length=0));rw [aU] at q5 cK;have bH:=hid aU;have bJ:=hid a0;have M5:=hid m5;have aP:=hid B7;have bL:=hid aF;have bx:=hid aI;have bT:=hid af;clear hc bk bc m2 m3 m4 bb aF aI m5 B7 aK aU a0 af;gi_upto_region 7 with fail
     clear m1;rw [bx];gi_upto_region 8 with fail
     rw [bL];gi_wp2_with fail
     refine (wf_calls.mpr cK).mono ?_;rintro e w8 ⟨a7,n7,c7,rfl,bj,-,bg,aN⟩;have m8:=M5.block aN.size (aN.block b9 M5.lt);obtain ⟨m9,u9,ba⟩:=m8.set (r':={r with l6:=D,a6:=ad,c6:=cd,l7:=ydb u how yr,a7:=a7,c7:=c7}) (i:=7) (v:=Xs a7 n7 c7) zo (by rw [bj];rfl);have z7:=m8.z 7;have o9:=ownsRow_setCell_below bg (a:=Z b9 7 N) M5.lt (Xs a7 n7 c7);have B9:Bw wr (w8.setCell (Z b9 7 N) (Xs a7 n7 c7)):=(zu aP aN).setCell (p:=Z b9 7 N) (Nat.le_of_eq bx) _;obtain ⟨w9,aE⟩:=zx (w8.setCell (Z b9 7 N) (Xs a7 n7 c7));rw [aE] at m9 B9 o9;have bC:w8.heap.size=w9.heap.size:=(by rw [<- aE];simp [go_sem]);have ao:=HJ.1.call HC B9;have aL:∀b,F3 b->w9.heap[b]? =wr.heap[b]?:=λ b hb=>B9.block b (HJ.1.t.lt b hb);have ar:=HJ.1.h.rk.keep (F':=ycv F3 wr w9) B9.size (λ b hb=> .inl hb) aL;have aT:=HJ.2.1.keep (F':=ycv F3 wr w9) B9.size (λ b hb=> .inl hb) aL;have a9:=HJ.2.2.keep (F':=ycv F3 wr w9) B9.size (λ b hb=> .inl hb) aL;have bd:RuK (ycv F3 wr w9) {r with l6:=D,a6:=ad,c6:=cd,l7:=ydb u how yr,a7:=a7,c7:=c7} w9:=
      ⟨ar.s5,aT,SlB.own o9 λ b h1 h2=> .inr ⟨zI aP.size h1,h2⟩,ar.s8,ar.s9,ar.sx⟩
     have hE:RuE (ykY u r (if i=0 then mkN (u 4) else yb1 (mkN (u 5))) how) {r with l6:=D,a6:=ad,c6:=cd,l7:=ydb u how yr,a7:=a7,c7:=c7}:=by
      rw [ykY,<- bP,bH];rfl
     have aY:i*hows.length+j<2*hows.length:=by
      have h:=Nat.mul_le_mul_right hows.length (show i+1<=2 by omega);rw [Zk] at h;omega
     have aC:=hid (HC.call (i*hows.length+j) O3 (ycv F3 wr w9) w9 #[ruv {r with l6:=D,a6:=ad,c6:=cd,l7:=ydb u how yr,a7:=a7,c7:=c7}] aY ao.t.j ao.t.dj ⟨_,_,bJ,rfl,hE,bd,ao.t.lt⟩ ao.t.gr);have bR:=m9.ld;have ag:=hid (Ya ao (Ya aT a9));have bI:=hid aY;have bK:=hid aE;clear bj bg aN m8 m9 o9 B9 aE bC ao aL ar aT a9 bd hE aY bA bB c5 cj q5 cK M5 aP;gi_upto_region 9 with fail
     rw [bK];gi_wp2_with (refine ylX (.tmp 40) (.tmp 41) _ rfl rfl rfl rfl aC ?_)
     rintro e aD O4 y1 y2 y3 aZ;have ac:∀b,ycv F3 wr w9 b->aD.heap[b]? =w9.heap[b]?:=λ b hb=>y3.block b (ag.1.t.lt b hb) (ag.1.t.dj b hb);rcases aZ with ⟨rfl,ax⟩ | ⟨rfl,ax⟩
     ·have a4:Hid (WtS Jq O F W bf bh br u fi la n ev sq hows r aa a1 c1 a2 c2 D1 D2 (i*hows.length+(j+1)) O4 (ycv F3 wr w9) aD/\SlB (ycv F3 wr w9) ad (yaR D) aD/\SlB (ycv F3 wr w9) (G (Z b off N)) (yaR hows) aD):=
       ⟨ag.1.told ax y1 y2 y3,ag.2.1.keep y3.size (λ b hb=>hb) ac,ag.2.2.keep y3.size (λ b hb=>hb) ac⟩
      clear ax y1 y2 y3 ac ba z6 z7 m6;refine ⟨_,rfl,?_⟩;gi_wp2
      exact ⟨⟨j+1,O4,ycv F3 wr w9,by go_num,by omega,a4⟩,by simp [intOf];omega⟩
     ·have al:=hid (ygw (n:=2*hows.length) (HN:=HWt bf bh br u fi la n ev sq hows r) (HS:=HWt bf bh br u fi la n ev sq hows r) (Jq:=Jq) (ag.1.t.told ax y1 y2 y3) (ag.1.h.keep y3.size (λ b hb=>hb) (λ b hb=>zH (ag.1.t.lt b hb) y3.size) ac) zo (Nat.succ_le_of_lt bI));clear ax y1 y2 y3 ac ba z6 z7 m6;refine ⟨_,rfl,?_⟩;gi_wp2
      rw [Zc];exact ⟨_,YO rfl _ _ _,⟨_,rfl⟩,al⟩
    ·obtain rfl:j=hows.length:=zo;have bN:Hid (WtS Jq O F W bf bh br u fi la n ev sq hows r aa a1 c1 a2 c2 D1 D2 ((i+1)*hows.length) O3 F3 wr):=(by rw [Zk];exact HJ.1);have hq:¬((hows.length:Int)<(hows.length:Int)):=zo;clear hlt hj HJ;gi_wp2
     exact ⟨⟨i+1,O3,F3,by go_num,by omega,bN⟩,by simp [intOf];omega⟩
  ·obtain rfl:i=2:=zo;have al:=hid (yf9 (HN:=HWt bf bh br u fi la n ev sq hows r) (HS:=HWt bf bh br u fi la n ev sq hows r) (Jx:=Jx) HI.t HI.h);clear HI;gi_wp2
   rw [Zc];exact ⟨_,YO rfl _ _ _,⟨_,rfl⟩,al⟩
end
section
attribute [local go_sem] Yw
attribute [local go_sem ↓] ycd ybd ybb
theorem yfF (args:Array Value) (w:World):(callFunc 166 args).run I w= .ok (.enter 166 args) w:=by simp [go_sem]
theorem yk9 (args:Array Value) (w:World):(callFunc 115 args).run I w= .ok (.enter 115 args) w:=by simp [go_sem]
theorem ykF (r:Ru) (u:Nat->Nat) (fi la n:Int) (ev sq:Bool) (ah:Option Addr) (m ch:Nat) (w:World) :
  H I 117 #[ruv r,fcv u fi la n ev sq,Xs ah m ch] w λ e w'=>e=Q (Xf (.func 166) #[] #[R (G (Z (w.heap.size+1) 0 N)),R (G (Z (w.heap.size+2) 0 N)),R (G (Z w.heap.size 0 N))])/\Bw w w'/\w'.heap.size=w.heap.size+3/\
   FcB (w.heap.size+1) u fi la n ev sq w'/\w'.cell? (Z (w.heap.size+2) 0 N)=G (Xs ah m ch)/\RuB w' w.heap.size r:=by
 have hR:=ybk w r 25;have e0:(w.alloc (J (yad r).toArray 25)).heap.size=w.heap.size+1:=zzN _ _;have b0:Bw w (w.alloc (J (yad r).toArray 25)):=yaa (Ye _ _) zg;obtain ⟨W0,ao⟩:=zx (w.alloc (J (yad r).toArray 25));rw [ao] at hR e0 b0;have hA:=yg3 W0 43 u fi la n ev sq;have e1:(W0.alloc (J (fcL u fi la n ev sq).toArray 43)).heap.size=W0.heap.size+1:=zzN _ _;have b1:Bw W0 (W0.alloc (J (fcL u fi la n ev sq).toArray 43)):=yaa (Ye _ _) zg;rw [yhx];generalize aD:(fcL u fi la n ev sq).toArray=A at hA e1 b1⊢
 obtain ⟨W1,an⟩:=zx (W0.alloc (J A 43));rw [an] at hA e1 b1;have b2:Bw W1 (W1.alloc (J #[Xs ah m ch] 22)):=yaa (Ye _ _) zg;have e2:(W1.alloc (J #[Xs ah m ch] 22)).heap.size=W1.heap.size+1:=zzN _ _;have c2:(W1.alloc (J #[Xs ah m ch] 22)).cell? (Z W1.heap.size 0 N)=G (Xs ah m ch):=by simp [go_sem]
 obtain ⟨W2,am⟩:=zx (W1.alloc (J #[Xs ah m ch] 22));rw [am] at b2 e2 c2;have ac:Hid (Bw w W2/\W2.heap.size=w.heap.size+3/\FcB (w.heap.size+1) u fi la n ev sq W2/\W2.cell? (Z (w.heap.size+2) 0 N)=G (Xs ah m ch)/\RuB W2 w.heap.size r):=by
  have ax:=zu b1 b2;refine ⟨zu b0 ax,by omega,?_,?_,hR.below ax zo⟩
  ·rw [<- e0];exact hA.block b2.size (b2.block _ hA.lt)
  ·rw [show w.heap.size+2=W1.heap.size by omega];exact c2
 have aG:=hid ao;have aF:=hid an;have ap:=hid am;have E0:=hid e0;clear hR e0 b0 ao hA aD e1 b1 an b2 e2 c2 am;go_enter Tryz.func117,Tryz.ntmps117
 go_upto_region 1 with fail
 rw [aG,aF,ap];go_wp2;go_ret;exact ⟨rfl,ac⟩
structure yin (bf b7:Nat) (u:Nat->Nat) (fi la n:Int) (ev sq:Bool) (r:Ru) (F:Blk) (W:World):Prop where
 f:FcF bf u fi la n ev sq F W
 ru:RuW W b7 r
 rk:RuK (λ b=>F b/\¬b=b7) r W
 in7:F b7/\bf≠b7/\0≠b7
def yy8 (M:Blk) (cs:List Ru) (k:Nat) (vs:Array Value) (F:Blk) (W:World):Prop:=∃c r,cs[k]? =G c/\vs= #[ruv r]/\RuE c r/\RuK (λ b=>F b/\¬M b) r W/\∀b,F b->b<W.heap.size
section
variable {bf b7:Nat} {u:Nat->Nat} {fi la n:Int} {ev sq:Bool} {r:Ru} {F F':Blk} {W W':World}
theorem yin.keep (h:yin bf b7 u fi la n ev sq r F W) (hs:W.heap.size<=W'.heap.size) (hF:∀b,F b->F' b) (hl:∀b,F' b->b<W'.heap.size) (hb:∀b,F b->W'.heap[b]? =W.heap[b]?):yin bf b7 u fi la n ev sq r F' W':=
 ⟨h.f.keep hs hF hl hb,h.ru.block hs (hb _ h.in7.1),h.rk.keep hs (λ b hb=>⟨hF b hb.1,hb.2⟩) (λ b aC=>hb b aC.1),⟨hF _ h.in7.1,h.in7.2⟩⟩
theorem yin.host:ych (yin bf b7 u fi la n ev sq r) (λ b=>b=b7):=⟨λ F W W' h hs hb=>h.keep hs zi (λ b hF=>zH (h.f.lt b hF) hs) hb,λ F W h=>h.f.lt,λ F W h b hb=>by rw [hb];exact h.in7.1⟩
theorem yin.hostE:ych (λ F W=>∃r,yin bf b7 u fi la n ev sq r F W) (λ b=>b=b7):=
 ⟨λ F W W' ⟨r,h⟩ hs hb=>⟨r,yin.host.stab F W W' h hs hb⟩,λ F W ⟨r,h⟩=>h.f.lt,λ F W ⟨r,h⟩ b hb=>by rw [hb];exact h.in7.1⟩
end
theorem yuN (bf b7:Nat) (u:Nat->Nat) (fi la n:Int) (ev sq:Bool) (r:Ru) (hu:∀i,i<46->u i<18446744073709551616) (h6:∀x∈mkN (u 6),x<8) :
  yeV I 115 #[R (G (Z bf 0 N)),R (G (Z b7 0 N))] 1 (yy8 (λ b=>b=b7) [{r with l7:=ydb u 0 false}]) (yin bf b7 u fi la n ev sq r) (λ F W=>∃r,yin bf b7 u fi la n ev sq r F W) (λ F W=>∃r,yin bf b7 u fi la n ev sq r F W) (λ b=>b=b7):=by
 intro y Jq Jx O F W hH aw hC hJ;obtain ⟨yf,yi,yc,rfl⟩:=hC.form;show H I 115 #[.func yf yi yc,R (G (Z bf 0 N)),R (G (Z b7 0 N))] W _;have cW:=hid (yel (ykG u fi la n ev sq 0 false W (.inl rfl) hu h6 hH.f.tab));have az:=hH.f.c.ld;have HC:=hid hC;have HH:=hid hH;have ay:=hid aw;have HJ:=hid hJ;clear hC hH aw hJ hu h6;refine (wf_calls (r:=N) (n:=1)).mp ?_;gi_enter Tryz.func115,Tryz.ntmps115
 gi_wp2_with fail
 refine (wf_calls.mpr cW).mono ?_;rintro e w1 ⟨a7,n7,c7,rfl,au,-,ar,ab⟩;have h1:=HH.keep (F':=ycv F W w1) ab.size (λ b hb=> .inl hb) (λ b hb=>hb.elim (λ h=>zH (HH.f.lt b h) ab.size) (·.2)) (λ b hb=>ab.block b (HH.f.lt b hb));obtain ⟨m2,u2,k2⟩:=h1.ru.set (r':={r with l7:=ydb u 0 false,a7:=a7,c7:=c7}) (i:=7) (v:=Xs a7 n7 c7) zo (by rw [au];rfl);have z2:=h1.ru.z 7;have l7:b7<W.heap.size:=HH.f.lt _ HH.in7.1;have o2:=ownsRow_setCell_below ar (a:=Z b7 7 N) l7 (Xs a7 n7 c7);have hk:∀b,b≠b7->(w1.setCell (Z b7 7 N) (Xs a7 n7 c7)).heap[b]? =w1.heap[b]?:=λ b hb=>Ym _ _ _ _ hb;have aa:(w1.setCell (Z b7 7 N) (Xs a7 n7 c7)).heap.size=w1.heap.size:=by simp [go_sem]
 have ag:Eff (λ b=>O b\/ b=b7) W (w1.setCell (Z b7 7 N) (Xs a7 n7 c7)):=(Eff.of_below ab).set (.inr rfl) _ _;obtain ⟨w2,aj⟩:=zx (w1.setCell (Z b7 7 N) (Xs a7 n7 c7));rw [aj] at m2 o2 hk aa ag;have al:∀b,ycv F W w1 b->¬O b:=λ b hb ho=>by
  rcases hb with hb | hb
  ·exact ay b hb ho
  ·have:=HC.lt 0 O F W HJ b ho;omega
 have aq:¬O b7:=ay _ HH.in7.1;have j2:Jq 0 O (ycv F W w1) w2:=HC.stab 0 O F (ycv F W w1) W w2 HJ (by rw [aa];exact ab.size) (λ b hb=> .inl hb) (λ b hb=>by
  have hlt:b<W.heap.size:=hb.elim (HC.lt 0 O F W HJ b) (λ h=>HH.f.lt b h.1);have aA:b≠b7:=λ e=>hb.elim (λ h=>aq (e ▸ h)) (λ h=>h.2 e);exact (hk b aA).trans (ab.block b hlt))
 have ad:=h1.rk.keep (F':=λ b=>ycv F W w1 b/\¬b=b7) (W':=w2) (by rw [aa];exact zG _) (λ b hb=>hb) (λ b hb=>hk b hb.2);have ai:RuK (λ b=>ycv F W w1 b/\¬b=b7) {r with l7:=ydb u 0 false,a7:=a7,c7:=c7} w2:=
  ⟨ad.s5,ad.s6,SlB.own o2 λ b h1 h2=>⟨.inr ⟨h1,by omega⟩,by omega⟩,ad.s8,ad.s9,ad.sx⟩
 have ak:yin bf b7 u fi la n ev sq {r with l7:=ydb u 0 false,a7:=a7,c7:=c7} (ycv F W w1) w2:=by
  have hf:=h1.f;refine ⟨⟨hf.c.block (by rw [aa];exact zG _) (hk _ h1.in7.2.1),⟨by rw [aa];exact hf.tab.1,λ i hi=>(zzJ (w:=w1) (a:=⟨0,i,N⟩) (hk _ h1.in7.2.2)).trans (hf.tab.2 i hi)⟩,hf.inF,λ b hb=>by rw [aa];exact hf.lt b hb⟩,m2,ai,h1.in7⟩
 have af:=hid (HC.call 0 O (ycv F W w1) w2 #[ruv {r with l7:=ydb u 0 false,a7:=a7,c7:=c7}] zo j2 al ⟨_,_,rfl,rfl,rfl,ai,ak.f.lt⟩ ⟨λ _ h=>h,λ _ h=> .inl h,ag⟩);have aI:=m2.ld;have HX:=hid (Ya ak (Ya al ag));have ap:=hid aj;have aH:=hid ab;have aE:=hid aa;clear ar au o2 hk aa ag aj al aq j2 ad ai ak m2 h1 ab az;gi_upto_region 1 with fail
 rw [ap];gi_wp2_with (refine ylX (.tmp 7) (.tmp 8) _ rfl rfl rfl rfl af ?_)
 rintro e w3 O3 y1 y2 y3 ae;have ac:Hid (yo0 1 (λ F W=>∃r,yin bf b7 u fi la n ev sq r F W) (λ F W=>∃r,yin bf b7 u fi la n ev sq r F W) (λ b=>b=b7) Jq Jx O F W w3):=by
  have aB:∀b,ycv F W w1 b->¬O3 b:=λ b hb ho=>by
   rcases y2 b ho with h | h
   ·exact HX.2.1 b hb h
   ·have:=HX.1.f.lt b hb;omega
  have av:=HX.1.keep (F':=ycv F W w1) (W':=w3) y3.size (λ b hb=>hb) (λ b hb=>zH (HX.1.f.lt b hb) y3.size) (λ b hb=>y3.block b (HX.1.f.lt b hb) (HX.2.1 b hb));refine ⟨O3,ycv F W w1,⟨y1,λ b hb=>?_,HX.2.2.trans (y3.wide λ b hb=> .inl hb) λ b hb=> .inl hb⟩,λ b hb=> .inl hb,λ b hb=>hb.imp id (·.1),aB,?_⟩
  ·rcases y2 b hb with h | h
   ·exact .inl h
   ·have:=aH.size;have:=aE.out;exact .inr zo
  ·rcases ae with ⟨-,h⟩ | ⟨-,h⟩
   ·exact .inl ⟨⟨_,av⟩,h⟩
   ·exact .inr ⟨⟨_,av⟩,1,by omega,by omega,h⟩
 rcases ae with ⟨rfl,-⟩ | ⟨rfl,-⟩;all_goals
  clear y1 y2 y3;refine ⟨_,rfl,?_⟩;gi_wp2
  go_end0
  exact ⟨⟨_,rfl⟩,ac⟩
end
section
attribute [local go_sem] Yw
attribute [local go_sem ↓] ycd ybd ybb
variable {t:Array Value} {F F' F0 O O0:Blk} {ev sq:Bool} {fi la n:Int} {hows:List Int} {b k m:Nat} {u:Nat->Nat} {r rb:Ru} {h0 h1 an am al h2 h3 h4 v v1 v2:Value} {W W' W0:World}
theorem yk8 (args:Array Value) (w:World):(callFunc 118 args).run I w= .ok (.enter 118 args) w:=by simp [go_sem]
def WithV (u:Nat->Nat) (fi la n:Int) (ev sq:Bool) (hows:List Int) (r:Ru) (v:Value) (F:Blk) (W:World):Prop:=∃bf bh br,v=Xf (.func 166) #[] #[R (G (Z bf 0 N)),R (G (Z bh 0 N)),R (G (Z br 0 N))]/\HWt bf bh br u fi la n ev sq hows r F W
theorem WithV.keep (h:WithV u fi la n ev sq hows r v F W) (hs:W.heap.size<=W'.heap.size) (hF:∀b,F b->F' b) (hl:∀b,F' b->b<W'.heap.size) (hb:∀b,F b->W'.heap[b]? =W.heap[b]?):WithV u fi la n ev sq hows r v F' W':=by
 obtain ⟨bf,bh,br,e,h⟩:=h;exact ⟨bf,bh,br,e,h.keep hs hF hl hb⟩
theorem ysR {wa wb wx:World} {p:Nat} (h0:Bw W0 wa) (hs:wb.heap.size=wa.heap.size+3) (a6:Bw wa wb) (hf:FcB (wa.heap.size+1) u fi la n ev sq wb) (hc:wb.cell? (Z (wa.heap.size+2) 0 N)=G (Xs (G (Z p 0 N)) m m)) (hr:RuB wb wa.heap.size r)
  (hm:m=hows.length) (ar:Bw wb wx) (hp:W0.heap.size<=p) (bB:p<wa.heap.size) (aj:∀j (h:j<hows.length),wa.cell? (Z p j N)=G (E T hows[j])) (hK:RuK F0 r W0) (hT:Tab W0) (aW:F0 0) (hl:∀b,F0 b->b<W0.heap.size) :
  WithV u fi la n ev sq hows r (Xf (.func 166) #[] #[R (G (Z (wa.heap.size+1) 0 N)),R (G (Z (wa.heap.size+2) 0 N)),R (G (Z wa.heap.size 0 N))]) (ycv F0 W0 wx) wx:=by
 subst hm;have a5:=zu a6 ar;have aO:=zu h0 a5;have s1:=h0.size;have s2:=ar.size;refine ⟨_,_,_,rfl,⟨hf.block ar.size (ar.block _ zo),hT.later aO,⟨.inr ⟨by omega,by omega⟩, .inl aW⟩,λ b hb=>?_⟩,⟨_,_,(ar.cell (p:=Z (wa.heap.size+2) 0 N) (by show wa.heap.size+2<_;omega)).trans hc, .inr ⟨p,0,rfl, .inr ⟨hp,by omega⟩,by omega,λ j hj=>?_⟩⟩,hr.below ar zo,hK.keep aO.size (λ b hb=> .inl hb) (λ b hb=>aO.block b (hl b hb)),⟨.inr ⟨by omega,by omega⟩, .inr ⟨by omega,by omega⟩⟩⟩
 ·rcases hb with hb | hb
  ·exact zH (hl b hb) aO.size
  ·exact hb.2
 ·have bE:j<hows.length:=by rw [yaX] at hj;exact hj
  rw [zzn];refine ((a5.cell (p:=Z p j N) bB).trans (aj j bE)).trans ?_;simp [yaR]
def LitB (B:Nat) (ns:List Int) (b:Nat) (W:World):Prop:=B<=b/\b<W.heap.size/\∀j (h:j<ns.length),W.cell? (Z b j N)=G (E T ns[j])
theorem LitB.later {B:Nat} {ns:List Int} (h:LitB B ns b W) (k:Bw W W'):LitB B ns b W':=⟨h.1,zH h.2.1 k.size,λ j hj=>(k.cell (p:=Z b j N) h.2.1).trans (h.2.2 j hj)⟩
theorem ygS (W0 W:World) (ns:List Int) (t:TypeId) (A:Array Value) (hA:(yaR ns).toArray=A) (h0:Bw W0 W):∃w b,W.alloc (J A t)=w/\W.heap.size=b/\Bw W0 w/\Bw W w/\LitB W0.heap.size ns b w:=by
 subst hA;have hb:Bw W (W.alloc (J (yaR ns).toArray t)):=yaa (Ye _ _) zg;refine ⟨_,_,rfl,rfl,zu h0 hb,hb,h0.size,by simp,λ j hj=>?_⟩;have:=yap W (yaR ns) t j (E T ns[j]) (by simp [yaR,hj]);rwa [zzn] at this
theorem ysQ (hT:Tab W0) (aW:F0 0) (hl:∀b,F0 b->b<W0.heap.size) (r:Ru) (b m:Nat) (hows:List Int) (W:World) (h0:Bw W0 W) (hL:LitB W0.heap.size hows b W) (hm:m=hows.length) (hK:RuK F0 r W0) :
  H I 117 #[ruv r,fcv u fi la n ev sq,Xs (G (Z b 0 N)) m m] W λ e w'=>(∃f i c,e=Q (.func f i c)/\WithV u fi la n ev sq hows r (.func f i c) (ycv F0 W0 w') w')/\Bw W0 w'/\Bw W w':=
 (ykF r u fi la n ev sq (G (Z b 0 N)) m m W).mono λ e w' h=>by
   obtain ⟨rfl,hb,sz,hf,hc,hr⟩:=h;exact ⟨⟨_,_,_,rfl,ysR h0 sz hb hf hc hr hm (Ye _ _) hL.1 hL.2.1 hL.2.2 hK hT aW hl⟩,zu h0 hb,hb⟩
theorem WithV.later (hl:∀b,F0 b->b<W0.heap.size) (h0:Bw W0 W) (k:Bw W W') (h:WithV u fi la n ev sq hows r v (ycv F0 W0 W) W):WithV u fi la n ev sq hows r v (ycv F0 W0 W') W':=by
 have s0:=h0.size;have s1:=k.size;exact h.keep s1 (λ b hb=>hb.imp id λ h=>⟨h.1,by omega⟩) (λ b hb=>hb.elim (λ h=>by have:=hl b h;omega) (·.2)) (λ b hb=>k.block b (hb.elim (λ h=>by have:=hl b h;omega) (·.2)))
def Y2W (u:Nat->Nat) (fi la n:Int) (ev sq:Bool) (r rb:Ru) (F0:Blk) (W0:World) (b:Nat) (W:World):Prop:=Bw W0 W/\W0.heap.size<=b/\b<W.heap.size/\∃v1 v2,W.cell? (Z b 0 N)=G v1/\W.cell? (Z b 1 N)=G v2/\WithV u fi la n ev sq [0,1,2] r v1 (ycv F0 W0 W) W/\WithV u fi la n ev sq [1,2] rb v2 (ycv F0 W0 W) W
theorem yvW (hl:∀b,F0 b->b<W0.heap.size) (t:TypeId) (h0:Bw W0 W) (h1:WithV u fi la n ev sq [0,1,2] r v1 (ycv F0 W0 W) W) (h2:WithV u fi la n ev sq [1,2] rb v2 (ycv F0 W0 W) W):∃w b,W.alloc (J #[v1,v2] t)=w/\W.heap.size=b/\Hid (Y2W u fi la n ev sq r rb F0 W0 b w):=by
 have hb:Bw W (W.alloc (J #[v1,v2] t)):=yaa (Ye _ _) zg;exact ⟨_,_,rfl,rfl,zu h0 hb,h0.size,by simp,v1,v2,by simp [go_sem],by simp [go_sem],h1.later hl h0 hb,h2.later hl h0 hb⟩
structure yk2 (bf b7 b8:Nat) (u:Nat->Nat) (fi la n:Int) (ev sq:Bool) (r rb:Ru) (F:Blk) (W:World):Prop where
 f:FcF bf u fi la n ev sq F W
 r7:RuB W b7 r
 k7:RuK F r W
 r8:RuB W b8 rb
 k8:RuK F rb W
 inF:F b7/\F b8
section
variable {bf b7 b8:Nat} {u:Nat->Nat} {fi la n:Int} {ev sq:Bool} {r rb:Ru} {F F':Blk} {W W':World}
theorem yk2.keep (h:yk2 bf b7 b8 u fi la n ev sq r rb F W) (hs:W.heap.size<=W'.heap.size) (hF:∀b,F b->F' b) (hl:∀b,F' b->b<W'.heap.size) (hb:∀b,F b->W'.heap[b]? =W.heap[b]?):yk2 bf b7 b8 u fi la n ev sq r rb F' W':=
 ⟨h.f.keep hs hF hl hb,λ j v hv=>(zzJ (w:=W) (a:=Z b7 (0+j) N) (hb _ h.inF.1)).trans (h.r7 j v hv),h.k7.keep hs hF hb,λ j v hv=>(zzJ (w:=W) (a:=Z b8 (0+j) N) (hb _ h.inF.2)).trans (h.r8 j v hv),h.k8.keep hs hF hb,⟨hF _ h.inF.1,hF _ h.inF.2⟩⟩
theorem yk2.host:ych (yk2 bf b7 b8 u fi la n ev sq r rb) noM:=⟨λ F W W' h hs hb=>h.keep hs zi (λ b hF=>zH (h.f.lt b hF) hs) hb,λ F W h=>h.f.lt,λ F W h b hb=>hb.elim⟩
end
def Y2T (h0 h1 h2 h3 h4 an am al:Value) (ds:List Deferred) (a:Act):Prop:=∃V:Nat->Value,a= {tmps:=#[h0,h1,h2,h3,h4,V 5,V 6,V 7,V 8,V 9,V 10,V 11,V 12,V 13,V 14,V 15,an,am,al,V 19,V 20,V 21,V 22,V 23,V 24,V 25,V 26,V 27,V 28],defers:=ds}
theorem Y2T.of {ds:List Deferred} (hs:t.size=29:=by rfl) (k0:tg t 0=h0:=by rfl) (k1:tg t 1=h1:=by rfl) (k2:tg t 2=h2:=by rfl) (k3:tg t 3=h3:=by rfl) (k4:tg t 4=h4:=by rfl) (bu:tg t 16=an:=by rfl) (bt:tg t 17=am:=by rfl) (bs:tg t 18=al:=by rfl):Y2T h0 h1 h2 h3 h4 an am al ds {tmps:=t,defers:=ds}:=⟨tg t,by subst_vars;exact tgE hs ds⟩
structure Y2S (Jq:ydt) (O0 F0:Blk) (W0:World) (bf b7 b8 bY aa:Nat) (y:Value) (u:Nat->Nat) (fi la n:Int) (ev sq:Bool) (r rb:Ru) (v1 v2:Value) (k:Nat) (O F:Blk) (W:World):Prop where
 t:TlS Jq O0 F0 W0 k O F W
 h:yk2 bf b7 b8 u fi la n ev sq r rb F W
 cy:F bY/\W.cell? (Z bY 0 N)=G y
 c1:F aa/\W.cell? (Z aa 0 N)=G v1/\W.cell? (Z aa 1 N)=G v2
 w1:WithV u fi la n ev sq [0,1,2] r v1 F W
 w2:WithV u fi la n ev sq [1,2] rb v2 F W
theorem Y2S.keep {Jq J':ydt} {bf b7 b8 bY aa:Nat} {y:Value} {O':Blk} (h:Y2S Jq O0 F0 W0 bf b7 b8 bY aa y u fi la n ev sq r rb v1 v2 k O F W) (ht:TlS J' O0 F0 W0 m O' F' W') (hs:W.heap.size<=W'.heap.size) (hF:∀b,F b->F' b) (hb:∀b,F b->W'.heap[b]? =W.heap[b]?):Y2S J' O0 F0 W0 bf b7 b8 bY aa y u fi la n ev sq r rb v1 v2 m O' F' W':=
 ⟨ht,h.h.keep hs hF ht.lt hb,⟨hF _ h.cy.1,(zzJ (w:=W) (a:=Z bY 0 N) (hb _ h.cy.1)).trans h.cy.2⟩,⟨hF _ h.c1.1,(zzJ (w:=W) (a:=Z aa 0 N) (hb _ h.c1.1)).trans h.c1.2.1,(zzJ (w:=W) (a:=Z aa 1 N) (hb _ h.c1.1)).trans h.c1.2.2⟩,h.w1.keep hs hF ht.lt hb,h.w2.keep hs hF ht.lt hb⟩
theorem TlS.marks {Jq:ydt} (h:TlS Jq O0 F0 W0 k O F W) (bz:StabF noM Jq) {Ds:List Nat} (hD:∀D∈Ds,W0.heap.size<=D/\¬O D/\¬F D) (e1:W'.os=W.os) (e2:W'.tape=W.tape) (e3:W'.output=W.output) (e4:W'.heap.size=W.heap.size) (e5:∀b,b ∉ Ds->W'.heap[b]? =W.heap[b]?):TlS Jq O0 F0 W0 k O F W':=
 ⟨bz k O F F W W' h.j zo zi (λ b hb=>e5 b (λ hd=>hb.elim (hD b hd).2.1 (λ h=>(hD b hd).2.2 h.1))),⟨h.gr.sub,h.gr.new,ydK h.gr.eff (λ D ai=>(hD D ai).1) e1 e2 e3 e4 e5⟩,h.sub,h.new,h.dj,λ b hb=>by rw [e4];exact h.lt b hb⟩
theorem yll {l:Nat} {o:Obj} (h:RuB W b r) (hl:∃rr,W.heap[l]? =G (.loop rr)):RuB (W.putObj l o) b r:=λ j v hv=>by
 have h0:=h j v hv;have bC:b≠l:=by
  rintro rfl;obtain ⟨rr,e⟩:=hl;rw [World.cell?] at h0;simp only [e] at h0;cases h0
 exact (zzJ (w:=W) (a:=Z b (0+j) N) (Yc bC)).trans h0
def yf0 (i:Nat):Nat:=if i=0 then 0 else if i=1 then 6 else 10
def Y2X (h0 h1 h2 h3 h4 h7 an am al:Value) (ds:List Deferred) (a:Act):Prop:=∃V:Nat->Value,a= {tmps:=#[h0,h1,h2,h3,h4,V 5,V 6,h7,V 8,V 9,V 10,V 11,V 12,V 13,V 14,V 15,an,am,al,V 19,V 20,V 21,V 22,V 23,V 24,V 25,V 26,V 27,V 28],defers:=ds}
theorem Y2X.of {h7:Value} {ds:List Deferred} (hs:t.size=29:=by rfl) (k0:tg t 0=h0:=by rfl) (k1:tg t 1=h1:=by rfl) (k2:tg t 2=h2:=by rfl) (k3:tg t 3=h3:=by rfl) (k4:tg t 4=h4:=by rfl) (k7:tg t 7=h7:=by rfl) (bu:tg t 16=an:=by rfl) (bt:tg t 17=am:=by rfl) (bs:tg t 18=al:=by rfl):Y2X h0 h1 h2 h3 h4 h7 an am al ds {tmps:=t,defers:=ds}:=⟨tg t,by subst_vars;exact tgE hs ds⟩
theorem yuM (bf b7 b8:Nat) (u:Nat->Nat) (fi la n:Int) (ev sq:Bool) (r rb:Ru) (aA:r.l5.length<=1000000/\rb.l5.length<=1000000) (hu:∀i,i<46->u i<18446744073709551616) (h6:∀x∈mkN (u 6),x<8) :
  yeV I 118 #[R (G (Z b7 0 N)),R (G (Z bf 0 N)),R (G (Z b8 0 N))] 10 (VRu (ya0 u r [0,1,2]++ya0 u rb [1,2])) (yk2 bf b7 b8 u fi la n ev sq r rb) (yk2 bf b7 b8 u fi la n ev sq r rb) (yk2 bf b7 b8 u fi la n ev sq r rb) noM:=by
 intro y Jq Jx O F W hH bb hC hJ;obtain ⟨yf,yi,yc,rfl⟩:=hC.form;show H I 118 #[.func yf yi yc,R (G (Z b7 0 N)),R (G (Z bf 0 N)),R (G (Z b8 0 N))] W _;have a7:=TlS.start hC hJ bb hH.f.lt;obtain ⟨W0,aC⟩:=zx (W.alloc (J #[.func yf yi yc] 26));have q3:W0.heap.size=W.heap.size+1:=by rw [<- aC];simp
 have q4:Bw W W0:=by rw [<- aC];exact yaa (Ye _ _) zg
 have q5:W0.cell? (Z W.heap.size 0 N)=G (.func yf yi yc):=by rw [<- aC];simp [go_sem]
 have aN:=a7.call hC q4;have af:=hH.keep q4.size (λ b hb=> .inl hb) aN.lt (λ b hb=>q4.block b (hH.f.lt b hb));obtain ⟨bY,aL⟩:=zx W.heap.size;rw [aL] at q5;have aX:ycv F W W0 bY:= .inr ⟨Nat.le_of_eq aL,by omega⟩;obtain ⟨F0,bd⟩:=zx (ycv F W W0);rw [bd] at aN af aX;have HC:=hid hC;have bn:=hid aN;have ag:=hid af;have HY:=hid (Ya aX q5);have bI:=hid aC;have bH:=hid aL;have cN:=hid (λ r b m hows W=>ysQ (u:=u) (fi:=fi) (la:=la) (n:=n) (ev:=ev) (sq:=sq) af.f.tab af.f.inF.2 af.f.lt r b m hows W);have au:=hid af.f.lt;have cT:=hid (λ bf bh br hows r h1 h2 h3=>yig bf bh br u fi la n ev sq hows r h1 h2 h3 hu h6);have ad:Hid (∀W2:World,Bw W0 W2->Hid ((ydH (R (G (Z b7 0 N)))).run I W2= .ok (ruv r) W2/\(ygQ (R (G (Z bf 0 N)))).run I W2= .ok (fcv u fi la n ev sq) W2/\(ydH (R (G (Z b8 0 N)))).run I W2= .ok (ruv rb) W2)):=λ W2 hB=>
  have h:=af.keep (F':=ycv F0 W0 W2) hB.size (λ b hb=> .inl hb) (λ b hb=>hb.elim (λ h=>zH (af.f.lt b h) hB.size) (·.2)) (λ b hb=>hB.block b (af.f.lt b hb))
  ⟨h.r7.ldw,h.f.c.ld,h.r8.ldw⟩
 have bk:=hid aA;clear hH bb hC hJ a7 hu h6 aC q3 q4 q5 aN af aL aX bd aA;refine (wf_calls (r:=N) (n:=1)).mp ?_;refine callsIn_of_wp_marks Tryz.func118 rfl trivial ?_ rfl;simp only [Tryz.ntmps118,Yp,Yu,YS,Nat.reduceAdd,Nat.reduceSub,YE,YD,YQ,YJ,Y0,YH];gi_wp2_with fail
 refine ybO ?_;gi_wp2_with fail
 rw [bI,bH];refine wpIn_label ?_;gi_upto_region 1 with fail
 refine wf_wp.mpr ?_;go_cut [16,17,18] from 8 to 18 (λ bq bp bo wx=>bp=E T 2/\bo=E T 0/\∃aa,bq=Xs (G (Z aa 0 N)) 2 2/\Hid (Y2W u fi la n ev sq r rb F0 W0 aa wx))
 case first=>
  refine yk5 ?_;refine ysJ [] (S:=λ W2=>Hid ((ydH (R (G (Z b7 0 N)))).run I W2= .ok (ruv r) W2/\(ygQ (R (G (Z bf 0 N)))).run I W2= .ok (fcv u fi la n ev sq) W2/\(ydH (R (G (Z b8 0 N)))).run I W2= .ok (ruv rb) W2)) zk (ad _ (Ye _ _).drew) (λ aF=>?_);refine zfA 0 ?_;refine zfA 1 ?_;refine zfA 4 ?_;refine zfA 5 ?_;refine zfA 10 ?_;have aY:Bw W0 W0.drew:=(Ye _ _).drew;generalize bv:W0.drew=wd at aY aF⊢
  clear bv;refine OrdF.two (i:=2) (j:=6) rfl rfl zk (λ K hK=>?_) (λ K hK=>?_);focus
   rw [Yd (by rfl)];go_simp;obtain ⟨w2,b2,h,e,B2,p2,l2⟩:=ygS W0 wd [0,1,2] 3 #[E T 0,E T 1,E T 2] rfl aY;rw [h,e];clear h e;refine hK _ _ (λ _=>ad _ B2) ?_;clear hK;refine OrdF.two (i:=3) (j:=6) rfl rfl zk (λ K hK=>?_) (λ K hK=>?_);focus
    rw [Yd (by rfl)];go_simp;refine (cN r b2 3 [0,1,2] w2 B2 l2 rfl ag.k7).mono ?_;rintro e w3 ⟨⟨f3,i3,c3,rfl,V3⟩,B3,p3⟩;replace l2:=l2.later p3;refine hK _ _ (λ _=>ad _ B3) ?_;clear hK;refine rgO 6 (λ K hK=>?_);rw [Yd (by rfl)];go_simp;obtain ⟨w6,b6,h,e,B6,p6,l6⟩:=ygS W0 w3 [1,2] 3 #[E T 1,E T 2] rfl B3;rw [h,e];clear h e;replace l2:=l2.later p6;replace V3:=V3.later au B3 p6;refine hK _ _ (λ _=>ad _ B6) ?_;clear hK;refine rgO 7 (λ K hK=>?_);rw [Yd (by rfl)];go_simp;refine (cN rb b6 2 [1,2] w6 B6 l6 rfl ag.k8).mono ?_;rintro e w7 ⟨⟨f7,i7,c7,rfl,V7⟩,B7,p7⟩;replace l2:=l2.later p7;replace l6:=l6.later p7;replace V3:=V3.later au B6 p7
   rotate_left;focus
    rw [Yd (by rfl)];go_simp;obtain ⟨w6,b6,h,e,B6,p6,l6⟩:=ygS W0 w2 [1,2] 3 #[E T 1,E T 2] rfl B2;rw [h,e];clear h e;replace l2:=l2.later p6;refine hK _ _ (λ _=>ad _ B6) ?_;clear hK;refine rgO 3 (λ K hK=>?_);rw [Yd (by rfl)];go_simp;refine (cN r b2 3 [0,1,2] w6 B6 l2 rfl ag.k7).mono ?_;rintro e w3 ⟨⟨f3,i3,c3,rfl,V3⟩,B3,p3⟩;replace l2:=l2.later p3;replace l6:=l6.later p3;refine hK _ _ (λ _=>ad _ B3) ?_;clear hK;refine rgO 7 (λ K hK=>?_);rw [Yd (by rfl)];go_simp;refine (cN rb b6 2 [1,2] w3 B3 l6 rfl ag.k8).mono ?_;rintro e w7 ⟨⟨f7,i7,c7,rfl,V7⟩,B7,p7⟩;replace l2:=l2.later p7;replace l6:=l6.later p7;replace V3:=V3.later au B3 p7
   rotate_left
  rotate_left 2;focus
   rw [Yd (by rfl)];go_simp;obtain ⟨w6,b6,h,e,B6,p6,l6⟩:=ygS W0 wd [1,2] 3 #[E T 1,E T 2] rfl aY;rw [h,e];clear h e;refine hK _ _ (λ _=>ad _ B6) ?_;clear hK;refine rgO 2 (λ K hK=>?_);rw [Yd (by rfl)];go_simp;obtain ⟨w2,b2,h,e,B2,p2,l2⟩:=ygS W0 w6 [0,1,2] 3 #[E T 0,E T 1,E T 2] rfl B6;rw [h,e];clear h e;replace l6:=l6.later p2;refine hK _ _ (λ _=>ad _ B2) ?_;clear hK;refine rgO 3 (λ K hK=>?_);rw [Yd (by rfl)];go_simp;refine (cN r b2 3 [0,1,2] w2 B2 l2 rfl ag.k7).mono ?_;rintro e w3 ⟨⟨f3,i3,c3,rfl,V3⟩,B3,p3⟩;replace l2:=l2.later p3;replace l6:=l6.later p3;refine hK _ _ (λ _=>ad _ B3) ?_;clear hK;refine rgO 7 (λ K hK=>?_);rw [Yd (by rfl)];go_simp;refine (cN rb b6 2 [1,2] w3 B3 l6 rfl ag.k8).mono ?_;rintro e w7 ⟨⟨f7,i7,c7,rfl,V7⟩,B7,p7⟩;replace l2:=l2.later p7;replace l6:=l6.later p7;replace V3:=V3.later au B3 p7
  rotate_left;all_goals
   refine hK _ _ (λ _=>ad _ B7) ?_;clear hK;refine rgO 8 (λ K hK=>?_);rw [Yd (by rfl)];go_simp;obtain ⟨w8,b9,h,e,HX⟩:=yvW au 66 B7 V3 V7;rw [h,e];clear h e;have a8:=ad _ HX.1;refine hK _ _ (λ _=>a8) ?_;clear hK;refine zfA 9 ?_;refine OrdF.done zk ?_ _;clear a8 l2 l6 V3 V7 p2 p3 p6 p7 B2 B3 B6 B7;go_wp2_with fail
   go_meet;exact ⟨rfl,rfl,_,rfl,HX⟩
 case rest=>
  obtain ⟨rfl,rfl,aa,rfl,HX⟩:=hcut;obtain ⟨hB,g1,g2,v1,v2,c1,c2,a2,a1⟩:=HX.out;have aU:=bn.call HC hB;have a9:=ag.keep (F':=ycv F0 W0 wc) hB.size (λ b hb=> .inl hb) aU.lt (λ b hb=>hB.block b (ag.f.lt b hb));have aK:ycv F0 W0 wc bY/\wc.cell? (Z bY 0 N)=G (.func yf yi yc):=⟨.inl HY.1,(hB.cell (p:=Z bY 0 N) (ag.f.lt _ HY.1)).trans HY.2⟩;have HS:Hid (Y2S Jq O F W bf b7 b8 bY aa (.func yf yi yc) u fi la n ev sq r rb v1 v2 (yf0 0) O (ycv F0 W0 wc) wc):=⟨aU,a9,aK,⟨.inr ⟨g1,g2⟩,c1,c2⟩,a2,a1⟩;obtain ⟨F1,bc⟩:=zx (ycv F0 W0 wc);rw [bc] at HS;clear HX hB g1 g2 c1 c2 a2 a1 aU a9 aK bc bn ag HY ad cN au;gi_wp2_with fail
  refine wpIn_loop (λ a' w'=>∃(i:Nat) (Ds:List Nat) (O' F':Blk),i<=2/\Y2T (.func yf yi yc) (R (G (Z b7 0 N))) (R (G (Z bf 0 N))) (R (G (Z b8 0 N))) (R (G (Z bY 0 N))) (Xs (G (Z aa 0 N)) 2 2) (E T 2) (E T i) (marks Ds) a'/\Hid (Y2S Jq O F W bf b7 b8 bY aa (.func yf yi yc) u fi la n ev sq r rb v1 v2 (yf0 i) O' F' w'/\(∀D∈Ds,w'.heap[D]? =G (.deferred (G []))/\W.heap.size<=D/\¬O' D/\¬F' D)/\Ds.Nodup)) (λ a' _=>(2-intOf (a'.tmps.getD 18 undef)).toNat) ?start ?round
  case start=>exact ⟨0,[],O,F1,by omega,Y2T.of,HS,λ D h=>(by cases h),List.nodup_nil⟩
  case round=>
   rintro a' w4 ⟨i,Ds,O4,F4,hi,⟨U,rfl⟩,HI⟩;clear HS;by_cases hlt:i<2
   ·have bD:(i:Int)<2:=zo;obtain ⟨hows,rr,v,cv,wv,a4,aj,hh,ay,aA⟩:∃hows rr v,w4.cell? (Z aa i N)=G v/\WithV u fi la n ev sq hows rr v F4 w4/\yf0 (i+1)=yf0 i+2*hows.length/\(∀k c,(ya0 u rr hows)[k]? =G c->(ya0 u r [0,1,2]++ya0 u rb [1,2])[yf0 i+k]? =G c/\yf0 i+k<10)/\(∀h∈hows,h=0\/ h=1\/ h=2)/\hows.length<=3/\rr.l5.length<=1000000:=by
     have:i=0\/ i=1:=zo
     rcases this with rfl | rfl
     ·refine ⟨[0,1,2],r,v1,HI.1.c1.2.1,HI.1.w1,rfl,λ k c hk=>?_,by simp,by decide,bk.1⟩;have hlt:=(zzq.1 hk).1;rw [ybE] at hlt;refine ⟨?_,by simp [yf0] at hlt⊢;omega⟩;rw [show yf0 0+k=k by simp [yf0],Yo (by rw [ybE];exact hlt)];exact hk
     ·refine ⟨[1,2],rb,v2,HI.1.c1.2.2,HI.1.w2,rfl,λ k c hk=>?_,by simp,by decide,bk.2⟩;have hlt:=(zzq.1 hk).1;rw [ybE] at hlt;refine ⟨?_,by simp [yf0] at hlt⊢;omega⟩;rw [show yf0 1+k= (ya0 u r [0,1,2]).length+k by rw [ybE];rfl,Yl zo,Zn];exact hk
    obtain ⟨bj,bi,bg,rfl,hW⟩:=wv;have tl:=hid (cT bj bi bg hows rr hh ay aA);have HW:=hid hW;have bG:=hid a4;have bl:=hid aj;clear a4 aj hh ay aA hW;gi_wp2_with fail
    refine ybu (F:=F4) (M:=noM) (gf:=166) (lb:=#[R (G (Z bj 0 N)),R (G (Z bi 0 N)),R (G (Z bg 0 N))]) rfl yfF O4
     (λ k vs F W h=>by obtain ⟨_,_,_,rfl,_⟩:=h;rfl) tl HWt.host HWt.host HWt.host HW HI.1.t.dj
     (λ k O F W'=>Jq (yf0 i+k) O F W'/\F bY/\W'.cell? (Z bY 0 N)=G (.func yf yi yc))
     (λ c k O F W'=>c= .exit 0/\Jx (yf0 i+k) O F W')
     ?stab ?stabx ?lt ?ltx ⟨HI.1.t.j,HI.1.cy⟩
     (λ k O F a' W'=>(Jq (yf0 i+k) O F W'/\F bY/\W'.cell? (Z bY 0 N)=G (.func yf yi yc))/\(∀b,F b->¬O b/\b<W'.heap.size)/\∃c rq bx,(ya0 u rr hows)[k]? =G c/\RuE c rq/\RuK F rq W'/\RuB W' bx rq/\Y2X (.func yf yi yc) (R (G (Z b7 0 N))) (R (G (Z bf 0 N))) (R (G (Z b8 0 N))) (R (G (Z bY 0 N))) (R (G (Z bx 0 N))) (Xs (G (Z aa 0 N)) 2 2) (E T 2) (E T i) [] a')
     ?putl ?assign ?body ?done ?stop
    case stab=>
     rintro k O F F' W W' ⟨h1,h2,h3⟩ hs hF hO;exact ⟨HC.stab _ O F F' W W' h1 hs hF hO,hF _ h2,(zzJ (w:=W) (a:=Z bY 0 N) (hO bY (.inr ⟨h2,λ h=>h⟩))).trans h3⟩
    case stabx=>
     rintro c k O F F' W W' ⟨rfl,h⟩ hs hF hO;exact ⟨rfl,HC.stabx _ O F F' W W' h hs hF hO⟩
    case lt=>intro k O F W h;exact HC.lt _ _ _ _ h.1
    case ltx=>rintro c k O F W ⟨rfl,h⟩;exact HC.ltx _ _ _ _ h
    case putl=>
     rintro l o k O F a' W hr hO hF ⟨⟨h1,h2,h3⟩,h4,c,rq,bx,h5,h6,h7,h8,h9⟩;have ko:∀b,b≠l->(W.putObj l o).heap[b]? =W.heap[b]?:=λ b hb=>Yc hb;have ks:W.heap.size<=(W.putObj l o).heap.size:=(by rw [Yg];exact zG _);exact ⟨⟨HC.stab _ O F F W _ h1 ks zi (λ b hb=>ko b (λ e=>hb.elim (λ h=>hO (e ▸ h)) (λ h=>hF (e ▸ h.1)))),h2,yaC hr h3⟩,λ b hb=>⟨(h4 b hb).1,by rw [Yg];exact (h4 b hb).2⟩,c,rq,bx,h5,h6,h7.keep ks zi (λ b hb=>ko b (λ e=>hF (e ▸ hb))),yll h8 hr,h9⟩
    case assign=>
     rintro l k O9 F9 W9 vs K hk ⟨h1,h2,h3⟩ hd ⟨c,rq,hc,rfl,hE,aD,az⟩ hG hK;obtain ⟨m1,m2,m3,m4⟩:=ycj W9 rq;have ax:=HC.lt _ _ _ _ h1;obtain ⟨w5,a3⟩:=zx ((W9.alloc (J zl0 25)).setCells W9.heap.size 0 (yad rq));rw [a3] at m1 m2 m3 m4;have ks:=m3.size;have kb:∀b,b<W9.heap.size->w5.heap[b]? =W9.heap[b]?:=λ b hb=>m3.block b hb;have hA:Hid ((Jq (yf0 i+k) O9 F9 w5/\F9 bY/\w5.cell? (Z bY 0 N)=G (.func yf yi yc))/\(∀b,F9 b->¬O9 b/\b<w5.heap.size)/\RuK F9 rq w5/\RuB w5 W9.heap.size rq):=
      ⟨⟨HC.stab _ O9 F9 F9 W9 w5 h1 ks zi (λ b hb=>kb b (hb.elim (ax b) (λ h=>az b h.1))),h2,(zzJ (w:=W9) (a:=Z bY 0 N) (kb bY (az bY h2))).trans h3⟩,λ b hb=>⟨(hd b hb).1,zH (az b hb) ks⟩,aD.keep ks zi (λ b hb=>kb b (az b hb)),m2.c⟩
     have hg:Hid (yaM O9 O9 W9 w5):=⟨λ _ h=>h,λ _ h=> .inl h,Eff.of_below m3⟩;have bm:=hid (Ya hc hE);clear m2 m3 m4 ax a3 ks kb h1 h2 h3 hd aD az hc hE hG;gi_wp2
     exact hK _ O9 _ hg ⟨hA.1,hA.2.1,c,rq,_,bm.1,bm.2,hA.2.2.1,hA.2.2.2,Y2X.of⟩
    case body=>
     rintro l k O9 F9 a' W9 hk hG hl bA bL aq ⟨⟨ak,aM,aG⟩,aJ,c,rq,bx,hc,hE,aD,be,⟨U9,rfl⟩⟩;have aj:=bl k c hc;have aI:=hid (HC.call (yf0 i+k) O9 F9 W9 #[ruv rq] aj.2 ak (λ b hb=>(aJ b hb).1) ⟨c,rq,aj.1,rfl,hE,aD,λ b hb=>(aJ b hb).2⟩ (HI.1.t.gr.trans hG));have bK:=be.ldw;have aQ:=hid (Ya aM (Ya aG (aJ bY aM)));clear aj ak aD hE hc hG be aJ;gi_wp2_with (refine ylX (.tmp 24) (.tmp 25) _ rfl rfl rfl rfl aI ?_)
     rintro e aP aH y1 y2 y3 aT;have hg:Hid (yaM O9 aH W9 aP):=⟨y1,y2,y3⟩;have aK:Hid (F9 bY/\aP.cell? (Z bY 0 N)=G (.func yf yi yc)):=⟨aQ.1,(y3.cell (p:=Z bY 0 N) aQ.2.2.2 aQ.2.2.1).trans aQ.2.1⟩;rcases aT with ⟨rfl,aE⟩ | ⟨rfl,aE⟩
     ·have a0:Hid (Jq (yf0 i+(k+1)) aH F9 aP):=aE;clear y1 y2 y3 aE aG;refine ⟨_,rfl,?_⟩;gi_wp2
      exact ⟨aH,hg,a0,aK⟩
     ·have a0:Hid (Jx (yf0 i+(k+1)) aH F9 aP):=aE;clear y1 y2 y3 aE aG;refine ⟨_,rfl,?_⟩;gi_wp2
      exact ⟨aH,hg,rfl,a0⟩
    case done=>
     rintro O9 F9 w9 ac ba ao ap ae ⟨ak,aM,aG⟩ hD aw aq;obtain ⟨hS,ab,ah⟩:=HI.out;have kb:∀b,F4 b->w9.heap[b]? =w4.heap[b]?:=λ b hb=>ac.eff.block b (hS.t.lt b hb) (λ h=>h.elim (hS.t.dj b hb) (λ h=>h));have av:TlS Jq O F W (yf0 (i+1)) O9 F9 w9:=by
      refine ⟨by rw [bG];exact ak,hS.t.gr.trans ac,λ b hb=>ao b (hS.t.sub b hb),λ b hb=>?_,ae,ba.f.lt⟩;rcases ap b hb with h | h
      ·exact hS.t.new b h
      ·exact .inr (zI hS.t.gr.eff.size h)
     have aZ:Hid (Y2S Jq O F W bf b7 b8 bY aa (.func yf yi yc) u fi la n ev sq r rb v1 v2 (yf0 (i+1)) O9 F9 w9/\(∀D∈w4.heap.size::Ds,w9.heap[D]? =G (.deferred (G []))/\W.heap.size<=D/\¬O9 D/\¬F9 D)/\(w4.heap.size::Ds).Nodup):=by
      refine ⟨hS.keep av ac.eff.size ao kb,λ D ai=>?_,List.nodup_cons.mpr ⟨λ h=>?_,ah⟩⟩
      ·rcases List.mem_cons.mp ai with rfl | ai
       ·exact ⟨hD,hS.t.gr.eff.size,aw,aq⟩
       ·obtain ⟨q1,q2,q3,q4⟩:=ab D ai;have aS:=yam q1;refine ⟨(ac.eff.block D aS (λ h=>h.elim q3 (λ h=>h))).trans q1,q2,λ h=>?_,λ h=>?_⟩
        ·rcases ac.new D h with h | h
         ·exact q3 h
         ·omega
        ·rcases ap D h with h | h
         ·exact q4 h
         ·omega
      ·have:=yam (ab _ h).1;omega
     clear hS ab ah kb av ac ba ao ap ae ak aM aG hD aw aq;gi_wp2
     exact ⟨⟨i+1,w4.heap.size::Ds,O9,F9,by omega,Y2T.of,aZ⟩,by simp [intOf];omega⟩
    case stop=>
     rintro c k O9 F9 w9 bN bM ac aV ao ap ae ⟨rfl,ak⟩ hD aw aq;obtain ⟨hS,ab,ah⟩:=HI.out;have kb:∀b,F4 b->w9.heap[b]? =w4.heap[b]?:=λ b hb=>ac.eff.block b (hS.t.lt b hb) (λ h=>h.elim (hS.t.dj b hb) (λ h=>h));have av:TlS Jx O F W (yf0 i+k) O9 F9 w9:=by
      refine ⟨ak,hS.t.gr.trans ac,λ b hb=>ao b (hS.t.sub b hb),λ b hb=>?_,ae,aV.f.lt⟩;rcases ap b hb with h | h
      ·exact hS.t.new b h
      ·exact .inr (zI hS.t.gr.eff.size h)
     have aB:yf0 i+k<=10:=by
      have aR:k-1<(ya0 u rr hows).length:=(by rw [ybE];omega);have:=(bl (k-1) _ (zzp aR)).2;omega
     have aZ:Hid (TlS Jx O F W (yf0 i+k) O9 F9 w9/\yk2 bf b7 b8 u fi la n ev sq r rb F9 w9/\(∀D∈w4.heap.size::Ds,w9.heap[D]? =G (.deferred (G []))/\W.heap.size<=D/\¬O9 D/\¬F9 D)/\(w4.heap.size::Ds).Nodup/\1<=yf0 i+k/\yf0 i+k<=10):=by
      refine ⟨av,hS.h.keep ac.eff.size ao aV.f.lt kb,λ D ai=>?_,List.nodup_cons.mpr ⟨λ h=>?_,ah⟩,by omega,aB⟩
      ·rcases List.mem_cons.mp ai with rfl | ai
       ·exact ⟨hD,hS.t.gr.eff.size,aw,aq⟩
       ·obtain ⟨q1,q2,q3,q4⟩:=ab D ai;have aS:=yam q1;refine ⟨(ac.eff.block D aS (λ h=>h.elim q3 (λ h=>h))).trans q1,q2,λ h=>?_,λ h=>?_⟩
        ·rcases ac.new D h with h | h
         ·exact q3 h
         ·omega
        ·rcases ap D h with h | h
         ·exact q4 h
         ·omega
      ·have:=yam (ab _ h).1;omega
     clear hS ab ah kb av ac aV ao ap ae ak hD aw aq aB;gi_wp2
     rw [Zc];obtain ⟨ht,hh,ab,ah,g1,g2⟩:=aZ.out;refine ya6 zs (w4.heap.size::Ds) w9 ah (λ D hD=>(ab D hD).1) ?_;intro w' e1 e2 e3 e4 e5;have bw:=ht.marks HC.stabx (Ds:=w4.heap.size::Ds) (λ D hD=>(ab D hD).2) e1 e2 e3 e4 e5;have bF:=hh.keep (F':=F9) (W':=w') zo zi (λ b hb=>by rw [e4];exact ht.lt b hb) (λ b hb=>e5 b (λ hd=>(ab b hd).2.2.2 hb));exact ⟨_,YO rfl _ _ _,⟨_,rfl⟩,ygw (Jq:=Jq) bw bF g1 g2⟩
   ·obtain rfl:i=2:=zo;have bJ:=HI;clear hi hlt;gi_wp2
    rw [Zc];obtain ⟨hS,ab,ah⟩:=bJ.out;refine ya6 zs Ds w4 ah (λ D hD=>(ab D hD).1) ?_;intro w' e1 e2 e3 e4 e5;have ht:=hS.t.marks HC.stab (Ds:=Ds) (λ D hD=>(ab D hD).2) e1 e2 e3 e4 e5;have hh:=hS.h.keep (F':=F4) (W':=w') zo zi (λ b hb=>by rw [e4];exact hS.t.lt b hb) (λ b hb=>e5 b (λ hd=>(ab b hd).2.2.2 hb));exact ⟨_,YO rfl _ _ _,⟨_,rfl⟩,yf9 ht hh⟩
end
section
attribute [local go_sem ↓] ycd ybd ybb
theorem yr7 (u:Nat->Nat) (fi la n:Int) (ev sq:Bool) (g:Nat->Int) (q:Nat) (w:World) (hq:q<7) (hu:∀i,i<46->u i<18446744073709551616) (hT:Tab w) :
  H I 114 #[fcv u fi la n ev sq,yjC g,E T q] w λ e w'=>∃r,e=Q (ruv r)/\RuE (ybF u fi la g q) r/\RuK (λ b=>w.heap.size<=b) r w'/\Bw w w':=by
 have hA:=yg3 w 43 u fi la n ev sq;have e0:(w.alloc (J (fcL u fi la n ev sq).toArray 43)).heap.size=w.heap.size+1:=zzN _ _;have b0:Bw w (w.alloc (J (fcL u fi la n ev sq).toArray 43)):=yaa (Ye _ _) zg;rw [yhx];generalize a0:(fcL u fi la n ev sq).toArray=A at hA e0 b0⊢
 obtain ⟨W0,ay⟩:=zx (w.alloc (J A 43));rw [ay] at hA e0 b0;rw [show yjC g= .agg (L7 g).toArray from rfl];have ai:(W0.alloc (J (L7 g).toArray 46)).cell? (Z W0.heap.size q N)=G (E T (g q)):=by
  rw [World.cell?,Y1];have:q=0\/ q=1\/ q=2\/ q=3\/ q=4\/ q=5\/ q=6:=zo
  rcases this with rfl | rfl | rfl | rfl | rfl | rfl | rfl <;> rfl
 generalize aZ:(L7 g).toArray=AG at ai⊢
 have b1:Bw W0 (W0.alloc (J AG 46)):=yaa (Ye _ _) zg;have e1:(W0.alloc (J AG 46)).heap.size=W0.heap.size+1:=zzN _ _;obtain ⟨W1,aw⟩:=zx (W0.alloc (J AG 46));rw [aw] at ai b1 e1;have b2:Bw W1 (W1.alloc (J zl0 25)):=yaa (Ye _ _) zg;have ah:(W1.alloc (J zl0 25)).there W1.heap.size 0 11:=yaL W1 _ _;have ag:∀i,(W1.alloc (J zl0 25)).frozen? (Z W1.heap.size i N)=false:=λ i=>yan W1 _ _ i;have e2:(W1.alloc (J zl0 25)).heap.size=W1.heap.size+1:=zzN _ _;obtain ⟨W2,av⟩:=zx (W1.alloc (J zl0 25));rw [av] at b2 ah ag e2;have an:Bw w W2:=b0.trans ((zu b1 b2).mono b0.size);have ap:=(hA.block b1.size (b1.block _ hA.lt)).block b2.size (b2.block _ (zH hA.lt b1.size));have aj:=(b2.cell (p:=Z W0.heap.size q N) (show W0.heap.size<W1.heap.size by omega)).trans ai;obtain ⟨bf,az⟩:=zx w.heap.size;obtain ⟨bp,aT⟩:=zx W0.heap.size;obtain ⟨b6,aU⟩:=zx W1.heap.size;obtain ⟨Gq,hG⟩:=zx (g q);rw [hG] at aj;rw [az] at ap;rw [aT] at aj;rw [aU] at ah ag;have au:bf<W2.heap.size/\bp<W2.heap.size/\b6<W2.heap.size:=⟨by omega,by omega,by omega⟩;have hC:Hid (∀W:World,Bw W2 W->Hid (W.cell? (Z bf 46 N)=G (E T fi)/\W.cell? (Z bf 47 N)=G (E T la)/\W.cell? (Z bp q N)=G (E T Gq)/\W.cell? (Z bf 3 N)=G (E Y (u 3:Nat))/\W.cell? (Z bf 2 N)=G (E Y (u 2:Nat))/\W.cell? (Z bf 1 N)=G (E Y (u 1:Nat))/\W.cell? (Z bf 0 N)=G (E Y (u 0:Nat)))/\Tab W):=λ W hB=>
  have h:=ap.block hB.size (hB.block _ ap.lt)
  ⟨⟨h.c46,h.c47,(hB.cell (p:=Z bp q N) au.2.1).trans aj,h.c 3 zo,h.c 2 zo,h.c 1 zo,h.c 0 zo⟩,hT.later (zu an hB)⟩
 have H6:Hid (W2.there b6 0 11/\(∀i,W2.frozen? (Z b6 i N)=false)/\b6<W2.heap.size):=⟨ah,ag,au.2.2⟩;have cL:=hid (λ i W (hi:i<46) hT=>yel (yhe (u i) W (hu i hi) hT));have aB:=hid an;have ba:=hid ay;have a4:=hid aw;have a3:=hid av;have aV:=hid az;have aA:Hid (bf+1=bp/\bp+1=b6/\bf<=b6):=⟨by omega,by omega,by omega⟩;have HG:=hid hG;have bd:(q:Int)<7:=zo;clear aZ a0 hA e0 b0 ay ai b1 e1 aw b2 ah ag e2 av an ap aj az aT aU au hT hu hG;go_enter Tryz.func114,Tryz.ntmps114
 go_upto_region 1 with fail
 rw [ba];rw [a4,a3,aV,aA.1,aA.2.1];refine ysJ [22] (S:=λ W=>Hid (W.cell? (Z bf 46 N)=G (E T fi)/\W.cell? (Z bf 47 N)=G (E T la)/\W.cell? (Z bp q N)=G (E T Gq)/\W.cell? (Z bf 3 N)=G (E Y (u 3:Nat))/\W.cell? (Z bf 2 N)=G (E Y (u 2:Nat))/\W.cell? (Z bf 1 N)=G (E Y (u 1:Nat))/\W.cell? (Z bf 0 N)=G (E Y (u 0:Nat)))) zk (hC _ (Ye _ _).drew).1 (λ af=>?_);have ao:Bw W2 W2.drew:=(Ye _ _).drew;refine zfA 0 ?_;refine zfA 1 ?_;refine zfA 2 ?_;refine zfA 3 ?_;refine zfA 4 ?_;refine zfA 5 ?_;refine zfA 6 ?_;refine zfA 7 ?_;refine zfA 8 ?_;refine zfA 9 ?_;refine zfA 10 ?_;refine zfA 12 ?_;refine zfA 13 ?_;refine zfA 15 ?_;refine zfA 16 ?_;refine zfA 18 ?_;refine zfA 19 ?_;refine rgO 11 (λ K hK=>?_);rw [Yd (by rfl)];go_simp;refine (cL 3 _ zo (hC _ ao).2).mono ?_;rintro e w0 ⟨a5,n5,c5,rfl,aM,-,aI,aR⟩;have ad:=zu ao aR;have aQ:=(hC _ ad).1;refine hK _ _ (λ _=>aQ) ?_;clear hK;refine rgO 14 (λ K hK=>?_);rw [Yd (by rfl)];go_simp;refine (cL 2 _ zo (hC _ ad).2).mono ?_;rintro e w1 ⟨a8,n8,c8,rfl,aL,-,aH,am⟩;have ac:=zu ad am;have aP:=(hC _ ac).1;refine hK _ _ (λ _=>aP) ?_;clear hK;refine rgO 17 (λ K hK=>?_);rw [Yd (by rfl)];go_simp;refine (cL 1 _ zo (hC _ ac).2).mono ?_;rintro e w2 ⟨a9,n9,c9,rfl,aK,-,aG,al⟩;have ab:=zu ac al;have aO:=(hC _ ab).1;refine hK _ _ (λ _=>aO) ?_;clear hK;refine rgO 20 (λ K hK=>?_);rw [Yd (by rfl)];go_simp;refine (cL 0 _ zo (hC _ ab).2).mono ?_;rintro e w3 ⟨ax,nx,cx,rfl,aJ,-,aF,ak⟩;have aa:=zu ab ak;have aN:=(hC _ aa).1;refine hK _ _ (λ _=>aN) ?_;clear hK;refine zfA 21 ?_;have ht:=H6.out;have aD:w3.there b6 0 11:=λ j hj=>⟨by rw [aa.cell (p:=Z b6 (0+j) N) ht.2.2];exact (ht.1 j hj).1,by rw [aa.frozen (p:=Z b6 (0+j) N) ht.2.2];exact (ht.1 j hj).2⟩;obtain ⟨p1,p2,p3⟩:=RuW.put (W:=w3) (b:=b6) aD (λ i=>(aa.frozen (p:=Z b6 i N) ht.2.2).trans (ht.2.1 i)) (zH ht.2.2 aa.size)
  {st:=fi,fq:=(q:Int),iv:=max Gq 1,co:=0,un:=la,l5:=mkN (u 3),a5:=a5,c5:=c5,l6:= [],a6:=N,c6:=0,l7:= [],a7:=N,c7:=0,l8:=mkN (u 2),a8:=a8,c8:=c8,l9:=mkN (u 1),a9:=a9,c9:=c9,lx:=mkN (u 0),ax:=ax,cx:=cx}
 have aq:(ycP (R (G (Z b6 0 N))) (.agg #[E T fi,E T (q:Int),E T (max Gq 1),E T 0,E T la,Xs a5 n5 c5,Xs N 0 0,Xs N 0 0,Xs a8 n8 c8,Xs a9 n9 c9,Xs ax nx cx])).run I w3= .ok () (w3.setCells b6 0 (yad {st:=fi,fq:=(q:Int),iv:=max Gq 1,co:=0,un:=la,l5:=mkN (u 3),a5:=a5,c5:=c5,l6:= [],a6:=N,c6:=0,l7:= [],a7:=N,c7:=0,l8:=mkN (u 2),a8:=a8,c8:=c8,l9:=mkN (u 1),a9:=a9,c9:=c9,lx:=mkN (u 0),ax:=ax,cx:=cx})):=by
  rw [aM,aL,aK,aJ];exact p1
 have ar:RuE (ybF u fi la g q) {st:=fi,fq:=(q:Int),iv:=max Gq 1,co:=0,un:=la,l5:=mkN (u 3),a5:=a5,c5:=c5,l6:= [],a6:=N,c6:=0,l7:= [],a7:=N,c7:=0,l8:=mkN (u 2),a8:=a8,c8:=c8,l9:=mkN (u 1),a9:=a9,c9:=c9,lx:=mkN (u 0),ax:=ax,cx:=cx}:=by rw [<- HG];rfl
 obtain ⟨r,hr⟩:∃r:Ru,{st:=fi,fq:=(q:Int),iv:=max Gq 1,co:=0,un:=la,l5:=mkN (u 3),a5:=a5,c5:=c5,l6:= [],a6:=N,c6:=0,l7:= [],a7:=N,c7:=0,l8:=mkN (u 2),a8:=a8,c8:=c8,l9:=mkN (u 1),a9:=a9,c9:=c9,lx:=mkN (u 0),ax:=ax,cx:=cx} =r:=⟨_,rfl⟩;obtain ⟨w4,ae⟩:=zx (w3.setCells b6 0 (yad r));have aS:Bw w w4:=by
  rw [<- ae];exact yaB (by have:=aV.out;have:=aA.out;omega) _ 0 _ (zu aB aa)
 have kp:∀b,b<w3.heap.size->b≠b6->w4.heap[b]? =w3.heap[b]?:=λ b hb aY=>by
  rw [<- ae];exact (Eff.setCells (O:=λ x=>x=b6) rfl (yad r) 0 w3 (Eff.refl _ _)).block b hb aY
 have aX:w4.heap.size=w3.heap.size:=by rw [<- ae,ya4]
 have own:∀(B:Nat) (a:Option Addr) (m c:Nat) (l:List Int) (W:World),Bw W2 W->Bw W w3->W.ownsRow B 3 1 (Xs a m c) m (yaR l)->W2.heap.size<=B->SlB (λ b=>w.heap.size<=b) a (yaR l) w4:=λ B a m c l W h1 h2 ho hB=>by
  have h3:=yd0 ho h2 zg;have h4:SlB (λ b=>w.heap.size<=b/\b≠b6) a (yaR l) w3:=SlB.own h3 λ b hb _=>⟨by have:=aB.size;omega,by have:=H6.2.2;omega⟩;rcases h4 with h | ⟨b,off,e,hb,hlt,hc⟩
  ·exact .inl h
  ·exact .inr ⟨b,off,e,hb.1,by omega,λ j hj=>(zzJ (w:=w3) (a:=Z b (off+j) N) (kp b hlt hb.2)).trans (hc j hj)⟩
 rw [hr] at aq p2 p3 ar;rw [ae] at aq p2 p3;have aC:=zu al ak;have aW:=zu am aC;have aE:RuK (λ b=>w.heap.size<=b) r w4:=by
  rw [<- hr];exact ⟨own _ _ _ _ _ _ ad aW aI (ao.size), .inl rfl, .inl rfl,own _ _ _ _ _ _ ac aC aH ad.size,own _ _ _ _ _ _ ab ak aG ac.size,own _ _ _ _ _ _ aa (Ye _ _) aF ab.size⟩
 have bc:=hid aS;have a1:=hid aE;have a2:=hid ar;have bb:=hid p2;clear aC aW ht aD p1 p2 p3 aS kp own aE ar hr ae aI aH aG aF aR am al ak ad ac ab aa aM aL aK aJ aX;refine rgO 22 (λ K hK=>?_);rw [Yd (by rfl)];go_simp;refine hK _ _ (λ h=>absurd h zd) ?_;clear hK;refine OrdF.done zk ?_ _;clear aq af aQ aP aO aN;go_wp2;refine Yh (yac (p:=6) rfl _ _ b6 0 _ _ rfl bb.c Tryz.underlying25 rfl (by exact yh0)) rfl ⟨r,rfl,a2,a1,bc⟩
end
section
attribute [local go_sem ↓] ycd ybd ybb yc4
variable {F M:Blk} {ev sq:Bool} {fi la n:Int} {b7 bf:Nat} {u:Nat->Nat} {c r:Ru} {W wb:World}
theorem RuE.iff:RuE c r↔(r.st=c.st/\r.fq=c.fq/\r.iv=c.iv/\r.co=c.co/\r.un=c.un/\r.l5=c.l5/\r.l6=c.l6/\r.l7=c.l7/\r.l8=c.l8/\r.l9=c.l9/\r.lx=c.lx):=by
 cases c;cases r;simp [RuE]
theorem RuE.trans {a b:Ru} (h:RuE a b) (k:RuE b c):RuE a c:=by
 rw [RuE.iff] at *;obtain ⟨h0,h1,h2,h3,h4,h5,h6,h7,h8,h9,hx⟩:=h;obtain ⟨k0,k1,k2,k3,k4,k5,k6,k7,k8,k9,kx⟩:=k;exact ⟨k0.trans h0,k1.trans h1,k2.trans h2,k3.trans h3,k4.trans h4,k5.trans h5,k6.trans h6,k7.trans h7,k8.trans h8,k9.trans h9,kx.trans hx⟩
def RuEs (cs ds:List Ru):Prop:=∀(k:Nat) (d:Ru),ds[k]? =G d->∃c,cs[k]? =G c/\RuE c d
theorem RuEs.map {α:Type} {f g:α->Ru} (h:∀x,RuE (f x) (g x)) (l:List α):RuEs (l.map f) (l.map g):=λ k d hd=>by
 rw [Y9] at hd;cases hx:l[k]? with
 | none=>rw [hx] at hd;cases hd
 | some x=>
   rw [hx] at hd;cases hd;exact ⟨f x,by rw [Y9,hx];rfl,h x⟩
theorem RuEs.app {a b c d:List Ru} (hl:a.length=b.length) (h:RuEs a b) (k:RuEs c d):RuEs (a++c) (b++d):=λ i x hx=>by
 by_cases hi:i<b.length
 ·rw [Yo hi] at hx;obtain ⟨y,hy,he⟩:=h i x hx;exact ⟨y,by rw [Yo zo];exact hy,he⟩
 ·rw [Yl zo] at hx;obtain ⟨y,hy,he⟩:=k _ x hx;exact ⟨y,by rw [Yl zo,hl];exact hy,he⟩
theorem ypB (h:RuE c r) (hows:List Int):RuEs (ya0 u c hows) (ya0 u r hows):=by
 have key:∀ds x,RuE (ykY u c ds x) (ykY u r ds x):=λ ds x=>by
  rw [RuE.iff] at h⊢;obtain ⟨h0,h1,h2,h3,h4,h5,h6,h7,h8,h9,hx⟩:=h;exact ⟨h0,h1,h2,h3,h4,h5,rfl,by show ydb _ _ _ =ydb _ _ _;rw [h5],h8,h9,hx⟩
 exact RuEs.app zs (RuEs.map (key _) hows) (RuEs.map (key _) hows)
theorem RuK.lt (h:RuK F r W):RuK (λ b=>F b/\b<W.heap.size) r W:=by
 have key:∀{a cs},SlB F a cs W->SlB (λ b=>F b/\b<W.heap.size) a cs W:=λ h=>by
  rcases h with h | ⟨b,off,e,h1,h2,h3⟩
  ·exact .inl h
  ·exact .inr ⟨b,off,e,⟨h1,h2⟩,h2,h3⟩
 exact ⟨key h.s5,key h.s6,key h.s7,key h.s8,key h.s9,key h.sx⟩
theorem yrU (W:World) (g:Nat->Int) (t:TypeId):Ar7 W.heap.size g (W.alloc (J (L7 g).toArray t)):=by
 refine ⟨λ i hi=>?_,λ i=>yan W _ t i,by simp⟩;have:=yap W (L7 g) t i _ (zzp (by rw [yec];exact hi));rw [zzn,yxr] at this;exact this
def OfT (cs:List Ru) (W W':World) (fv:Value):Prop:=∃(gf:Nat) (cap:Array Value) (Hq HN HS:Blk->World->Prop) (M:Blk),fv=Xf (.func gf) #[] cap/\(∀args w,(callFunc gf args).run I w= .ok (.enter gf args) w)/\
 yeV I gf cap cs.length (yy8 M cs) Hq HN HS M/\ych Hq M/\ych HN M/\ych HS M/\(∀b,M b->W.heap.size<=b)/\
 ∀F:Blk,(∀b,W.heap.size<=b->b<W'.heap.size->F b)->F 0->(∀b,F b->b<W'.heap.size)->Hq F W'
theorem ypV {P:Program} {gf:Nat} {cap:Array Value} {n:Nat} {V V':Nat->Array Value->Blk->World->Prop} {Hq HN HS:Blk->World->Prop} (h:yeV P gf cap n V Hq HN HS M) (hV:∀k vs F W,V k vs F W->V' k vs F W):yeV P gf cap n V' Hq HN HS M:=
 λ y Jq Jx O F W hH hd hC hJ=>h y Jq Jx O F W hH hd ⟨hC.form,hC.stab,hC.stabx,hC.lt,hC.ltx,λ k O F W vs hk hJ hd hv=>hC.call k O F W vs hk hJ hd (hV k vs F W hv)⟩ hJ
theorem yzq {cs ds:List Ru} (h:RuEs cs ds) (k:Nat) (vs:Array Value) (F:Blk) (W:World) (hv:yy8 M ds k vs F W):yy8 M cs k vs F W:=by
 obtain ⟨d,r,hd,e,hE,hK,hl⟩:=hv;obtain ⟨c,hc,aX⟩:=h k d hd;exact ⟨c,r,hc,e,aX.trans hE,hK,hl⟩
theorem yxK {cs:List Ru} (k:Nat) (vs:Array Value) (F:Blk) (W:World) (hv:VRu cs k vs F W):yy8 noM cs k vs F W:=by
 obtain ⟨d,r,hd,e,hE,hK,hl⟩:=hv;exact ⟨d,r,hd,e,hE,hK.keep zg (λ b hb=>⟨hb,λ h=>h⟩) (λ _ _=>rfl),hl⟩
theorem ym6 {hows:List Int} {wa:World} {ah:Option Addr} {ch:Nat} (hh:∀h∈hows,h=0\/ h=1\/ h=2) (aJ:hows.length<=3) (aw:r.l5.length<=1000000) (hu:∀i,i<46->u i<18446744073709551616) (h6:∀x∈mkN (u 6),x<8) (hE:RuE c r)
  (a8:W.heap.size<=wa.heap.size) (hs:wb.heap.size=wa.heap.size+3) (hf:FcB (wa.heap.size+1) u fi la n ev sq wb) (hc:wb.cell? (Z (wa.heap.size+2) 0 N)=G (Xs ah hows.length ch)) (hr:RuB wb wa.heap.size r) (aW:SlB (λ b=>W.heap.size<=b) ah (yaR hows) wb) (hK:RuK (λ b=>W.heap.size<=b) r wb) (hT:Tab wb) :
  OfT (ya0 u c hows) W wb (Xf (.func 166) #[] #[R (G (Z (wa.heap.size+1) 0 N)),R (G (Z (wa.heap.size+2) 0 N)),R (G (Z wa.heap.size 0 N))]):=by
 refine ⟨_,_,HWt (wa.heap.size+1) (wa.heap.size+2) wa.heap.size u fi la n ev sq hows r,HWt (wa.heap.size+1) (wa.heap.size+2) wa.heap.size u fi la n ev sq hows r,HWt (wa.heap.size+1) (wa.heap.size+2) wa.heap.size u fi la n ev sq hows r,noM,rfl,yfF,?_,HWt.host,HWt.host,HWt.host,λ b hb=>hb.elim,λ F hF ht hl=>?_⟩
 ·rw [ybE];exact ypV (yig _ _ _ u fi la n ev sq hows r hh aJ aw hu h6) λ k vs F W hv=>yzq (ypB hE hows) k vs F W (yxK k vs F W hv)
 ·have kk:∀{a cs},SlB (λ b=>W.heap.size<=b) a cs wb->SlB F a cs wb:=λ h=>by
   rcases h with h | ⟨b,off,e,h1,h2,h3⟩
   ·exact .inl h
   ·exact .inr ⟨b,off,e,hF b h1 h2,h2,h3⟩
  exact ⟨⟨hf,hT,⟨hF _ zo zo,ht⟩,hl⟩,⟨ah,ch,hc,kk aW⟩,hr,⟨kk hK.s5,kk hK.s6,kk hK.s7,kk hK.s8,kk hK.s9,kk hK.sx⟩,⟨hF _ zo zo,hF _ zo zo⟩⟩
theorem RuK.into (hK:RuK (λ b=>W.heap.size<=b) r wb) (hF:∀b,W.heap.size<=b->b<wb.heap.size->F b):RuK F r wb:=
 have h:=hK.lt;h.keep zg (λ b hb=>hF b hb.1 hb.2) (λ _ _=>rfl)
theorem ytt (hu:∀i,i<46->u i<18446744073709551616) (h6:∀x∈mkN (u 6),x<8) (hE:RuE c r) (hf:FcB bf u fi la n ev sq wb) (hr:RuW wb b7 r) (hK:RuK (λ b=>W.heap.size<=b/\¬b=b7) r wb) (hT:Tab wb) (h1:W.heap.size<=bf) (h2:W.heap.size<=b7) (h3:bf≠b7) (h4:0≠b7) :
  OfT [{c with l7:=ydb u 0 false}] W wb (Xf (.func 115) #[] #[R (G (Z bf 0 N)),R (G (Z b7 0 N))]):=by
 refine ⟨_,_,yin bf b7 u fi la n ev sq r,λ F W=>∃r,yin bf b7 u fi la n ev sq r F W,λ F W=>∃r,yin bf b7 u fi la n ev sq r F W,λ b=>b=b7,rfl,yk9,ypV (yuN bf b7 u fi la n ev sq r hu h6) λ k vs F W hv=>yzq (λ k d hd=>?_) k vs F W hv,yin.host,yin.hostE,yin.hostE,λ b hb=>(by rw [hb];exact h2),λ F hF ht hl=>?_⟩
 ·have hk:=(zzq.1 hd).1;have aV:k=0:=by simpa using hk
  subst aV;cases hd;refine ⟨_,rfl,?_⟩;rw [RuE.iff] at hE⊢;obtain ⟨e0,e1,e2,e3,e4,e5,e6,e7,e8,e9,ex⟩:=hE;exact ⟨e0,e1,e2,e3,e4,e5,e6,rfl,e8,e9,ex⟩
 ·have h:=hK.lt;exact ⟨⟨hf,hT,⟨hF _ h1 hf.lt,ht⟩,hl⟩,hr,h.keep zg (λ b hb=>⟨hF b hb.1.1 hb.2,hb.1.2⟩) (λ _ _=>rfl),⟨hF _ h2 hr.lt,h3,h4⟩⟩
theorem yts {cb rb:Ru} {b8:Nat} (hu:∀i,i<46->u i<18446744073709551616) (h6:∀x∈mkN (u 6),x<8) (aw:r.l5.length<=1000000/\rb.l5.length<=1000000) (hE:RuE c r) (aZ:RuE cb rb) (hf:FcB bf u fi la n ev sq wb) (hr:RuB wb b7 r) (hK:RuK (λ b=>W.heap.size<=b) r wb) (aU:RuB wb b8 rb) (aY:RuK (λ b=>W.heap.size<=b) rb wb) (hT:Tab wb) (h1:W.heap.size<=bf) (h2:W.heap.size<=b7/\b7<wb.heap.size) (h3:W.heap.size<=b8/\b8<wb.heap.size) :
  OfT (ya0 u c [0,1,2]++ya0 u cb [1,2]) W wb (Xf (.func 118) #[] #[R (G (Z b7 0 N)),R (G (Z bf 0 N)),R (G (Z b8 0 N))]):=by
 refine ⟨_,_,yk2 bf b7 b8 u fi la n ev sq r rb,yk2 bf b7 b8 u fi la n ev sq r rb,yk2 bf b7 b8 u fi la n ev sq r rb,noM,rfl,yk8,?_,yk2.host,yk2.host,yk2.host,λ b hb=>hb.elim,λ F hF ht hl=>?_⟩
 ·rw [YG,ybE,ybE];exact ypV (yuM bf b7 b8 u fi la n ev sq r rb aw hu h6) λ k vs F W hv=>yzq (RuEs.app (by rw [ybE,ybE]) (ypB hE _) (ypB aZ _)) k vs F W (yxK k vs F W hv)
 ·exact ⟨⟨hf,hT,⟨hF _ h1 hf.lt,ht⟩,hl⟩,hr,hK.into hF,aU,aY.into hF,⟨hF _ h2.1 h2.2,hF _ h3.1 h3.2⟩⟩
theorem yr8 (u:Nat->Nat) (fi la n:Int) (ev sq:Bool) (g:Nat->Int) (q:Nat) (w:World) (hq:q<7) (hu:∀i,i<46->u i<18446744073709551616) (h6:∀x∈mkN (u 6),x<8) (hT:Tab w) :
  H I 57 #[fcv u fi la n ev sq,yjC g,E T q] w λ e w'=>(∃fv,e=Q fv/\OfT (ofL u fi la g q) w w' fv)/\Bw w w':=by
 have hA:=yg3 w 43 u fi la n ev sq;have e0:(w.alloc (J (fcL u fi la n ev sq).toArray 43)).heap.size=w.heap.size+1:=zzN _ _;have b0:Bw w (w.alloc (J (fcL u fi la n ev sq).toArray 43)):=yaa (Ye _ _) zg;rw [yhx];generalize az:(fcL u fi la n ev sq).toArray=A at hA e0 b0⊢
 obtain ⟨W0,aM⟩:=zx (w.alloc (J A 43));rw [aM] at hA e0 b0;have hP:=yrU W0 g 46;have b1:Bw W0 (W0.alloc (J (L7 g).toArray 46)):=yaa (Ye _ _) zg;have e1:(W0.alloc (J (L7 g).toArray 46)).heap.size=W0.heap.size+1:=zzN _ _;rw [show yjC g= .agg (L7 g).toArray from rfl];generalize aO:(L7 g).toArray=AG at hP b1 e1⊢
 obtain ⟨W1,aL⟩:=zx (W0.alloc (J AG 46));rw [aL] at hP b1 e1;have aN:Bw w W1:=zu b0 b1;have aD:=hA.block b1.size (b1.block _ hA.lt);obtain ⟨bf,aP⟩:=zx w.heap.size;obtain ⟨bp,aS⟩:=zx W0.heap.size;rw [aP] at aD;rw [aS] at hP;have aR:=aD.ld;have aQ:=hP.ld;rw [show yjC g= .agg (L7 g).toArray from rfl,aO] at aQ;rw [yhx,az] at aR;have cS:=hid (λ W (hB:Bw w W)=>yr7 u fi la n ev sq g q W hq hu (hT.later hB));rw [yhx,az,show yjC g= .agg (L7 g).toArray from rfl,aO] at cS;have ar:=hid (Ya aD (Ya (hT.later aN) (show w.heap.size<=bf/\bf<W1.heap.size/\w.heap.size<W1.heap.size from ⟨by omega,by omega,by omega⟩)));have aC:=hid aN;have a3:=hid aM;have a2:=hid aL;have a7:=hid aP;have a6:=hid (show bf+1=bp by omega);have a4:=hid az;have cW:=hid (λ r ah m ch w=>ykF r u fi la n ev sq ah m ch w);rw [yhx,az] at cW;have Hu:=hid hu;have H6:=hid h6;have Hq:=hid hq;have ba:=hid hT.1;clear az hA e0 b0 aM hP b1 e1 aO aL aN aD aP aS hu h6 hq hT;go_enter Tryz.func57,Tryz.ntmps57
 go_upto_region 1 with fail
 rw [a3];rw [a2,a7,a6];go_wp2_with fail
 refine (cS W1 aC).mono ?_;rintro e w1 ⟨r,rfl,hE,hK,ap⟩;obtain ⟨m1,m2,m3,m4⟩:=ycj w1 r;obtain ⟨w2,aH⟩:=zx ((w1.alloc (J zl0 25)).setCells w1.heap.size 0 (yad r));rw [aH] at m1 m2 m3 m4;have aj:=(ar.1.block ap.size (ap.block _ ar.1.lt)).block m3.size (m3.block _ (zH ar.1.lt ap.size));have ai:=(ar.2.1.later ap).later m3;have aa:Bw w w2:=aC.trans ((zu ap m3).mono aC.size);have af:RuK (λ b=>w.heap.size<=b/\¬b=w1.heap.size) r w2:=hK.lt.keep m3.size (λ b hb=>⟨zI aC.size hb.1,by have:=hb.2;omega⟩) (λ b hb=>m3.block b hb.2);have aT:=m2.ld;have aG:=aj.ld;rw [yhx,a4] at aG;have h7:w.heap.size<=w1.heap.size:=zI aC.size ap.size;obtain ⟨b7,aK⟩:=zx w1.heap.size;have au:bf<b7:=by have:=ar.1.lt;have:=ap.size;omega
 rw [aK] at m2 af aT h7;have HR:=hid (Ya hE (Ya m2 (Ya af (Ya aj (Ya ai (Ya aa (Ya h7 au)))))));have a9:=hid aH;have a1:=hid aK;clear hE hK ap m2 m3 m4 aj ai aa af h7 au aH aK;go_upto_region 2 with fail
 rw [a1];clear m1 aR aQ cS;have ax:q=4\/ q=5\/ q=6\/ (q≠4/\q≠5/\q≠6):=zo;rcases ax with rfl | rfl | rfl | ⟨n4,n5,n6⟩
 ·go_wp2;go_ret;obtain ⟨hE,m2,af,aj,ai,aa,h7,au⟩:=HR.out;exact ⟨⟨_,rfl,ytt Hu H6 hE aj m2 af ai ar.2.2.1 h7 zo (by have:=ar.2.2.1;show 0≠b7;omega)⟩,aa⟩
 focus
  have aA:Hid (ya0 u (ybF u fi la g 5) [0,1,2]=ofL u fi la g 5):=(rfl:ya0 u (ybF u fi la g 5) [0,1,2]=ofL u fi la g 5);have ab:Bw w2 (w2.alloc (J #[E T 0,E T 1,E T 2] 3)):=yaa (Ye _ _) zg;have al:(w2.alloc (J #[E T 0,E T 1,E T 2] 3)).heap.size=w2.heap.size+1:=zzN _ _;have ag:∀j (h:j<(yaR [0,1,2]).length),(w2.alloc (J #[E T 0,E T 1,E T 2] 3)).cell? (Z w2.heap.size (0+j) N)=G (yaR [0,1,2])[j]:=λ j hj=>by
   have:j=0\/ j=1\/ j=2:=by rw [yaX] at hj;simp at hj;omega
   rcases this with rfl | rfl | rfl <;> simp [go_sem,yaR]
  have aB:Hid (∃w3,w2.alloc (J #[E T 0,E T 1,E T 2] 3)=w3):=⟨_,rfl⟩;obtain ⟨w3,ae⟩:=aB.out;rw [ae] at ab al ag;have aF:=hid (Ya ab (Ya al ag));have aE:=hid ae;clear ab al ag ae aB;go_wp2_with fail
  rw [aE];refine zm (cW r _ 3 3 w3) ?_;rintro w4 ⟨ac,ak,an,ao,am⟩;have HX:=hid (Ya ac (Ya ak (Ya an (Ya ao am))));clear ac ak an ao am;go_wp2;go_ret;obtain ⟨ac,ak,an,ao,am⟩:=HX.out;obtain ⟨ab,al,ag⟩:=aF.out;obtain ⟨hE,m2,af,aj,ai,aa,h7,au⟩:=HR.out;have aq:=zu ab ac;refine ⟨⟨_,rfl,aA ▸ ym6 (hows:= [0,1,2]) zs zd ?_ Hu H6 hE (zI aa.size ab.size) ak an ao am (.inr ⟨w2.heap.size,0,rfl,aa.size,by have:=ac.size;omega,λ j hj=>(ac.cell (p:=Z w2.heap.size (0+j) N) (by show w2.heap.size<_;omega)).trans (ag j hj)⟩) (af.lt.keep aq.size (λ b hb=>hb.1.1) (λ b hb=>aq.block b hb.2)) (ai.later aq)⟩,zu aa aq⟩
 rotate_left
 ·have aA:Hid (ya0 u (ybF u fi la g 6) [0,1,2]++ya0 u {ybF u fi la g 6 with l5:= []} [1,2]=ofL u fi la g 6):=(rfl:ya0 u (ybF u fi la g 6) [0,1,2]++ya0 u {ybF u fi la g 6 with l5:= []} [1,2]=ofL u fi la g 6);obtain ⟨m1,m3,m4,m5⟩:=ycj w2 r;obtain ⟨w3,ae⟩:=zx ((w2.alloc (J zl0 25)).setCells w2.heap.size 0 (yad r));rw [ae] at m1 m3 m4 m5;obtain ⟨b8,ay⟩:=zx w2.heap.size;rw [ay] at m3;obtain ⟨n3,u3,k3⟩:=m3.set (r':={r with l5:= [],a5:=N,c5:=0}) (i:=5) (v:=Xs N 0 0) zo rfl;have z3:=m3.z 5;have ad:Bw w2 (w3.setCell (Z b8 5 N) (Xs N 0 0)):=m4.setCell (by show w2.heap.size<=b8;omega) _;have aI:(w3.setCell (Z b8 5 N) (Xs N 0 0)).heap.size=w3.heap.size:=by simp [go_sem]
  have HX:=hid (Ya n3 (Ya ad (Ya aI (Ya m5 ay))));have aE:=hid ae;have a0:=hid ay;clear n3 ad aI m3 m4 m5 ae ay;go_upto_region 9 with fail
  rw [a0];go_wp2;go_ret;obtain ⟨hE,m2,af,aj,ai,aa,h7,au⟩:=HR.out;obtain ⟨n3,ad,aI,m5,ay⟩:=HX.out;have av:RuK (λ b=>w.heap.size<=b) r (w3.setCell (Z b8 5 N) (Xs N 0 0)):=af.lt.keep ad.size (λ b hb=>hb.1.1) (λ b hb=>ad.block b hb.2);have aw:r.l5.length<=1000000:=by
   rw [show r.l5=mkN (u 3) from (RuE.iff.1 hE).2.2.2.2.2.1];exact zI (ya1 _) zd
  refine ⟨⟨_,rfl,aA ▸ yts Hu H6 ⟨aw,Zm _⟩ hE ?_ (aj.block ad.size (ad.block _ aj.lt)) (m2.block ad.size (ad.block _ m2.lt)).c av n3.c ⟨.inl rfl,av.s6,av.s7,av.s8,av.s9,av.sx⟩ (ai.later ad) ar.2.2.1 ⟨h7,zH m2.lt ad.size⟩ ⟨by have:=aa.size;omega,by omega⟩⟩,zu aa ad⟩;obtain ⟨e0,e1,e2,e3,e4,e5,e6,e7,e8,e9,ex⟩:=RuE.iff.1 hE;exact RuE.iff.2 ⟨e0,e1,e2,e3,e4,rfl,e6,e7,e8,e9,ex⟩
 focus
  have aA:Hid (ya0 u (ybF u fi la g q) [0]=ofL u fi la g q):=(show _ = _ by rw [ofL,Yb n4,Yb n5,Yb n6]);have f4:((q:Int)==4)=false:=ZD.2 zo;have f5:((q:Int)==5)=false:=ZD.2 zo;have f6:((q:Int)==6)=false:=ZD.2 zo;clear n4 n5 n6;have ab:Bw w2 (w2.alloc (J #[E T 0] 3)):=yaa (Ye _ _) zg;have al:(w2.alloc (J #[E T 0] 3)).heap.size=w2.heap.size+1:=zzN _ _;have ag:∀j (h:j<(yaR [0]).length),(w2.alloc (J #[E T 0] 3)).cell? (Z w2.heap.size (0+j) N)=G (yaR [0])[j]:=λ j hj=>by
   have:j=0:=by rw [yaX] at hj;simp at hj;omega
   rcases this with rfl <;> simp [go_sem,yaR]
  have aB:Hid (∃w3,w2.alloc (J #[E T 0] 3)=w3):=⟨_,rfl⟩;obtain ⟨w3,ae⟩:=aB.out;rw [ae] at ab al ag;have aF:=hid (Ya ab (Ya al ag));have aE:=hid ae;clear ab al ag ae aB;go_wp2_with fail
  rw [aE];refine zm (cW r _ 1 1 w3) ?_;rintro w4 ⟨ac,ak,an,ao,am⟩;have HX:=hid (Ya ac (Ya ak (Ya an (Ya ao am))));clear ac ak an ao am;go_wp2;go_ret;obtain ⟨ac,ak,an,ao,am⟩:=HX.out;obtain ⟨ab,al,ag⟩:=aF.out;obtain ⟨hE,m2,af,aj,ai,aa,h7,au⟩:=HR.out;have aq:=zu ab ac;refine ⟨⟨_,rfl,aA ▸ ym6 (hows:= [0]) zs zd ?_ Hu H6 hE (zI aa.size ab.size) ak an ao am (.inr ⟨w2.heap.size,0,rfl,aa.size,by have:=ac.size;omega,λ j hj=>(ac.cell (p:=Z w2.heap.size (0+j) N) (by show w2.heap.size<_;omega)).trans (ag j hj)⟩) (af.lt.keep aq.size (λ b hb=>hb.1.1) (λ b hb=>aq.block b hb.2)) (ai.later aq)⟩,zu aa aq⟩
 rotate_left;all_goals
  rw [show r.l5=mkN (u 3) from (RuE.iff.1 hE).2.2.2.2.2.1];exact zI (ya1 _) zd
end
section
attribute [local go_sem] Yw
attribute [local go_sem ↓] ycd ybd ybb yc4
variable {t:Array Value} {O O' O0:Blk} {fi la:Int} {i k m q:Nat} {g:Nat->Int} {u:Nat->Nat} {c r:Ru} {h0 h1 az ay ax h2 h3:Value} {W W' W0:World}
theorem yla (args:Array Value) (w:World):(callFunc 56 args).run I w= .ok (.enter 56 args) w:=by simp [go_sem]
def okR (r:Ru):Bool:=decide (yah r=0)
theorem RuE.check (h:RuE c r):yah r=yah c:=by rw [h];rfl
def qL:List Nat:= [3,4,5,6,2,1,0]
def yf5 (u:Nat->Nat) (fi la:Int) (g:Nat->Int) (q:Nat):List Ru:=(ofL u fi la g q).filter okR
def yfT (u:Nat->Nat) (fi la:Int) (g:Nat->Int):List Ru:=qL.flatMap (yf5 u fi la g)
def yhA (u:Nat->Nat) (fi la n:Int) (g:Nat->Int):List Ru:=if n=0 then [] else yfT u fi la g
def yfL (u:Nat->Nat) (fi la:Int) (g:Nat->Int) (i:Nat):Nat:=((qL.take i).flatMap (yf5 u fi la g)).length
def okN (cs:List Ru) (k:Nat):Nat:=((cs.take k).filter okR).length
theorem ym5 {cs:List Ru} (h:cs[k]? =G c):okN cs (k+1)=okN cs k+(if okR c=true then 1 else 0):=by
 rw [okN,List.take_add_one,h,okN];cases hc:okR c <;> simp [hc]
theorem yqw (h:qL[i]? =G q):yfL u fi la g (i+1)=yfL u fi la g i+okN (ofL u fi la g q) (ofL u fi la g q).length:=by
 rw [yfL,List.take_add_one,h,yfL,okN,YW];simp [yf5]
theorem ywk (hq:qL[i]? =G q) (h:(ofL u fi la g q)[k]? =G c) (hc:okR c=true):(yfT u fi la g)[yfL u fi la g i+okN (ofL u fi la g q) k]? =G c:=by
 have e1:yfT u fi la g= (qL.take i).flatMap (yf5 u fi la g)++(yf5 u fi la g q++(qL.drop (i+1)).flatMap (yf5 u fi la g)):=by
  have:qL=qL.take i++q::qL.drop (i+1):=by
   obtain ⟨hi,e⟩:=zzq.1 hq;rw [<- e,List.getElem_cons_drop,Zg]
  rw [yfT];conv=>lhs;rw [this]
  rw [ZE,ZZ]
 have e2:yf5 u fi la g q= ((ofL u fi la g q).take k).filter okR++(c::((ofL u fi la g q).drop (k+1)).filter okR):=by
  obtain ⟨hi,e⟩:=zzq.1 h;have:ofL u fi la g q= (ofL u fi la g q).take k++c::(ofL u fi la g q).drop (k+1):=by rw [<- e,List.getElem_cons_drop,Zg]
  rw [yf5];conv=>lhs;rw [this]
  rw [Zb,List.filter_cons,Yd hc]
 rw [e1,yfL,Yl zo,Zn,e2,okN];rw [List.append_assoc,Yl zo,Nat.sub_self];rfl
theorem ypI {ds:List Int} {h:Int} (hr:r.Sm 5000) (hd:ds.length<=64):(ykY u r ds h).Sm 5000:=
 ⟨hr.n5,(show ds.length<=5000 by omega),zI (yna _ _ _) zd,hr.n8,hr.n9,hr.nx⟩
theorem ys4 (u:Nat->Nat) (fi la:Int) (g:Nat->Int) (q:Nat):(ybF u fi la g q).Sm 5000:=by
 have h:=λ m=>zI (ya1 m) (show 64<=5000 by decide);exact ⟨h _,Zm _,Zm _,h _,h _,h _⟩
theorem yf7 {hows:List Int} (hr:r.Sm 5000) (h:c∈ya0 u r hows):c.Sm 5000:=by
 rw [ya0,YC,YA,YA] at h;rcases h with ⟨x,-,rfl⟩ | ⟨x,-,rfl⟩
 ·exact ypI hr (ya1 _)
 ·exact ypI hr (by rw [yb1,Yi];exact ya1 _)
theorem yvo (h:c∈ofL u fi la g q):c.Sm 5000:=by
 have hs:=ys4 u fi la g q;rw [ofL] at h;split at h
 ·rw [Yy] at h;rw [h];exact ⟨hs.n5,hs.n6,zI (yna _ _ _) zd,hs.n8,hs.n9,hs.nx⟩
 ·split at h
  ·exact yf7 hs h
  ·split at h
   ·rw [YC] at h;rcases h with h | h
    ·exact yf7 hs h
    ·exact yf7 (r:={ybF u fi la g q with l5:= []}) ⟨Zm _,hs.n6,hs.n7,hs.n8,hs.n9,hs.nx⟩ h
   ·exact yf7 hs h
theorem RuE.sm (h:RuE c r) (hc:c.Sm m):r.Sm m:=by
 obtain ⟨-,-,-,-,-,e5,e6,e7,e8,e9,ex⟩:=RuE.iff.1 h;exact ⟨by rw [e5];exact hc.n5,by rw [e6];exact hc.n6,by rw [e7];exact hc.n7,by rw [e8];exact hc.n8,by rw [e9];exact hc.n9,by rw [ex];exact hc.nx⟩
theorem Ru.Sm.up (h:r.Sm m) (hk:m<=k):r.Sm k:=⟨zI h.n5 hk,zI h.n6 hk,zI h.n7 hk,zI h.n8 hk,zI h.n9 hk,zI h.nx hk⟩
structure ynX (bf bp:Nat) (u:Nat->Nat) (fi la n:Int) (ev sq:Bool) (g:Nat->Int) (F:Blk) (W:World):Prop where
 f:FcF bf u fi la n ev sq F W
 p:Ar7 bp g W
 inF:F bp
section
variable {bf bp:Nat} {u:Nat->Nat} {fi la n:Int} {ev sq:Bool} {g:Nat->Int} {F F':Blk} {W W':World}
theorem ynX.keep (h:ynX bf bp u fi la n ev sq g F W) (hs:W.heap.size<=W'.heap.size) (hF:∀b,F b->F' b) (hl:∀b,F' b->b<W'.heap.size) (hb:∀b,F b->W'.heap[b]? =W.heap[b]?):ynX bf bp u fi la n ev sq g F' W':=
 ⟨h.f.keep hs hF hl hb,h.p.block hs (hb _ h.inF),hF _ h.inF⟩
theorem ynX.host:ych (ynX bf bp u fi la n ev sq g) noM:=⟨λ F W W' h hs hb=>h.keep hs zi (λ b hF=>zH (h.f.lt b hF) hs) hb,λ F W h=>h.f.lt,λ F W h b hb=>hb.elim⟩
theorem RuB.later {b:Nat} (h:RuB W b r) (hB:Bw W W'):RuB W' b r:=by
 have hlt:b<W.heap.size:=by
  have h0:=h 0 _ rfl;rw [World.cell?] at h0;rcases ZK b W.heap.size with h1 | h1
  ·exact h1
  ·simp only [Array.getElem?_eq_none h1] at h0;cases h0
 exact RuB.below h hB hlt
def yez (F M:Blk):Blk:=λ b=>F b/\¬M b
theorem yci.fresh {M:Blk} (h:yci noM O0 O W0 W) (k:yci M O O' W W') (hM:∀b,M b->W0.heap.size<=b):yci noM O0 O' W0 W':=
 ⟨λ b hb=>k.sub b (h.sub b hb),λ b hb=>by
  rcases k.new b hb with h1 | h1
  ·exact h.new b h1
  ·exact .inr (zI h.eff.size h1),h.eff.trans k.eff λ b hb=>by
  rcases hb with h1 | h1
  ·rcases h.new b h1 with h2 | h2
   ·exact .inl (.inl h2)
   ·exact .inr h2
  ·exact .inr (hM b h1)⟩
end
def A2T (h0 h1 h2 h3 az ay ax:Value) (ds:List Deferred) (a:Act):Prop:=∃V:Nat->Value,a= {tmps:=#[h0,h1,h2,h3,V 4,V 5,V 6,V 7,V 8,V 9,az,ay,ax,V 13,V 14,V 15,V 16,V 17,V 18,V 19,V 20,V 21,V 22,V 23,V 24,V 25,V 26,V 27,V 28,V 29,V 30],defers:=ds}
theorem A2T.of {ds:List Deferred} (hs:t.size=31:=by rfl) (k0:tg t 0=h0:=by rfl) (k1:tg t 1=h1:=by rfl) (k2:tg t 2=h2:=by rfl) (k3:tg t 3=h3:=by rfl) (bM:tg t 10=az:=by rfl) (bL:tg t 11=ay:=by rfl) (bK:tg t 12=ax:=by rfl):A2T h0 h1 h2 h3 az ay ax ds {tmps:=t,defers:=ds}:=⟨tg t,by subst_vars;exact tgE hs ds⟩
structure A2S (Jq:ydt) (O0 F0:Blk) (W0:World) (bf bp bY al:Nat) (y:Value) (u:Nat->Nat) (fi la n:Int) (ev sq:Bool) (g:Nat->Int) (k:Nat) (O F:Blk) (W:World):Prop where
 t:TlS Jq O0 F0 W0 k O F W
 h:ynX bf bp u fi la n ev sq g F W
 cy:F bY/\W.cell? (Z bY 0 N)=G y
 c:F al/\∀i q,qL[i]? =G q->W.cell? (Z al i N)=G (E T (q:Nat))
theorem A2S.keep {Jq J':ydt} {F0:Blk} {bf bp bY al:Nat} {y:Value} {n:Int} {ev sq:Bool} {F F':Blk} (h:A2S Jq O0 F0 W0 bf bp bY al y u fi la n ev sq g k O F W) (ht:TlS J' O0 F0 W0 m O' F' W') (hs:W.heap.size<=W'.heap.size) (hF:∀b,F b->F' b) (hb:∀b,F b->W'.heap[b]? =W.heap[b]?):A2S J' O0 F0 W0 bf bp bY al y u fi la n ev sq g m O' F' W':=
 ⟨ht,h.h.keep hs hF ht.lt hb,⟨hF _ h.cy.1,(zzJ (w:=W) (a:=Z bY 0 N) (hb _ h.cy.1)).trans h.cy.2⟩,⟨hF _ h.c.1,λ i q hq=>(zzJ (w:=W) (a:=Z al i N) (hb _ h.c.1)).trans (h.c.2 i q hq)⟩⟩
def A2X (h0 h1 h2 h3 h6 az ay ax:Value) (ds:List Deferred) (a:Act):Prop:=∃V:Nat->Value,a= {tmps:=#[h0,h1,h2,h3,V 4,V 5,h6,V 7,V 8,V 9,az,ay,ax,V 13,V 14,V 15,V 16,V 17,V 18,V 19,V 20,V 21,V 22,V 23,V 24,V 25,V 26,V 27,V 28,V 29,V 30],defers:=ds}
theorem A2X.of {h6:Value} {ds:List Deferred} (hs:t.size=31:=by rfl) (k0:tg t 0=h0:=by rfl) (k1:tg t 1=h1:=by rfl) (k2:tg t 2=h2:=by rfl) (k3:tg t 3=h3:=by rfl) (k6:tg t 6=h6:=by rfl) (bM:tg t 10=az:=by rfl) (bL:tg t 11=ay:=by rfl) (bK:tg t 12=ax:=by rfl):A2X h0 h1 h2 h3 h6 az ay ax ds {tmps:=t,defers:=ds}:=⟨tg t,by subst_vars;exact tgE hs ds⟩
theorem ysb (bf bp:Nat) (u:Nat->Nat) (fi la n:Int) (ev sq:Bool) (g:Nat->Int) (hu:∀i,i<46->u i<18446744073709551616) (h6:∀x∈mkN (u 6),x<8) :
  yeV I 56 #[R (G (Z bf 0 N)),R (G (Z bp 0 N))] (yhA u fi la n g).length (VRu (yhA u fi la n g)) (ynX bf bp u fi la n ev sq g) (ynX bf bp u fi la n ev sq g) (ynX bf bp u fi la n ev sq g) noM:=by
 intro y Jq Jx O F W hH bE hC hJ;obtain ⟨yf,yi,yc,rfl⟩:=hC.form;show H I 56 #[.func yf yi yc,R (G (Z bf 0 N)),R (G (Z bp 0 N))] W _;have bz:=TlS.start hC hJ bE hH.f.lt;obtain ⟨W0,ar⟩:=zx (W.alloc (J #[.func yf yi yc] 26));have q3:W0.heap.size=W.heap.size+1:=by rw [<- ar];simp
 have q4:Bw W W0:=by rw [<- ar];exact yaa (Ye _ _) zg
 have q5:W0.cell? (Z W.heap.size 0 N)=G (.func yf yi yc):=by rw [<- ar];simp [go_sem]
 have a1:=bz.call hC q4;have a3:=hH.keep q4.size (λ b hb=> .inl hb) a1.lt (λ b hb=>q4.block b (hH.f.lt b hb));obtain ⟨bY,a0⟩:=zx W.heap.size;rw [a0] at q5;have bd:ycv F W W0 bY:= .inr ⟨Nat.le_of_eq a0,by omega⟩;obtain ⟨F0,bF⟩:=zx (ycv F W W0);rw [bF] at a1 a3 bd;have ln:=a3.f.c.c48;have HC:=hid hC;have bi:=hid a1;have aZ:=hid a3;have HY:=hid (Ya bd q5);have bh:=hid ar;have bV:=hid a0;have cO:=hid (λ q w h1 h2=>yr8 u fi la n ev sq g q w h1 hu h6 h2);have cC:=hid (λ r w hr hm=>yhn r w hr hm);clear hH bE hC hJ bz hu h6 ar q3 q4 q5 a1 a3 a0 bd bF;refine (wf_calls (r:=N) (n:=1)).mp ?_;refine callsIn_of_wp_marks Tryz.func56 rfl trivial ?_ rfl;simp only [Tryz.ntmps56,Yp,Yu,YS,Nat.reduceAdd,Nat.reduceSub,YE,YD,YQ,YJ,Y0,YH];gi_wp2_with fail
 refine ybO ?_;gi_upto_region 1 with fail
 rw [bh,bV];by_cases aL:n=0
 ·have e0:(n==0)=true:=by rw [aL];rfl
  have hA:Hid (yhA u fi la n g= []):=Yd aL;clear aL;gi_wp2
  rw [Exit.noGoto_ret];refine ⟨_,YO rfl _ _ _,⟨_,rfl⟩,?_⟩;rw [hA];exact yf9 bi aZ
 ·have e0:(n==0)=false:=ZD.2 aL;have hA:Hid (yhA u fi la n g=yfT u fi la g):=Yb aL;have aM:Bw W0 (W0.alloc (J #[E T 3,E T 4,E T 5,E T 6,E T 2,E T 1,E T 0] 3)):=yaa (Ye _ _) zg;have a5:∀(i q:Nat),qL[i]? =G q->(W0.alloc (J #[E T 3,E T 4,E T 5,E T 6,E T 2,E T 1,E T 0] 3)).cell? (Z W0.heap.size i N)=G (E T (q:Nat)):=λ i q hq=>by
   have hi:i<7:=(zzq.1 hq).1;have:i=0\/ i=1\/ i=2\/ i=3\/ i=4\/ i=5\/ i=6:=zo
   rcases this with rfl | rfl | rfl | rfl | rfl | rfl | rfl <;> (cases hq;simp [go_sem])
  have bm:(W0.alloc (J #[E T 3,E T 4,E T 5,E T 6,E T 2,E T 1,E T 0] 3)).heap.size=W0.heap.size+1:=zzN _ _;obtain ⟨W1,aE⟩:=zx (W0.alloc (J #[E T 3,E T 4,E T 5,E T 6,E T 2,E T 1,E T 0] 3));rw [aE] at aM a5 bm;obtain ⟨al,aq⟩:=zx W0.heap.size;rw [aq] at a5;have bb:=bi.call HC aM;have HS:Hid (A2S Jq O F W bf bp bY al (.func yf yi yc) u fi la n ev sq g (yfL u fi la g 0) O (ycv F0 W0 W1) W1):=
   ⟨bb,aZ.keep aM.size (λ b hb=> .inl hb) bb.lt (λ b hb=>aM.block b (aZ.f.lt b hb)),⟨.inl HY.1,(aM.cell (p:=Z bY 0 N) (aZ.f.lt _ HY.1)).trans HY.2⟩,⟨.inr ⟨Nat.le_of_eq aq,by omega⟩,a5⟩⟩
  have bg:=hid aE;have be:=hid aq;clear aL aM a5 bm aE aq bb bi aZ HY;gi_wp2_with fail
  refine wpIn_label ?_;gi_upto_region 3 with fail
  rw [bg,be];refine wpIn_loop (λ a' w'=>∃(i:Nat) (Ds:List Nat) (O' F':Blk),i<=7/\A2T (.func yf yi yc) (R (G (Z bf 0 N))) (R (G (Z bp 0 N))) (R (G (Z bY 0 N))) (Xs (G (Z al 0 N)) 7 7) (E T 7) (E T i) (marks Ds) a'/\Hid (A2S Jq O F W bf bp bY al (.func yf yi yc) u fi la n ev sq g (yfL u fi la g i) O' F' w'/\(∀D∈Ds,w'.heap[D]? =G (.deferred (G []))/\W.heap.size<=D/\¬O' D/\¬F' D)/\Ds.Nodup)) (λ a' _=>(7-intOf (a'.tmps.getD 12 undef)).toNat) ?start ?round
  case start=>exact ⟨0,[],O,_,by omega,A2T.of,HS,λ D h=>(by cases h),List.nodup_nil⟩
  case round=>
   rintro a' w4 ⟨i,Ds,O4,F4,hi,⟨U,rfl⟩,HI⟩;clear HS;by_cases hlt:i<7
   ·have bP:(i:Int)<7:=zo;obtain ⟨q,hq,bq⟩:∃q,qL[i]? =G q/\q<7:=by
     have:i=0\/ i=1\/ i=2\/ i=3\/ i=4\/ i=5\/ i=6:=zo
     rcases this with rfl | rfl | rfl | rfl | rfl | rfl | rfl <;> exact ⟨_,rfl,by decide⟩
    have cq:=HI.1.c.2 i q hq;have bJ:=HI.1.h.f.c.ld;have bI:=HI.1.h.p.ld;have HQ:=hid (Ya hq bq);clear hq bq;gi_wp2_with fail
    refine (wf_calls.mpr (cO q w4 HQ.2 HI.1.h.f.tab)).mono ?_;rintro e w5 ⟨⟨fv,rfl,gf,cap,Hq,HN,HS,M,rfl,bw,bo,bv,bu,bt,hM,bD⟩,aa⟩;have am:=HI.1.t.call HC aa;have aw:∀b,M b->W.heap.size<=b:=λ b hb=>zI HI.1.t.gr.eff.size (hM b hb);have ak:∀b,F4 b->¬M b:=λ b hb hm=>(by have:=HI.1.t.lt b hb;have:=hM b hm;omega);have aN:=bD (ycv F4 w4 w5) (λ b h1 h2=> .inr ⟨h1,h2⟩) (.inl HI.1.h.f.inF.2) am.lt;have ao:∀b,F4 b->w5.heap[b]? =w4.heap[b]?:=λ b hb=>aa.block b (HI.1.t.lt b hb);have bA:Jq (yfL u fi la g i+okN (ofL u fi la g q) 0) O4 (yez (ycv F4 w4 w5) M) w5/\yez (ycv F4 w4 w5) M bY/\w5.cell? (Z bY 0 N)=G (.func yf yi yc):=
     ⟨HC.stab _ O4 F4 _ w4 w5 HI.1.t.j aa.size (λ b hb=>⟨.inl hb,ak b hb⟩) (λ b hb=>aa.block b (hb.elim (HI.1.t.olt HC b) (λ h=>HI.1.t.lt b h.1))),⟨.inl HI.1.cy.1,ak _ HI.1.cy.1⟩,(zzJ (w:=w4) (a:=Z bY 0 N) (ao _ HI.1.cy.1)).trans HI.1.cy.2⟩
    have HX:=hid (Ya am (Ya hM (Ya aw (Ya ak (Ya aN (Ya bA (Ya ao aa)))))));have aI:=hid (Ya bw (Ya bo (Ya bv (Ya bu bt))));clear am hM aw ak bD aN bA ao aa bw bo bv bu bt cq bJ bI;gi_wp2_with fail
    refine ybu (F:=ycv F4 w4 w5) (M:=M) (gf:=gf) (lb:=cap) rfl aI.1 O4
     (λ k vs F W h=>by obtain ⟨_,_,_,rfl,_⟩:=h;rfl) aI.2.1 aI.2.2.1 aI.2.2.2.1 aI.2.2.2.2 HX.2.2.2.2.1 HX.1.dj
     (λ k O F W'=>Jq (yfL u fi la g i+okN (ofL u fi la g q) k) O (yez F M) W'/\yez F M bY/\W'.cell? (Z bY 0 N)=G (.func yf yi yc))
     (λ c k O F W'=>c= .exit 0/\∃m,1<=m/\m<=(yhA u fi la n g).length/\Jx m O (yez F M) W')
     ?stab ?stabx ?lt ?ltx HX.2.2.2.2.2.1
     (λ k O F a' W'=>(Jq (yfL u fi la g i+okN (ofL u fi la g q) k) O (yez F M) W'/\yez F M bY/\W'.cell? (Z bY 0 N)=G (.func yf yi yc))/\(∀b,F b->¬O b/\b<W'.heap.size)/\∃c rq bx,(ofL u fi la g q)[k]? =G c/\RuE c rq/\RuK (yez F M) rq W'/\RuB W' bx rq/\A2X (.func yf yi yc) (R (G (Z bf 0 N))) (R (G (Z bp 0 N))) (R (G (Z bY 0 N))) (R (G (Z bx 0 N))) (Xs (G (Z al 0 N)) 7 7) (E T 7) (E T i) [] a')
     ?putl ?assign ?body ?done ?stop
    case stab=>
     rintro k O F F' W W' ⟨h1,h2,h3⟩ hs hF hO;exact ⟨HC.stab _ O _ _ W W' h1 hs (λ b hb=>⟨hF b hb.1,hb.2⟩) (λ b hb=>hO b (hb.imp id (·.1))),⟨hF _ h2.1,h2.2⟩,(zzJ (w:=W) (a:=Z bY 0 N) (hO bY (.inr h2))).trans h3⟩
    case stabx=>
     rintro c k O F F' W W' ⟨rfl,m,h1,h2,h⟩ hs hF hO;exact ⟨rfl,m,h1,h2,HC.stabx _ O _ _ W W' h hs (λ b hb=>⟨hF b hb.1,hb.2⟩) (λ b hb=>hO b (hb.imp id (·.1)))⟩
    case lt=>intro k O F W h;exact HC.lt _ _ _ _ h.1
    case ltx=>rintro c k O F W ⟨rfl,m,-,-,h⟩;exact HC.ltx _ _ _ _ h
    case putl=>
     rintro l o k O F a' W hr hO hF ⟨⟨h1,h2,h3⟩,h4,c,rq,bx,h5,h6,h7,h8,h9⟩;have ko:∀b,b≠l->(W.putObj l o).heap[b]? =W.heap[b]?:=λ b hb=>Yc hb;have ks:W.heap.size<=(W.putObj l o).heap.size:=(by rw [Yg];exact zG _);exact ⟨⟨HC.stab _ O _ _ W _ h1 ks zi (λ b hb=>ko b (λ e=>hb.elim (λ h=>hO (e ▸ h)) (λ h=>hF (e ▸ h.1.1)))),h2,yaC hr h3⟩,λ b hb=>⟨(h4 b hb).1,by rw [Yg];exact (h4 b hb).2⟩,c,rq,bx,h5,h6,h7.keep ks zi (λ b hb=>ko b (λ e=>hF (e ▸ hb.1))),yll h8 hr,h9⟩
    case assign=>
     rintro l k O9 F9 W9 vs K hk ⟨h1,h2,h3⟩ hd ⟨c,rq,hc,rfl,hE,au,aR⟩ hG hK;obtain ⟨m1,m2,m3,m4⟩:=ycj W9 rq;have ab:=HC.lt _ _ _ _ h1;obtain ⟨w6,bn⟩:=zx ((W9.alloc (J zl0 25)).setCells W9.heap.size 0 (yad rq));rw [bn] at m1 m2 m3 m4;have ks:=m3.size;have kb:∀b,b<W9.heap.size->w6.heap[b]? =W9.heap[b]?:=λ b hb=>m3.block b hb;have hA:Hid ((Jq (yfL u fi la g i+okN (ofL u fi la g q) k) O9 (yez F9 M) w6/\yez F9 M bY/\w6.cell? (Z bY 0 N)=G (.func yf yi yc))/\(∀b,F9 b->¬O9 b/\b<w6.heap.size)/\RuK (yez F9 M) rq w6/\RuB w6 W9.heap.size rq):=
      ⟨⟨HC.stab _ O9 _ _ W9 w6 h1 ks zi (λ b hb=>kb b (hb.elim (ab b) (λ h=>aR b h.1.1))),h2,(zzJ (w:=W9) (a:=Z bY 0 N) (kb bY (aR bY h2.1))).trans h3⟩,λ b hb=>⟨(hd b hb).1,zH (aR b hb) ks⟩,au.keep ks zi (λ b hb=>kb b (aR b hb.1)),m2.c⟩
     have hg:Hid (yaM O9 O9 W9 w6):=⟨λ _ h=>h,λ _ h=> .inl h,Eff.of_below m3⟩;have bG:=hid (Ya hc hE);clear m2 m3 m4 ab bn ks kb h1 h2 h3 hd au aR hc hE hG;gi_wp2
     exact hK _ O9 _ hg ⟨hA.1,hA.2.1,c,rq,_,bG.1,bG.2,hA.2.2.1,hA.2.2.2,A2X.of⟩
    case body=>
     rintro l k O9 F9 a' W9 hk hG hl bO bX aK ⟨⟨ag,aj,aA⟩,ai,c,rq,bx,hc,hE,au,aH,⟨U9,rfl⟩⟩;have aO:rq.Sm 1000000:=(hE.sm (yvo (YN hc))).up zd;have ab:=HC.lt _ _ _ _ ag;have af:=HX.1.gr.fresh hG HX.2.2.1;have bH:=aH.ldw;have HB:=hid (Ya ag (Ya aj (Ya aA (Ya ai (Ya hc (Ya hE (Ya au (Ya aH (Ya aO (Ya ab af))))))))));clear ag au hE hc hG aH ai aj aA aO ab af;gi_wp2_with fail
     refine (wf_calls.mpr (cC rq W9 HB.2.2.2.2.2.2.1.s HB.2.2.2.2.2.2.2.2.1)).mono ?_;rintro e w7 ⟨rfl,av⟩;obtain ⟨ag,aj,aA,ai,hc,hE,au,aH,aO,ab,af⟩:=HB.out;have kb:∀b,b<W9.heap.size->w7.heap[b]? =W9.heap[b]?:=λ b hb=>av.block b hb;have a2:Jq (yfL u fi la g i+okN (ofL u fi la g q) k) O9 (yez F9 M) w7:=HC.stab _ O9 _ _ W9 w7 ag av.size zi (λ b hb=>kb b (hb.elim (ab b) (λ h=>(ai b h.1.1).2)));have aW:w7.cell? (Z bY 0 N)=G (.func yf yi yc):=(zzJ (w:=W9) (a:=Z bY 0 N) (kb _ (ai bY aj.1).2)).trans aA;have bc:RuK (yez F9 M) rq w7:=au.keep av.size zi (λ b hb=>kb b (ai b hb.1).2);have bH:=(RuB.later aH av).ldw;have aS:yaM O9 O9 W9 w7:=⟨λ _ h=>h,λ _ h=> .inl h,Eff.of_below av⟩;have aD:=af.trans (aS.toM noM);have a4:yah rq=yah c:=hE.check;by_cases aC:okR c=true
     ·have e1:(yah rq==0)=true:=(by rw [a4,Y8 aC];rfl);have aB:(yhA u fi la n g)[yfL u fi la g i+okN (ofL u fi la g q) k]? =G c:=(by rw [hA];exact ywk HQ.1 hc aC);have a8:yfL u fi la g i+okN (ofL u fi la g q) k+1<=(yhA u fi la n g).length:=(zzq.1 aB).1;have aY:=hid (HC.call (yfL u fi la g i+okN (ofL u fi la g q) k) O9 (yez F9 M) w7 #[ruv rq] a8 a2 (λ b hb=>(ai b hb.1).1) ⟨c,rq,aB,rfl,hE,bc,λ b hb=>zH (ai b hb.1).2 av.size⟩ aD);have a7:=hid (Ya aj (Ya aW (Ya (ai bY aj.1).1 (zH (ai bY aj.1).2 av.size))));have bl:=hid aS;have bU:=hid a8;have ae:Hid (yfL u fi la g i+okN (ofL u fi la g q) (k+1)=yfL u fi la g i+okN (ofL u fi la g q) k+1):=(show _ = _ by rw [ym5 hc,Yd aC];omega);clear ag aj aA ai hc hE au aH aO ab af kb a2 bc aS aD a4 aC aB a8 av HB;gi_wp2_with (refine yyY (.tmp 25) (.tmp 26) _ rfl rfl rfl rfl aY ?_)
      rintro e a6 aX y1 y2 y3 ba;have hg:Hid (yaM O9 aX W9 a6):=bl.trans ⟨y1,y2,y3⟩;have bR:Hid (yez F9 M bY/\a6.cell? (Z bY 0 N)=G (.func yf yi yc)):=⟨a7.1,(y3.cell (p:=Z bY 0 N) a7.2.2.2 a7.2.2.1).trans a7.2.1⟩;rcases ba with ⟨rfl,aT⟩ | ⟨rfl,aT⟩
      ·have bk:Hid (Jq (yfL u fi la g i+okN (ofL u fi la g q) (k+1)) aX (yez F9 M) a6):=(by rw [ae];exact aT);clear y1 y2 y3 aT aW;refine ⟨_,rfl,?_⟩;gi_wp2
       exact ⟨aX,hg,bk,bR⟩
      ·have bk:Hid (Jx (yfL u fi la g i+okN (ofL u fi la g q) k+1) aX (yez F9 M) a6):=aT;clear y1 y2 y3 aT aW;refine ⟨_,rfl,?_⟩;gi_wp2
       exact ⟨aX,hg,rfl,_,Nat.le_add_left _ _,bU,bk⟩
     ·have e1:(yah rq==0)=false:=(by rw [a4];exact ZD.2 λ h=>aC (zzZ h));have ae:yfL u fi la g i+okN (ofL u fi la g q) (k+1)=yfL u fi la g i+okN (ofL u fi la g q) k:=(by rw [ym5 hc,Yb aC];rfl);have HN:Hid (Jq (yfL u fi la g i+okN (ofL u fi la g q) (k+1)) O9 (yez F9 M) w7/\yez F9 M bY/\w7.cell? (Z bY 0 N)=G (.func yf yi yc)):=⟨by rw [ae];exact a2,aj,aW⟩;have bl:=hid aS;clear ag aj aA ai hc hE au aH aO ab af kb a2 bc aS aD a4 aC av HB ae aW;gi_wp2
      exact ⟨O9,bl,HN⟩
    case done=>
     rintro O9 F9 w9 ah bC aU aV an ⟨ag,aj,aA⟩ hD aP aK;obtain ⟨hS,ad,ap⟩:=HI.out;obtain ⟨am,hM,aw,ak,aN,-,ao,aa⟩:=HX.out;have kb:∀b,F4 b->w9.heap[b]? =w4.heap[b]?:=λ b hb=>(ah.eff.block b (zH (hS.t.lt b hb) aa.size) (λ h=>h.elim (hS.t.dj b hb) (ak b hb))).trans (ao b hb);have aF:∀b,F4 b->yez F9 M b:=λ b hb=>⟨aU b (.inl hb),ak b hb⟩;have ac:∀b,F9 b->F4 b\/ w4.heap.size<=b:=λ b hb=>by
      rcases aV b hb with (h | h) | h
      ·exact .inl h
      ·exact .inr h.1
      ·exact .inr (zI aa.size h)
     have aJ:TlS Jq O F W (yfL u fi la g (i+1)) O9 (yez F9 M) w9:=
      ⟨by rw [yqw HQ.1];exact ag,am.gr.fresh ah aw,λ b hb=>aF b (hS.t.sub b hb),λ b hb=>(ac b hb.1).elim (hS.t.new b) λ h=> .inr (zI hS.t.gr.eff.size h),λ b hb=>an b hb.1,λ b hb=>aI.2.2.2.1.lt F9 w9 bC b hb.1⟩
     have bj:Hid (A2S Jq O F W bf bp bY al (.func yf yi yc) u fi la n ev sq g (yfL u fi la g (i+1)) O9 (yez F9 M) w9/\(∀D∈w5.heap.size::Ds,w9.heap[D]? =G (.deferred (G []))/\W.heap.size<=D/\¬O9 D/\¬yez F9 M D)/\(w5.heap.size::Ds).Nodup):=by
      refine ⟨hS.keep aJ (zI aa.size ah.eff.size) aF kb,λ D aG=>?_,List.nodup_cons.mpr ⟨λ h=>?_,ap⟩⟩
      ·rcases List.mem_cons.mp aG with rfl | aG
       ·exact ⟨hD,am.gr.eff.size,aP,λ h=>aK h.1⟩
       ·obtain ⟨q1,q2,q3,q4⟩:=ad D aG;have aQ:=yam q1;refine ⟨(ah.eff.block D (zH aQ aa.size) (λ h=>h.elim q3 (λ h=>by have:=hM D h;omega))).trans ((aa.block D aQ).trans q1),q2,λ h=>?_,λ h=>?_⟩
        ·rcases ah.new D h with h | h
         ·exact q3 h
         ·have:=aa.size;omega
        ·rcases ac D h.1 with h | h
         ·exact q4 h
         ·omega
      ·have:=yam (ad _ h).1;have:=aa.size;omega
     clear hS ad ap kb aJ ah bC aU aV an ag aj aA hD aP aK am hM aw ak aN ao aa aF ac;gi_wp2
     exact ⟨⟨i+1,w5.heap.size::Ds,O9,_,by omega,A2T.of,bj⟩,by simp [intOf];omega⟩
    case stop=>
     rintro c k O9 F9 w9 b2 bZ ah bB aU aV an ⟨rfl,m,bs,br,ag⟩ hD aP aK;obtain ⟨hS,ad,ap⟩:=HI.out;obtain ⟨am,hM,aw,ak,aN,-,ao,aa⟩:=HX.out;have kb:∀b,F4 b->w9.heap[b]? =w4.heap[b]?:=λ b hb=>(ah.eff.block b (zH (hS.t.lt b hb) aa.size) (λ h=>h.elim (hS.t.dj b hb) (ak b hb))).trans (ao b hb);have aF:∀b,F4 b->yez F9 M b:=λ b hb=>⟨aU b (.inl hb),ak b hb⟩;have ac:∀b,F9 b->F4 b\/ w4.heap.size<=b:=λ b hb=>by
      rcases aV b hb with (h | h) | h
      ·exact .inl h
      ·exact .inr h.1
      ·exact .inr (zI aa.size h)
     have aJ:TlS Jx O F W m O9 (yez F9 M) w9:=
      ⟨ag,am.gr.fresh ah aw,λ b hb=>aF b (hS.t.sub b hb),λ b hb=>(ac b hb.1).elim (hS.t.new b) λ h=> .inr (zI hS.t.gr.eff.size h),λ b hb=>an b hb.1,λ b hb=>aI.2.2.2.2.lt F9 w9 bB b hb.1⟩
     have bj:Hid (TlS Jx O F W m O9 (yez F9 M) w9/\ynX bf bp u fi la n ev sq g (yez F9 M) w9/\(∀D∈w5.heap.size::Ds,w9.heap[D]? =G (.deferred (G []))/\W.heap.size<=D/\¬O9 D/\¬yez F9 M D)/\(w5.heap.size::Ds).Nodup/\1<=m/\m<=(yhA u fi la n g).length):=by
      refine ⟨aJ,hS.h.keep (zI aa.size ah.eff.size) aF aJ.lt kb,λ D aG=>?_,List.nodup_cons.mpr ⟨λ h=>?_,ap⟩,bs,br⟩
      ·rcases List.mem_cons.mp aG with rfl | aG
       ·exact ⟨hD,am.gr.eff.size,aP,λ h=>aK h.1⟩
       ·obtain ⟨q1,q2,q3,q4⟩:=ad D aG;have aQ:=yam q1;refine ⟨(ah.eff.block D (zH aQ aa.size) (λ h=>h.elim q3 (λ h=>by have:=hM D h;omega))).trans ((aa.block D aQ).trans q1),q2,λ h=>?_,λ h=>?_⟩
        ·rcases ah.new D h with h | h
         ·exact q3 h
         ·have:=aa.size;omega
        ·rcases ac D h.1 with h | h
         ·exact q4 h
         ·omega
      ·have:=yam (ad _ h).1;have:=aa.size;omega
     clear hS ad ap kb aJ ah bB aU aV an ag hD aP aK am hM aw ak aN ao aa aF ac bs br;gi_wp2
     rw [Zc];obtain ⟨ht,hh,ad,ap,g1,g2⟩:=bj.out;refine ya6 zs (w5.heap.size::Ds) w9 ap (λ D hD=>(ad D hD).1) ?_;intro w' e1 e2 e3 e4 e5;have bN:=ht.marks HC.stabx (Ds:=w5.heap.size::Ds) (λ D hD=>(ad D hD).2) e1 e2 e3 e4 e5;have bQ:=hh.keep (F':=yez F9 M) (W':=w') zo zi (λ b hb=>by rw [e4];exact ht.lt b hb) (λ b hb=>e5 b (λ hd=>(ad b hd).2.2.2 hb));exact ⟨_,YO rfl _ _ _,⟨_,rfl⟩,ygw (Jq:=Jq) bN bQ g1 g2⟩
   ·obtain rfl:i=7:=zo;have bW:=HI;clear hi hlt;gi_wp2
    rw [Zc];obtain ⟨hS,ad,ap⟩:=bW.out;refine ya6 zs Ds w4 ap (λ D hD=>(ad D hD).1) ?_;intro w' e1 e2 e3 e4 e5;have ht:=hS.t.marks HC.stab (Ds:=Ds) (λ D hD=>(ad D hD).2) e1 e2 e3 e4 e5;have hh:=hS.h.keep (F':=F4) (W':=w') zo zi (λ b hb=>by rw [e4];exact hS.t.lt b hb) (λ b hb=>e5 b (λ hd=>(ad b hd).2.2.2 hb));have a9:(yhA u fi la n g).length=yfL u fi la g 7:=(by rw [hA];rfl);exact ⟨_,YO rfl _ _ _,⟨_,rfl⟩,by rw [a9];exact yf9 ht hh⟩
theorem ysa (u:Nat->Nat) (fi la n:Int) (ev sq:Bool) (g:Nat->Int) (w:World) :
  H I 23 #[fcv u fi la n ev sq,yjC g] w λ e w'=>e=Q (Xf (.func 56) #[] #[R (G (Z w.heap.size 0 N)),R (G (Z (w.heap.size+1) 0 N))])/\Bw w w'/\w'.heap.size=w.heap.size+2/\FcB w.heap.size u fi la n ev sq w'/\Ar7 (w.heap.size+1) g w':=by
 have hA:=yg3 w 43 u fi la n ev sq;have e0:(w.alloc (J (fcL u fi la n ev sq).toArray 43)).heap.size=w.heap.size+1:=zzN _ _;have b0:Bw w (w.alloc (J (fcL u fi la n ev sq).toArray 43)):=yaa (Ye _ _) zg;rw [yhx];generalize bT:(fcL u fi la n ev sq).toArray=A at hA e0 b0⊢
 obtain ⟨W0,ar⟩:=zx (w.alloc (J A 43));rw [ar] at hA e0 b0;have hP:=yrU W0 g 46;have b1:Bw W0 (W0.alloc (J (L7 g).toArray 46)):=yaa (Ye _ _) zg;have e1:(W0.alloc (J (L7 g).toArray 46)).heap.size=W0.heap.size+1:=zzN _ _;rw [show yjC g= .agg (L7 g).toArray from rfl];generalize bS:(L7 g).toArray=AG at hP b1 e1⊢
 obtain ⟨W1,aE⟩:=zx (W0.alloc (J AG 46));rw [aE] at hP b1 e1;have HX:Hid (Bw w W1/\W1.heap.size=w.heap.size+2/\FcB w.heap.size u fi la n ev sq W1/\Ar7 (w.heap.size+1) g W1):=⟨zu b0 b1,by omega,hA.block b1.size (b1.block _ hA.lt),by rw [<- e0];exact hP⟩;have bh:=hid ar;have bg:=hid aE;have E0:=hid e0;clear bT hA e0 b0 ar hP b1 e1 bS aE;go_enter Tryz.func23,Tryz.ntmps23
 go_upto_region 1 with fail
 rw [bh];rw [bg];go_wp2;go_ret;exact ⟨rfl,HX⟩
end
section
attribute [local irreducible] yak
theorem ytd (r:Ru):(((((((yiK (((((yae fullCl).set 3 (E Y (ybL r:Nat))).set 4 (E Y (yfS r:Nat))).set 5 (E Y (yfQ r:Nat))).set 6 (E Y (ycA r:Nat))) 8 (ycF (woI r) (woB r) (woD r))).set 2 (E Y (tmH r:Nat))).set 1 (E Y (tmM r:Nat))).set 0 (E Y (tmS r:Nat))).set 25 (E T r.fq)).set 26 (E T r.iv)).set 27 (E T r.st)).set 28 (E T r.st)=yae (yqP r 12622780799):=by kernel_rfl
theorem yqa (r:Ru):((((((((yiK (((((yae fullCl).set 3 (E Y (ybL r:Nat))).set 4 (E Y (yfS r:Nat))).set 5 (E Y (yfQ r:Nat))).set 6 (E Y (ycA r:Nat))) 8 (ycF (woI r) (woB r) (woD r))).set 2 (E Y (tmH r:Nat))).set 1 (E Y (tmM r:Nat))).set 0 (E Y (tmS r:Nat))).set 25 (E T r.fq)).set 26 (E T r.iv)).set 27 (E T r.st)).set 28 (E T r.st)).set 29 (E T r.un)=yae (yqP r r.un):=by kernel_rfl
attribute [local go_sem ↓] yaz ya3 ybd yn9
attribute [local go_sem] yaE
theorem ykL (r:Ru) (w:World) (hr:RuS w r) (hm:r.Sm 1000000):H I 20 #[ruv r] w λ e w'=>e=Q (Xt #[if ycH r=0 then clv (ydu r) else .agg zL.toArray,E T (ycH r)])/\Bw w w':=by
 have au:Bw w (w.alloc (J (yad r).toArray 25)):=yaa (Ye _ _) zg;have aB:=ybk w r 25;have s0:(w.alloc (J (yad r).toArray 25)).heap.size=w.heap.size+1:=by simp
 obtain ⟨W0,aA⟩:=zx (w.alloc (J (yad r).toArray 25));rw [aA] at au aB s0;have ad:(W0.alloc (J zL.toArray 59)).there W0.heap.size 0 30:=yaL W0 _ _;have ao:Bw W0 (W0.alloc (J zL.toArray 59)):=yaa (Ye _ _) zg;have s1:(W0.alloc (J zL.toArray 59)).heap.size=W0.heap.size+1:=by simp
 obtain ⟨W1,az⟩:=zx (W0.alloc (J zL.toArray 59));rw [az] at ad ao s1;have aq:=aB.below ao zo;have aC:=zu au ao;have cF:=hid (ymg r W1 (hr.below aC) hm);have aL:=aq.ldw;obtain ⟨b1,aE⟩:=zx w.heap.size;obtain ⟨b2,aY⟩:=zx W0.heap.size;have aX:b1+1=b2:=zo;rw [aE] at aq aL;rw [aY] at ad;have a1:=hid aq;have aH:=hid ad;have a2:=hid aC;have bx:=hid aA;have bw:=hid az;have E1:=hid aE;have a3:=hid aX;have S1:Hid (b2<W1.heap.size):=by show _<_;omega
 have Hr:=hid hr;clear au aB s0 aA ao s1 az aq aC ad aE aY aX hr;obtain ⟨Qq,hQ⟩:=zx ((if ycH r=0 then clv (ydu r) else .agg zL.toArray));obtain ⟨c,hc⟩:=zx (ycH r);rw [hQ,hc];rw [hc] at cF;have HQ:=hid hQ;have Hc:=hid hc;clear hQ hc;go_enter Tryz.func20,Tryz.ntmps20
 go_upto_region 1 with fail
 rw [bx,bw,E1,a3];go_wp2_with fail
 refine zm cF ?_;rintro w2 hB;have ay:b1<b2:=by have:=a3.out;omega
 have a0:=hid (a1.below hB (Nat.lt_trans ay S1));have av:Hid (w2.there b2 0 30):=λ j hj=>⟨by rw [hB.cell (p:=Z b2 (0+j) N) S1];exact (aH j hj).1,by rw [hB.frozen (p:=Z b2 (0+j) N) S1];exact (aH j hj).2⟩;have aw:=hid (zu a2 hB);have S2:Hid (b2<w2.heap.size):=zH S1 hB.size;clear hB aL cF a1 aH;by_cases hE:ycH r=0;rotate_left
 ·have aI:Hid (Qq= .agg zL.toArray):=by show _ = _;rw [<- HQ,Yb hE]
  rw [Hc] at hE;have q2:(c != 0)=true:=by simpa using hE
  have q1:(c==0)=false:=by simpa using hE
  have ht:=av.out;have ae:(yaV w2 b2 zL).rangeAt b2 0 zL:=yaI _ rfl ht;have ah:=hid ae;have ai:Hid (Bw w (yaV w2 b2 zL)):=yaD aw (zp E1.out) _;obtain ⟨W9,ab⟩:=zx (yaV w2 b2 zL);rw [ab] at ah ai;have aG:=hid ab;clear hE ae ab;go_wp2;(try rw [aG]);exact Yh (yaq (p:=2) (t:=3) rfl _ _ b2 0 _ _ rfl ah Tryz.underlying59 rfl yh1) rfl ⟨by rw [aI] <;> rfl,ai⟩
 have aI:Hid (Qq=clv (ydu r)):=by show _ = _;rw [<- HQ,Yd hE]
 obtain rfl:c=0:=by rw [<- Hc];exact hE
 have aU:yah r=0:=by
  by_cases h:yah r=0
  ·exact h
  ·rw [ycH,Yb h] at hE;exact hE
 have aZ:=hid (ycR w2);go_wp2_with fail
 refine zm aZ ?_;rintro w3 hB;have aj:(w3.alloc (J zL.toArray 59)).there w3.heap.size 0 30:=yaL w3 _ _;have aT:=yaa (o:=J zL.toArray 59) (Ye w3.heap.size w3) zg;generalize aV:fullCl=FC
 obtain ⟨W4,ap⟩:=zx (yaV (w3.alloc (J zL.toArray 59)) w3.heap.size (yae FC));have ar:LsB w3.heap.size (yae fullCl) W4:=by
  rw [<- ap,aV];exact ⟨yaI _ rfl aj,λ i=>by rw [ygd,Zj];exact yan w3 _ _ i,by rw [ygd,ya4,zzN];omega⟩
 have aW:Bw w3 W4:=by rw [<- ap];exact yaD aT zg _
 have aa:=zu hB aW;obtain ⟨b5,aD⟩:=zx w3.heap.size;rw [aD] at ar;have HS:Hid (RwC w r b1 b2 b5 (yae fullCl) W4):=⟨a0.below aa (Nat.lt_trans ay S2),ar,λ j hj=>⟨by rw [aa.cell (p:=Z b2 (0+j) N) S2];exact (av j hj).1,by rw [aa.frozen (p:=Z b2 (0+j) N) S2];exact (av j hj).2⟩,zu aw aa,Nat.le_of_eq E1,ay,by have:=S2.out;have:=hB.size;omega⟩;obtain ⟨L0,el⟩:=zx (yae fullCl);rw [el] at HS ar;have HL:Hid (L0.length=30):=by show _ = _;rw [<- el];rfl
 have bd:=hid el;have bv:=hid ap;have E5:=hid aD;have bF:=hid aU;clear el;clear hB ar aW aa aT ap aD aV aZ a0 av S2 hE aU aw;go_upto_region 5 with fail
 rw [bv,E5];clear aj;have ld:=HS.ru.ldw;have cK:=hid (yo8 r W4 (Hr.below HS.be) hm);go_wp2_with fail
 refine zm cK ?_;rintro w5 hB;have HS:=hid (HS.call hB);clear hB ld cK;have bl:=HS.l.z 3;obtain ⟨L1,u1,el,hl,bs,hS⟩:=HS.nxt HL (k:=3) zd (E Y (ybL r:Nat));have bc:=hid el;clear HL HS;have HL:=hid hl;have HS:=hid hS;clear el hl hS;obtain ⟨t1,ad⟩:=zx (w5.setCell (Z b5 3 N) (E Y (ybL r:Nat)));rw [ad] at HS;go_upto_region 6 with fail
 clear bs bl ad;have ld:=HS.ru.ldw;have cK:=hid (yu3 r t1 (Hr.below HS.be) hm);go_wp2_with fail
 refine zm cK ?_;rintro w6 hB;have HS:=hid (HS.call hB);clear hB ld cK;have bk:=HS.l.z 4;obtain ⟨L2,u2,el,hl,br,hS⟩:=HS.nxt HL (k:=4) zd (E Y (yfS r:Nat));have bb:=hid el;clear HL HS;have HL:=hid hl;have HS:=hid hS;clear el hl hS;obtain ⟨t2,aS⟩:=zx (w6.setCell (Z b5 4 N) (E Y (yfS r:Nat)));rw [aS] at HS;have bj:=HS.l.z 5;obtain ⟨L3,u3,el,hl,bq,hS⟩:=HS.nxt HL (k:=5) zd (E Y (yfQ r:Nat));have ba:=hid el;clear HL HS;have HL:=hid hl;have HS:=hid hS;clear el hl hS;obtain ⟨t3,aR⟩:=zx (t2.setCell (Z b5 5 N) (E Y (yfQ r:Nat)));rw [aR] at HS;go_upto_region 7 with fail
 clear br bk aS bq bj aR;have ld:=HS.ru.ldw;have cK:=hid (yuJ r t3 (Hr.below HS.be) hm);rw [ypH] at cK;go_wp2_with fail
 refine zm cK ?_;rintro w7 hB;have HS:=hid (HS.call hB);clear hB ld cK;have bi:=HS.l.z 6;obtain ⟨L4,u4,el,hl,bp,hS⟩:=HS.nxt HL (k:=6) zd (E Y (ycA r:Nat));have a9:=hid el;clear HL HS;have HL:=hid hl;have HS:=hid hS;clear el hl hS;obtain ⟨t4,aQ⟩:=zx (w7.setCell (Z b5 6 N) (E Y (ycA r:Nat)));rw [aQ] at HS;have aK:=HS.l.stO HL (woI r) (woB r) (woD r);obtain ⟨L5,el,hl,hS⟩:=HS.nxtO HL (woI r) (woB r) (woD r);have a8:=hid el;clear HL HS;have HL:=hid hl;have HS:=hid hS;clear el hl hS;obtain ⟨t5,aP⟩:=zx (t4.setCells b5 8 (ycF (woI r) (woB r) (woD r)));rw [aP] at HS aK;clear aP;go_upto_region 8 with fail
 clear bp bi aQ aK;have ld:=HS.ru.ldw;have cK:=hid (ymc r t5 (Hr.below HS.be) hm);go_wp2_with fail
 refine zm cK ?_;rintro w8 hB;have HS:=hid (HS.call hB);clear hB ld cK;have bh:=HS.l.z 2;obtain ⟨L6,u6,el,hl,bo,hS⟩:=HS.nxt HL (k:=2) zd (E Y (tmH r:Nat));have a7:=hid el;clear HL HS;have HL:=hid hl;have HS:=hid hS;clear el hl hS;obtain ⟨t6,aO⟩:=zx (w8.setCell (Z b5 2 N) (E Y (tmH r:Nat)));rw [aO] at HS;have bg:=HS.l.z 1;obtain ⟨L7,u7,el,hl,bn,hS⟩:=HS.nxt HL (k:=1) zd (E Y (tmM r:Nat));have a6:=hid el;clear HL HS;have HL:=hid hl;have HS:=hid hS;clear el hl hS;obtain ⟨t7,aN⟩:=zx (t6.setCell (Z b5 1 N) (E Y (tmM r:Nat)));rw [aN] at HS;have bf:=HS.l.z 0;obtain ⟨L8,u8,el,hl,bm,hS⟩:=HS.nxt HL (k:=0) zd (E Y (tmS r:Nat));have a5:=hid el;clear HL HS;have HL:=hid hl;have HS:=hid hS;clear el hl hS;obtain ⟨t8,aM⟩:=zx (t7.setCell (Z b5 0 N) (E Y (tmS r:Nat)));rw [aM] at HS;go_upto_region 9 with fail
 clear bo bh aO bn bg aN bm bf aM;have HC:Hid (∀W,Eff (λ b=>b=b5) t8 W->Hid (W.cell? (Z b1 0 N)=G (E T r.st)/\W.cell? (Z b1 1 N)=G (E T r.fq)/\W.cell? (Z b1 2 N)=G (E T r.iv))):=λ W hE=>
  have e1:=hE.block b1 (by have:=HS.o;have:=HS.l.lt;omega) (zp HS.out.o);have k:=HS.ru.all.1
  ⟨(zzJ (w:=t8) (a:=Z b1 0 N) e1).trans k.1,(zzJ (w:=t8) (a:=Z b1 1 N) e1).trans k.2.1,(zzJ (w:=t8) (a:=Z b1 2 N) e1).trans k.2.2.1⟩
 have HE:Hid (Eff (λ b=>b=b5) t8 t8.drew):=Eff.of_below (Ye t8.heap.size t8).drew;have HS:=hid (HS.call (Ye t8.heap.size t8).drew);refine ysJ [] (S:=λ W=>Hid (W.cell? (Z b1 0 N)=G (E T r.st)/\W.cell? (Z b1 1 N)=G (E T r.fq)/\W.cell? (Z b1 2 N)=G (E T r.iv))) zk (HC _ HE) (λ ac=>?_);generalize eD:t8.drew=D9 at HS HE ac⊢
 clear eD;refine zfA 0 ?_;refine zfA 1 ?_;refine zfA 2 ?_;refine zfA 3 ?_;refine zfA 4 ?_;refine zfA 5 ?_;refine zfA 6 ?_;refine zfA 7 ?_;have hQ:=hid (HC _ HE);refine rgO 8 (λ K hK=>?_);rw [Yd (by rfl)];go_simp;refine hK _ _ (λ _=>hQ) ?_;clear hK;have cz:=HS.l.z 25;obtain ⟨L9,u9,el,hl,cc,hS⟩:=HS.nxt HL (k:=25) zd (E T r.fq);have a4:=hid el;clear HL HS;have HL:=hid hl;have HS:=hid hS;clear el hl hS;have HE:Hid (Eff (λ b=>b=b5) _ (D9.setCell (Z b5 25 N) (E T r.fq))):=HE.set rfl _ _;have hQ:=hid (HC _ HE);refine rgO 9 (λ K hK=>?_);rw [Yd (by rfl)];go_simp;refine hK _ _ (λ _=>hQ) ?_;clear hK cc cz hQ;generalize ht:D9.setCell (Z b5 25 N) (E T r.fq)=t9 at HS HE⊢
 clear ht;have hQ:=hid (HC _ HE);refine rgO 10 (λ K hK=>?_);rw [Yd (by rfl)];go_simp;refine hK _ _ (λ _=>hQ) ?_;clear hK;have cz:=HS.l.z 26;obtain ⟨bE,bC,el,hl,cc,hS⟩:=HS.nxt HL (k:=26) zd (E T r.iv);have am:=hid el;clear HL HS;have HL:=hid hl;have HS:=hid hS;clear el hl hS;have HE:Hid (Eff (λ b=>b=b5) _ (t9.setCell (Z b5 26 N) (E T r.iv))):=HE.set rfl _ _;have hQ:=hid (HC _ HE);refine rgO 11 (λ K hK=>?_);rw [Yd (by rfl)];go_simp;refine hK _ _ (λ _=>hQ) ?_;clear hK cc cz hQ;generalize ht:t9.setCell (Z b5 26 N) (E T r.iv)=t10 at HS HE⊢
 clear ht;have hQ:=hid (HC _ HE);refine rgO 12 (λ K hK=>?_);rw [Yd (by rfl)];go_simp;refine hK _ _ (λ _=>hQ) ?_;clear hK;have cz:=HS.l.z 27;obtain ⟨bD,bB,el,hl,cc,hS⟩:=HS.nxt HL (k:=27) zd (E T r.st);have al:=hid el;clear HL HS;have HL:=hid hl;have HS:=hid hS;clear el hl hS;have HE:Hid (Eff (λ b=>b=b5) _ (t10.setCell (Z b5 27 N) (E T r.st))):=HE.set rfl _ _;have hQ:=hid (HC _ HE);refine rgO 13 (λ K hK=>?_);rw [Yd (by rfl)];go_simp;refine hK _ _ (λ _=>hQ) ?_;clear hK cc cz hQ;generalize ht:t10.setCell (Z b5 27 N) (E T r.st)=t11 at HS HE⊢
 clear ht;have hQ:=hid (HC _ HE);refine rgO 14 (λ K hK=>?_);rw [Yd (by rfl)];go_simp;refine hK _ _ (λ _=>hQ) ?_;clear hK;have cz:=HS.l.z 28;obtain ⟨bu,bA,el,hl,cc,hS⟩:=HS.nxt HL (k:=28) zd (E T r.st);have ak:=hid el;clear HL HS;have HL:=hid hl;have HS:=hid hS;clear el hl hS;have HE:Hid (Eff (λ b=>b=b5) _ (t11.setCell (Z b5 28 N) (E T r.st))):=HE.set rfl _ _;have hQ:=hid (HC _ HE);refine rgO 15 (λ K hK=>?_);rw [Yd (by rfl)];go_simp;refine hK _ _ (λ _=>hQ) ?_;clear hK cc cz hQ;generalize ht:t11.setCell (Z b5 28 N) (E T r.st)=t12 at HS HE⊢
 clear ht;refine OrdF.done zk ?_ _;clear ac HC HE;have k4:=HS.ru.at 4 (v:=E T r.un) rfl;by_cases ag:r.un= -1;focus
  rw [ag] at k4;have aF:=hid ag;clear ag;have af:bu=yae (yqP r 12622780799):=by rw [<- ak,<- al,<- am,<- a4,<- a5,<- a6,<- a7,<- a8,<- a9,<- ba,<- bb,<- bc,<- bd];exact ytd r
  have ld:=(show ClB t12 b5 (yqP r 12622780799) from by have h:=HS.l.r;rw [af] at h;exact h).ld;have ax:=HS.t;have Hl:Hid (ydu r=yqP r 12622780799):=by show _ = _;rw [yvr,Yd aF.out]
  obtain ⟨c,hc⟩:=zx (yqP r 12622780799);rw [hc] at ld;have HC:=hid hc;have ae:(yaV t12 b2 (yae c)).rangeAt b2 0 (yae c):=yaI _ rfl ax;have ah:=hid ae;have ai:Hid (Bw w (yaV t12 b2 (yae c))):=yaD HS.be (zp HS.out.o) _;obtain ⟨W9,ab⟩:=zx (yaV t12 b2 (yae c))
 rotate_left;focus
  have q1:(r.un == -1)=false:=by simpa using ag
  have aF:=hid ag;have cz:=HS.l.z 29;obtain ⟨bt,bz,el,hl,cc,hS⟩:=HS.nxt HL (k:=29) zd (E T r.un);have aJ:=hid el;clear HL HS;have HL:=hid hl;have HS:=hid hS;clear el hl hS;obtain ⟨an,ht⟩:=zx (t12.setCell (Z b5 29 N) (E T r.un));rw [ht] at HS;clear ag;go_upto_region 12 with fail
  clear ht cc cz q1 k4;have af:bt=yae (yqP r r.un):=by rw [<- aJ,<- ak,<- al,<- am,<- a4,<- a5,<- a6,<- a7,<- a8,<- a9,<- ba,<- bb,<- bc,<- bd];exact yqa r
  have ld:=(show ClB an b5 (yqP r r.un) from by have h:=HS.l.r;rw [af] at h;exact h).ld;have ax:=HS.t;have Hl:Hid (ydu r=yqP r r.un):=by show _ = _;rw [yvr,Yb aF.out]
  obtain ⟨c,hc⟩:=zx (yqP r r.un);rw [hc] at ld;have HC:=hid hc;have ae:(yaV an b2 (yae c)).rangeAt b2 0 (yae c):=yaI _ rfl ax;have ah:=hid ae;have ai:Hid (Bw w (yaV an b2 (yae c))):=yaD HS.be (zp HS.out.o) _;obtain ⟨W9,ab⟩:=zx (yaV an b2 (yae c))
 rotate_left;all_goals
  rw [ab] at ah ai;have aG:=hid ab;clear ae hc ab;go_wp2;(try rw [aG]);exact Yh (yaq (p:=2) (t:=3) rfl _ _ b2 0 _ _ rfl ah Tryz.underlying59 rfl yh1) rfl ⟨by rw [aI,Hl,HC] <;> rfl,ai⟩
end
section
attribute [local irreducible] yak
attribute [local go_sem ↓] ybd yaz ya3
attribute [local go_sem] yaE
theorem yqv (X:Cl):cls [X]=yae X:=by simp [cls]
theorem yem (W:World) (X:Cl):Sl (W.alloc (J (yae X).toArray 59)) (G (Z W.heap.size 0 N)) (cls [X]):=by
 rw [yqv];exact ybV (yap W _ _) zs
def yz3 (w:World) (r:Ru) (e:Ending) (W:World):Prop:=
 (ycH r≠0/\e=Q (Xt #[Xs N 0 0,E T (ycH r)]))\/
 (ycH r=0/\∃g,e=Q (Xt #[Xs (G (Z g 0 N)) 1 1,E T 0])/\w.heap.size<=g/\Sl W (G (Z g 0 N)) (cls [ybS r]))
theorem yik (r:Ru) (w:World) (hr:RuS w r) (hm:r.Sm 1000000) (hn:r.Num) (hN:0<r.co->ycH r=0->∀g W,Bw w W->Sl W (G (Z g 0 N)) (cls [ydu r])->H I 21 #[Xs (G (Z g 0 N)) 1 1,E T r.co] W λ e w'=>e=Q (Xt #[E T (yiR [ydu r] r.co).1,E T (yiR [ydu r] r.co).2])/\Bw W w'):H I 9 #[ruv r] w λ e w'=>yz3 w r e w'/\Bw w w':=by
 have ar:Bw w (w.alloc (J (yad r).toArray 25)):=yaa (Ye _ _) zg;have ak:=ybk w r 25;have s0:w.heap.size<(w.alloc (J (yad r).toArray 25)).heap.size:=by simp
 obtain ⟨W0,az⟩:=zx (w.alloc (J (yad r).toArray 25));rw [az] at ar ak s0;have cC:=hid (ykL r W0 (hr.below ar) hm);obtain ⟨b1,aD⟩:=zx w.heap.size;rw [aD] at ak s0;have av:=hid ar;have aP:=hid ak;have S0:=hid s0;have E1:=hid aD;have aN:=hid az;have ld:=ak.ldw;clear az ar ak s0 aD hr;by_cases hE:ycH r=0;rotate_left
 ·rw [Yb hE] at cC;have HE:=hid hE;obtain ⟨c,hc⟩:=zx (ycH r);rw [hc] at cC hE;have Hc:=hid hc;have q1:(c==0)=false:=by simpa using hE
  have q2:(c != 0)=true:=by simpa using hE
  clear hE hc;go_enter Tryz.func9,Tryz.ntmps9
  go_upto_region 1 with fail
  rw [aN,E1];go_wp2_with fail
  refine zm cC ?_;rintro w2 hB;have ap:(w2.alloc (J zL.toArray 59)).there w2.heap.size 0 30:=yaL w2 _ _;have ai:Bw w2 (yaV (w2.alloc (J zL.toArray 59)) w2.heap.size zL):=yaD (yaa (Ye _ _) zg) zg _;obtain ⟨w3,ae⟩:=zx (yaV (w2.alloc (J zL.toArray 59)) w2.heap.size zL);rw [ae] at ai;have ad:=hid (av.trans ((zu hB ai).mono av.size));have aF:=hid ae;clear hB ai ae cC ld;go_upto_region 2 with fail
  rw [aF];clear ap;go_wp2;go_ret2
  exact ⟨.inl ⟨HE,by rw [Hc] <;> rfl⟩,ad⟩
 rw [Yd hE,hE] at cC;have HE:=hid hE;have aq:yah r=0:=by
  by_cases h:yah r=0
  ·exact h
  ·rw [ycH,Yb h] at hE;exact hE
 have aW:0<=r.co/\r.co<=1000000:=by
  have h1:=(yeL (yaY aq).h).2.1;rw [ycH,Yd aq] at hE;by_cases h:100000000000<r.iv\/ 1000000<r.co
  ·rw [Yd h] at hE;cases hE
  ·exact ⟨h1,by omega⟩
 have ax:=yqM hn;have cN:=hid (λ h=>hN h hE);have HF:Hid (∀x,r.co<=0\/ yiR [ydu r] r.co= (0,15)->ydu r=x->ybS r=x):=λ x h e=>by
  rw [ybS,Yb,e];rintro ⟨h1,h2⟩;rcases h with h | h
  ·omega
  ·rw [h] at h2;cases h2
 have aQ:Hid (∀x c,0<r.co->yiR [ydu r] r.co= (x,0)->ydu r=c->ybS r= {c with un:=x}):=λ x c h e ec=>by
  rw [ybS,Yd ⟨h,by rw [e]⟩,e,ec]
 have af:Hid (1<=r.co->(∃x,yiR [ydu r] r.co= (x,0))\/ yiR [ydu r] r.co= (0,15)):=λ h=>by
  rcases ylx aq h with ⟨x,e,-⟩ | e
  ·exact .inl ⟨x,e⟩
  ·exact .inr e
 obtain ⟨c,hc⟩:=zx (ydu r);rw [hc] at cC cN HF aQ af;have Hc:=hid hc;clear hE aq ax hc hN hn hm;go_enter Tryz.func9,Tryz.ntmps9
 go_upto_region 1 with fail
 rw [aN,E1];go_wp2_with fail
 refine zm cC ?_;rintro w2 hB;have ap:(w2.alloc (J zL.toArray 59)).there w2.heap.size 0 30:=yaL w2 _ _;have aJ:=yaa (o:=J zL.toArray 59) (Ye w2.heap.size w2) zg;obtain ⟨w3,ae⟩:=zx (yaV (w2.alloc (J zL.toArray 59)) w2.heap.size (yae c));have aB:LsB w2.heap.size (yae c) w3:=by
  rw [<- ae];exact ⟨yaI _ rfl ap,λ i=>by rw [ygd,Zj];exact yan w2 _ _ i,by rw [ygd,ya4,zzN];omega⟩
 have ai:Bw w2 w3:=by rw [<- ae];exact yaD aJ zg _
 have ah:=zu hB ai;have aU:=hid (aP.below ah S0);have ad:=hid (zu av ah);obtain ⟨b4,aC⟩:=zx w2.heap.size;have aL:Hid (b1<b4):=by show _<_;have:=S0.out;have:=hB.size;omega
 rw [aC] at aB;have aj:=hid aB;have aF:=hid ae;have E4:=hid aC;clear hB aJ aB ai ah ae aC cC ld aP;go_upto_region 2 with fail
 rw [aF,E4];clear ap;have k3:=aU.at 3 (v:=E T r.co) rfl;have ld3:=(show ClB w3 b4 c from aj.r).ld;have ac:=yem w3 c;have ab:=yaa (o:=J (yae c).toArray 59) (Ye w3.heap.size w3) zg;obtain ⟨w4,aw⟩:=zx (w3.alloc (J (yae c).toArray 59));rw [aw] at ac ab;have aS:=hid (zu ad ab);have aO:=hid ac;have aE:=hid aw;have al:=hid ab;clear ac ab aw;by_cases h0:0<r.co;rotate_left
 ·have HX:=hid (HF c (.inl zo) rfl);have L3:Hid (w.heap.size<=w3.heap.size):=ad.size;go_wp2_with (rw [aE])
  go_wp2;go_ret2
  exact ⟨.inr ⟨HE,_,rfl,L3,by rw [HX];exact aO⟩,aS⟩
 have au:=hid (cN h0 _ w4 aS aO);have aH:=(al.cell (p:=Z b1 3 N) (by have:=aL.out;have:=aj.lt;simp only [];omega)).trans k3;have H0:=hid h0;rcases af zo with ⟨x,hx⟩ | hx;focus
  rw [hx] at au;have HX:=hid (aQ x c h0 hx rfl);clear hx;go_wp2_with (rw [aE])
  refine zm au ?_;rintro w5 hB;have aa:=zu al hB;have an:=hid (aj.block aa.size (aa.block _ aj.lt));have ao:=hid (zu ad aa);have cc:=an.at (k:=29) (v:=E T c.un) rfl;have cz:=an.z 29;have aA:=an.set (k:=29) zs (E T x);have ay:Bw w (w5.setCell (Z b4 29 N) (E T x)):=yab ao (by have:=E4.out;have:=aL.out;have:=E1.out;omega);obtain ⟨w6,aI⟩:=zx (w5.setCell (Z b4 29 N) (E T x));rw [aI] at aA ay;have aT:=(show ClB w6 b4 {c with un:=x} from aA.r).ld;have aG:=hid ay;obtain ⟨c',aK⟩:∃c',({c with un:=x}:Cl)=c':=⟨_,rfl⟩;rw [aK] at aT HX;have ac:=yem w6 c';have ab:=yaa (o:=J (yae c').toArray 59) (Ye w6.heap.size w6) zg;obtain ⟨w7,ag⟩:=zx (w6.alloc (J (yae c').toArray 59));rw [ag] at ac ab;have aR:=hid (zu aG ab);have L6:Hid (w.heap.size<=w6.heap.size):=aG.size;have am:=hid ac;have aM:=hid ag;clear hB aa aA ay ac ab ag aK ld3 aH k3;go_upto_region 8 with fail
  clear aI cc cz
 rotate_left;focus
  rw [hx] at au;have HX:=hid (HF c (.inr hx) rfl);clear hx;go_wp2_with (rw [aE])
  refine zm au ?_;rintro w5 hB;have aa:=zu al hB;have an:=hid (aj.block aa.size (aa.block _ aj.lt));have ao:=hid (zu ad aa);have aV:=(show ClB w5 b4 c from an.r).ld;have ac:=yem w5 c;have ab:=yaa (o:=J (yae c).toArray 59) (Ye w5.heap.size w5) zg;obtain ⟨w7,ag⟩:=zx (w5.alloc (J (yae c).toArray 59));rw [ag] at ac ab;have aR:=hid (zu ao ab);have L6:Hid (w.heap.size<=w5.heap.size):=ao.size;have am:=hid ac;have aM:=hid ag;clear hB aa ac ab ag ld3 aH k3
 rotate_left;all_goals
  go_wp2_with (rw [aM])
  go_wp2;go_ret2
  exact ⟨.inr ⟨HE,_,rfl,L6,by rw [HX];exact am⟩,aR⟩
theorem yfz (r:Ru) (w:World) (hr:RuS w r) (hm:r.Sm 1000000) (hn:r.Num) (h0:r.co=0):H I 9 #[ruv r] w λ e w'=>yz3 w r e w'/\Bw w w':=
 yik r w hr hm hn λ h=>by omega
end
section
attribute [local irreducible] yak
attribute [local go_sem ↓] ybd ybb
def yk1 (r:Ru):Prop:=r.Num/\r.co=0
def yaZ (r:Ru) (l:List Cl):Prop:=ycH r=0/\yc7 [ybS r] l=0/\ysn (λ p q=>p != q) [ybS r] l
theorem ypL (W:World) (Tq:TypeId) (y:Bool) (t:Int) (f:Bool):(W.alloc (J #[Xb y,E T t,Xb f] Tq)).cell? (Z W.heap.size 0 N)=G (Xb y):=by simp [go_sem]
theorem yii (r:Ru) (a:Option Addr) (cap:Nat) (l:List Cl) (w:World) (hr:RuS w r) (hm:r.Sm 1000000) (hn:yk1 r) (ac:ycH r=0->(ybS r).Ok) (hl:l.length<=1000) (al:l.length<=cap) (hs:Sl w a (cls l)) (ak:a=N->cap=0) (aj:∀c∈l,c.Ok) (hT:Tab w) :
  H I 24 #[ruv r,Xs a l.length cap] w λ e w'=>∃b,e=Q (Xb b)/\(b=true↔yaZ r l)/\Bw w w':=by
 have ae:Bw w (w.alloc (J (yad r).toArray 25)):=yaa (Ye _ _) zg;have ah:=ybk w r 25;obtain ⟨W0,ag⟩:=zx (w.alloc (J (yad r).toArray 25));rw [ag] at ae ah;have ao:=ah.ldw;have cL:=hid (yfz r W0 (hr.below ae) hm hn.1 hn.2);have cE:=hid (λ (g:Nat) W (hB:Bw w W) (h0:ycH r=0) (ad:Sl W (G (Z g 0 N)) (cls [ybS r]))=>yeu (G (Z g 0 N)) 1 [ybS r] a cap l W zs zs ad (λ h=>by cases h) (λ c hc=>by
  have e:c=ybS r:=by simpa using hc
  rw [e];exact ac h0) hl al (hs.below hB) ak aj (hT.later hB))
 have an:=hid ae;have aq:=hid ag;clear ae ah ag hr hm hn ac hl al hs ak aj hT;go_enter Tryz.func24,Tryz.ntmps24
 go_upto_region 1 with fail
 rw [aq];go_wp2_with fail
 refine cL.mono ?_;rintro e w1 ⟨hL,am⟩;have af:=hid (zu an am);clear am ao;rcases hL with ⟨h0,rfl⟩ | ⟨h0,g,rfl,-,ad⟩
 ·have hM:Hid (¬yaZ r l):=λ h=>h0 h.1;generalize hx:ycH r=x at h0⊢
  have q:(x != 0)=true:=by simpa using h0
  clear hx h0;go_wp2;go_ret;exact ⟨_,rfl,⟨λ h=>(by cases h),λ h=>absurd h hM⟩,af⟩
 ·have ap:=hid (cE g w1 af h0 ad);have H0:=hid h0;clear ad cE h0;go_wp2_with fail
  refine ap.mono ?_;rintro e w2 ⟨⟨y,t,f,er,rfl,h1,h2,h3⟩,ai⟩;have hB:=zu af ai;have aa:Hid (∀W,Bw w2 W->Bw w W):=λ W h=>zu hB h;by_cases he:er=0
  ·have hM:Hid (y=true↔yaZ r l):=by
    have hv:=h3 he;constructor
    ·intro hy;rcases hv with ⟨hN,-⟩ | ⟨-,e,-⟩
     ·exact ⟨H0,by rw [<- h1];exact he,hN⟩
     ·rw [e] at hy;cases hy
    ·intro hq;rcases hv with ⟨-,e,-⟩ | ⟨hL,-⟩
     ·exact e
     ·exact absurd hL.2.2.1 (by rw [hq.2.2 t];decide)
   subst he;clear h1 h2 h3 ai hB;unfold yhr;go_upto_region 5 with fail
   have hv:=ypL w2 35 y t f;have ab:Bw w2 (w2.alloc (J #[Xb y,E T t,Xb f] 35)):=yaa (Ye _ _) zg;generalize hw:w2.alloc (J #[Xb y,E T t,Xb f] 35)=w3 at hv ab⊢
   have HF:=hid (aa _ ab);clear hw ab aa;go_wp2;go_ret;exact ⟨_,rfl,hM,HF⟩
  ·have hM:Hid (¬yaZ r l):=λ h=>he (by rw [h1];exact h.2.1);have q:(er==0)=false:=(by simpa using he);clear h1 h2 h3 ai hB he;unfold yhr;go_upto_region 5 with fail
   have ab:Bw w2 (w2.alloc (J #[Xb y,E T t,Xb f] 35)):=yaa (Ye _ _) zg;generalize hw:w2.alloc (J #[Xb y,E T t,Xb f] 35)=w3 at ab⊢
   have HF:=hid (aa _ ab);clear hw ab aa;go_wp2;go_ret;exact ⟨_,rfl,⟨λ h=>(by cases h),λ h=>absurd h hM⟩,HF⟩
def ybt (r:Ru) (k:Nat):Ru:=
 match k with
 | 0=>{r with un:=-1}
 | 1=>{r with l5:= [],a5:=N,c5:=0}
 | 2=>{r with l6:= [],a6:=N,c6:=0}
 | 3=>{r with l7:= [],a7:=N,c7:=0}
 | 4=>{r with l8:= [],a8:=N,c8:=0}
 | 5=>{r with l9:= [],a9:=N,c9:=0}
 | _=>{r with lx:= [],ax:=N,cx:=0}
theorem yma (r:Ru) (b:Nat) (w:World) (h:RuW w b r):H I 59 #[R (G (Z b 0 N))] w λ e w'=>(∃v,e=Q v)/\RuW w' b (ybt r 0)/\w' =w.setCell (Z b 4 N) (E T (-1)):=by
 obtain ⟨h2,u,hc⟩:=h.set (r':=ybt r 0) (i:=4) (v:=E T (-1)) zo rfl;have hz:=h.z 4;have H2:=hid h2;clear h h2;go_enter Tryz.func59,Tryz.ntmps59
 go_wp2;go_end0
 exact ⟨⟨_,rfl⟩,H2,rfl⟩
theorem yl9 (r:Ru) (b:Nat) (w:World) (h:RuW w b r):H I 60 #[R (G (Z b 0 N))] w λ e w'=>(∃v,e=Q v)/\RuW w' b (ybt r 1)/\w' =w.setCell (Z b 5 N) (Xs N 0 0):=by
 obtain ⟨h2,u,hc⟩:=h.set (r':=ybt r 1) (i:=5) (v:=Xs N 0 0) zo rfl;have hz:=h.z 5;have H2:=hid h2;clear h h2;go_enter Tryz.func60,Tryz.ntmps60
 go_wp2;go_end0
 exact ⟨⟨_,rfl⟩,H2,rfl⟩
theorem yl8 (r:Ru) (b:Nat) (w:World) (h:RuW w b r):H I 61 #[R (G (Z b 0 N))] w λ e w'=>(∃v,e=Q v)/\RuW w' b (ybt r 2)/\w' =w.setCell (Z b 6 N) (Xs N 0 0):=by
 obtain ⟨h2,u,hc⟩:=h.set (r':=ybt r 2) (i:=6) (v:=Xs N 0 0) zo rfl;have hz:=h.z 6;have H2:=hid h2;clear h h2;go_enter Tryz.func61,Tryz.ntmps61
 go_wp2;go_end0
 exact ⟨⟨_,rfl⟩,H2,rfl⟩
theorem yl7 (r:Ru) (b:Nat) (w:World) (h:RuW w b r):H I 62 #[R (G (Z b 0 N))] w λ e w'=>(∃v,e=Q v)/\RuW w' b (ybt r 3)/\w' =w.setCell (Z b 7 N) (Xs N 0 0):=by
 obtain ⟨h2,u,hc⟩:=h.set (r':=ybt r 3) (i:=7) (v:=Xs N 0 0) zo rfl;have hz:=h.z 7;have H2:=hid h2;clear h h2;go_enter Tryz.func62,Tryz.ntmps62
 go_wp2;go_end0
 exact ⟨⟨_,rfl⟩,H2,rfl⟩
theorem yl6 (r:Ru) (b:Nat) (w:World) (h:RuW w b r):H I 63 #[R (G (Z b 0 N))] w λ e w'=>(∃v,e=Q v)/\RuW w' b (ybt r 4)/\w' =w.setCell (Z b 8 N) (Xs N 0 0):=by
 obtain ⟨h2,u,hc⟩:=h.set (r':=ybt r 4) (i:=8) (v:=Xs N 0 0) zo rfl;have hz:=h.z 8;have H2:=hid h2;clear h h2;go_enter Tryz.func63,Tryz.ntmps63
 go_wp2;go_end0
 exact ⟨⟨_,rfl⟩,H2,rfl⟩
theorem yl5 (r:Ru) (b:Nat) (w:World) (h:RuW w b r):H I 64 #[R (G (Z b 0 N))] w λ e w'=>(∃v,e=Q v)/\RuW w' b (ybt r 5)/\w' =w.setCell (Z b 9 N) (Xs N 0 0):=by
 obtain ⟨h2,u,hc⟩:=h.set (r':=ybt r 5) (i:=9) (v:=Xs N 0 0) zo rfl;have hz:=h.z 9;have H2:=hid h2;clear h h2;go_enter Tryz.func64,Tryz.ntmps64
 go_wp2;go_end0
 exact ⟨⟨_,rfl⟩,H2,rfl⟩
theorem yl4 (r:Ru) (b:Nat) (w:World) (h:RuW w b r):H I 65 #[R (G (Z b 0 N))] w λ e w'=>(∃v,e=Q v)/\RuW w' b (ybt r 6)/\w' =w.setCell (Z b 10 N) (Xs N 0 0):=by
 obtain ⟨h2,u,hc⟩:=h.set (r':=ybt r 6) (i:=10) (v:=Xs N 0 0) zo rfl;have hz:=h.z 10;have H2:=hid h2;clear h h2;go_enter Tryz.func65,Tryz.ntmps65
 go_wp2;go_end0
 exact ⟨⟨_,rfl⟩,H2,rfl⟩
end
section
attribute [local irreducible] yak
attribute [local go_sem ↓] ybd ybb
variable {l:List Cl} {b4 bs bx k:Nat} {Rq r:Ru} {W W' w:World}
open Classical in
noncomputable def yao (l:List Cl) (r:Ru):Nat->Ru
 | 0=>r
 | k+1=>if yaZ (ybt (yao l r k) k) l then ybt (yao l r k) k else yao l r k
theorem ybW (h:yaZ (ybt (yao l r k) k) l):yao l r (k+1)=ybt (yao l r k) k:=Yd h
theorem ycp (h:¬yaZ (ybt (yao l r k) k) l):yao l r (k+1)=yao l r k:=Yb h
theorem yfr {P:Ru->Prop} (hu:∀r,P r->P {r with un:=-1}) (h5:∀r,P r->P {r with l5:= [],a5:=N,c5:=0}) (h6:∀r,P r->P {r with l6:= [],a6:=N,c6:=0}) (h7:∀r,P r->P {r with l7:= [],a7:=N,c7:=0}) (h8:∀r,P r->P {r with l8:= [],a8:=N,c8:=0}) (h9:∀r,P r->P {r with l9:= [],a9:=N,c9:=0}) (hx:∀r,P r->P {r with lx:= [],ax:=N,cx:=0}) (r:Ru) (k:Nat) (h:P r):P (ybt r k):=by
 unfold ybt;split
 ·exact hu r h
 ·exact h5 r h
 ·exact h6 r h
 ·exact h7 r h
 ·exact h8 r h
 ·exact h9 r h
 ·exact hx r h
theorem ybX {P:Ru->Prop} (hc:∀r k,P r->P (ybt r k)) (h:P r):∀k,P (yao l r k)
 | 0=>h
 | k+1=>by
   by_cases hq:yaZ (ybt (yao l r k) k) l
   ·rw [ybW hq];exact hc _ _ (ybX hc h k)
   ·rw [ycp hq];exact ybX hc h k
theorem ye8 (h:yaZ r l):∀k,yaZ (yao l r k) l
 | 0=>h
 | k+1=>by
   by_cases hq:yaZ (ybt (yao l r k) k) l
   ·rw [ybW hq];exact hq
   ·rw [ycp hq];exact ye8 h k
theorem yrK (r:Ru) (k:Nat) (h:RuS W r):RuS W (ybt r k):=
 yfr (P:=RuS W) (λ r h=>⟨h.s5,h.s6,h.s7,h.s8,h.s9,h.sx⟩) (λ r h=>⟨.nil _ _,h.s6,h.s7,h.s8,h.s9,h.sx⟩) (λ r h=>⟨h.s5, .nil _ _,h.s7,h.s8,h.s9,h.sx⟩) (λ r h=>⟨h.s5,h.s6, .nil _ _,h.s8,h.s9,h.sx⟩) (λ r h=>⟨h.s5,h.s6,h.s7, .nil _ _,h.s9,h.sx⟩) (λ r h=>⟨h.s5,h.s6,h.s7,h.s8, .nil _ _,h.sx⟩) (λ r h=>⟨h.s5,h.s6,h.s7,h.s8,h.s9, .nil _ _⟩) r k h
theorem yzS {F:Blk} (r:Ru) (k:Nat) (h:RuK F r W):RuK F (ybt r k) W:=
 yfr (P:=λ r=>RuK F r W) (λ r h=>⟨h.s5,h.s6,h.s7,h.s8,h.s9,h.sx⟩) (λ r h=>⟨.inl rfl,h.s6,h.s7,h.s8,h.s9,h.sx⟩) (λ r h=>⟨h.s5, .inl rfl,h.s7,h.s8,h.s9,h.sx⟩) (λ r h=>⟨h.s5,h.s6, .inl rfl,h.s8,h.s9,h.sx⟩) (λ r h=>⟨h.s5,h.s6,h.s7, .inl rfl,h.s9,h.sx⟩) (λ r h=>⟨h.s5,h.s6,h.s7,h.s8, .inl rfl,h.sx⟩) (λ r h=>⟨h.s5,h.s6,h.s7,h.s8,h.s9, .inl rfl⟩) r k h
theorem yh8 {m:Nat} (r:Ru) (k:Nat) (h:r.Sm m):(ybt r k).Sm m:=
 yfr (P:=λ r=>r.Sm m) (λ r h=>⟨h.n5,h.n6,h.n7,h.n8,h.n9,h.nx⟩) (λ r h=>⟨Zm _,h.n6,h.n7,h.n8,h.n9,h.nx⟩) (λ r h=>⟨h.n5,Zm _,h.n7,h.n8,h.n9,h.nx⟩) (λ r h=>⟨h.n5,h.n6,Zm _,h.n8,h.n9,h.nx⟩) (λ r h=>⟨h.n5,h.n6,h.n7,Zm _,h.n9,h.nx⟩) (λ r h=>⟨h.n5,h.n6,h.n7,h.n8,Zm _,h.nx⟩) (λ r h=>⟨h.n5,h.n6,h.n7,h.n8,h.n9,Zm _⟩) r k h
theorem ylS (r:Ru) (k:Nat) (h:yk1 r):yk1 (ybt r k):=
 have f:∀r s:Ru,yk1 r->s.st=r.st->s.fq=r.fq->s.iv=r.iv->s.co=r.co->s.un=r.un->yk1 s:=λ r s h a b c d e=>⟨⟨by rw [a];exact h.1.st,by rw [b];exact h.1.fq,by rw [c];exact h.1.iv,by rw [d];exact h.1.co,by rw [e];exact h.1.un⟩,d.trans h.2⟩;yfr (P:=yk1) (λ r h=>⟨⟨h.1.st,h.1.fq,h.1.iv,h.1.co,(show yaA (-1) by unfold yaA;omega)⟩,h.2⟩) (λ r h=>f r _ h rfl rfl rfl rfl rfl) (λ r h=>f r _ h rfl rfl rfl rfl rfl) (λ r h=>f r _ h rfl rfl rfl rfl rfl) (λ r h=>f r _ h rfl rfl rfl rfl rfl) (λ r h=>f r _ h rfl rfl rfl rfl rfl) (λ r h=>f r _ h rfl rfl rfl rfl rfl) r k h
abbrev shFs:Array Value:=#[Xf (.func 59) #[] #[],Xf (.func 60) #[] #[],Xf (.func 61) #[] #[],Xf (.func 62) #[] #[],Xf (.func 63) #[] #[],Xf (.func 64) #[] #[],Xf (.func 65) #[] #[]]
theorem yzL (W:World) (t:TypeId) (hk:k<7):(W.alloc (J shFs t)).cell? (Z W.heap.size k N)=G (shFs.getD k undef):=by
 rw [World.cell?,Y1];have:k=0\/ k=1\/ k=2\/ k=3\/ k=4\/ k=5\/ k=6:=zo
 rcases this with rfl | rfl | rfl | rfl | rfl | rfl | rfl <;> rfl
structure ShT (w:World) (bx b4 bs:Nat) (Rq:Ru) (W:World):Prop where
 rw:RuW W bx Rq
 be:Bw w W
 f:∀k:Nat,k<7->W.cell? (Z bs k N)=G (shFs.getD k undef)
 t:W.there b4 0 11/\∀i,W.frozen? (Z b4 i N)=false
 lt:w.heap.size=bx/\bx<b4/\b4<bs/\bs<W.heap.size
theorem ShT.eff {R':Ru} (h:ShT w bx b4 bs Rq W) (hE:Eff (λ b=>b=bx) W W') (hr:RuW W' bx R'):ShT w bx b4 bs R' W':=by
 have hl:=h.lt;have e4:=hE.block b4 zo zo;have es:=hE.block bs zo zo;exact ⟨hr,h.be.trans (hE.below (λ b e=>by omega) h.be.size),λ k hk=>(zzJ (w:=W) (a:=Z bs k N) es).trans (h.f k hk),
  ⟨λ j hj=>⟨by rw [zzJ (w:=W) (a:=Z b4 (0+j) N) e4];exact (h.t.1 j hj).1,by rw [zzM (w:=W) (a:=Z b4 (0+j) N) e4];exact (h.t.1 j hj).2⟩,λ i=>(zzM (w:=W) (a:=Z b4 i N) e4).trans (h.t.2 i)⟩,hl.1,hl.2.1,hl.2.2.1,zH hl.2.2.2 hE.size⟩
theorem ShT.call (h:ShT w bx b4 bs Rq W) (hB:Bw W W'):ShT w bx b4 bs Rq W':=
 h.eff (Eff.of_below hB) (h.rw.block hB.size (hB.block _ h.rw.lt))
theorem yo1 (r:Ru) (a:Option Addr) (cap:Nat) (l:List Cl) (w:World) (hr:RuS w r) (hm:r.Sm 1000000) (hn:yk1 r) (hl:l.length<=1000) (aJ:l.length<=cap) (hs:Sl w a (cls l)) (ae:a=N->cap=0) (aI:∀c∈l,c.Ok) (hT:Tab w) :
  H I 25 #[ruv r,Xs a l.length cap] w λ e w'=>e=Q (ruv (yao l r 7))/\Bw w w':=by
 have aB:=ybk w r 25;have ap:∀i,(w.alloc (J (yad r).toArray 25)).frozen? (Z w.heap.size i N)=false:=λ i=>yan w _ _ i;have e0:(w.alloc (J (yad r).toArray 25)).heap.size=w.heap.size+1:=zzN _ _;have b0:Bw w (w.alloc (J (yad r).toArray 25)):=yaa (Ye _ _) zg;obtain ⟨W0,aw⟩:=zx (w.alloc (J (yad r).toArray 25));rw [aw] at aB ap e0 b0;have ai:(W0.alloc (J zl0 25)).there W0.heap.size 0 11:=yaL W0 _ _;have ao:∀i,(W0.alloc (J zl0 25)).frozen? (Z W0.heap.size i N)=false:=λ i=>yan W0 _ _ i;have e1:(W0.alloc (J zl0 25)).heap.size=W0.heap.size+1:=zzN _ _;have b1:Bw W0 (W0.alloc (J zl0 25)):=yaa (Ye _ _) zg;obtain ⟨W1,av⟩:=zx (W0.alloc (J zl0 25));rw [av] at ai ao e1 b1;have aj:=λ {k:Nat} (hk:k<7)=>yzL W1 117 hk;have e2:(W1.alloc (J shFs 117)).heap.size=W1.heap.size+1:=zzN _ _;have b2:Bw W1 (W1.alloc (J shFs 117)):=yaa (Ye _ _) zg;obtain ⟨W2,au⟩:=zx (W1.alloc (J shFs 117));rw [au] at aj e2 b2;have ak:=zu b1 b2;have aK:Bw w W2:=zu b0 ak;have aA:RuW W2 w.heap.size r:=(RuW.mk (aB) ap zo).block ak.size (ak.block _ zo);have ay:W2.there W0.heap.size 0 11/\∀i,W2.frozen? (Z W0.heap.size i N)=false:=⟨λ j hj=>⟨by rw [b2.cell (p:=Z W0.heap.size (0+j) N) (by show W0.heap.size<_;omega)];exact (ai j hj).1,by rw [b2.frozen (p:=Z W0.heap.size (0+j) N) (by show W0.heap.size<_;omega)];exact (ai j hj).2⟩,λ i=>(b2.frozen (p:=Z W0.heap.size i N) (by show W0.heap.size<_;omega)).trans (ao i)⟩;have cM:=hid (λ (Rq:Ru) W (hB:Bw w W) (h1:RuS w Rq) (h2:Rq.Sm 1000000) (h3:yk1 Rq)=>yii Rq a cap l W (h1.below hB) h2 h3 (λ h0=>ylz h3.1 (by
  by_cases hc:yah Rq=0
  ·exact hc
  ·rw [ycH,Yb hc] at h0;exact absurd h0 hc)) hl aJ (hs.below hB) ae aI (hT.later hB))
 have HI:Hid (∀k,RuS w (yao l r k)/\(yao l r k).Sm 1000000/\yk1 (yao l r k)):=λ k=>ybX (P:=λ Rq=>RuS w Rq/\Rq.Sm 1000000/\yk1 Rq) (λ Rq k h=>⟨yrK Rq k h.1,yh8 Rq k h.2.1,ylS Rq k h.2.2⟩) ⟨hr,hm,hn⟩ k;obtain ⟨bx,aC⟩:=zx w.heap.size;obtain ⟨b4,aM⟩:=zx W0.heap.size;obtain ⟨bs,aD⟩:=zx W1.heap.size;rw [aC] at aA;rw [aM] at ay;rw [aD] at aj;have aU:Hid (bx+1=b4/\b4+1=bs/\bs+1=W2.heap.size):=⟨by omega,by omega,by omega⟩;have a2:=hid aC;have aY:=hid aw;have aX:=hid av;have aW:=hid au;have a0:Hid (ShT w bx b4 bs (yao l r 0) W2):=⟨aA,aK,λ k hk=>aj hk,ay,by omega,by omega,by omega,by omega⟩;have a3:=hid aD;clear aB ap e0 b0 aw ai ao e1 b1 av aj e2 b2 au ak aK aA ay aC aM aD hr hm hn hl aJ hs ae aI hT;go_enter Tryz.func25,Tryz.ntmps25
 go_upto_region 1 with fail
 rw [aY,aX,a2,aU.1];go_upto_region 2 with fail
 rw [aW,a3];go_loopw [10] (λ am wr=>∃k:Nat,am=E T k/\k<=7/\Hid (ShT w bx b4 bs (yao l r k) wr)) (λ am _=>7-(intOf am).toNat)
 case atStart=>exact ⟨0,rfl,by omega,a0⟩
 case round=>
  obtain ⟨k,rfl,hk,HS⟩:=hrel;by_cases hlt:k<7
  ·have aq:(k:Int)<7:=zo;have cf:=HS.f k hlt;have hI:=HI k;have ac:=ybW (l:=l) (r:=r) (k:=k);have ae:=ycp (l:=l) (r:=r) (k:=k);obtain ⟨R1,ad⟩:=zx (yao l r (k+1));rw [ad] at ac ae;obtain ⟨Rq,hR⟩:=zx (yao l r k);rw [hR] at HS hI ac ae;have aR:=HS.rw.ld;obtain ⟨m1,m2,m3,m4⟩:=ycj wr Rq;obtain ⟨w5,aH⟩:=zx ((wr.alloc (J zl0 25)).setCells wr.heap.size 0 (yad Rq));rw [aH] at m1 m2 m3 m4;obtain ⟨b7,ar⟩:=zx wr.heap.size;rw [ar] at m2;have MX:=hid m2;have aV:=hid ar;have aO:=hid (HS.call m3);have aF:=hid (Ya ac ae);have aP:=hid ad;have aT:bs<b7:=(by have:=HS.lt;omega);have aE:=hid (λ W hB=>cM (ybt Rq k) W hB (yrK Rq k hI.1) (yh8 Rq k hI.2.1) (ylS Rq k hI.2.2));obtain ⟨fv,ag⟩:=zx (shFs.getD k undef);rw [ag] at cf;have aG:=hid ag;clear hI ac ae ad hR m2 m3 m4 aH ar HS ag;go_upto_region 5 with fail
   rw [aV];clear m1 aR cf;go_cut [] from 15 to 16 (λ wx=>Hid (RuW wx b7 (ybt Rq k)/\Eff (λ b=>b=b7) w5 wx))
   case first=>
    have:k=0\/ k=1\/ k=2\/ k=3\/ k=4\/ k=5\/ k=6:=zo
    have ag:=aG.out;clear aF aE;rcases this with rfl | rfl | rfl | rfl | rfl | rfl | rfl;all_goals
     clear aG aq hlt hk;simp at ag;subst ag;go_wp2_with fail
     first
      | refine (yma _ _ _ MX).mono ?_
      | refine (yl9 _ _ _ MX).mono ?_
      | refine (yl8 _ _ _ MX).mono ?_
      | refine (yl7 _ _ _ MX).mono ?_
      | refine (yl6 _ _ _ MX).mono ?_
      | refine (yl5 _ _ _ MX).mono ?_
      | refine (yl4 _ _ _ MX).mono ?_
     rintro e w9 ⟨⟨v9,rfl⟩,h9,aL⟩;have H9:=hid (Ya h9 (show Eff (λ b=>b=b7) w5 w9 by rw [aL];exact (Eff.refl (λ b=>b=b7) w5).set rfl _ _));clear h9 aL;go_wp2_with fail
     go_meet;exact H9
   case rest=>
    have H9:=hcut.out;have az:ShT w bx b4 bs Rq wc:=by
     have h5:=aO.out;have hl:=h5.lt;have kb:∀b,b<w5.heap.size->b≠b7->wc.heap[b]? =w5.heap[b]?:=λ b h1 h2=>H9.2.block b h1 h2;have e4:=kb b4 zo zo;have es:=kb bs zo zo;exact ⟨h5.rw.block H9.2.size (kb _ h5.rw.lt zo),h5.be.trans (H9.2.below (λ b e=>by have:=hl.1;omega) h5.be.size),λ k hk=>(zzJ (w:=w5) (a:=Z bs k N) es).trans (h5.f k hk),
      ⟨λ j hj=>⟨by rw [zzJ (w:=w5) (a:=Z b4 (0+j) N) e4];exact (h5.t.1 j hj).1,by rw [zzM (w:=w5) (a:=Z b4 (0+j) N) e4];exact (h5.t.1 j hj).2⟩,λ i=>(zzM (w:=w5) (a:=Z b4 i N) e4).trans (h5.t.2 i)⟩,hl.1,hl.2.1,hl.2.2.1,zH hl.2.2.2 H9.2.size⟩
    have ld7:=H9.1.ld;have M9:=hid H9.1;have aZ:=hid az;have aN:=hid (aE wc az.be);clear hcut H9 az aE aG aO MX;go_wp2_with fail
    refine aN.mono ?_;rintro e ah ⟨q,rfl,hq,hB⟩;have aa:=aZ.call hB;have an:=M9.block hB.size (hB.block _ M9.lt);clear hB ld7 aN;cases q with
    | true=>
      have ad:R1=ybt Rq k:=aF.1 (hq.1 rfl);have aS:=an.ld;obtain ⟨p1,p2,p3⟩:=RuW.put (ymR aa.rw) aa.rw.z aa.rw.lt (ybt Rq k);have hE:Eff (λ b=>b=bx) ah (ah.setCells bx 0 (yad (ybt Rq k))):=Eff.setCells (O:=λ x=>x=bx) rfl _ 0 _ (Eff.refl _ _);obtain ⟨al,ab⟩:=zx (ah.setCells bx 0 (yad (ybt Rq k)));rw [ab] at p1 p2 hE;have af:Hid (ShT w bx b4 bs (yao l r (k+1)) al):=(by rw [aP,ad];exact aa.eff hE p2);clear ad p2 p3 hE ab aa an hq;go_wp2;exact ⟨⟨k+1,by go_num,by omega,af⟩,by simp [intOf];omega⟩
    | false=>
      have ad:R1=Rq:=aF.2 (λ h=>by have:=hq.2 h;cases this);have af:Hid (ShT w bx b4 bs (yao l r (k+1)) ah):=(by rw [aP,ad];exact aa);clear ad aa an hq;go_wp2;exact ⟨⟨k+1,by go_num,by omega,af⟩,by simp [intOf];omega⟩
  ·obtain rfl:k=7:=zo;have aQ:=HS.rw.ld;obtain ⟨Rq,hR⟩:=zx (yao l r 7);rw [hR] at HS aQ;have a1:=hid hR;clear hR;obtain ⟨p1,p2,p3⟩:=RuW.put HS.t.1 HS.t.2 (zp HS.out.lt) Rq;obtain ⟨al,ab⟩:=zx (wr.setCells b4 0 (yad Rq));have hB:Bw w al:=(by rw [<- ab];exact yaB (zp HS.out.lt) _ 0 _ HS.be);rw [ab] at p1 p2;have HP:=hid p2;have HB:=hid hB;clear p2 p3 ab hB HS;go_wp2;refine Yh (yac (p:=4) rfl _ _ b4 0 _ _ rfl HP.c Tryz.underlying25 rfl (by exact yh0)) rfl ⟨by rw [a1] <;> rfl,HB⟩
end
section
attribute [local irreducible] yak
attribute [local go_sem] Yw
attribute [local go_sem ↓] ycd yhG ybd ybb yc4 ydV
variable {O:Blk} {e fi la:Int} {b2 b3:Nat} {u:Nat->Nat} {c r:Ru} {W:World}
def zRu:Ru:={st:=0,fq:=0,iv:=0,co:=0,un:=0,l5:= [],a5:=N,c5:=0,l6:= [],a6:=N,c6:=0,l7:= [],a7:=N,c7:=0,l8:= [],a8:=N,c8:=0,l9:= [],a9:=N,c9:=0,lx:= [],ax:=N,cx:=0}
def noneU:Ru:={zRu with fq:=6,iv:=1,un:=-1,l5:= [2],l6:= [30]}
theorem RuE.mean (h:RuE c r) (l:List Cl):yaZ r l↔yaZ c l:=by rw [h];exact Y6
theorem RuE.num (h:RuE c r) (hc:yk1 c):yk1 r:=by
 obtain ⟨e0,e1,e2,e3,e4,-⟩:=RuE.iff.1 h;exact ⟨⟨by rw [e0];exact hc.1.st,by rw [e1];exact hc.1.fq,by rw [e2];exact hc.1.iv,by rw [e3];exact hc.1.co,by rw [e4];exact hc.1.un⟩,e3.trans hc.2⟩
theorem yr9 (w:World):H I 22 #[] w λ e w'=>∃r,e=Q (ruv r)/\RuE noneU r/\RuK (λ b=>w.heap.size<=b) r w'/\Bw w w':=by
 have ht:(w.alloc (J zl0 25)).there w.heap.size 0 11:=yaL w _ _;have hz:∀i,(w.alloc (J zl0 25)).frozen? (Z w.heap.size i N)=false:=λ i=>yan w _ _ i;have s0:(w.alloc (J zl0 25)).heap.size=w.heap.size+1:=zzN _ _;have b0:Bw w (w.alloc (J zl0 25)):=yaa (Ye _ _) zg;obtain ⟨w0,aX⟩:=zx (w.alloc (J zl0 25));rw [aX] at ht hz s0 b0;have s1:(w0.alloc (J #[E T 2] 3)).heap.size=w0.heap.size+1:=zzN _ _;have b1:Bw w0 (w0.alloc (J #[E T 2] 3)):=yaa (Ye _ _) zg;have c1:(w0.alloc (J #[E T 2] 3)).cell? (Z w0.heap.size 0 N)=G (E T 2):=by simp [go_sem]
 obtain ⟨w1,aP⟩:=zx (w0.alloc (J #[E T 2] 3));rw [aP] at s1 b1 c1;have s2:(w1.alloc (J #[E T 30] 3)).heap.size=w1.heap.size+1:=zzN _ _;have b2:Bw w1 (w1.alloc (J #[E T 30] 3)):=yaa (Ye _ _) zg;have c2:(w1.alloc (J #[E T 30] 3)).cell? (Z w1.heap.size 0 N)=G (E T 30):=by simp [go_sem]
 obtain ⟨w2,aO⟩:=zx (w1.alloc (J #[E T 30] 3));rw [aO] at s2 b2 c2;obtain ⟨r,hr⟩:∃r:Ru,{noneU with a5:=G (Z w0.heap.size 0 N),c5:=1,a6:=G (Z w1.heap.size 0 N),c6:=1} =r:=⟨_,rfl⟩;have hv:ruv r= .agg #[E T 0,E T 6,E T 1,E T 0,E T (-1),Xs (G (Z w0.heap.size 0 N)) 1 1,Xs (G (Z w1.heap.size 0 N)) 1 1,Xs N 0 0,Xs N 0 0,Xs N 0 0,Xs N 0 0]:=by rw [<- hr];rfl
 have aS:=zu b1 b2;obtain ⟨st,hR,s3⟩:=RuW.put (W:=w2) (b:=w.heap.size) (ydd ht aS zo) (λ i=>(aS.frozen (p:=Z w.heap.size i N) (by show w.heap.size<_;omega)).trans (hz i)) zo r;have hE:Eff (λ b=>b=w.heap.size) w2 (w2.setCells w.heap.size 0 (yad r)):=Eff.setCells (O:=λ b=>b=w.heap.size) rfl _ 0 w2 (Eff.refl _ w2);rw [hv] at st;obtain ⟨w3,aW⟩:=zx (w2.setCells w.heap.size 0 (yad r));rw [aW] at st hR s3 hE;rw [s1,<- aO,<- aP] at st;have aZ:Hid (RuE noneU r/\RuK (λ b=>w.heap.size<=b) r w3/\Bw w w3/\RuB w3 w.heap.size r):=by
  have g1:=(hE.cell (p:=Z w0.heap.size 0 N) (by show w0.heap.size<_;omega) (by show¬w0.heap.size=w.heap.size;omega)).trans ((b2.cell (p:=Z w0.heap.size 0 N) (by show w0.heap.size<_;omega)).trans c1);have g2:=(hE.cell (p:=Z w1.heap.size 0 N) (by show w1.heap.size<_;omega) (by show¬w1.heap.size=w.heap.size;omega)).trans c2;refine ⟨by rw [<- hr];rfl,?_,(zu b0 aS).trans (hE.below (by rintro b rfl;exact zG _) zo),hR.c⟩;rw [<- hr];refine ⟨.inr ⟨_,0,rfl,by omega,by omega,λ j hj=>?_⟩, .inr ⟨_,0,rfl,by omega,by omega,λ j hj=>?_⟩, .inl rfl, .inl rfl, .inl rfl, .inl rfl⟩
  ·obtain rfl:j=0:=(by rw [yaX] at hj;exact Nat.lt_one_iff.1 hj);exact g1
  ·obtain rfl:j=0:=(by rw [yaX] at hj;exact Nat.lt_one_iff.1 hj);exact g2
 have bR:=hid aX;have bB:=hid aP;have b4:=hid aO;have bZ:=hid aW;have Hv:=hid hv;clear ht hz s0 b0 aX s1 b1 c1 aP s2 b2 c2 aO hr hv aS hR s3 hE aW;go_enter Tryz.func22,Tryz.ntmps22
 go_upto_region 1 with fail
 rw [bR];go_wp2;obtain ⟨f1,f2,f3,f4⟩:=aZ.out;exact Yh (yac (p:=0) rfl _ _ w.heap.size 0 _ _ rfl f4 Tryz.underlying25 rfl yh0) rfl ⟨r,rfl,f1,f2,f3⟩
structure RaS (b2 b3:Nat) (r:Ru) (e:Int) (O:Blk) (W:World):Prop where
 r:RuW W b2 r
 c:W.cell? (Z b3 0 N)=G (E T e)
 z:W.frozen? (Z b3 0 N)=false
 o:O b2/\O b3/\b2≠b3
 lt:∀c,O c->c<W.heap.size
theorem RaS.keep {W':World} (h:RaS b2 b3 r e O W) (hs:W.heap.size<=W'.heap.size) (hb:∀c,O c->W'.heap[c]? =W.heap[c]?):RaS b2 b3 r e O W':=
 ⟨h.r.block hs (hb _ h.o.1),(zzJ (w:=W) (a:=Z b3 0 N) (hb _ h.o.2.1)).trans h.c,(zzM (w:=W) (a:=Z b3 0 N) (hb _ h.o.2.1)).trans h.z,h.o,λ c hc=>zH (h.lt c hc) hs⟩
theorem RaS.put (h:RaS b2 b3 r e O W) (r':Ru) (e':Int):(ycP (R (G (Z b2 0 N))) (ruv r')).run I W= .ok () (W.setCells b2 0 (yad r'))/\(W.setCells b2 0 (yad r')).cell? (Z b3 0 N)=G (E T e)/\(W.setCells b2 0 (yad r')).frozen? (Z b3 0 N)=false/\
  RaS b2 b3 r' e' O ((W.setCells b2 0 (yad r')).setCell (Z b3 0 N) (E T e'))/\Eff O W ((W.setCells b2 0 (yad r')).setCell (Z b3 0 N) (E T e')):=by
 obtain ⟨h1,h2,h3⟩:=RuW.put (ymR h.r) h.r.z h.r.lt r';have hE:Eff O W (W.setCells b2 0 (yad r')):=Eff.setCells h.o.1 _ 0 W (Eff.refl _ W);have bN:Eff (λ b=>b=b2) W (W.setCells b2 0 (yad r')):=Eff.setCells (O:=λ b=>b=b2) rfl _ 0 W (Eff.refl _ W);have l3:=h.lt _ h.o.2.1;have hb:=bN.block b3 l3 (λ e=>h.o.2.2 e.symm);have c3:=(zzJ (w:=W) (a:=Z b3 0 N) hb).trans h.c;have z3:=(zzM (w:=W) (a:=Z b3 0 N) hb).trans h.z;have hh:∀b,b≠b3->((W.setCells b2 0 (yad r')).setCell (Z b3 0 N) (E T e')).heap[b]? = (W.setCells b2 0 (yad r')).heap[b]?:=λ b hb=>Ym _ _ _ _ hb;refine ⟨h1,c3,z3,⟨h2.block (by simp [go_sem]) (hh _ h.o.2.2),zzW _ _ _ (by rw [c3]),by simpa [go_sem] using z3,h.o,λ c hc=>?_⟩,hE.set h.o.2.1 _ _⟩;have:=h.lt c hc;simpa [h3] using this
theorem ykh {a:Addr} {v:Value} (h:W.cell? a=G v):a.block<W.heap.size:=by
 rw [World.cell?] at h;rcases ZK a.block W.heap.size with h1 | h1
 ·exact h1
 ·simp only [Array.getElem?_eq_none h1] at h;cases h
theorem yzA (w1:World) (g:Nat->Int):∃w3,(yga (R (G (Z w1.heap.size 0 N))) (yjC g)).run I (w1.alloc (J zl1 46))= .ok () w3/\Hid (Ar7 w1.heap.size g w3)/\Hid (Bw w1 w3):=by
 have e8:=yha w1 46;exact ⟨_,e8.st g,e8.put g,(yaa (Ye _ _) zg).trans ((Eff.setCells (O:=λ x=>x=w1.heap.size) rfl (L7 g) 0 _ (Eff.refl _ _)).below (by rintro b rfl;exact zG _) zs)⟩
theorem ycr {tmps:Array Value} (h2:tmps.getD 2 undef=R (G (Z b2 0 N))) (h3:tmps.getD 3 undef=R (G (Z b3 0 N))) (h:RaS b2 b3 r e O W) :
  (results Tryz.f10 tmps).run I W= .ok (Xt #[ruv r,E T e]) W:=by
 have bP:tmps[2]?.getD undef=R (G (Z b2 0 N)):=by simpa using h2
 have bO:tmps[3]?.getD undef=R (G (Z b3 0 N)):=by simpa using h3
 have c3:=h.c;simp [results,Tryz.results10,bP,bO,asAddr,run_loadVar_mid W b2 0 25 (yad r) _ h.r.c Tryz.underlying25 rfl yh0];simp [go_sem,c3]
def yuV (A:List Ru) (l:List Cl) (k:Nat):Prop:=∀(j:Nat) (c:Ru),j<k->A[j]? =G c->¬yaZ c l
def RaI (A:List Ru) (l:List Cl) (b2 b3:Nat):ydt:=λ k O F W=>yuV A l k/\RaS b2 b3 zRu 0 O W
def RaX (A:List Ru) (l:List Cl) (b2 b3:Nat) (c:Code):ydt:=λ k O F W=>c= .ret/\∃j x r,A[j]? =G x/\yuV A l j/\RuE x r/\yaZ x l/\RaS b2 b3 (yao l r 7) 0 O W/\RuK F (yao l r 7) W
theorem ymT (A:List Ru) (l:List Cl) (b2 b3:Nat):StabF noM (RaI A l b2 b3):=λ k O F F' W W' h hs hF hO=>⟨h.1,h.2.keep hs (λ c hc=>hO c (.inl hc))⟩
theorem yth (A:List Ru) (l:List Cl) (b2 b3:Nat) (c:Code):StabF noM (RaX A l b2 b3 c):=λ k O F F' W W' ⟨h1,j,x,r,h2,h3,h4,h5,h6,h7⟩ hs hF hO=>⟨h1,j,x,r,h2,h3,h4,h5,h6.keep hs (λ c hc=>hO c (.inl hc)),h7.keep hs hF (λ b hb=>hO b (.inr ⟨hb,λ h=>h⟩))⟩
def ysd (l:List Cl) (w w':World) (e:Ending):Prop:=∃r Eq1,e=Q (Xt #[ruv r,E T Eq1])/\RuS w' r/\
 ((yaf l≠0/\Eq1=yaf l/\r=zRu)\/
  (yaf l=0/\∃u fi la n ev sq,ybN l u fi la n ev sq/\((n=0/\Eq1=0/\RuE noneU r)\/
    (n≠0/\∃g:Nat->Int,(∀u,u<7->∃y f,ya2 (PuU l u) y f (g u))/\
      ((Eq1=0/\∃j x r',(yfT u fi la g)[j]? =G x/\yuV (yfT u fi la g) l j/\RuE x r'/\yaZ x l/\r=yao l r' 7)\/
       (Eq1=15/\r=zRu/\∀x∈yfT u fi la g,¬yaZ x l))))))
def RsX (h1 h2 h3 h8:Value) (ds:List Deferred) (a:Act):Prop:=∃V:Nat->Value,a= {tmps:=#[V 0,h1,h2,h3,V 4,V 5,V 6,V 7,h8,V 9,V 10,V 11,V 12,V 13,V 14,V 15,V 16,V 17,V 18,V 19,V 20,V 21,V 22,V 23,V 24,V 25,V 26,V 27,V 28,V 29,V 30,V 31,V 32,V 33,V 34,V 35,V 36,V 37,V 38,V 39],defers:=ds}
theorem RsX.of {t:Array Value} {h1 h2 h3 h8:Value} {ds:List Deferred} (hs:t.size=40:=by rfl) (k1:tg t 1=h1:=by rfl) (k2:tg t 2=h2:=by rfl) (k3:tg t 3=h3:=by rfl) (k8:tg t 8=h8:=by rfl):RsX h1 h2 h3 h8 ds {tmps:=t,defers:=ds}:=⟨tg t,by subst_vars;exact tgE hs ds⟩
theorem yrW {g:Nat->Int} (h1:yaA fi) (h2:yaA la) (hg:∀q,q<7->yaA (g q)):∀c∈yfT u fi la g,yk1 c/\yah c=0/\c.Sm 5000:=λ c hc=>by
 rw [yfT,Zi] at hc;obtain ⟨q,hq,hc⟩:=hc;rw [yf5,Y5] at hc;have bH:q<7:=by
  simp only [qL,YF,ZF,or_false] at hq;omega
 have hn:yk1 (ybF u fi la g q):=⟨⟨h1,(show yaA (q:Int) by unfold yaA;omega),(show yaA (max (g q) 1) by have:=hg q bH;unfold yaA at *;omega),(show yaA 0 by unfold yaA;omega),h2⟩,rfl⟩;refine ⟨?_,Y8 hc.2,yvo hc.1⟩;have hw:∀(r:Ru) (hows:List Int),yk1 r->∀x∈ya0 u r hows,yk1 x:=λ r hows hr x hx=>by
  rw [ya0,YC,YA,YA] at hx;rcases hx with ⟨y,-,rfl⟩ | ⟨y,-,rfl⟩ <;> exact ⟨⟨hr.1.st,hr.1.fq,hr.1.iv,hr.1.co,hr.1.un⟩,hr.2⟩
 have h:=hc.1;rw [ofL] at h;split at h
 ·rw [Yy] at h;rw [h];exact ⟨⟨hn.1.st,hn.1.fq,hn.1.iv,hn.1.co,hn.1.un⟩,hn.2⟩
 ·split at h
  ·exact hw _ _ hn _ h
  ·split at h
   ·rw [YC] at h;rcases h with h | h
    ·exact hw _ _ hn _ h
    ·exact hw {ybF u fi la g q with l5:= []} _ ⟨⟨hn.1.st,hn.1.fq,hn.1.iv,hn.1.co,hn.1.un⟩,hn.2⟩ _ h
   ·exact hw _ _ hn _ h
theorem yqG {l:List Int} {x:Int}:x∈mkN (ofM l)↔x∈l/\0<=x/\x<64:=by
 rw [yea];constructor
 ·rintro ⟨k,hk,ht,rfl⟩;rw [ofM,yaW] at ht;simp only [inB,zzX,zzY] at ht;exact ⟨ht.2,by omega,by omega⟩
 ·rintro ⟨hx,h0,h1⟩;refine ⟨x.toNat,by omega,?_,by omega⟩;rw [ofM,yaW];simp only [inB,zzX,zzY];exact ⟨by omega,by rw [Ze h0];exact hx⟩
theorem ykm {l:List Cl} {n:Int} {ev sq:Bool} (h:ybN l u fi la n ev sq):∀x∈mkN (u 6),x<8:=λ x hx=>by
 rw [h.us 6 zo zo] at hx;have be:x∈mkN (ofM ((yaN l (yag 0 146096)).map λ D=>shF D 5)):=hx;rw [yqG,YA] at be;obtain ⟨⟨D,-,rfl⟩,-⟩:=be;have:=ygA D;omega
theorem yih (a:Option Addr) (cap:Nat) (l:List Cl) (w:World) (hl:l.length<=1000) (aH:l.length<=cap) (hs:Sl w a (cls l)) (ac:a=N->cap=0) (aF:∀c∈l,c.Ok) (hT:Tab w) :
  H I 10 #[Xs a l.length cap] w λ e w'=>ysd l w w' e/\Bw w w':=by
 obtain ⟨W1,ay⟩:=zx (((w.alloc (J #[Xs a l.length cap] 28)).alloc (J zl0 25)).alloc (J #[E T 0] 29));have aR:Bw w W1:=by rw [<- ay];exact yaa (yaa (yaa (Ye _ _) zg) zs) (by simp only [zzN];omega)
 have s1:W1.heap.size=w.heap.size+3:=by rw [<- ay];simp
 have c1:W1.cell? (Z w.heap.size 0 N)=G (Xs a l.length cap):=by rw [<- ay];simp [go_sem]
 obtain ⟨b2,bm⟩:=zx (w.heap.size+1);obtain ⟨b3,bl⟩:=zx (w.heap.size+2);have bn:RaS b2 b3 zRu 0 (λ b=>b=b2\/ b=b3) W1:=by
  have e0:(w.alloc (J #[Xs a l.length cap] 28)).heap.size=w.heap.size+1:=zzN _ _;have bo:=ybk (w.alloc (J #[Xs a l.length cap] 28)) zRu 25;have bc:=λ i=>yan (w.alloc (J #[Xs a l.length cap] 28)) (yad zRu).toArray 25 i;have a0:=yaa (o:=J #[E T 0] 29) (Ye _ ((w.alloc (J #[Xs a l.length cap] 28)).alloc (J (yad zRu).toArray 25))) zg;rw [show ((w.alloc (J #[Xs a l.length cap] 28)).alloc (J (yad zRu).toArray 25)).alloc (J #[E T 0] 29)=W1 from ay] at a0;rw [e0,bm] at bo bc;have hlt:b2<((w.alloc (J #[Xs a l.length cap] 28)).alloc (J (yad zRu).toArray 25)).heap.size:=by rw [zzN,e0];omega
  refine ⟨⟨bo.below a0 hlt,λ i=>(a0.frozen (p:=Z b2 i N) hlt).trans (bc i),by omega⟩,?_,?_,⟨.inl rfl, .inr rfl,by omega⟩,λ c hc=>by omega⟩ <;> (rw [<- ay,<- bl];simp [go_sem])
 have cC:=hid (yxt a cap l W1 zo aH (hs.below aR) ac aF (hT.later aR));have cP:=hid (λ W (hB:Bw w W)=>yxq a cap l W zo aH (hs.below hB) ac aF (hT.later hB));have cM:=hid (λ r W (hB:Bw w W) hr hm hn h1=>yii r a cap l W hr hm hn h1 hl aH (hs.below hB) ac aF (hT.later hB));have cS:=hid (λ r W (hB:Bw w W) hr hm hn=>yo1 r a cap l W hr hm hn hl aH (hs.below hB) ac aF (hT.later hB));have cN:=hid (λ W=>yr9 W);have cA:=hid (λ u fi la n ev sq g W=>ysa u fi la n ev sq g W);obtain ⟨b1,a1⟩:=zx w.heap.size;rw [a1] at c1;have aU:=hid aR;have bB:=hid ay;have aT:=hid bn;have bC:=hid c1;have ab:Hid (w.heap.size=b1/\b1+1=b2/\b1+1+1=b3/\W1.heap.size=w.heap.size+3):=⟨a1,by omega,by omega,s1⟩;have HT:=hid hT;clear ay aR hs aF hT s1 ac aH bn a1 bm bl hl c1;refine (wf_calls (r:=N) (n:=1)).mp ?_;refine callsIn_of_wp_marks Tryz.func10 rfl trivial ?_ rfl;simp only [Tryz.ntmps10,Yp,Yu,YS,Nat.reduceAdd,Nat.reduceSub,YE,YD,YQ,YJ,Y0,YH];gi_upto_region 1 with fail
 rw [bB,ab.1,ab.2.2.1,ab.2.1];have av:=bC.out;gi_wp2_with fail
 refine (wf_calls.mpr cC).mono ?_;rintro e w2 ⟨hC,aA⟩;rcases hC with ⟨hf,rfl⟩ | ⟨hf,u,fi,la,n,ev,sq,rfl,bu⟩
 ·obtain ⟨w3,st3,A3,B3⟩:=yvC w2 (λ _=>0) 0 0 0 false false;have aa:Bw W1 w3:=zu aA B3.out;obtain ⟨Eq1,hE⟩:=zx (yaf l);have aI:RaS b2 b3 zRu 0 (λ b=>b=b2\/ b=b3) w3:=aT.keep aa.size (λ b hb=>aa.block b (aT.lt b hb));obtain ⟨p1,p2,p3,p4,p5⟩:=aI.put zRu Eq1;rw [hE] at hf⊢;have bY:(Eq1 != 0)=true:=by simpa using hf
  have HB:=hid (zu aU aa);have HX:=hid (Ya hE (Ya hf (Ya p4 p5)));clear hE hf p4 p5 aI aa aA;replace p1:(ycP (R (G (Z b2 0 N))) (.agg zl0)).run I w3= .ok () (w3.setCells b2 0 (yad zRu)):=p1;gi_wp2
  obtain ⟨hE,hf,p4,p5⟩:=HX.out;refine ⟨_,ycr rfl rfl p4,⟨zRu,Eq1,rfl,⟨.nil _ _, .nil _ _, .nil _ _, .nil _ _, .nil _ _, .nil _ _⟩, .inl ⟨by rw [hE];exact hf,hE.symm,rfl⟩⟩,HB.trans (p5.below (λ b hb=>by have:=ab.1;have:=ab.2.1;have:=ab.2.2.1;omega) HB.size)⟩
 ·obtain ⟨w3,st3,A3,B3⟩:=yvC w2 u fi la n ev sq;have aa:Bw W1 w3:=zu aA B3.out;have aI:RaS b2 b3 zRu 0 (λ b=>b=b2\/ b=b3) w3:=aT.keep aa.size (λ b hb=>aa.block b (aT.lt b hb));have c48:=A3.c48;have aN:=hid (zu aU aa);have ld3:=(aa.cell (p:=Z b1 0 N) (by show b1<_;have:=ab.2.2.2;have:=ab.1;omega)).trans bC;have aM:=hid aI;have aE:=hid bu;have Hf:=hid hf;have bQ:=hid (Ya aa.size aA.size);clear aI aa aA bu hf;by_cases aC:n=0
  ·have e0:(n==0)=true:=(by rw [aC];rfl);have Hn:=hid aC;clear aC;gi_wp2_with fail
   refine (wf_calls.mpr (cN w3)).mono ?_;rintro e w4 ⟨r,rfl,hE,hK,am⟩;obtain ⟨p1,p2,p3,p4,p5⟩:=(aM.keep am.size (λ b hb=>am.block b (aM.lt b hb))).put r 0;have br:=hK.lt.keep (F':=λ _=>True) p5.size (λ b hb=>trivial) (λ b hb=>p5.block b hb.2 (λ h=>by have:=aM.lt b h;have:=hb.1;omega));have HX:=hid (Ya hE (Ya br.s (Ya p4 (Ya p5 am))));clear hE hK am p4 p5 br;gi_wp2
   obtain ⟨hE,hR,p4,p5,am⟩:=HX.out;have hB:=zu aN am;exact ⟨_,ycr rfl rfl p4,⟨r,0,rfl,hR, .inr ⟨Hf,u,fi,la,n,ev,sq,aE, .inl ⟨Hn,rfl,hE⟩⟩⟩,hB.trans (p5.below (λ b hb=>by have:=ab.1;have:=ab.2.1;have:=ab.2.2.1;omega) hB.size)⟩
  ·have e0:(n==0)=false:=ZD.2 aC;have Hn:=hid aC;clear aC;gi_wp2_with fail
   refine (wf_calls.mpr (cP w3 aN)).mono ?_;rintro e w4 ⟨⟨g,rfl,-,hg⟩,am⟩;rw [Hf];obtain ⟨w5,bV,A5,B5⟩:=yzA w4 g;have ad:Bw w3 w5:=zu am B5.out;have bD:=A3.block ad.size (ad.block _ A3.lt);have bF:=bD.ld;have bE:=A5.ld;have bb:=hid (zu aN ad);have aL:=hid (aM.keep ad.size (λ b hb=>ad.block b (aM.lt b hb)));have bU:Hid (w5.cell? (Z b1 0 N)=G (Xs a l.length cap)):=(ad.cell (p:=Z b1 0 N) (by show b1<_;have:=ab.2.2.2;have:=ab.1;have:=bQ.1;omega)).trans ld3;have Hg:=hid (hg Hf);clear ad bD am hg B5 A5 ld3 c48;gi_wp2_with fail
   refine (wf_calls.mpr (cA u fi la n ev sq g w5)).mono ?_;rintro e w6 ⟨rfl,au,s6,f6,p6⟩;have a4:=aE.bd;have bh:∀q,q<7->yaA (g q):=λ q hq=>by
    obtain ⟨y,f,h⟩:=Hg q hq;have:=ya2.bd (M:=12622780799) h zo λ x hx=>hx.rng;unfold yaA;omega
   obtain ⟨A,hA⟩:=zx (yfT u fi la g);have bz:yhA u fi la n g=A:=(Yb Hn.out).trans hA;have aw:=yrW (u:=u) a4.1 a4.2.1 bh;rw [hA] at aw;have tl:=ysb w5.heap.size (w5.heap.size+1) u fi la n ev sq g aE.lt (ykm aE);rw [bz] at tl;have aj:b2<w5.heap.size/\b3<w5.heap.size/\w.heap.size<=b2/\w.heap.size<=b3/\0<w.heap.size/\b1≠b2/\b1≠b3/\b1<w5.heap.size:=⟨aL.lt _ (.inl rfl),aL.lt _ (.inr rfl),by have:=ab.out;omega,by have:=ab.out;omega,HT.1,by have:=ab.out;omega,by have:=ab.out;omega,by have:=aL.lt _ (.inl rfl);have:=ab.out;omega⟩;have bt:ynX w5.heap.size (w5.heap.size+1) u fi la n ev sq g (λ b=>b=0\/ (w5.heap.size<=b/\b<w6.heap.size)) w6:=
    ⟨⟨f6,(HT.later bb).later au,⟨.inr ⟨zG _,by omega⟩, .inl rfl⟩,λ b hb=>by
     rcases hb with rfl | hb
     ·have:=au.size;show 0<_;omega
     ·exact hb.2⟩,p6, .inr ⟨by omega,by omega⟩⟩
   have bv:∀b,(b=0\/ (w5.heap.size<=b/\b<w6.heap.size))->¬(b=b2\/ b=b3):=λ b hb h=>by
    rcases hb with hb | hb
    ·have:b=0:=hb;omega
    ·omega
   have bs:RaI A l b2 b3 0 (λ b=>b=b2\/ b=b3) (λ b=>b=0\/ (w5.heap.size<=b/\b<w6.heap.size)) w6:=⟨λ j c hj=>absurd hj (Nat.not_lt_zero _),aL.keep au.size (λ b hb=>au.block b (aL.lt b hb))⟩;have HX:=hid (Ya tl (Ya bt (Ya bv bs)));have HA:=hid hA;have ba:=hid aw;have ar:=hid (zu bb au);have bT:Hid (w6.cell? (Z b1 0 N)=G (Xs a l.length cap)):=(au.cell (p:=Z b1 0 N) aj.2.2.2.2.2.2.2).trans bU.out;have H2:=hid (Ya aj au.size);clear hA bz aw tl aj bt bv bs a4 bh f6 p6 s6 au bF bE;gi_wp2_with fail
   refine ybu (F:=λ b=>b=0\/ (w5.heap.size<=b/\b<w6.heap.size)) (M:=noM) (gf:=56) (lb:=#[R (G (Z w5.heap.size 0 N)),R (G (Z (w5.heap.size+1) 0 N))]) rfl yla (λ b=>b=b2\/ b=b3)
    (λ k vs F W h=>by obtain ⟨_,_,_,rfl,_⟩:=h;rfl) HX.1 ynX.host ynX.host ynX.host HX.2.1 HX.2.2.1
    (RaI A l b2 b3) (RaX A l b2 b3) (ymT _ _ _ _) (yth _ _ _ _) (λ k O F W h=>h.2.lt) (λ c k O F W ⟨_,_,_,_,_,_,_,_,h,_⟩=>h.lt) HX.2.2.2
    (λ k O F a' W=>RaI A l b2 b3 k O F W/\(∀b,F b->¬O b/\b<W.heap.size)/\∃c rq bx,A[k]? =G c/\RuE c rq/\RuK F rq W/\RuB W bx rq/\RsX (R (G (Z b1 0 N))) (R (G (Z b2 0 N))) (R (G (Z b3 0 N))) (R (G (Z bx 0 N))) [] a')
    ?putl ?assign ?body ?done ?stop
   case putl=>
    rintro l' o k O F a' W hr hO hF ⟨h1,h4,c,rq,bx,h5,h6,h7,h8,h9⟩;have ko:∀b,b≠l'->(W.putObj l' o).heap[b]? =W.heap[b]?:=λ b hb=>Yc hb;have ks:W.heap.size<=(W.putObj l' o).heap.size:=(by rw [Yg];exact zG _);exact ⟨ymT _ _ _ _ k O F F W _ h1 ks zi (λ b hb=>ko b (λ e=>hb.elim (λ h=>hO (e ▸ h)) (λ h=>hF (e ▸ h.1)))),λ b hb=>⟨(h4 b hb).1,by rw [Yg];exact (h4 b hb).2⟩,c,rq,bx,h5,h6,h7.keep ks zi (λ b hb=>ko b (λ e=>hF (e ▸ hb))),yll h8 hr,h9⟩
   case assign=>
    rintro l' k O9 F9 W9 vs K hk h1 hd ⟨c,rq,hc,rfl,hE,ag,aY⟩ hG hK;obtain ⟨m1,m2,m3,m4⟩:=ycj W9 rq;obtain ⟨w7,bf⟩:=zx ((W9.alloc (J zl0 25)).setCells W9.heap.size 0 (yad rq));rw [bf] at m1 m2 m3 m4;have ks:=m3.size;have kb:∀b,b<W9.heap.size->w7.heap[b]? =W9.heap[b]?:=λ b hb=>m3.block b hb;have hA:Hid (RaI A l b2 b3 k O9 F9 w7/\(∀b,F9 b->¬O9 b/\b<w7.heap.size)/\RuK F9 rq w7/\RuB w7 W9.heap.size rq):=
     ⟨⟨h1.1,h1.2.keep ks (λ b hb=>kb b (h1.2.lt b hb))⟩,λ b hb=>⟨(hd b hb).1,zH (aY b hb) ks⟩,ag.keep ks zi (λ b hb=>kb b (aY b hb)),m2.c⟩
    have hg:Hid (yaM O9 O9 W9 w7):=⟨λ _ h=>h,λ _ h=> .inl h,Eff.of_below m3⟩;have bA:=hid (Ya hc hE);clear m2 m3 m4 bf ks kb h1 hd ag aY hc hE hG;gi_wp2
    exact hK _ O9 _ hg ⟨hA.1,hA.2.1,c,rq,_,bA.1,bA.2,hA.2.2.1,hA.2.2.2,RsX.of⟩
   case body=>
    rintro l' k O9 F9 a' W9 hk hG bX bG bW aG ⟨hI,ai,c,rq,bx,hc,hE,ag,ah,⟨U9,rfl⟩⟩;obtain ⟨bj,bk,bi⟩:=ba c (YN hc);have ak:=hE.num bj;have ao:rq.Sm 1000000:=(hE.sm bi).up zd;have bg:yah rq=0:=(by rw [hE.check];exact bk);have al:Bw w W9:=ar.trans (hG.eff.below (λ b hb=>by
     have:=H2.1;rcases hb with (h | h) | h
     ·omega
     ·omega
     ·exact h.elim) ar.size)
    have av:=(hG.eff.cell (p:=Z b1 0 N) (by show b1<_;have:=H2.out;omega) (λ h=>by
     have:=H2.1;rcases h with (h | h) | h
     ·exact this.2.2.2.2.2.1 h
     ·exact this.2.2.2.2.2.2.1 h
     ·exact h.elim)).trans bT
    have aV:=ah.ldw;have cm:=hid (cM rq W9 al ag.s ao ak (λ _=>ylz ak.1 bg));have HY:=hid (Ya hI (Ya ai (Ya hc (Ya hE (Ya ag (Ya ah (Ya ak (Ya ao (Ya al av)))))))));clear hI ai hc hE ag ah bj bk bi ak ao bg al hG hk;gi_wp2_with fail
    refine (wf_calls.mpr cm).mono ?_;rintro e w7 ⟨b,rfl,hb,af⟩;obtain ⟨hI,ai,hc,hE,ag,ah,ak,ao,al,an⟩:=HY.out;cases b with
    | false=>
      have HN:Hid (yaM O9 O9 W9 w7/\RaI A l b2 b3 (k+1) O9 F9 w7):=by
       refine ⟨⟨λ _ h=>h,λ _ h=> .inl h,Eff.of_below af⟩,λ j x hj hx=>?_,hI.2.keep af.size (λ b hb=>af.block b (hI.2.lt b hb))⟩;by_cases bK:j<k
       ·exact hI.1 j x bK hx
       ·obtain rfl:j=k:=zo;rw [hc] at hx;cases hx;exact λ hm=>absurd (hb.2 ((hE.mean l).2 hm)) zs
      clear hI ai hc hE ag ah ak ao al an hb af HY av aV cm;gi_wp2
      exact ⟨O9,HN⟩
    | true=>
      have hm:yaZ rq l:=hb.1 rfl;have av:=(af.cell (p:=Z b1 0 N) (ykh av)).trans av;have aV:=(RuB.later ah af).ldw;have aJ:=ag.keep af.size zi (λ b hb=>af.block b (ai b hb).2);have cs:=hid (cS rq w7 (zu al af) aJ.s ao ak);have HZ:=hid (Ya hm (Ya aJ af));clear hI ai hc hE ag ah ak ao al an hb hm aJ af cm;gi_wp2_with fail
      refine (wf_calls.mpr cs).mono ?_;rintro e w8 ⟨rfl,bw⟩;obtain ⟨hI,ai,hc,hE,ag,ah,ak,ao,al,an⟩:=HY.out;obtain ⟨hm,aJ,af⟩:=HZ.out;have ae:=zu af bw;obtain ⟨p1,p2,p3,p4,p5⟩:=(hI.2.keep ae.size (λ b hb=>ae.block b (hI.2.lt b hb))).put (yao l rq 7) 0;have bq:RuK F9 (yao l rq 7) w8:=ybX (P:=λ r=>RuK F9 r w8) (λ r k h=>yzS r k h) (ag.keep ae.size zi (λ b hb=>ae.block b (ai b hb).2)) 7;have aK:=bq.keep p5.size zi (λ b hb=>p5.block b (zH (ai b hb).2 ae.size) (ai b hb).1);have HN:=hid (Ya (show yaM O9 O9 W9 _ from ⟨λ _ h=>h,λ _ h=> .inl h,(Eff.of_below ae).trans p5 λ b hb=> .inl hb⟩) (Ya hc (Ya hI.1 (Ya hE (Ya ((hE.mean l).1 hm) (Ya p4 aK))))));clear hI ai hc hE ag ah ak ao al an hm aJ af ae p4 p5 bq aK bw HY HZ cs av aV;gi_wp2
      obtain ⟨h1,h2,h3,h4,h5,h6,h7⟩:=HN.out;exact ⟨O9,h1,rfl,k,c,rq,h2,h3,h4,h5,h6,h7⟩
   case stop=>
    rintro c k O9 F9 w9 bJ bI aD bL a2 a3 az ⟨rfl,j,x,r',hj,ac,hE,hm,hX,hK⟩ hD aB aG;have kb:∀b,b≠w6.heap.size->(w9.putObj w6.heap.size (.deferred N)).heap[b]? =w9.heap[b]?:=λ b hb=>Yc hb;have ks:w9.heap.size<=(w9.putObj w6.heap.size (.deferred N)).heap.size:=(by rw [Yg];exact zG _);have ap:=hX.keep ks (λ b hb=>kb b (λ e=>aB (e ▸ hb)));have aQ:=hK.keep ks zi (λ b hb=>kb b (λ e=>aG (e ▸ hb)));have aq:Bw w (w9.putObj w6.heap.size (.deferred N)):=yaF (ar.trans (aD.eff.below (λ b hb=>by
     have:=H2.1;rcases hb with (h | h) | h
     ·omega
     ·omega
     ·exact h.elim) ar.size)) ar.size _
    have HD:=hid hD;have HZ:=hid (Ya ap (Ya aQ (Ya aq (Ya hj (Ya ac (Ya hE hm))))));clear aD bL a2 a3 az hj ac hE hm hX hK hD aB aG kb ks ap aQ aq bJ bI;gi_wp2
    refine ⟨by simp, .inl ⟨_,_,rfl,YM HD,?_⟩⟩;obtain ⟨ap,aQ,aq,hj,ac,hE,hm⟩:=HZ.out;rw [<- HA] at hj ac;exact ⟨_,ycr rfl rfl ap,⟨_,0,rfl,aQ.s, .inr ⟨Hf,u,fi,la,n,ev,sq,aE, .inr ⟨Hn,g,Hg, .inl ⟨rfl,j,x,r',hj,ac,hE,hm,rfl⟩⟩⟩⟩,aq⟩
   case done=>
    rintro O9 F9 w9 aD bM a2 a3 az ⟨ac,hX⟩ hD aB aG;obtain ⟨p1,p2,p3,p4,p5⟩:=hX.put zRu 15;have ah:Bw w w9:=ar.trans (aD.eff.below (λ b hb=>by
     have:=H2.1;rcases hb with (h | h) | h
     ·omega
     ·omega
     ·exact h.elim) ar.size)
    have bp:∀b,O9 b->w.heap.size<=b:=λ b hb=>by
     have:=H2.1;rcases aD.new b hb with (h | h) | h
     ·omega
     ·omega
     ·exact zI ar.size h
    replace p1:(ycP (R (G (Z b2 0 N))) (.agg zl0)).run I w9= .ok () (w9.setCells b2 0 (yad zRu)):=p1;have bS:Hid (((w9.setCells b2 0 (yad zRu)).setCell (Z b3 0 N) (E T 15)).heap[w6.heap.size]? =G (.deferred (G []))):=(p5.block _ (yam hD) aB).trans hD;have aq:Bw w (((w9.setCells b2 0 (yad zRu)).setCell (Z b3 0 N) (E T 15)).putObj w6.heap.size (.deferred N)):=yaF (ah.trans (p5.below bp ah.size)) ar.size _;have ap:=p4.keep (W':=((w9.setCells b2 0 (yad zRu)).setCell (Z b3 0 N) (E T 15)).putObj w6.heap.size (.deferred N)) (by rw [Yg];exact zG _) (λ b hb=>Yc (λ e=>aB (e ▸ hb)));have HZ:=hid (Ya ap (Ya aq ac));clear aD bM a2 a3 az ac hX hD aB aG p4 p5 ah bp ap aq;gi_wp2
    refine ⟨by simp, .inl ⟨_,_,rfl,YM bS,?_⟩⟩;obtain ⟨ap,aq,ac⟩:=HZ.out;exact ⟨_,ycr rfl rfl ap,⟨zRu,15,rfl,⟨.nil _ _, .nil _ _, .nil _ _, .nil _ _, .nil _ _, .nil _ _⟩, .inr ⟨Hf,u,fi,la,n,ev,sq,aE, .inr ⟨Hn,g,Hg, .inr ⟨rfl,rfl,λ x hx=>by
     rw [HA] at hx;obtain ⟨j,hj,e⟩:=Zt hx;exact ac j x hj (by rw [zzp hj,e])⟩⟩⟩⟩,aq⟩
end
section
attribute [local irreducible] yak
def yzm (l:List Cl) (f:Int->Int) (L:List Int):Prop:=∀x,x∈L↔∃t,yai l t=true/\f t=x
theorem ypx {n y:Int} (h0:0<=n) (h1:n<146097):ysI (fY n)<=n/\n<ysI (fY n)+365+ybs (fY n):=by
 obtain ⟨m,-,hd,-⟩:=yoM n h0 h1;obtain ⟨a0,a1,a2,a3,a4,a5,a6⟩:=hd;have hb:=yj2 a2 a3 a4 a5;omega
theorem yyJ {n m:Int} (h0:0<=n) (h:n<=m) (h1:m<146097):fY n<=fY m:=by
 have a:=ypx (y:=0) h0 (show n<146097 by omega);have b:=ypx (y:=0) (show 0<=m by omega) h1;rcases Int.lt_or_le (fY m) (fY n) with e | e
 ·have:=ypw e;omega
 ·exact e
section
variable {l:List Cl} {u:Nat->Nat} {fi la n:Int} {ev sq:Bool} {g:Nat->Int}
theorem ygq {D:Int}:D∈ykv l↔∃t,yai l t=true/\t/86400=D:=by
 constructor
 ·intro h;obtain ⟨s,hs⟩:=yji.1 h;obtain ⟨h1,h2,h3⟩:=yzd hs;exact ⟨_,h1,by omega⟩
 ·rintro ⟨t,ht,rfl⟩;exact (yk4 ht).2.2.2
theorem ybx {t:Int} (ht:yai l t=true):(∀i,0<=shF (t/86400) i/\shF (t/86400) i<=1000000)/\(1<=shF (t/86400) 2/\shF (t/86400) 2<=12)/\(1<=shF (t/86400) 3/\shF (t/86400) 3<=31)/\(1<=shF (t/86400) 4/\shF (t/86400) 4<=31)/\(1<=shF (t/86400) 6/\shF (t/86400) 6<64)/\(1<=shF (t/86400) 7/\shF (t/86400) 7<64)/\(1<=shF (t/86400) 8/\shF (t/86400) 8<64)/\(1<=shF (t/86400) 9/\shF (t/86400) 9<64):=by
 have:=yaK ht;exact ymL zo zo
theorem ypt (h:ybN l u fi la n ev sq) {i:Nat} (h3:3<=i) (h7:i<7):yzm l (λ t=>shF (t/86400) (i-1)) (mkN (u i)):=λ x=>by
 rw [yea];constructor
 ·rintro ⟨k,hk,hb,rfl⟩;obtain ⟨-,D,hD,e⟩:=(yAd h h3 h7 k).1 hb;obtain ⟨t,ht,rfl⟩:=ygq.1 hD;exact ⟨t,ht,e⟩
 ·rintro ⟨t,ht,e⟩;dsimp only at e;have hD:=(yk4 ht).2.2.2;have r:=ybx ht;have w:=ygA (t/86400);have hr:1<=x/\x<=31:=by
   have:i=3\/ i=4\/ i=5\/ i=6:=zo
   rcases this with rfl | rfl | rfl | rfl <;> rw [<- e] <;> dsimp only [Nat.reduceSub] <;> omega
  exact ⟨x.toNat,by omega,(yAd h h3 h7 _).2 ⟨by omega,_,hD,by omega⟩,by omega⟩
theorem yAt (h:ybN l u fi la n ev sq) {j d:Nat} (hj:j<4) (hd:d<8) (x:Int):x∈mkN (u (14+8*j+d))↔∃t,yai l t=true/\shF (t/86400) 5= (d:Int)/\shF (t/86400) (6+j)=x:=by
 have h4:j=0\/ j=1\/ j=2\/ j=3:=zo;have e:u (14+8*j+d)=ofM (((ykv l).filter λ D=>decide (shF D 5= (d:Int))).map λ D=>shF D (6+j)):=by
  rw [h.us _ zo zo,fcU,Yb zo,Yb zo,Yb zo,Yb zo,Yb zo];rcases h4 with rfl | rfl | rfl | rfl
  ·rw [Yd zo,show 14+8*0+d-14=d by omega]
  ·rw [Yb zo,Yd zo,show 14+8*1+d-22=d by omega]
  ·rw [Yb zo,Yb zo,Yd zo,show 14+8*2+d-30=d by omega]
  ·rw [Yb zo,Yb zo,Yb zo,show 14+8*3+d-38=d by omega]
 rw [e,yqG,YA];constructor
 ·rintro ⟨⟨D,hD,rfl⟩,-⟩;rw [Y5,zzY] at hD;obtain ⟨t,ht,rfl⟩:=ygq.1 hD.1;exact ⟨t,ht,hD.2,rfl⟩
 ·rintro ⟨t,ht,h5,rfl⟩;have r:=ybx ht;refine ⟨⟨_,Y5.2 ⟨(yk4 ht).2.2.2,zzZ h5⟩,rfl⟩,?_⟩;rcases h4 with rfl | rfl | rfl | rfl <;> dsimp only [Nat.reduceAdd] <;> omega
theorem hmN (h:ybN l u fi la n ev sq):yzm l (λ t=>t%86400/3600) (mkN (u 2))/\yzm l (λ t=>t%86400/60%60) (mkN (u 1))/\yzm l (λ t=>t%86400%60) (mkN (u 0)):=by
 have ex:∀s,(∃D,s∈yak (yax l D))->∃t,yai l t=true/\t%86400=s:=λ s ⟨D,hs⟩=>by
  obtain ⟨h1,h2,h3⟩:=yzd hs;exact ⟨_,h1,by omega⟩
 have ey:∀t,yai l t=true->ynM u (t%86400):=λ t ht=>h.hm.inn _ ⟨_,(yk4 ht).2.2.1⟩;refine ⟨λ x=>?_,λ x=>?_,λ x=>?_⟩ <;> rw [yea] <;> constructor
 ·rintro ⟨k,hk,hb,rfl⟩;obtain ⟨s,hs,e⟩:=h.hm.h k hb;have hr:=h.hm.rng s hs;obtain ⟨t,ht,rfl⟩:=ex s hs;exact ⟨t,ht,show t%86400/3600= _ by omega⟩
 ·rintro ⟨t,ht,rfl⟩;exact ⟨(t%86400/3600).toNat,by omega,(ey t ht).1,show t%86400/3600= _ by omega⟩
 ·rintro ⟨k,hk,hb,rfl⟩;obtain ⟨s,hs,e⟩:=h.hm.m k hb;obtain ⟨t,ht,rfl⟩:=ex s hs;exact ⟨t,ht,show t%86400/60%60= _ by omega⟩
 ·rintro ⟨t,ht,rfl⟩;exact ⟨(t%86400/60%60).toNat,by omega,(ey t ht).2.1,show t%86400/60%60= _ by omega⟩
 ·rintro ⟨k,hk,hb,rfl⟩;obtain ⟨s,hs,e⟩:=h.hm.s k hb;obtain ⟨t,ht,rfl⟩:=ex s hs;exact ⟨t,ht,show t%86400%60= _ by omega⟩
 ·rintro ⟨t,ht,rfl⟩;exact ⟨(t%86400%60).toNat,by omega,(ey t ht).2.2,show t%86400%60= _ by omega⟩
def atV (how:Int) (aa:Bool) (s:Nat->Int):Int:=if how=1 then (if aa=true then s 8 else s 6) else if how=2 then (if aa=true then -s 9 else -s 7) else 0
theorem yfh {L:List Int} {a:Int}:a∈yb1 L↔-a∈L:=by
 rw [yb1,YA];exact ⟨λ ⟨b,hb,e⟩=>by rw [show -a=b by omega];exact hb,λ h=>⟨_,h,by omega⟩⟩
theorem yfg (h:ybN l u fi la n ev sq) {how:Int} (hh:how=0\/ how=1\/ how=2) (aa:Bool) (y:Int × Int):y∈ydb u how aa↔∃t,yai l t=true/\shF (t/86400) 5=y.2/\atV how aa (shF (t/86400))=y.1:=by
 obtain ⟨a,d⟩:=y;have e1:(a,d)∈ydb u how aa↔d∈mkN (u 6)/\a∈yhS u how aa d.toNat:=by
  rw [ydb,Zi];constructor
  ·rintro ⟨d',hd,hm⟩;rw [ysK,YA] at hm;obtain ⟨a',ha,e⟩:=hm;cases e;exact ⟨hd,ha⟩
  ·rintro ⟨hd,ha⟩;exact ⟨d,hd,YA.2 ⟨a,ha,rfl⟩⟩
 have f6:=ypt h (i:=6) zo zo;have hd:d∈mkN (u 6)↔∃t,yai l t=true/\shF (t/86400) 5=d:=f6 d;rw [e1,hd];have key:∀{j:Nat},j<4->∀x,(∃t,yai l t=true/\shF (t/86400) 5=d)->(x∈mkN (u (14+8*j+d.toNat))↔∃t,yai l t=true/\shF (t/86400) 5=d/\shF (t/86400) (6+j)=x):=λ hj x ⟨t,_,e⟩=>by
  have:=ygA (t/86400);have k:=yAt h hj (show d.toNat<8 by omega) x;rwa [Ze zo] at k
 have both:∀{p:Int->Prop} {q:Prop},(∀t,yai l t=true->shF (t/86400) 5=d->(q↔∃t,yai l t=true/\shF (t/86400) 5=d/\p t))->((∃t,yai l t=true/\shF (t/86400) 5=d)/\q↔∃t,yai l t=true/\shF (t/86400) 5=d/\p t):=λ hq=>
  ⟨λ ⟨⟨t,ht,e⟩,h⟩=>(hq t ht e).1 h,λ ⟨t,ht,e,hp⟩=>⟨⟨t,ht,e⟩,(hq t ht e).2 ⟨t,ht,e,hp⟩⟩⟩
 refine both λ t ht e=>?_;show a∈yhS u how aa d.toNat↔∃t,yai l t=true/\shF (t/86400) 5=d/\atV how aa (shF (t/86400))=a;rcases hh with rfl | rfl | rfl
 ·show a∈ [0]↔∃t,yai l t=true/\shF (t/86400) 5=d/\0=a;rw [Yy];exact ⟨λ h=>⟨t,ht,e,h.symm⟩,λ ⟨_,_,_,h⟩=>h.symm⟩
 ·cases aa
  ·exact key (j:=0) zo a ⟨t,ht,e⟩
  ·exact key (j:=2) zo a ⟨t,ht,e⟩
 ·cases aa
  ·show a∈yb1 _↔∃t,yai l t=true/\shF (t/86400) 5=d/\-shF (t/86400) 7=a;rw [yfh];refine (key (j:=1) zo (-a) ⟨t,ht,e⟩).trans ⟨λ ⟨t,h1,h2,h3⟩=>⟨t,h1,h2,?_⟩,λ ⟨t,h1,h2,h3⟩=>⟨t,h1,h2,?_⟩⟩
   ·change shF _ 7= _ at h3;omega
   ·show shF _ 7= _;omega
  ·show a∈yb1 _↔∃t,yai l t=true/\shF (t/86400) 5=d/\-shF (t/86400) 9=a;rw [yfh];refine (key (j:=3) zo (-a) ⟨t,ht,e⟩).trans ⟨λ ⟨t,h1,h2,h3⟩=>⟨t,h1,h2,?_⟩,λ ⟨t,h1,h2,h3⟩=>⟨t,h1,h2,?_⟩⟩
   ·change shF _ 9= _ at h3;omega
   ·show shF _ 9= _;omega
def cnd (u:Nat->Nat) (fi la:Int) (g:Nat->Int) (q:Nat) (aa neg:Bool) (how:Int):Ru:={ybF u fi la g q with l5:=if aa=true then [] else mkN (u 3),l6:=if q=4 then [] else if neg=true then yb1 (mkN (u 5)) else mkN (u 4),l7:=ydb u how aa}
structure yu8 (q:Nat) (aa:Bool) (how:Int):Prop where
 lt:q<7
 h:how=0\/ how=1\/ how=2
 o:how≠0->q=5\/ q=6
 b:aa=true->q=6/\how≠0
theorem yw8 {q:Nat} {aa neg:Bool} {how:Int} (h5:mkN (u 3)≠ []) (hv:yu8 q aa how):cnd u fi la g q aa neg how∈ofL u fi la g q:=by
 have e0:decide ((mkN (u 3)).length=0)=false:=zzd λ e=>h5 (YB e);have ac:∀hows:List Int,how∈hows->q≠4->aa=false->cnd u fi la g q aa neg how∈ya0 u (ybF u fi la g q) hows:=λ hows hm h4 hb=>by
  subst hb;have e:∀ds,ykY u (ybF u fi la g q) ds how= {ybF u fi la g q with l5:=mkN (u 3),l6:=ds,l7:=ydb u how false}:=λ ds=>by
   rw [ykY,show (ybF u fi la g q).l5=mkN (u 3) from rfl,e0]
  rw [ya0,YC,YA,YA];cases neg
  ·exact .inl ⟨how,hm,by rw [e,cnd,Yb h4] <;> rfl⟩
  ·exact .inr ⟨how,hm,by rw [e,cnd,Yb h4] <;> rfl⟩
 have ab:how=1\/ how=2->q≠4->aa=true->cnd u fi la g q aa neg how∈ya0 u {ybF u fi la g q with l5:= []} [1,2]:=λ hm h4 hb=>by
  subst hb;have ad:how∈ [(1:Int),2]:=by simpa using hm
  rw [ya0,YC,YA,YA];cases neg
  ·exact .inl ⟨how,ad,by rw [cnd,Yb h4] <;> rfl⟩
  ·exact .inr ⟨how,ad,by rw [cnd,Yb h4] <;> rfl⟩
 obtain ⟨hq,hh,ho,hb⟩:=hv;have h3:how∈ [(0:Int),1,2]:=by simpa using hh
 rw [ofL];by_cases h4:q=4
 ·have h0:how=0:=Decidable.byContradiction λ e=>by have:=ho e;omega
  have h1:aa=false:=by
   cases aa
   ·rfl
   ·have:=hb rfl;omega
  subst h4;subst h0;subst h1;rw [Yd rfl];exact Yy.2 rfl
 rw [Yb h4];by_cases h5:q=5
 ·rw [Yd h5];exact ac _ h3 h4 (by cases aa;rfl;have:=hb rfl;omega)
 rw [Yb h5];by_cases h6:q=6
 ·rw [Yd h6,YC];cases e:aa
  ·exact .inl (e ▸ ac _ h3 h4 e)
  ·exact .inr (e ▸ ab (zp ((hb e).2)) h4 e)
 ·rw [Yb h6];exact ac _ (by have:=ho;simp only [Yy];omega) h4 (by cases aa;rfl;have:=hb rfl;omega)
end
end
section
attribute [local irreducible] yak
variable {a d f hi lo q t x:Int} {l:List Int} {u:Nat} {s:Nat->Int}
theorem ymZ (h:∀x∈l,lo<=x/\x<=hi):ycs lo hi l=false:=by
 rw [<- ZG,ycs,Yk];rintro ⟨x,hx,e⟩;have:=h x hx;simp only [yht,Ys,zzY] at e;omega
theorem ygU (h1:l.length<=64) (h:∀x∈l,lo<=x/\x<=hi):ybe lo hi l=0:=by
 rw [ybe,Yb zo,Yb (by rw [ymZ h];decide)]
theorem yqH (h:(∀x∈l,x<0)\/ (∀x∈l,x=0)\/ (∀x∈l,0<x)):yhq l=false:=by
 have key:∀p:Int->Bool,(∀x∈l,p x=false)->l.countP p=0:=λ p hp=>List.countP_eq_zero.2 λ x hx=>by rw [hp x hx];decide
 have kp:∀p:Int->Prop,[DecidablePred p]->(∀x∈l,¬p x)->l.countP (λ x=>decide (p x))=0:=λ p _ hp=>key _ λ x hx=>zzd (hp x hx);rw [yhq,yxA,ywb,yk3];rcases h with h | h | h
 ·rw [kp (λ n=>0<n) λ x hx=>by have:=h x hx;omega,kp (λ n=>n=0) λ x hx=>by have:=h x hx;omega];simp
 ·rw [kp (λ n=>0<n) λ x hx=>by have:=h x hx;omega,kp (λ n=>n<0) λ x hx=>by have:=h x hx;omega];simp
 ·rw [kp (λ n=>n<0) λ x hx=>by have:=h x hx;omega,kp (λ n=>n=0) λ x hx=>by have:=h x hx;omega];simp
theorem yqz (u:Nat->Nat) {how:Int} (hh:how=0\/ how=1\/ how=2) (aa:Bool):(ydb u how aa).Nodup:=by
 have hm:∀m,(mkN m).Pairwise (·< ·):=λ m=>yaO _ 64;have hn:∀d,(yhS u how aa d).Nodup:=λ d=>by
  have h1:∀m,(mkN m).Nodup:=λ m=>(hm m).imp λ h e=>by omega
  have h2:∀m,(yb1 (mkN m)).Nodup:=λ m=>by
   rw [yb1];exact List.Pairwise.map _ (λ a b h e=>by omega) (hm m)
  rw [yhS];split
  ·split <;> exact h1 _
  ·split
   ·split <;> exact h2 _
   ·exact Zz.2 ⟨by simp,List.nodup_nil⟩
 rw [ydb];refine List.pairwise_flatMap.2 ⟨λ d _=>?_,(hm _).imp λ {a b} h x hx y hy e=>?_⟩
 ·rw [ysK];exact List.Pairwise.map _ (λ a b h e=>h (congrArg Prod.fst e)) (hn _)
 ·rw [ysK,YA] at hx hy;obtain ⟨a',-,rfl⟩:=hx;obtain ⟨b',-,rfl⟩:=hy;have:=congrArg Prod.snd e;dsimp only at this;omega
def yxi (r:Ru) (t:Int):Bool:=yks r (shF (t/86400))&&(yjK r (t%86400)&&onB r.fq r.iv r.st t)
theorem yf8 (hu:u<7) (h:ycb t=true):ybB (u:Int) t=true/\ybh (u:Int) t=whU (u:Int) t:=by
 have:unB (u:Int)=true:=by rw [unB,zzY];omega
 have e:ybB (u:Int) t=true:=by rw [ybB,this,h];rfl
 exact ⟨e,by rw [ybh,Yd e]⟩
theorem ym1 (hu:u<7) {s:Int} (h1:1<=s) (ha:ycb a=true) (ht:ycb t=true):onB (u:Int) s a t=true↔s∣whU (u:Int) t-whU (u:Int) a:=by
 rw [onB,(yf8 hu ha).1,(yf8 hu ht).1,(yf8 hu ha).2,(yf8 hu ht).2,stepB,zzZ h1,zzo,zzo,zzo,zzY];exact ⟨Int.dvd_of_emod_eq_zero,Int.emod_eq_zero_of_dvd⟩
theorem ypQ (hu:u<7) (s t:Int):whU (u:Int) t-whU (u:Int) s=unT u t-unT u s:=by
 have h7:u=0\/ u=1\/ u=2\/ u=3\/ u=4\/ u=5\/ u=6:=zo;have key:∀t:Int,86400*(t/86400)+(((t%86400).toNat:Nat):Int)=t:=λ t=>by omega
 rcases h7 with rfl | rfl | rfl | rfl | rfl | rfl | rfl
 ·show t-s= (86400*(t/86400)+(((t%86400).toNat:Nat):Int))/1-(86400*(s/86400)+(((s%86400).toNat:Nat):Int))/1;rw [key,key];omega
 ·show t/60-s/60= (86400*(t/86400)+(((t%86400).toNat:Nat):Int))/60-(86400*(s/86400)+(((s%86400).toNat:Nat):Int))/60;rw [key,key]
 ·show t/3600-s/3600= (86400*(t/86400)+(((t%86400).toNat:Nat):Int))/3600-(86400*(s/86400)+(((s%86400).toNat:Nat):Int))/3600;rw [key,key]
 ·rfl
 ·rfl
 ·show 12*fY (t/86400)+fMo (t/86400)-1-(12*fY (s/86400)+fMo (s/86400)-1)=12*fY (t/86400)+fMo (t/86400)-(12*fY (s/86400)+fMo (s/86400));omega
 ·rfl
theorem yiO (h:x∈l):ycE l a f q x=true:=by rw [ycE,zzZ h,Bool.or_true]
theorem ygJ (hl:l≠ []) (h:ycE l a f q x=true):x∈l:=by
 have:l.length≠0:=λ e=>hl (YB e)
 rw [ycE,zzd this,Yv,YR,zzY] at h;exact h
def BtP (l:List Cl) (g:Nat->Int):Prop:=∀u,u<7->∃y f,ya2 (PuU l u) y f (g u)
section
variable {l:List Cl} {u:Nat->Nat} {fi la n:Int} {ev sq:Bool} {g:Nat->Int} {q:Nat} {aa neg:Bool} {how:Int}
theorem BtP.dvd (hg:BtP l g) (hq:q<7) {s:Int} (h:d∣g q) (hs:yai l s=true) (ht:yai l t=true):d∣whU (q:Int) t-whU (q:Int) s:=by
 obtain ⟨y,f,hb⟩:=hg q hq;rw [ypQ hq];exact (hb.dvd d).1 h _ _ ⟨t,ht,rfl⟩ ⟨s,hs,rfl⟩
theorem BtP.of (hg:BtP l g) (hq:q<7) (h:∀s t,yai l s=true->yai l t=true->d∣whU (q:Int) t-whU (q:Int) s):d∣g q:=by
 obtain ⟨y,f,hb⟩:=hg q hq;refine (hb.dvd d).2 ?_;rintro x y ⟨t,ht,rfl⟩ ⟨s,hs,rfl⟩;rw [<- ypQ hq];exact h s t hs ht
theorem BtP.bd (hg:BtP l g) (hq:q<7):0<=g q/\g q<=12622780799:=by
 obtain ⟨y,f,hb⟩:=hg q hq;exact (hb.bd zo λ x hx=>hx.rng).2.2
theorem yd4 (h:ybN l u fi la n ev sq) (ac:∃t,yai l t=true):yai l fi=true/\yai l la=true/\(∀t,yai l t=true->fi<=t/\t<=la)/\(∀i,i<7->mkN (u i)≠ [])/\∀aa,ydb u how aa≠ []\/ ¬(how=0\/ how=1\/ how=2):=by
 obtain ⟨t,ht⟩:=ac;have hD:=(yk4 ht).2.2.2;obtain ⟨f1,f2,f3⟩:=yzM h (List.length_pos_of_mem hD);refine ⟨f1,f2,f3,λ i hi=>?_,λ aa=>?_⟩
 ·have h7:i=0\/ i=1\/ i=2\/ 3<=i:=zo;obtain ⟨k2,k1,k0⟩:=hmN h;rcases h7 with rfl | rfl | rfl | h3
  ·exact ZU ((k0 _).2 ⟨t,ht,rfl⟩)
  ·exact ZU ((k1 _).2 ⟨t,ht,rfl⟩)
  ·exact ZU ((k2 _).2 ⟨t,ht,rfl⟩)
  ·exact ZU ((ypt h h3 hi _).2 ⟨t,ht,rfl⟩)
 ·by_cases hh:how=0\/ how=1\/ how=2
  ·exact .inl (ZU ((yfg h hh aa (_,_)).2 ⟨t,ht,rfl,rfl⟩))
  ·exact .inr hh
theorem ydr {α:Type} {l:List α} (h:l≠ []):l.length≠0:=λ e=>h (YB e)
theorem ynN {r:Ru} (hh:how=0\/ how=1\/ how=2) (hy:how≠0->((r.fq=6/\r.l5.length=0)↔aa=true)) (ha:(how=0->a=0)/\(how=1->0<a)/\(how=2->a<0)):atW r s a=atV how aa s:=by
 rw [atW,atV];rcases hh with rfl | rfl | rfl
 ·rw [ha.1 rfl];rfl
 ·simp only [hy zd];rw [Yd (ha.2.1 rfl)];rfl
 ·have:=ha.2.2 rfl;simp only [hy zd];rw [Yb (show¬0<a by omega),Yd this];rfl
theorem yvJ (hv:yu8 q aa how) (h5:mkN (u 3)≠ []) (ha:(how=0->a=0)/\(how=1->0<a)/\(how=2->a<0)):atW (cnd u fi la g q aa neg how) s a=atV how aa s:=
 ynN hv.h (λ _=>by
  show (q:Int)=6/\(if aa=true then [] else mkN (u 3)).length=0↔_;cases aa
  ·rw [Yb zd];exact ⟨λ h=>(ydr h5 h.2).elim,λ h=>by cases h⟩
  ·exact ⟨λ _=>rfl,λ _=>⟨by have:=(hv.b rfl).1;omega,rfl⟩⟩) ha
theorem ylZ (h6:1<=s 6) (h7:1<=s 7) (h8:1<=s 8) (h9:1<=s 9) (aa:Bool):(how=0->atV how aa s=0)/\(how=1->0<atV how aa s)/\(how=2->atV how aa s<0):=by
 rw [atV];refine ⟨λ e=>by rw [e];rfl,λ e=>?_,λ e=>?_⟩
 ·rw [Yd e];split <;> omega
 ·rw [Yb zo,Yd e];split <;> omega
theorem yyX (h:ybN l u fi la n ev sq) (hg:BtP l g) (hv:yu8 q aa how) (ht:yai l t=true):yc3 (cnd u fi la g q aa neg how) t=true:=by
 obtain ⟨f1,f2,f3,f4,f5⟩:=yd4 (how:=how) h ⟨t,ht⟩;have hb:=f3 t ht;have hw:=yaK ht;obtain ⟨k2,k1,k0⟩:=hmN h;obtain ⟨-,r2,r3,r4,r6,r7,r8,r9⟩:=ybx ht;have wt:ycb t=true:=(ydy t).2 hw;have wf:ycb fi=true:=(ydy fi).2 (yaK f1);have n5:¬(if aa=true then [] else mkN (u 3)).length=0\/ aa=true:=by
  cases aa
  ·exact .inl (ydr (f4 3 zo))
  ·exact .inr rfl
 have b3:=(ypt h (i:=3) zo zo _).2 ⟨t,ht,rfl⟩;have b4:=(ypt h (i:=4) zo zo _).2 ⟨t,ht,rfl⟩;have b5:=(ypt h (i:=5) zo zo _).2 ⟨t,ht,rfl⟩;have n6:q≠4->¬(cnd u fi la g q aa neg how).l6.length=0:=λ h4=>by
  show¬(if q=4 then [] else if neg=true then yb1 (mkN (u 5)) else mkN (u 4)).length=0;rw [Yb h4];cases neg
  ·exact ydr (f4 4 zo)
  ·show¬(yb1 (mkN (u 5))).length=0;rw [yb1,Yi];exact ydr (f4 5 zo)
 have e1:yeG (cnd u fi la g q aa neg how) (shF (t/86400) 2)=true:=by
  rw [yeG,Ys];cases hbb:aa
  ·exact .inr (zzZ b3)
  ·refine .inl ?_;have:yhz (cnd u fi la g q true neg how)=false:=by
    rw [yhz,<- hbb,zzd (n6 (zp ((hv.b hbb).1))),Yv]
   rw [this];simp [cnd]
 have e2:yeT (cnd u fi la g q aa neg how) (shF (t/86400) 3) (shF (t/86400) 4)=true:=by
  by_cases h4:q=4
  ·subst h4;rfl
  ·rw [yeT,Ys,Ys];refine .inr ?_;rw [show (cnd u fi la g q aa neg how).l6=if neg=true then yb1 (mkN (u 5)) else mkN (u 4) from Yb h4];cases neg
   ·exact .inl (zzZ b4)
   ·exact .inr (zzZ (yfh.2 (by rw [Int.neg_neg];exact b5)))
 have e3:yix (cnd u fi la g q aa neg how) (shF (t/86400))=true:=by
  have hm:=(yfg h hv.h aa (atV how aa (shF (t/86400)),shF (t/86400) 5)).2 ⟨t,ht,rfl,rfl⟩;rw [yix,Yb (show¬(cnd u fi la g q aa neg how).l7.length=0 from ydr (l:=ydb u how aa) (ZU hm))];refine Yk.2 ⟨_,hm,?_⟩;rw [zzZ rfl,zzo,zzY];exact (yvJ hv (f4 3 zo) (ylZ r6.1 r7.1 r8.1 r9.1 aa)).symm
 have e4:yjK (cnd u fi la g q aa neg how) (t%86400)=true:=by
  have c1:t%86400%3600/60∈mkN (u 1):=by
   rw [show t%86400%3600/60=t%86400/60%60 by omega];exact (k1 _).2 ⟨t,ht,rfl⟩
  rw [yjK];rw [yiO (show _∈(cnd u fi la g q aa neg how).l8 from (k2 _).2 ⟨t,ht,rfl⟩),yiO (show _∈(cnd u fi la g q aa neg how).l9 from c1),yiO (show _∈(cnd u fi la g q aa neg how).lx from (k0 _).2 ⟨t,ht,rfl⟩)];rfl
 have e5:onB (cnd u fi la g q aa neg how).fq (cnd u fi la g q aa neg how).iv (cnd u fi la g q aa neg how).st t=true:=by
  show onB (q:Int) (max (g q) 1) fi t=true;rw [ym1 hv.lt zo wf wt];have b:=hg.bd hv.lt;by_cases h0:g q=0
  ·rw [h0];exact Int.one_dvd _
  ·rw [show max (g q) 1=g q by omega];exact hg.dvd hv.lt (Int.dvd_refl _) f1 ht
 rw [yc3,wt,yks,e1,e2,e3,e4,e5];show (true&&((decide (fi<=t)&&(_||decide (t<=la)))&&_))=true;rw [zzZ hb.1,zzZ hb.2];simp
theorem yyV (h:ybN l u fi la n ev sq) (hg:BtP l g) (hv:yu8 q aa how) (ac:∃t,yai l t=true) (h7:how≠0->∃L:List (Int × Int),L.length<=64/\∀y∈ydb u how aa,y∈L/\(-53<=y.1/\y.1<=53)/\(q=5\/ aa=false->-5<=y.1/\y.1<=5)):yah (cnd u fi la g q aa neg how)=0/\ycH (cnd u fi la g q aa neg how)=0:=by
 obtain ⟨f1,f2,f3,f4,f5⟩:=yd4 (how:=how) h ac;have w1:=yaK f1;have w2:=yaK f2;obtain ⟨k2,k1,k0⟩:=hmN h;have bd:=hg.bd hv.lt;have hq:=hv.lt;have day:∀y∈ydb u how aa,(1<=y.2/\y.2<=7)/\((how=0->y.1=0)/\(how=1->0<y.1)/\(how=2->y.1<0)):=λ y hy=>by
  obtain ⟨t,ht,e5,e⟩:=(yfg h hv.h aa y).1 hy;obtain ⟨-,-,-,-,r6,r7,r8,r9⟩:=ybx ht;have:=ygA (t/86400);rw [<- e,<- e5];exact ⟨this,ylZ r6.1 r7.1 r8.1 r9.1 aa⟩
 obtain ⟨L,hL,hy⟩:∃L:List (Int × Int),L.length<=64/\∀y∈ydb u how aa,y∈L/\(-53<=y.1/\y.1<=53)/\(q=5\/ aa=false->-5<=y.1/\y.1<=5):=by
  by_cases h0:how=0
  ·refine ⟨(mkN (u 6)).map λ d=>(0,d),by rw [Yi];exact ya1 _,λ y hy=>?_⟩;have e:=(day y hy).2.1 h0;obtain ⟨t,ht,e5,-⟩:=(yfg h hv.h aa y).1 hy;refine ⟨YA.2 ⟨y.2,(ypt h (i:=6) zo zo _).2 ⟨t,ht,e5⟩,by rw [<- e]⟩,by omega,λ _=>by omega⟩
  ·exact h7 h0
 have s1:yf3 (cnd u fi la g q aa neg how)=0:=by
  show (if ycb fi=false then (4:Int) else if unB (q:Int)=false then 4 else if max (g q) 1<1 then 4 else if 1000000000000000<max (g q) 1 then 4 else if (0:Int)<0 then 4 else if 1000000000000000<(0:Int) then 4 else if la= -1 then 0 else if ycb la=false then 4 else if (0:Int)<0 then 12 else 0)=0;rw [(ydy fi).2 w1,(ydy la).2 w2,show unB (q:Int)=true by rw [unB,zzY];omega,Yb zd,Yb zd,Yb zo,Yb zo,Yb zo,Yb zo,Yb zo,Yb zd,Yb zo]
 have s5:ybe 1 12 (cnd u fi la g q aa neg how).l5=0:=by
  show ybe 1 12 (if aa=true then [] else mkN (u 3))=0;cases aa
  ·refine ygU (ya1 _) λ x hx=>?_;obtain ⟨t,ht,rfl⟩:=(ypt h (i:=3) zo zo x).1 hx;exact (ybx ht).2.1
  ·rfl
 have af:∀x∈mkN (u 4),1<=x/\x<=31:=λ x hx=>by
  obtain ⟨t,ht,rfl⟩:=(ypt h (i:=4) zo zo x).1 hx;exact (ybx ht).2.2.1
 have ae:∀x∈yb1 (mkN (u 5)),-31<=x/\x<=-1:=λ x hx=>by
  obtain ⟨t,ht,e⟩:=(ypt h (i:=5) zo zo _).1 (yfh.1 hx);have:=(ybx ht).2.2.2.1;change shF _ 4= _ at e
  omega
 have s6:yhy (cnd u fi la g q aa neg how)=0:=by
  have key:∀L6:List Int,L6.length<=64->(∀x∈L6,-31<=x/\x<=31/\x≠0)->yhq L6=false->(L6.length=0\/ q≠4)->(if ybe (-31) 31 L6=0 then (if L6.any (λ n=>n==0)=true then (4:Int) else if 0<L6.length/\(q:Int)=4 then 12 else if yhq L6=true then 12 else 0) else ybe (-31) 31 L6)=0:=λ L6 c1 c2 c3 c4=>by
   rw [ygU c1 λ x hx=>⟨(c2 x hx).1,(c2 x hx).2.1⟩,Yd rfl,Yb,Yb zo,Yb (by rw [c3];decide)];rw [Yk];rintro ⟨x,hx,e⟩;exact (c2 x hx).2.2 (eq_of_beq e)
  refine key (if q=4 then [] else if neg=true then yb1 (mkN (u 5)) else mkN (u 4)) ?_ ?_ ?_ ?_
  ·split
   ·exact Zm _
   ·split
    ·rw [yb1,Yi];exact ya1 _
    ·exact ya1 _
  ·intro x hx;split at hx
   ·cases hx
   ·split at hx
    ·have:=ae x hx;omega
    ·have:=af x hx;omega
  ·split
   ·rfl
   ·split
    ·exact yqH (.inl λ x hx=>by have:=ae x hx;omega)
    ·exact yqH (.inr (.inr λ x hx=>by have:=af x hx;omega))
  ·by_cases h4:q=4
   ·rw [Yd h4];exact .inl rfl
   ·exact .inr h4
 have ab:∀x∈nsL (cnd u fi la g q aa neg how),∃y∈ydb u how aa,y.1=x:=λ x hx=>by
  rw [nsL,YA] at hx;exact hx
 have s7:ydp (cnd u fi la g q aa neg how)=0:=by
  have ad:(ydb u how aa).length<=64:=zI ((yqz u hv.h aa).length_le_of_subset λ y ag=>(hy y ag).1) hL;have o1:ycs (-53) 53 (nsL (cnd u fi la g q aa neg how))=false:=ymZ λ x hx=>by
   obtain ⟨y,hm,rfl⟩:=ab x hx;exact (hy y hm).2.1
  have o2:(cnd u fi la g q aa neg how).l7.any yjB=false:=by
   rw [<- ZG,Yk];rintro ⟨y,hm,e⟩;have:=(day y hm).1;simp only [yjB,Ys,zzY] at e;omega
  have o3:yhq (nsL (cnd u fi la g q aa neg how))=false:=yqH (by
   rcases hv.h with e | e | e
   ·exact .inr (.inl λ x hx=>by obtain ⟨y,hm,rfl⟩:=ab x hx;exact (day y hm).2.1 e)
   ·exact .inr (.inr λ x hx=>by obtain ⟨y,hm,rfl⟩:=ab x hx;exact (day y hm).2.2.1 e)
   ·exact .inl λ x hx=>by obtain ⟨y,hm,rfl⟩:=ab x hx;exact (day y hm).2.2.2 e)
  have o4:(ycs 0 0 (nsL (cnd u fi la g q aa neg how))&&(!((q:Int)==5) && !((q:Int)==6)))=false:=by
   by_cases h0:how=0
   ·rw [ymZ λ x hx=>by obtain ⟨y,hm,rfl⟩:=ab x hx;have:=(day y hm).2.1 h0;omega];rfl
   ·rcases hv.o h0 with e | e <;> rw [e] <;> simp
  have o5:((((q:Int)==5)||decide (0<(cnd u fi la g q aa neg how).l5.length))&&ycs (-5) 5 (nsL (cnd u fi la g q aa neg how)))=false:=by
   by_cases h5:q=5\/ aa=false
   ·rw [ymZ λ x hx=>by obtain ⟨y,hm,rfl⟩:=ab x hx;exact (hy y hm).2.2 h5,Y3]
   ·have hb:aa=true:=by
     cases aa
     ·exact (h5 (.inr rfl)).elim
     ·rfl
    have:=(hv.b hb).1;subst hb;subst this;rfl
  rw [ydp,Yb (show¬64<(cnd u fi la g q aa neg how).l7.length from Nat.not_lt.2 ad),o1,o2,o3,ypF,show ((cnd u fi la g q aa neg how).fq==5)= ((q:Int)==5) from rfl,show ((cnd u fi la g q aa neg how).fq==6)= ((q:Int)==6) from rfl,o4,o5];rfl
 have s8:ybe 0 23 (cnd u fi la g q aa neg how).l8=0:=ygU (ya1 _) λ x hx=>by
  obtain ⟨t,ht,rfl⟩:=(k2 x).1 hx;dsimp only;omega
 have s9:ybe 0 59 (cnd u fi la g q aa neg how).l9=0:=ygU (ya1 _) λ x hx=>by
  obtain ⟨t,ht,rfl⟩:=(k1 x).1 hx;dsimp only;omega
 have sx:ybe 0 59 (cnd u fi la g q aa neg how).lx=0:=ygU (ya1 _) λ x hx=>by
  obtain ⟨t,ht,rfl⟩:=(k0 x).1 hx;dsimp only;omega
 have hc:yah (cnd u fi la g q aa neg how)=0:=by
  rw [yah,ykp,s1,s5,s6,s7,s8,s9,sx];rfl
 refine ⟨hc,?_⟩;rw [ycH,Yd hc,Yb];show¬(100000000000<max (g q) 1\/ 1000000<(0:Int));omega
end
end
section
attribute [local irreducible] yak
theorem yyC {c:Cl} {x:Int} (h:x<=c.un) (t:Int):yhv {c with un:=x} t= (yhv c t&&decide (t<=x)):=by
 have e:ycf c.fr x t= (ycf c.fr c.un t&&decide (t<=x)):=by
  rw [ycf,ycf];by_cases ht:t<=x
  ·rw [zzZ ht,zzZ (show t<=c.un by omega),Y7,Y7]
  ·rw [zzd ht,Y3,Y3]
 show (ycb t&&(yb2 c&&(ycf c.fr x t&&(ydc (t%86400) (c.m 2) (c.m 1) (c.m 0)&&(onB c.unit c.step c.anchor t&&yk0 c (t/86400))))))= _;rw [e,yhv];ac_rfl
theorem yrk {c:Cl} {t:Int} (h:yhv c t=true):c.fr<=t/\t<=c.un:=by
 rw [yhv] at h;simp only [zzX,ycf,zzY] at h;exact h.2.2.1
theorem yaT {r:Ru} (hc:yah r=0):yaf [ybS r]=0:=by
 have h:yhV [ybS r]=true:=by simp [yhV,ytI hc]
 rw [ycG,zzY] at h;exact h
theorem yay {r:Ru} (h:ycH r=0):yah r=0:=by
 by_cases e:yah r=0
 ·exact e
 ·rw [ycH,Yb e] at h;exact h
end
section
attribute [local irreducible] yak
variable {t:Int} {l:List Cl} {Rq r x:Ru}
theorem ycm:yxi r t=true↔(yeG r (shF (t/86400) 2)=true/\yeT r (shF (t/86400) 3) (shF (t/86400) 4)=true/\yix r (shF (t/86400))=true)/\(ycE r.l8 (r.st%86400/3600) 3 r.fq (t%86400/3600)=true/\ycE r.l9 (r.st%86400/60%60) 2 r.fq (t%86400/60%60)=true/\ycE r.lx (r.st%86400%60) 1 r.fq (t%86400%60)=true)/\onB r.fq r.iv r.st t=true:=by
 rw [yxi,yks,yjK,show t%86400%3600/60=t%86400/60%60 by omega];simp only [zzX]
theorem ycc:yc3 r t=true↔ycb t=true/\(r.st<=t/\(r.un= -1\/ t<=r.un))/\yxi r t=true:=by
 rw [yc3,yxi];simp only [zzX,Ys,zzY]
section
variable {l:List Cl} {u:Nat->Nat} {fi la n:Int} {ev sq:Bool} {g:Nat->Int} {q:Nat} {aa neg:Bool} {how:Int}
theorem yw7 (hc:yah Rq=0) (hI:∀t,yai l t=true->yxi Rq t=true) (h:ybN l u fi la n ev sq) (hg:BtP l g) (hv:yu8 q aa how) (hq:Rq.fq= (q:Int)) (ae:∃t,yai l t=true)
  (h6:(neg=true->(∀x∈Rq.l6,x<0)/\Rq.l6≠ [])/\(neg=false->∀x∈Rq.l6,0<x)) (h7:∀x∈Rq.l7,(how=0->x.1=0)/\(how=1->0<x.1)/\(how=2->x.1<0)) (ar:how≠0->Rq.l7≠ []) (hb:how≠0->((Rq.fq=6/\Rq.l5.length=0)↔aa=true))
   (ht:yc3 (cnd u fi la g q aa neg how) t=true):yxi Rq t=true/\fi<=t/\t<=la:=by
 obtain ⟨f1,f2,f3,f4,f5⟩:=yd4 (how:=how) h ae;obtain ⟨k2,k1,k0⟩:=hmN h;have ok:=yaY hc;obtain ⟨af,hu⟩:=ycW ok.h;have ah:=(yeL ok.h).1;have w1:=yaK f1;have w2:=yaK f2;obtain ⟨wt,⟨a1,a2⟩,ha⟩:=ycc.1 ht;obtain ⟨⟨m1,m2,m3⟩,⟨p1,p2,p3⟩,on⟩:=ycm.1 ha;have hw:=(ydy t).1 wt;change fi<=t at a1
 replace a2:t<=la:=by
  change la= -1\/ t<=la at a2
  omega
 obtain ⟨-,r2,r3,r4,r6,r7,r8,r9⟩:=ymL (n:=t/86400) zo zo;have z1:aa=false->∃t',yai l t' =true/\shF (t'/86400) 2=shF (t/86400) 2:=λ e=>by
  subst e;have hl:¬(mkN (u 3)).length=0:=ydr (f4 3 zo);rw [yeG,show (cnd u fi la g q false neg how).l5=mkN (u 3) from rfl,zzd hl,Yv,YR,zzY] at m1;exact (ypt h (i:=3) zo zo _).1 m1
 refine ⟨ycm.2 ⟨⟨?_,?_,?_⟩,⟨?_,?_,?_⟩,?_⟩,a1,a2⟩
 ·cases hbb:aa
  ·obtain ⟨t',ab,e⟩:=z1 hbb;rw [<- e];exact (ycm.1 (hI t' ab)).1.1
  ·have h0:=(hv.b hbb).2;have e5:=((hb h0).2 hbb).2;rw [yeG,yhz,zzZ e5,zzd (ydr (ar h0)),Y3,Bool.not_false];simp
 ·by_cases h4:q=4
  ·have:Rq.l6.length=0:=Decidable.byContradiction λ e=>(yfq ok.e6).2.2 zo zo
   rw [yeT,zzZ this,zzZ (by omega:Rq.fq<5)];simp
  ·cases hn:neg
   ·subst hn;have hl:¬(mkN (u 4)).length=0:=ydr (f4 4 zo);rw [yeT,show (cnd u fi la g q aa false how).l6=mkN (u 4) from Yb h4,zzd hl,Yv,YR,zzd (show¬-shF (t/86400) 4∈mkN (u 4) from λ e=>by
     have:=yea.1 e;omega),Bool.or_false,zzY] at m2
    obtain ⟨t',ab,e⟩:=(ypt h (i:=4) zo zo _).1 m2;change shF (t'/86400) 3= _ at e
    have k:=(ycm.1 (hI t' ab)).1.2.1;have b4:=(ybx ab).2.2.2.1;rw [yeT,zzd (show¬-shF (t'/86400) 4∈Rq.l6 from λ e=>by have:=h6.2 rfl _ e;omega),Bool.or_false,e] at k;rw [yeT,<- Bool.or_assoc,k,Bool.true_or]
   ·subst hn;obtain ⟨g1,g2⟩:=h6.1 rfl;have hl:¬(yb1 (mkN (u 5))).length=0:=(by rw [yb1,Yi];exact ydr (f4 5 zo));rw [yeT,show (cnd u fi la g q aa true how).l6=yb1 (mkN (u 5)) from Yb h4,zzd hl,Yv,YR,zzd (show¬shF (t/86400) 3∈yb1 (mkN (u 5)) from λ e=>by
     have:=yea.1 (yfh.1 e);omega),YR,zzY,yfh,Int.neg_neg] at m2
    obtain ⟨t',ab,e⟩:=(ypt h (i:=5) zo zo _).1 m2;change shF (t'/86400) 4= _ at e
    have k:=(ycm.1 (hI t' ab)).1.2.1;have b3:=(ybx ab).2.2.1;rw [yeT,zzd (ydr g2),Yv,YR,zzd (show¬shF (t'/86400) 3∈Rq.l6 from λ e=>by have:=g1 _ e;omega),YR,e] at k;rw [yeT,k,Bool.or_true,Bool.or_true]
 ·rw [yix,Yb (show¬(cnd u fi la g q aa neg how).l7.length=0 from ydr (l:=ydb u how aa) ((f5 aa).resolve_right λ e=>e hv.h))] at m3;obtain ⟨y,hy,e⟩:=Yk.1 m3;rw [zzX,zzY,zzY] at e;obtain ⟨t',ab,e5,ea⟩:=(yfg h hv.h aa y).1 hy;obtain ⟨-,s2,s3,s4,s6,s7,s8,s9⟩:=ybx ab;have sg:=ylZ (how:=how) s6.1 s7.1 s8.1 s9.1 aa;rw [ea] at sg;have e2:=e.2;rw [yvJ hv (f4 3 zo) sg] at e2;have k:=(ycm.1 (hI t' ab)).1.2.2;rw [yix] at k⊢;by_cases h0:Rq.l7.length=0
  ·rw [Yd h0] at k⊢;rw [<- e.1,<- e5];exact k
  ·rw [Yb h0] at k⊢;obtain ⟨z,hz,ez⟩:=Yk.1 k;rw [zzX,zzY,zzY,ynN hv.h hb (h7 z hz),ea,e5,e.1] at ez;refine Yk.2 ⟨z,hz,?_⟩;rw [zzX,zzY,zzY,ynN hv.h hb (h7 z hz),<- e2];exact ez
 ·obtain ⟨t',ab,e⟩:=(k2 _).1 (ygJ (f4 2 zo) p1);have k:=(ycm.1 (hI t' ab)).2.1.1;rwa [show t'%86400/3600= _ from e] at k
 ·obtain ⟨t',ab,e⟩:=(k1 _).1 (ygJ (f4 1 zo) p2);have k:=(ycm.1 (hI t' ab)).2.1.2.1;rwa [show t'%86400/60%60= _ from e] at k
 ·obtain ⟨t',ab,e⟩:=(k0 _).1 (ygJ (f4 0 zo) p3);have k:=(ycm.1 (hI t' ab)).2.1.2.2;rwa [show t'%86400%60= _ from e] at k
 ·have wf:ycb fi=true:=(ydy fi).2 w1;have dR:∀t,yai l t=true->Rq.iv∣whU (q:Int) t-whU (q:Int) Rq.st:=λ t ht=>by
   have k:=(ycm.1 (hI t ht)).2.2;rw [hq] at k;exact (ym1 hv.lt ah af ((ydy t).2 (yaK ht))).1 k
  have dS:∀s t,yai l s=true->yai l t=true->Rq.iv∣whU (q:Int) t-whU (q:Int) s:=λ s t hs ht=>by
   have:=Int.dvd_sub (dR t ht) (dR s hs);rwa [show whU (q:Int) t-whU (q:Int) Rq.st-(whU (q:Int) s-whU (q:Int) Rq.st)=whU (q:Int) t-whU (q:Int) s by omega] at this
  rw [hq,ym1 hv.lt ah af wt];have eW:Rq.iv∣whU (q:Int) t-whU (q:Int) fi:=by
   by_cases h0:g q=0
   ·have hz:∀t,yai l t=true->whU (q:Int) t=whU (q:Int) fi:=λ t ht=>by
     have:=Int.zero_dvd.1 (hg.dvd hv.lt (d:=0) (by rw [h0];exact Int.dvd_refl 0) f1 ht);omega
    have hl:=hz la f2;have e:whU (q:Int) t=whU (q:Int) fi:=by
     have h7:q=0\/ q=1\/ q=2\/ q=3\/ q=4\/ q=5\/ q=6:=(by have:=hv.lt;omega);have y1:=yyJ (n:=fi/86400) (m:=t/86400) zo zo zo;have y2:=yyJ (n:=t/86400) (m:=la/86400) zo zo zo;rcases h7 with rfl | rfl | rfl | rfl | rfl | rfl | rfl
     ·change la=fi at hl;show t=fi;omega
     ·change la/60=fi/60 at hl;show t/60=fi/60;omega
     ·change la/3600=fi/3600 at hl;show t/3600=fi/3600;omega
     ·change la/86400=fi/86400 at hl;show t/86400=fi/86400;omega
     ·change wkN (la/86400)=wkN (fi/86400) at hl
      show wkN (t/86400)=wkN (fi/86400);have wk:∀n,wkN n= (n+3)/7:=λ n=>(by unfold wkN;split <;> omega);rw [wk,wk] at hl⊢;omega
     ·have aq:aa=false:=by
       cases aa
       ·rfl
       ·have:=(hv.b rfl).1;omega
      obtain ⟨t',ab,e⟩:=z1 aq;have aj:=hz t' ab;have i1:=(ybx f1).2.1;have i2:=(ybx f2).2.1;have i3:=(ybx ab).2.1;change 1<=fMo (fi/86400)/\fMo (fi/86400)<=12 at i1
      change 1<=fMo (la/86400)/\fMo (la/86400)<=12 at i2
      change 1<=fMo (t'/86400)/\fMo (t'/86400)<=12 at i3
      change fMo (t'/86400)=fMo (t/86400) at e
      change 12*fY (t'/86400)+fMo (t'/86400)-1=12*fY (fi/86400)+fMo (fi/86400)-1 at aj
      change 12*fY (la/86400)+fMo (la/86400)-1=12*fY (fi/86400)+fMo (fi/86400)-1 at hl
      show 12*fY (t/86400)+fMo (t/86400)-1=12*fY (fi/86400)+fMo (fi/86400)-1;omega
     ·change fY (la/86400)=fY (fi/86400) at hl;show fY (t/86400)=fY (fi/86400);omega
    rw [e,Int.sub_self];exact Int.dvd_zero _
   ·have k:=on;change onB (q:Int) (max (g q) 1) fi t=true at k
    have bd:=hg.bd hv.lt;rw [ym1 hv.lt zo wf wt,show max (g q) 1=g q by omega] at k;exact Int.dvd_trans (hg.of hv.lt dS) k
  have:=Int.dvd_add eW (dR fi f1);rwa [show whU (q:Int) t-whU (q:Int) fi+(whU (q:Int) fi-whU (q:Int) Rq.st)=whU (q:Int) t-whU (q:Int) Rq.st by omega] at this
end
theorem ylG (c:Cl) (t:Int):yai [c] t=yhv c t:=by simp [yai]
theorem yqQ (h:r.co=0):ybS r=ydu r:=by rw [ybS,Yb zo]
theorem yqK (hx:ycH x=0) (ao:x.co=0) (hl:yaf l=0) (he:∀t,yc3 x t=yai l t):yaZ x l:=by
 have hc:=yay hx;refine ⟨hx,by rw [yc7,yaT hc,hl];rfl,λ s=>?_⟩;show (yai [ybS x] s != yai l s)=false;rw [ylG,yqQ ao,yly hc,he,bne_self_eq_false]
theorem yj4 (h:yaZ x l) (t:Int):yai [ybS x] t=yai l t:=by
 have:=h.2.2 t;dsimp only at this;revert this
 cases yai [ybS x] t <;> cases yai l t <;> simp
theorem ydi (hc:yah Rq=0) (t:Int):yai [ybS Rq] t=true↔yc3 Rq t=true/\t<=(ybS Rq).un:=by
 rw [ylG,<- yly hc,ybS];split
 ·rename_i hp;rcases ylx hc zo with ⟨x,e,hx⟩ | e
  ·rw [e,yyC (yrk hx).2,zzX,zzY]
  ·rw [e] at hp;exact absurd hp.2 zd
 ·exact ⟨λ h=>⟨h,(yrk h).2⟩,λ h=>h.1⟩
theorem yjW {u:Nat->Nat} {fi la n:Int} {ev sq:Bool} {g:Nat->Int} (hR:ycH Rq=0) (h:ybN [ybS Rq] u fi la n ev sq) (hn:n≠0) (hg:BtP [ybS Rq] g):∃x∈yfT u fi la g,yaZ x [ybS Rq]:=by
 have hc:=yay hR;have ok:=yaY hc;obtain ⟨af,hu⟩:=ycW ok.h;obtain ⟨ak,an,am,al,ap⟩:=ydS ok.e7;have ae:∃t,yai [ybS Rq] t=true:=by
  have:=h.n;obtain ⟨D,hD⟩:=List.exists_mem_of_length_pos (l:=ykv [ybS Rq]) (by show 0<(yaN _ _).length;omega);obtain ⟨t,ht,-⟩:=ygq.1 hD;exact ⟨t,ht⟩
 have hI:∀t,yai [ybS Rq] t=true->yxi Rq t=true:=λ t ht=>(ycc.1 ((ydi hc t).1 ht).1).2.2;rw [unB,zzY] at hu;obtain ⟨q,hq⟩:∃q:Nat,Rq.fq= (q:Int):=⟨Rq.fq.toNat,by omega⟩;obtain ⟨how,hh,hs,ag⟩:∃how:Int,(how=0\/ how=1\/ how=2)/\(∀x∈Rq.l7,(how=0->x.1=0)/\(how=1->0<x.1)/\(how=2->x.1<0))/\(how≠0->Rq.l7≠ []):=by
  by_cases e:Rq.l7= []
  ·exact ⟨0, .inl rfl,λ x hx=>(by rw [e] at hx;cases hx),λ h=>(h rfl).elim⟩
  ·rcases yee am with k | k | k
   ·exact ⟨2, .inr (.inr rfl),λ x hx=>⟨λ h=>absurd h zd,λ h=>absurd h zd,λ _=>k _ (Zs hx)⟩,λ _=>e⟩
   ·exact ⟨0, .inl rfl,λ x hx=>⟨λ _=>k _ (Zs hx),λ h=>absurd h zd,λ h=>absurd h zd⟩,λ _=>e⟩
   ·exact ⟨1, .inr (.inl rfl),λ x hx=>⟨λ h=>absurd h zd,λ _=>k _ (Zs hx),λ h=>absurd h zd⟩,λ _=>e⟩
 have ho:how≠0->Rq.fq=5\/ Rq.fq=6:=λ h0=>al (by
  obtain ⟨x,hx⟩:=List.exists_mem_of_ne_nil _ (ag h0);have k:=hs x hx;refine Yk.2 ⟨x.1,Zs hx,?_⟩;rw [yht,Ys,zzY,zzY];omega)
 obtain ⟨aa,ac⟩:=zx (decide (Rq.fq=6/\Rq.l5.length=0/\how≠0));have hb:how≠0->((Rq.fq=6/\Rq.l5.length=0)↔aa=true):=λ h0=>by
  rw [<- ac,zzY];exact ⟨λ h=>⟨h.1,h.2,h0⟩,λ h=>⟨h.1,h.2.1⟩⟩
 have hv:yu8 q aa how:=⟨by omega,hh,λ h0=>by have:=ho h0;omega,λ e=>by rw [<- ac,zzY] at e;exact ⟨by omega,e.2.2⟩⟩;obtain ⟨⟨-,av⟩,au,-⟩:=yfq ok.e6;have ai:=yiP (λ x hx=>(av x hx).2) au;obtain ⟨neg,ad⟩:=zx (decide (Rq.l6.headD 0<0));have h6:(neg=true->(∀x∈Rq.l6,x<0)/\Rq.l6≠ [])/\(neg=false->∀x∈Rq.l6,0<x):=by
  refine ⟨λ e=>?_,λ e=>?_⟩
  ·rw [<- ad,zzY] at e;exact ⟨ai.1 e,λ k=>by rw [k] at e;exact absurd e zd⟩
  ·rw [<- ad,ZV] at e;exact ai.2 e
 have sub:∀y∈ydb u how aa,how≠0->y∈Rq.l7:=λ y hy h0=>by
  obtain ⟨t,ht,e5,ea⟩:=(yfg h hh aa y).1 hy;have k:=(ycm.1 (hI t ht)).1.2.2;rw [yix,Yb (ydr (ag h0))] at k;obtain ⟨z,hz,ez⟩:=Yk.1 k;rw [zzX,zzY,zzY,ynN hh hb (hs z hz),ea,e5] at ez;have:z=y:=Prod.ext ez.2 ez.1
  rw [<- this];exact hz
 obtain ⟨c1,c2⟩:=yyV (neg:=neg) h hg hv ae λ h0=>⟨Rq.l7,ak,λ y hy=>⟨sub y hy h0,(an y (sub y hy h0)).1,λ h5=>by
  have k:=ymY (ap (by
   rcases h5 with e | e
   ·exact .inl zo
   ·rcases ho h0 with e6 | e6
    ·exact .inl e6
    ·refine .inr (Nat.pos_of_ne_zero λ e5=>?_);have:=(hb h0).1 ⟨e6,e5⟩;rw [e] at this;cases this)) y.1 (Zs (sub y hy h0))
  exact k⟩⟩
 obtain ⟨f1,f2,f3,f4,-⟩:=yd4 (how:=how) h ae;refine ⟨cnd u fi la g q aa neg how,?_,yqK c2 rfl (yaT hc) λ t=>?_⟩
 ·rw [yfT,Zi];refine ⟨q,?_,Y5.2 ⟨yw8 (f4 3 zo) hv,zzZ c1⟩⟩;have:=hv.lt;simp only [qL,YF,ZF,or_false];omega
 ·rw [zze];constructor
  ·intro ht;obtain ⟨ka,k1,k2⟩:=yw7 hc hI h hg hv hq ae h6 hs ag hb ht;obtain ⟨l1,l2⟩:=(ydi hc fi).1 f1;obtain ⟨l3,l4⟩:=(ydi hc la).1 f2;have b1:=(ycc.1 l1).2.1;have b3:=(ycc.1 l3).2.1;exact (ydi hc t).2 ⟨ycc.2 ⟨(ycc.1 ht).1,⟨by omega,by omega⟩,ka⟩,by omega⟩
  ·exact yyX h hg hv
end
section
attribute [local irreducible] yak
variable {ev sq:Bool} {e:Ending} {fi la:Int} {l:List Cl} {u:Nat->Nat} {r:Ru} {w w':World}
section
variable {l:List Cl} {u:Nat->Nat} {fi la n:Int} {ev sq:Bool} {g:Nat->Int}
theorem yyW {q:Nat} {c:Ru} (h5:mkN (u 3)≠ []) (hq:q<7) (h:c∈ofL u fi la g q):∃aa neg how,yu8 q aa how/\c=cnd u fi la g q aa neg how:=by
 have e0:decide ((mkN (u 3)).length=0)=false:=zzd λ e=>h5 (YB e);have ab:∀hows:List Int,(∀x∈hows,(x=0\/ x=1\/ x=2)/\(x≠0->q=5\/ q=6))->q≠4->c∈ya0 u (ybF u fi la g q) hows->∃aa neg how,yu8 q aa how/\c=cnd u fi la g q aa neg how:=λ hows hh h4 h=>by
  rw [ya0,YC,YA,YA] at h;have e:∀ds how,ykY u (ybF u fi la g q) ds how= {ybF u fi la g q with l5:=mkN (u 3),l6:=ds,l7:=ydb u how false}:=λ ds how=>by
   rw [ykY,show (ybF u fi la g q).l5=mkN (u 3) from rfl,e0]
  rcases h with ⟨x,hx,rfl⟩ | ⟨x,hx,rfl⟩
  ·exact ⟨false,false,x,⟨hq,(hh x hx).1,(hh x hx).2,λ h=>by cases h⟩,by rw [e,cnd,Yb h4] <;> rfl⟩
  ·exact ⟨false,true,x,⟨hq,(hh x hx).1,(hh x hx).2,λ h=>by cases h⟩,by rw [e,cnd,Yb h4] <;> rfl⟩
 have w3:q=5\/ q=6->∀x∈ [(0:Int),1,2],(x=0\/ x=1\/ x=2)/\(x≠0->q=5\/ q=6):=λ h x hx=>⟨by simpa using hx,λ _=>h⟩;rw [ofL] at h;split at h
 ·rename_i h4;rw [Yy] at h;subst h4;exact ⟨false,false,0,⟨hq, .inl rfl,λ h=>(h rfl).elim,λ h=>by cases h⟩,h⟩
 rename_i h4;split at h
 ·rename_i h5;exact ab _ (w3 (.inl h5)) h4 h
 split at h
 ·rename_i h6;rw [YC] at h;rcases h with h | h
  ·exact ab _ (w3 (.inr h6)) h4 h
  ·rw [ya0,YC,YA,YA] at h;rcases h with ⟨x,hx,rfl⟩ | ⟨x,hx,rfl⟩
   ·have ac:x=1\/ x=2:=(by simpa using hx);exact ⟨true,false,x,⟨hq, .inr ac,λ _=> .inr h6,λ _=>⟨h6,by omega⟩⟩,by rw [cnd,Yb h4] <;> rfl⟩
   ·have ac:x=1\/ x=2:=(by simpa using hx);exact ⟨true,true,x,⟨hq, .inr ac,λ _=> .inr h6,λ _=>⟨h6,by omega⟩⟩,by rw [cnd,Yb h4] <;> rfl⟩
 ·exact ab _ (λ x hx=>by rw [Yy] at hx;exact ⟨.inl hx,λ h=>(h hx).elim⟩) h4 h
theorem yvL {x:Ru} (h5:mkN (u 3)≠ []) (h:x∈yfT u fi la g):∃q aa neg how,yu8 q aa how/\x=cnd u fi la g q aa neg how:=by
 rw [yfT,Zi] at h;obtain ⟨q,hq,h⟩:=h;rw [yf5,Y5] at h;exact ⟨q,yyW h5 (by simp only [qL,YF,ZF,or_false] at hq;omega) h.1⟩
end
structure ypj (r:Ru) (l:List Cl):Prop where
 e:ycH r=0
 co:r.co=0
 same:∀t,yai [ybS r] t=yai l t
 st:∀t,yai l t=true->yai l r.st=true/\r.st<=t
theorem ynd:ycH noneU=0:=by kernel_rfl
theorem ywo (t:Int):yai [ybS noneU] t=false:=by
 rw [<- ZG,ydi (yay ynd),ycc,ycm];rintro ⟨⟨hw,-,⟨m1,m2,-⟩,-⟩,-⟩;have hw:=(ydy t).1 hw;obtain ⟨-,r2,r3,r4,-⟩:=ymL (n:=t/86400) zo zo;obtain ⟨-,-,-,-,-,d1⟩:=yaQ (n:=t/86400) zo zo;have e2:shF (t/86400) 2=2:=by simpa [yeG,noneU] using m1
 have e3:shF (t/86400) 3=30\/ -shF (t/86400) 4=30:=by simpa [yeT,noneU,zRu] using m2
 change fMo (t/86400)=2 at e2
 change fD (t/86400)=30\/ _ at e3
 have lb:=ycu (fY (t/86400));rw [e2,ycx,Yd rfl] at d1;omega
theorem yko (h:ybN l u fi la 0 ev sq) (t:Int):yai l t=false:=by
 rw [<- ZG];intro ht;have:=List.length_pos_of_mem (yk4 ht).2.2.2;have e:(0:Int)= ((ykv l).length:Nat):=h.n;omega
theorem ykn {n:Int} (h:ybN l u fi la n ev sq) (hn:n≠0):∃t,yai l t=true:=by
 have:=h.n;obtain ⟨D,hD⟩:=List.exists_mem_of_length_pos (l:=ykv l) (by show 0<(yaN _ _).length;omega);obtain ⟨t,ht,-⟩:=ygq.1 hD;exact ⟨t,ht⟩
theorem yvG (r:Ru) (k:Nat) (h:r.co=0):(ybt r k).co=0:=yfr (P:=λ r=>r.co=0) (λ r h=>h) (λ r h=>h) (λ r h=>h) (λ r h=>h) (λ r h=>h) (λ r h=>h) (λ r h=>h) r k h
theorem yyR (a:Int) (r:Ru) (k:Nat) (h:r.st=a):(ybt r k).st=a:=yfr (P:=λ r=>r.st=a) (λ r h=>h) (λ r h=>h) (λ r h=>h) (λ r h=>h) (λ r h=>h) (λ r h=>h) (λ r h=>h) r k h
theorem yiu:zRu.Num/\zRu.Sm 5000:=⟨⟨by show yaA 0;unfold yaA;omega,by show yaA 0;unfold yaA;omega,by show yaA 0;unfold yaA;omega,by show yaA 0;unfold yaA;omega,by show yaA 0;unfold yaA;omega⟩,⟨by simp [zRu],by simp [zRu],by simp [zRu],by simp [zRu],by simp [zRu],by simp [zRu]⟩⟩
def yil (l:List Cl) (r:Ru) (Eq1:Int):Prop:=
 (yaf l≠0/\Eq1=yaf l/\r=zRu)\/
 (yaf l=0/\∃u fi la n ev sq,ybN l u fi la n ev sq/\((n=0/\Eq1=0/\RuE noneU r)\/
   (n≠0/\∃g:Nat->Int,(∀u,u<7->∃y f,ya2 (PuU l u) y f (g u))/\
     ((Eq1=0/\∃j x r',(yfT u fi la g)[j]? =G x/\yuV (yfT u fi la g) l j/\RuE x r'/\yaZ x l/\r=yao l r' 7)\/
      (Eq1=15/\r=zRu/\∀x∈yfT u fi la g,¬yaZ x l)))))
theorem yjX {Eq1:Int} (h:yil l r Eq1):r.Num/\r.Sm 5000/\
  ((yaf l≠0/\Eq1=yaf l/\r=zRu)\/ (yaf l=0/\((Eq1=0/\ypj r l)\/ (Eq1=15/\r=zRu/\∃u fi la n ev sq g,ybN l u fi la n ev sq/\n≠0/\BtP l g/\∀x∈yfT u fi la g,¬yaZ x l)))):=by
 rcases h with ⟨h1,h2,h3⟩ | ⟨h1,u,fi,la,n,ev,sq,hF,⟨h2,h3,h4⟩ | ⟨h2,g,hg,⟨h3,j,x,r',hx,-,hE,hm,hr⟩ | ⟨h3,h4,h5⟩⟩⟩
 ·rw [h3];exact ⟨yiu.1,yiu.2, .inl ⟨h1,h2,rfl⟩⟩
 ·have z:noneU.Num/\noneU.Sm 5000:=⟨⟨by show yaA 0;unfold yaA;omega,by show yaA 6;unfold yaA;omega,by show yaA 1;unfold yaA;omega,by show yaA 0;unfold yaA;omega,by show yaA (-1);unfold yaA;omega⟩,⟨by simp [noneU],by simp [noneU],by simp [noneU,zRu],by simp [noneU,zRu],by simp [noneU,zRu],by simp [noneU,zRu]⟩⟩;subst h2;have hl:ybS r=ybS noneU:=by rw [h4];rfl
  have hE:ycH r=ycH noneU:=by rw [h4];rfl
  exact ⟨(h4.num ⟨z.1,rfl⟩).1,h4.sm z.2, .inr ⟨h1, .inl ⟨h3,hE.trans ynd,by rw [h4];rfl,λ t=>by rw [hl,ywo,yko hF],λ t ht=>by rw [yko hF] at ht;cases ht⟩⟩⟩
 ·have ad:=YN hx;have ae:=ykn hF h2;obtain ⟨f1,f2,f3,f4,-⟩:=yd4 (how:=0) hF ae;have w1:=yaK f1;have w2:=yaK f2;obtain ⟨n1,n2,n3⟩:=yrW (fi:=fi) (la:=la) (by unfold yaA;omega) (by unfold yaA;omega) (λ q hq=>by have:=BtP.bd hg hq;unfold yaA;omega) x ad;obtain ⟨q,aa,neg,how,hv,e⟩:=yvL (f4 3 zo) ad;have m':=(hE.mean l).2 hm;obtain ⟨es,-,-,ec,-⟩:=RuE.iff.1 hE;have c0:r.co=0:=by rw [hr];exact ybX yvG (by rw [ec,e];rfl) 7
  have s0:r.st=fi:=by rw [hr];exact ybX (yyR fi) (by rw [es,e];rfl) 7
  have mr:yaZ r l:=by rw [hr];exact ye8 m' 7
  refine ⟨by rw [hr];exact (ybX ylS (hE.num n1) 7).1,by rw [hr];exact ybX yh8 (hE.sm n3) 7, .inr ⟨h1, .inl ⟨h3,mr.1,c0,yj4 mr,λ t ht=>?_⟩⟩⟩;rw [s0];exact ⟨f1,(f3 t ht).1⟩
 ·rw [h4];exact ⟨yiu.1,yiu.2, .inr ⟨h1, .inr ⟨h3,rfl,u,fi,la,n,ev,sq,g,hF,h2,hg,h5⟩⟩⟩
theorem ytg (h:ysd l w w' e):∃r Eq1,e=Q (Xt #[ruv r,E T Eq1])/\RuS w' r/\r.Num/\r.Sm 5000/\
  ((yaf l≠0/\Eq1=yaf l/\r=zRu)\/ (yaf l=0/\((Eq1=0/\ypj r l)\/ (Eq1=15/\r=zRu/\∃u fi la n ev sq g,ybN l u fi la n ev sq/\n≠0/\BtP l g/\∀x∈yfT u fi la g,¬yaZ x l)))):=by
 obtain ⟨r,Eq1,he,hs,h⟩:=h;exact ⟨r,Eq1,he,hs,yjX h⟩
theorem yol {Rq:Ru} (hR:ycH Rq=0) (h:ysd [ybS Rq] w w' e):∃r,e=Q (Xt #[ruv r,E T 0])/\RuS w' r/\r.Num/\r.Sm 5000/\ypj r [ybS Rq]:=by
 obtain ⟨r,Eq1,he,hs,hn,hm,h⟩:=ytg h;rcases h with ⟨h1,-⟩ | ⟨-,⟨rfl,h3⟩ | ⟨-,-,u,fi,la,n,ev,sq,g,hF,h2,hg,h5⟩⟩
 ·exact absurd (yaT (yay hR)) h1
 ·exact ⟨r,he,hs,hn,hm,h3⟩
 ·obtain ⟨x,hx,af⟩:=yjW hR hF h2 hg;exact absurd af (h5 x hx)
def liveU:Ru:={zRu with st:=345600,fq:=4,iv:=4,un:=-1}
theorem ydk:ycH liveU=0:=by kernel_rfl
theorem ywC (h:ypj r [ybS liveU]):r.st=345600:=by
 have h0:yai [ybS liveU] 345600=true:=(ydi (yay ydk) _).2 ⟨by kernel_rfl,by decide +kernel⟩;obtain ⟨h1,h2⟩:=h.st _ h0;have h3:=(ycc.1 ((ydi (yay ydk) _).1 h1).1).2.1.1;change 345600<=r.st at h3
 omega
theorem yyM {la lb:List Cl} {y:Bool} {t:Int} {f:Bool} {er:Int} (h:yzY (λ p q=>p != q) la lb y t f er) (ha:yaf la=0) (hb:yaf lb=0) (hs:∀t,yai la t=yai lb t):er=0/\y=true/\t=0/\f=false:=by
 obtain ⟨h1,-,h3⟩:=h;have e:er=0:=by rw [h1,yc7,ha,hb];rfl
 rcases h3 e with ⟨-,k⟩ | ⟨⟨-,-,k,-⟩,-⟩
 ·exact ⟨e,k⟩
 ·rw [hs] at k;dsimp only at k;rw [bne_self_eq_false] at k;cases k
end
