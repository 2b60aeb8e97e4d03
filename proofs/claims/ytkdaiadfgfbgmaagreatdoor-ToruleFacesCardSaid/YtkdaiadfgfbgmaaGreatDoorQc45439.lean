/- ferialaw38.lives answers true. -/
import Derived.Test.YtkdaiadfgfbgmaaGreatDoorQc55024
set_option maxRecDepth 100000
set_option maxHeartbeats 25600000
set_option linter.unusedSimpArgs false
open Option renaming none -> N, some -> G
open Go.Value renaming int -> E, pointer -> R, slice -> Xs, bool -> Xb, func -> Xf, tuple -> Xt
open Go.IntKind renaming i64 -> T, u64 -> Y
open Go.Addr renaming mk -> Z
open Go renaming Calls -> H
open Go.Proofs.Tryz renaming prog -> I
open Go.Obj renaming cells -> J
open Go.Ending renaming returned -> Q
namespace Go.Proofs.YtkdaiadfgfbgmaaGreatDoor
open Go.RowKit Go.Maps
set_option linter.unusedVariables false
section
attribute [local irreducible] yap
attribute [local go_sem ↓] ya3 ybb
theorem Ru.Sm.mil {r:Ru} (h:r.Sm 5000):r.Sm 1000000:=h.up zd
theorem yiR (r:Ru) (w:World) (hr:RuS w r) (hm:r.Sm 1000000) (hn:r.Num) (hz:r.co=0) (h0:yc5 r=0):H I 9 #[ruv r] w λ e w'=>(∃g,e=Q (Xt #[Xs (G (Z g 0 N)) 1 1,E T 0])/\Sl w' (G (Z g 0 N)) (cls [ycm r]))/\Bw w w':=
 (yij r w hr hm hn hz).mono λ e w' h=>⟨by
   rcases h.1 with ⟨h1,-⟩ | ⟨-,g,h1,-,h2⟩
   ·exact absurd h0 h1
   ·exact ⟨g,h1,h2⟩,h.2⟩
theorem ymV {r:Ru} (hn:r.Num) (h0:yc5 r=0):∀c∈ [ycm r],c.Ok:=λ c hc=>by
 rw [Yy] at hc;rw [hc];exact ylo hn (ybD h0)
theorem yow (a:Option Addr) (cap:Nat) (l:List Cl) (g:Nat) (r:Ru) (w:World) (hl:l.length<=1000) (av:l.length<=cap) (hs:Sl w a (cls l)) (au:a=N->cap=0) (ar:∀c∈l,c.Ok) (hf:yaf l=0) (hg:Sl w (G (Z g 0 N)) (cls [ycm r])) (hn:r.Num) (hG:ysp r l) (hT:Tab w) :
  H I 11 #[Xs a l.length cap,Xs (G (Z g 0 N)) 1 1] w λ e w'=>e=Q (Xt #[.agg #[Xb true,E T 0,Xb false],E T 0])/\Bw w w':=
 (yho a cap l (G (Z g 0 N)) 1 [ycm r] w hl av hs au ar zs zs hg (λ h=>by cases h) (ymV hn hG.e) hT).mono λ e w' h=>⟨by
   obtain ⟨y,t,f,er,h1,h2⟩:=h.1;obtain ⟨rfl,rfl,rfl,rfl⟩:=yyI h2 hf (ycB (ybD hG.e)) λ t=>(hG.same t).symm;exact h1,h.2⟩
theorem yyf (W:World):RuS W liveU:=⟨.inl rfl, .inl rfl, .inl rfl, .inl rfl, .inl rfl, .inl rfl⟩
theorem yyg:liveU.Sm 1000000:=⟨by simp [liveU,zRu],by simp [liveU,zRu],by simp [liveU,zRu],by simp [liveU,zRu],by simp [liveU,zRu],by simp [liveU,zRu]⟩
theorem yqK:liveU.Num:=⟨by show yax 345600;unfold yax;omega,by show yax 4;unfold yax;omega,by show yax 4;unfold yax;omega,by show yax 0;unfold yax;omega,by show yax (-1);unfold yax;omega⟩
theorem yjE (W:World) (Tq:TypeId):(W.alloc (J #[Xb true,E T 0,Xb false] Tq)).cell? (Z W.heap.size 0 N)=G (Xb true):=by simp [go_sem]
theorem ykt (w:World) (hT:Tab w):H I 8 #[] w λ e w'=>e=Q (Xb true)/\Bw w w':=by
 obtain ⟨st,hR,hB,hs⟩:=yc2 w liveU;obtain ⟨w0,ak⟩:=zx ((w.alloc (J zl0 25)).setCells w.heap.size 0 (yac liveU));rw [ak] at st hR hB hs;rw [show ruv liveU= .agg #[E T 345600,E T 4,E T 4,E T 0,E T (-1),Xs N 0 0,Xs N 0 0,Xs N 0 0,Xs N 0 0,Xs N 0 0,Xs N 0 0] from rfl] at st;have ld:=hR.ld;have cL:=hid (yiR liveU w0 (yyf w0) yyg yqK rfl yds);have cA:=hid (λ W (h:Bw w W)=>hT.later h);have ai:=hid hB;clear hR hB hs ak hT;go_enter Tryz.func8,Tryz.ntmps8
 go_wp2_with fail
 refine cL.mono ?_;rintro e w1 ⟨⟨g,rfl,hg⟩,am⟩;have ah:=hid (zu ai am);have cR:=hid (yoM (G (Z g 0 N)) 1 [ycm liveU] w1 zs zs hg (λ h=>by cases h) (ymV yqK yds) (cA _ ah));have Hg:=hid hg;clear ld st cL am hg ai;go_wp2_with fail
 refine cR.mono ?_;rintro e w2 ⟨hx,af⟩;obtain ⟨r,rfl,hs,hn,hm,hG⟩:=yn7 yds hx;have aq:=hid (zu ah af);have al:=Hg.below af;obtain ⟨st,hR,ac,hz⟩:=yc2 w2 r;obtain ⟨w3,aj⟩:=zx ((w2.alloc (J zl0 25)).setCells w2.heap.size 0 (yac r));rw [aj] at st hR ac hz;obtain ⟨bx,ae⟩:=zx w2.heap.size;have ld:=hR.ld;have ap:=hid (zu aq ac);have cL:=hid (yiR r w3 (hs.below ac) hm.mil hn hG.co hG.e);have Hg:=hid (al.below ac);have HR:=hid hR;have HG:=hid hG;have Hn:=hid hn;have Hz:=hid hz;have an:=hid ae;rw [ae] at ld st;clear hx af al hR ac hz hs hn hm hG aj cR ae;go_upto_region 4 with (rw [an])
 go_wp2_with fail
 refine cL.mono ?_;rintro e w4 ⟨⟨g2,rfl,h4⟩,ab⟩;have ag:=hid (zu ap ab);have cE:=hid (yow (G (Z g 0 N)) 1 [ycm liveU] g2 r w4 zs zs (Hg.below ab) (λ h=>by cases h) (ymV yqK yds) (ycB (ybD yds)) h4 Hn HG (cA _ ag));have hk:=(ab.cell (p:=Z w2.heap.size 0 N) HR.lt).trans (HR.c.at 0 rfl);clear ld st cL h4;go_wp2_with fail
 refine zm cE ?_;rintro w5 ad;have hlt:=zH HR.lt ab.size;replace hk:=(ad.cell (p:=Z w2.heap.size 0 N) hlt).trans hk;have aa:=zH hlt ad.size;rw [ywn HG] at hk;have ao:=hid (zu ag ad);clear ab ad cE;have hv:=yjE w5 35;have hb:Bw w5 (w5.alloc (J #[Xb true,E T 0,Xb false] 35)):=yaa (Ye _ _) zg;replace hk:=(hb.cell (p:=Z w2.heap.size 0 N) aa).trans hk;go_upto_region 6 with fail
 generalize hw:w5.alloc (J #[Xb true,E T 0,Xb false] 35)=w6 at hv hb hk⊢
 have HF:=hid (zu ao hb);rw [an] at hk;clear hw hb hlt aa;go_wp2;go_ret;exact ⟨rfl,HF⟩
end
section
attribute [local go_sem] Yw
attribute [local go_sem ↓] ybE yd7 ya3 ybb yce ycz
theorem yzS:El I 49 25 (.agg zl0) 11 184:=⟨Tryz.underlying49,by kernel_rfl,by kernel_rfl,by decide⟩
def rus (L:List Ru):List Value:=L.flatMap yac
theorem yvY (a b:List Ru):rus (a++b)=rus a++rus b:=by rw [rus,rus,rus,ZE]
def AlL (A L:List Ru) (k:Nat):Prop:=L.length=k/\∀j c,j<k->A[j]? =G c->∃r,L[j]? =G r/\RuE c r
theorem AlL.snoc {A L:List Ru} {k:Nat} {c r:Ru} (h:AlL A L k) (hc:A[k]? =G c) (hE:RuE c r):AlL A (L ++ [r]) (k+1):=by
 refine ⟨by rw [YG,h.1];rfl,λ j x hj hx=>?_⟩;by_cases aD:j<k
 ·obtain ⟨r',h1,h2⟩:=h.2 j x aD hx;exact ⟨r',by rw [Yo (by rw [h.1];exact aD)];exact h1,h2⟩
 ·obtain rfl:j=k:=zo;rw [hc] at hx;cases hx;exact ⟨r,by rw [Yl (by rw [h.1];exact zG _),h.1,Nat.sub_self];rfl,hE⟩
def CoR (bg base:Nat) (L:List Ru) (O:Blk) (W:World):Prop:=
 ∃v,W.cell? (Z bg 0 N)=G v/\W.ownsRow base 25 11 v L.length (rus L)/\W.frozen? (Z bg 0 N)=false/\bg<base/\base<=W.heap.size/\O bg/\(∀b,v.ownBlock=G b->O b)/\(∀b,O b->b<W.heap.size)
section
variable {bg base:Nat} {L:List Ru} {O:Blk} {W W':World}
theorem CoR.stab (h:CoR bg base L O W) (hs:W.heap.size<=W'.heap.size) (hO:∀b,O b->W'.heap[b]? =W.heap[b]?):CoR bg base L O W':=by
 obtain ⟨v,h1,h3,h4,h5,h8,g1,g3,g4⟩:=h;exact ⟨v,(zzJ (w:=W) (a:=Z bg 0 N) (hO bg g1)).trans h1,yay h3 (λ b hb=>hO b (g3 b hb)),
  (zzM (w:=W) (a:=Z bg 0 N) (hO bg g1)).trans h4,h5,by omega,g1,g3,λ b hb=>by have:=g4 b hb;omega⟩
theorem CoR.lt (h:CoR bg base L O W):∀b,O b->b<W.heap.size:=by
 obtain ⟨v,h1,h3,h4,h5,h8,g1,g3,g4⟩:=h;exact g4
theorem CoR.app (h:CoR bg base L O W) {v:Value} (hv:W.cell? (Z bg 0 N)=G v) {x:Ru} {a':Option Addr} {aa:Nat} (ho:W'.ownsRow base 25 11 (Xs a' (L.length+1) aa) (L.length+1) (rus L++yac x)) (hg:W.grownBy W' v.ownBlock) (hb:Below base W W')
  (hf:∀k,Value.ownBlock (Xs a' (L.length+1) aa)=G k->v.ownBlock=G k\/ W.heap.size<=k) :
  CoR bg base (L ++ [x]) (λ b=>O b\/ (W.heap.size<=b/\b<W'.heap.size)) (W'.setCell (Z bg 0 N) (Xs a' (L.length+1) aa))/\Eff O W (W'.setCell (Z bg 0 N) (Xs a' (L.length+1) aa))/\W'.frozen? (Z bg 0 N)=false/\(W'.cell? (Z bg 0 N)).isSome=true:=by
 obtain ⟨v',h1,h3,h4,h5,h8,g1,g3,g4⟩:=h;rw [hv] at h1;injection h1 with h1;subst h1;have e1:=yfm hg hv (λ e=>by have:=ya7 h3 e;omega);have hsz:=hg.size;have aE:W'.frozen? (Z bg 0 N)=false:=(hb.frozen (p:=Z bg 0 N) h5).trans h4;have a1:(W'.setCell (Z bg 0 N) (Xs a' (L.length+1) aa)).heap.size=W'.heap.size:=by simp [go_sem]
 refine ⟨⟨Xs a' (L.length+1) aa,by simp [go_sem,e1],?_,by simp [go_sem,aE],h5,by omega, .inl g1,λ b hb=>?_,λ b hb=>?_⟩,⟨hg.os,hg.tape,hg.output,by omega,λ b hb hn=>?_⟩,aE,by rw [e1];rfl⟩
 ·rw [YG,yvY,show rus [x]=yac x from List.append_nil _];exact ownsRow_setCell_below ho (by show bg<base;exact h5) _
 ·rcases hf b hb with h | h
  ·exact .inl (g3 b h)
  ·exact .inr ⟨h,(ya7 ho hb).2⟩
 ·rcases hb with h | h
  ·have:=g4 b h;omega
  ·omega
 ·have aT:b≠bg:=λ e=>hn (e ▸ g1);rw [Ym _ _ _ _ aT];exact hg.block b hb (λ e=>hn (g3 b e.symm))
end
theorem yyZ {r:Option Nat} {nn:Nat} {W:World} {az:Array Oper} {rest:List Oper} {o:Oper} {a:Act} {Qq:Exit->Act->World->Prop} (s x:Operand)
  (aV:o.guard=N) (ho:o.op= .call {callee:= .builtin .append,args:=#[s,x],argTypes:=#[49,49]})
  {base:Nat} {v:Value} {n:Nat} {xs:List Value} {y:Ru} (hs:a.eval s=v) {g:Nat} (hx:a.eval x=Xs (G (Z g 0 N)) 1 1) (hg:g=W.heap.size) (ac:W.ownsRow base 25 11 v n xs) (hn:n<=1000000) (aj:base<=W.heap.size)
  (K:∀a' aa w',w'.ownsRow base 25 11 (Xs a' (n+1) aa) (n+1) (xs++yac y)->W.grownBy w' v.ownBlock->Below base W w'->
    (∀k,Value.ownBlock (Xs a' (n+1) aa)=G k->v.ownBlock=G k\/ W.heap.size<=k)->wpListIn (WF r) nn I az Qq rest (a.put o.dst (Xs a' (n+1) aa)) w') :
  wpListIn (WF r) nn I az Qq (o::rest) a (W.alloc (J (yac y).toArray 25)):=by
 subst hg;refine yrM yzS s x aV ho hs hx (ac.alloc _) (news:=yac y) rfl ?_ (λ h=>by cases h) ?_ zo zo (by simp;omega) ?_
 ·refine .inr ⟨W.heap.size,0,rfl,by simp,λ j hj=>?_⟩;have h:=ybh W y 25 j (yac y)[j] (zzp hj);exact h
 ·intro u hu;simp [yac] at hu;rcases hu with rfl | rfl | rfl | rfl | rfl | rfl | rfl | rfl | rfl | rfl | rfl <;> rfl
 ·intro a' aa w' h1 h2 h3 h4;refine K a' aa w' h1 (ycM (World.grownBy_alloc W _ _) h2) (((Ye base W).alloc aj _).trans h3) (λ k hk=>?_);rcases h4 k hk with h | h
  ·exact .inl h
  ·refine .inr (zI ?_ h);simp
def ApI (A:List Ru) (bg base:Nat):ydC:=λ k O F W=>∃L:List Ru,AlL A L k/\(∀r∈L,RuK F r W)/\CoR bg base L O W
theorem yjg (A:List Ru) (bg base:Nat):StabF noM (ApI A bg base):=λ k O F F' W W' ⟨L,h1,h2,h3⟩ hs hF hO=>⟨L,h1,λ r hr=>(h2 r hr).keep hs hF (λ b hb=>hO b (.inr ⟨hb,λ h=>h⟩)),h3.stab hs (λ c hc=>hO c (.inl hc))⟩
def RsP (A:List Ru) (e:Ending) (w':World):Prop:=∃a cap L,e=Q (Xs a L.length cap)/\Sl w' a (rus L)/\AlL A L A.length/\(∀r∈L,RuS w' r)
theorem ydi (u:Nat->Nat) (r:Ru) (hows:List Int) (h:hows.length<=3):(ya9 u r hows).length<=6:=by rw [ybr];omega
theorem yv9 (u:Nat->Nat) (fi la:Int) (g:Nat->Int) (q:Nat):(ofL u fi la g q).length<=12:=by
 rw [ofL];split
 ·simp
 ·split
  ·exact zI (ydi _ _ _ zd) zo
  ·split
   ·rw [YG];have h1:=ydi u (ybR u fi la g q) [0,1,2] zd;have h2:=ydi u {ybR u fi la g q with l5:= []} [1,2] zd;omega
   ·exact zI (ydi _ _ _ zd) zo
theorem ykj (u:Nat->Nat) (fi la n:Int) (g:Nat->Int):(ycT u fi la n g).length<=1000:=by
 rw [ycT];split
 ·simp
 ·have:=ygj (yfu u fi la g) 12 (λ q=>zI (List.length_filter_le _ _) (yv9 u fi la g q)) qL;rw [show qL.length=7 from rfl] at this;rw [yeT];omega
def ApX (h2 h5:Value) (ds:List Deferred) (a:Act):Prop:=∃V:Nat->Value,a= {tmps:=#[V 0,V 1,h2,V 3,V 4,h5,V 6,V 7,V 8,V 9,V 10,V 11,V 12],defers:=ds}
theorem ApX.of {t:Array Value} {h2 h5:Value} {ds:List Deferred} (hs:t.size=13:=by rfl) (k2:tg t 2=h2:=by rfl) (k5:tg t 5=h5:=by rfl):ApX h2 h5 ds {tmps:=t,defers:=ds}:=⟨tg t,by subst_vars;exact tgE hs ds⟩
theorem yuY (bf bp:Nat) (u:Nat->Nat) (fi la n:Int) (ev sq:Bool) (g:Nat->Int) (w:World) (hu:∀i,i<46->u i<18446744073709551616) (h6:∀x∈mkN (u 6),x<8) (hf:FcB bf u fi la n ev sq w) (hp:Ar7 bp g w) (hb:bf<w.heap.size/\bp<w.heap.size) (hT:Tab w) :
  H I 98 #[Xs N 0 0,Xf (.func 56) #[] #[R (G (Z bf 0 N)),R (G (Z bp 0 N))]] w λ e w'=>RsP (ycT u fi la n g) e w'/\Bw w w':=by
 obtain ⟨W1,ab⟩:=zx (w.alloc (J #[Xs N 0 0] 49));have ag:Bw w W1:=by rw [<- ab];exact yaa (Ye _ _) zg
 have s1:W1.heap.size=w.heap.size+1:=by rw [<- ab];simp
 have cg:W1.cell? (Z w.heap.size 0 N)=G (Xs N 0 0):=by rw [<- ab];simp [go_sem]
 have zg:W1.frozen? (Z w.heap.size 0 N)=false:=by rw [<- ab];simp [go_sem]
 have aw:=ykj u fi la n g;have tl:=ykx bf bp u fi la n ev sq g hu h6;generalize hA:ycT u fi la n g=A at aw tl⊢
 obtain ⟨bg,ap⟩:=zx w.heap.size;have h0:0<w.heap.size:=hT.1;have aF:ApI A bg W1.heap.size 0 (λ b=>b=bg) (λ b=>b=0\/ b=bf\/ b=bp) W1:=by
  rw [<- ap];exact ⟨[],⟨rfl,λ j c h=>absurd h (Nat.not_lt_zero _)⟩,(λ r h=>nomatch h),_,cg,ZA _ _ _ _,zg,by omega,zG _,rfl,(λ b h=>nomatch h),λ b hb=>by omega⟩
 have aG:yjz bf bp u fi la n ev sq g (λ b=>b=0\/ b=bf\/ b=bp) W1:=
  ⟨⟨hf.block ag.size (ag.block _ hb.1),hT.later ag,⟨.inr (.inl rfl), .inl rfl⟩,λ b aq=>by
   rcases aq with h | h | h
   ·have:b=0:=h;omega
   ·omega
   ·omega⟩,hp.block ag.size (ag.block _ hb.2), .inr (.inr rfl)⟩
 have aI:∀b,(b=0\/ b=bf\/ b=bp)->¬b=bg:=λ b aq h=>by
  rcases aq with k | k | k
  ·have:b=0:=k;omega
  ·omega
  ·omega
 have HX:=hid (Ya tl (Ya aG (Ya aI (Ya aF aw))));have ay:=hid ab;have aQ:=hid ag;have S1:=hid s1;have aO:=hid ap;clear tl aG aI aF aw ab ag s1 cg zg ap hf hp hT hu h6 hA h0 hb;refine (wf_calls (r:=N) (n:=1)).mp ?_;refine callsIn_of_wp_marks Tryz.func98 rfl trivial ?_ rfl;simp only [Tryz.ntmps98,Yp,Yu,YS,Nat.reduceAdd,Nat.reduceSub,YE,YD,YQ,YJ,Y0,YH];gi_upto_region 1 with fail
 rw [ay,aO];gi_wp2_with fail
 refine ybs (F:=λ b=>b=0\/ b=bf\/ b=bp) (M:=noM) (gf:=56) (lb:=#[R (G (Z bf 0 N)),R (G (Z bp 0 N))]) rfl ygx (λ b=>b=bg)
  (λ k vs F W h=>by obtain ⟨_,_,_,rfl,_⟩:=h;rfl) HX.1 yjz.host yjz.host yjz.host HX.2.1 HX.2.2.1
  (ApI A bg W1.heap.size) (λ _ _ _ _ _=>False) (yjg _ _ _) (λ c k O F F' W W' h _ _ _=>h.elim) (λ k O F W ⟨L,_,_,h⟩=>h.lt) (λ c k O F W h=>h.elim) HX.2.2.2.1
  (λ k O F a' W=>ApI A bg W1.heap.size k O F W/\(∀b,F b->¬O b/\b<W.heap.size)/\∃c rq bx,A[k]? =G c/\RuE c rq/\RuK F rq W/\RuB W bx rq/\ApX (R (G (Z bg 0 N))) (R (G (Z bx 0 N))) [] a')
  ?putl ?assign ?body ?done ?stop
 case putl=>
  rintro l' o k O F a' W hr hO hF ⟨h1,h4,c,rq,bx,h5,h6,h7,h8,h9⟩;have ko:∀b,b≠l'->(W.putObj l' o).heap[b]? =W.heap[b]?:=λ b hb=>Yc hb;have ks:W.heap.size<=(W.putObj l' o).heap.size:=by rw [Yg];exact zG _
  exact ⟨yjg _ _ _ k O F F W _ h1 ks zi (λ b hb=>ko b (λ e=>hb.elim (λ h=>hO (e ▸ h)) (λ h=>hF (e ▸ h.1)))),λ b hb=>⟨(h4 b hb).1,by rw [Yg];exact (h4 b hb).2⟩,c,rq,bx,h5,h6,h7.keep ks zi (λ b hb=>ko b (λ e=>hF (e ▸ hb))),yiF h8 hr,h9⟩
 case assign=>
  rintro l' k O9 F9 W9 vs K hk h1 hd ⟨c,rq,hc,rfl,hE,af,al⟩ hG hK;obtain ⟨m1,m2,m3,m4⟩:=yc2 W9 rq;obtain ⟨w7,aB⟩:=zx ((W9.alloc (J zl0 25)).setCells W9.heap.size 0 (yac rq));rw [aB] at m1 m2 m3 m4;have ks:=m3.size;have kb:∀b,b<W9.heap.size->w7.heap[b]? =W9.heap[b]?:=λ b hb=>m3.block b hb;have hlt:∀b,O9 b->b<W9.heap.size:=by obtain ⟨L,_,_,h⟩:=h1;exact h.lt
  have hA:Hid (ApI A bg W1.heap.size k O9 F9 w7/\(∀b,F9 b->¬O9 b/\b<w7.heap.size)/\RuK F9 rq w7/\RuB w7 W9.heap.size rq):=
   ⟨yjg _ _ _ k O9 F9 F9 W9 w7 h1 ks zi (λ b hb=>kb b (hb.elim (hlt b) (λ h=>al b h.1))),λ b hb=>⟨(hd b hb).1,zH (al b hb) ks⟩,af.keep ks zi (λ b hb=>kb b (al b hb)),m2.c⟩
  have hg:Hid (yaJ O9 O9 W9 w7):=⟨λ _ h=>h,λ _ h=> .inl h,Eff.of_below m3⟩;have aN:=hid (Ya hc hE);clear m2 m3 m4 aB ks kb h1 hd af al hc hE hG hlt;gi_wp2
  exact hK _ O9 _ hg ⟨hA.1,hA.2.1,c,rq,_,aN.1,aN.2,hA.2.2.1,hA.2.2.2,ApX.of⟩
 case body=>
  rintro l' k O9 F9 a' W9 hk hG a3 aS a2 aC ⟨⟨L,ad,ae,ai⟩,ah,c,rq,bx,hc,hE,af,ak,⟨U9,rfl⟩⟩;have au:=ai;obtain ⟨v,h1,h3,h4,h5,h8,g1,g3,g4⟩:=au;have a0:=ak.ldw;have an:L.length<=1000000:=by have:=HX.2.2.2.2;rw [ad.1];omega
  have H3:=hid h3;have H8:=hid h8;have H1:=hid h1;have HY:=hid (Ya ad (Ya ae (Ya ai (Ya ah (Ya hc (Ya hE af))))));clear ad ae ai ah hc hE af ak h3 h5 h8 g1 g3 g4 hG hk h4;gi_wp2_with (gi_at_builtin;refine yyZ (y:=rq) (.tmp 8) (.tmp 10) rfl rfl rfl rfl rfl H3 an H8 ?_)
  intro a' aa w' ac hg hb hf;obtain ⟨ad,ae,ai,ah,hc,hE,af⟩:=HY.out;obtain ⟨k1,k2,k3,k4⟩:=ai.app H1 (x:=rq) ac hg hb hf;obtain ⟨uu,k5⟩:=Option.isSome_iff_exists.1 k4;have a4:=hg.size;have HK:Hid (yaJ O9 (λ b=>O9 b\/ (W9.heap.size<=b/\b<w'.heap.size)) W9 (w'.setCell (Z bg 0 N) (Xs a' (L.length+1) aa))/\ApI A bg W1.heap.size (k+1) (λ b=>O9 b\/ (W9.heap.size<=b/\b<w'.heap.size)) F9 (w'.setCell (Z bg 0 N) (Xs a' (L.length+1) aa))):=by
   refine ⟨⟨λ _ h=> .inl h,λ b h=>h.elim .inl (λ h=> .inr h.1),k2⟩,L ++ [rq],ad.snoc hc hE,λ r hr=>?_,k1⟩;have kk:∀r',RuK F9 r' W9->RuK F9 r' (w'.setCell (Z bg 0 N) (Xs a' (L.length+1) aa)):=λ r' h=>h.keep k2.size zi (λ b hb=>k2.block b (ah b hb).2 (ah b hb).1);rcases YC.1 hr with h | h
   ·exact kk r (ae r h)
   ·rw [Yy] at h;rw [h];exact kk rq af
  clear ac hg hb hf k1 k2 k4 H3 H8 H1 ad ae ai ah hc hE af HY h1;gi_wp2
  exact ⟨_,HK⟩
 case stop=>
  intro c k O' F' W' _ _ _ _ _ _ _ h;exact h.elim
 case done=>
  rintro O9 F9 w9 aH aW aX aY ar ⟨L,ad,ae,v,h1,h3,h4,h5,h8,g1,g3,g4⟩ hD aU aC;have ks:w9.heap.size<=(w9.putObj W1.heap.size (.deferred N)).heap.size:=by rw [Yg];exact zG _
  have aM:=yay (w':=w9.putObj W1.heap.size (.deferred N)) h3 (λ b hb=>Yc (λ e=>aU (e ▸ g3 b hb)));obtain ⟨a,cap,rfl,hs,ao⟩:=yaL aM;have ak:Bw w (w9.putObj W1.heap.size (.deferred N)):=yaM (aQ.trans (aH.eff.below (λ b hb=>by
   rcases hb with h | h
   ·have:=aO.out;omega
   ·exact h.elim) aQ.size)) (zp S1.out) _
  have HR:Hid (Sl (w9.putObj W1.heap.size (.deferred N)) a (rus L)/\AlL A L A.length/\(∀r∈L,RuS (w9.putObj W1.heap.size (.deferred N)) r)/\Bw w (w9.putObj W1.heap.size (.deferred N))):=
   ⟨hs,ad,λ r hr=>((ae r hr).keep ks zi (λ b hb=>Yc (λ e=>aC (e ▸ hb)))).s,ak⟩
  have HD:=hid hD;clear hs ad ae h3 aM ao aH aW aX aY ar hD h4 h5 h8 g1 g3 g4 ak ks;gi_wp2
  refine ⟨by simp, .inl ⟨_,_,rfl,YM HD,?_⟩⟩;obtain ⟨r1,r2,r3,r4⟩:=HR.out;exact ⟨_,results_tmp rfl _ _ _,⟨a,cap,L,rfl,r1,r2,r3⟩,r4⟩
theorem yoL (u:Nat->Nat) (fi la n:Int) (ev sq:Bool) (g:Nat->Int) (w:World) (hu:∀i,i<46->u i<18446744073709551616) (h6:∀x∈mkN (u 6),x<8) (hT:Tab w) :
  H I 15 #[fcv u fi la n ev sq,yhy g] w λ e w'=>RsP (ycT u fi la n g) e w'/\Bw w w':=by
 have hA:=yfo w 43 u fi la n ev sq;have e0:(w.alloc (J (fcL u fi la n ev sq).toArray 43)).heap.size=w.heap.size+1:=zzN _ _;have b0:Bw w (w.alloc (J (fcL u fi la n ev sq).toArray 43)):=yaa (Ye _ _) zg;rw [yg8];generalize aL:(fcL u fi la n ev sq).toArray=A at hA e0 b0⊢
 obtain ⟨W0,am⟩:=zx (w.alloc (J A 43));rw [am] at hA e0 b0;have hP:=ylO W0 g 46;have b1:Bw W0 (W0.alloc (J (L7 g).toArray 46)):=yaa (Ye _ _) zg;have e1:(W0.alloc (J (L7 g).toArray 46)).heap.size=W0.heap.size+1:=zzN _ _;rw [show yhy g= .agg (L7 g).toArray from rfl];generalize aK:(L7 g).toArray=AG at hP b1 e1⊢
 obtain ⟨W1,ab⟩:=zx (W0.alloc (J AG 46));rw [ab] at hP b1 e1;have ax:=hA.block b1.size (b1.block _ hA.lt);have hB:=zu b0 b1;have aR:=ax.ld;have aA:(yiS (R (G (Z W0.heap.size 0 N)))).run I W1= .ok (yhy g) W1:=hP.ld;rw [e0] at aA;have cA:=hid (λ W=>ykw u fi la n ev sq g W);have cC:Hid (∀W bf bp,FcB bf u fi la n ev sq W->Ar7 bp g W->bf<W.heap.size/\bp<W.heap.size->Tab W->H I 38 #[Xf (.func 56) #[] #[R (G (Z bf 0 N)),R (G (Z bp 0 N))]] W λ e w'=>RsP (ycT u fi la n g) e w'/\Bw W w'):=λ W bf bp h1 h2 h3 h4=>by
  have c1:=hid (yuY bf bp u fi la n ev sq g W hu h6 h1 h2 h3 h4);clear h1 h2 h3 h4 cA aR aA ax hB hP b1 e1 hA e0 b0 aL am aK ab;go_enter Tryz.func38,Tryz.ntmps38
  go_wp2_with fail
  refine c1.mono ?_;rintro e w1 ⟨⟨a,cap,L,rfl,r1,r2,r3⟩,hB⟩;have HR:=hid (Ya r1 (Ya r2 (Ya r3 hB)));clear r1 r2 r3 hB;go_wp2;go_ret;exact ⟨⟨a,cap,L,rfl,HR.1,HR.2.1,HR.2.2.1⟩,HR.2.2.2⟩
 have aZ:=hid am;have ay:=hid ab;have HB:=hid hB;have HT:=hid (hT.later hB);have E0:=hid e0;clear aL hA e0 b0 am hP b1 e1 aK ab ax hB hT hu h6;go_enter Tryz.func15,Tryz.ntmps15
 go_upto_region 1 with fail
 rw [aZ];rw [ay];go_wp2_with fail
 refine zm (cA W1) ?_;rintro w2 ⟨av,s2,f2,p2⟩;have c2:=hid (cC w2 _ _ f2 p2 zo (HT.later av));have aP:=hid (zu HB av);clear av s2 f2 p2;go_wp2_with fail
 refine c2.mono ?_;rintro e w3 ⟨⟨a,cap,L,rfl,r1,r2,r3⟩,aJ⟩;have HR:=hid (Ya r1 (Ya r2 (Ya r3 (zu aP aJ))));clear r1 r2 r3 aJ;go_wp2;go_ret;exact ⟨⟨a,cap,L,rfl,HR.1,HR.2.1,HR.2.2.1⟩,HR.2.2.2⟩
end
section
section
variable {l:List Cl} {u:Nat->Nat} {fi la n:Int} {ev sq:Bool} {g:Nat->Int}
theorem yrO {x:Ru} (hx:x∈yeT u fi la g):yag x=0:=by
 rw [yeT,Zi] at hx;obtain ⟨q,-,hx⟩:=hx;rw [yfu,Y5] at hx;exact Y8 hx.2
theorem yy2 (h:ybL l u fi la n ev sq) (hg:BtP l g) (hn:n≠0):yeT u fi la g≠ []:=λ e=>by
 have aa:=yg9 h hn;have h5:=(ydu (how:=0) h aa).2.2.2.1 3 zo;have hv:ysE 3 false 0:=⟨by omega, .inl rfl,λ h=>(h rfl).elim,λ h=>by cases h⟩;have hm:cnd u fi la g 3 false false 0∈yeT u fi la g:=by
  rw [yeT,Zi];refine ⟨3,by decide,?_⟩;rw [yfu,Y5];exact ⟨yrH h5 hv,zzZ (yvu (neg:=false) h hg hv aa (λ h=>(h rfl).elim)).1⟩
 rw [e] at hm;cases hm
theorem yw5 (h:ybL l u fi la n ev sq) (hg:BtP l g) (hn:n≠0) {x:Ru} (hx:x∈yeT u fi la g):(x.st=fi/\x.un=la/\x.co=0)/\yc5 x=0/\∀t,yaj l t=true->yaj [ycm x] t=true:=by
 have aa:=yg9 h hn;obtain ⟨p1,p2,p3,p4,-⟩:=ydu (how:=0) h aa;have hc:=yrO hx;obtain ⟨q,ab,neg,how,hv,e⟩:=yvz (p4 3 zo) hx;have hb:=hg.bd hv.lt;have e1:x.st=fi/\x.un=la/\x.co=0:=by rw [e];exact ⟨rfl,rfl,rfl⟩
 have e2:x.iv=max (g q) 1:=by rw [e];rfl
 refine ⟨e1,?_,λ t ht=>(ycW hc t).2 ⟨by rw [e];exact yvv h hg hv ht,?_⟩⟩
 ·rw [yc5,Yd hc,Yb (by rw [e2,e1.2.2];omega)]
 ·rw [yqF e1.2.2];show t<=if x.un= -1 then 12622780799 else x.un;rw [e1.2.1];have h1:=(p3 t ht).2;have h2:=(yaC p1).1;have h3:=(yaC ht).1;rw [Yb zo];exact h1
end
theorem ynR {la lb:List Cl} {y:Bool} {t:Int} {f:Bool} {er:Int} (h:yzo (λ p q=>p && !q) la lb y t f er) (ha:yaf la=0) (hb:yaf lb=0) (hs:∀t,yaj la t=true->yaj lb t=true):er=0/\y=true/\t=0/\f=false:=by
 obtain ⟨h1,-,h3⟩:=h;have e:er=0:=by rw [h1,yfP,ha,hb];rfl
 rcases h3 e with ⟨-,k⟩ | ⟨⟨-,-,k,-⟩,-⟩
 ·exact ⟨e,k⟩
 ·dsimp only at k;rw [zzX] at k;rw [hs _ k.1] at k;cases k.2
end
section
attribute [local irreducible] yap
attribute [local go_sem ↓] ya3 ybE yd7 yce ycz
theorem yvW (l:List Ru):(rus l).length=l.length*11:=by
 induction l with
 | nil=>rfl
 | cons r l ih=>rw [show rus (r::l)=yac r++rus l from ZZ,YG,ih,show (yac r).length=11 from rfl,Yu];omega
theorem yvX (l:List Ru):∀(k:Nat) (hk:k<l.length) (i:Nat) (hi:i<11),(rus l)[k*11+i]? = (yac l[k])[i]?:=by
 induction l with
 | nil=>intro k hk;simp at hk
 | cons r l ih=>
   intro k hk i hi;rw [show rus (r::l)=yac r++rus l from ZZ];cases k with
   | zero=>
     rw [ZJ,zzn,Yo (by exact hi)];rfl
   | succ k=>
     rw [Yl (by show 11<=_;omega),show (k+1)*11+i-(yac r).length=k*11+i by show (k+1)*11+i-11= _;omega,ih k (by simp at hk;omega) i hi];rfl
theorem Sl.atRu {w:World} {a:Option Addr} {l:List Ru} (h:Sl w a (rus l)) {k:Nat} (hk:k<l.length) :
  ∃b off,a=G (Z b off N)/\b<w.heap.size/\w.rangeAt b (off+k*11) (yac l[k]):=by
 obtain ⟨b,off,rfl,hlt,hc⟩:=Sl.at h (k:=k*11) (by rw [yvW];omega);refine ⟨b,off,rfl,hlt,λ j v hv=>?_⟩;have hj:j<11:=(zzq.1 hv).1;rw [<- yvX l k hk j hj] at hv;obtain ⟨h1,h2⟩:=zzq.1 hv;rw [ZN,hc _ h1,h2]
theorem yxN {W:World} {b o:Nat} {r:Ru} (h:W.rangeAt b o (yac r)):(yc6 (R (G (Z b o N)))).run I W= .ok (ruv r) W:=by
 unfold yc6;simp only [Instr.loadAt,Instr.sureAddr,ZC,ZR,Zf,Zr W b o 25 (yac r) _ h Tryz.underlying25 rfl yg6]
theorem ykZ (a:Option Addr) (cap:Nat) (l:List Cl) (g:Nat) (r:Ru) (w:World) (hl:l.length<=1000) (af:l.length<=cap) (hs:Sl w a (cls l)) (ae:a=N->cap=0) (ac:∀c∈l,c.Ok) (hf:yaf l=0) (hg:Sl w (G (Z g 0 N)) (cls [ycm r])) (hn:r.Num) (h0:yc5 r=0) (hG:∀t,yaj l t=true->yaj [ycm r] t=true) (hT:Tab w) :
  H I 17 #[Xs a l.length cap,Xs (G (Z g 0 N)) 1 1] w λ e w'=>e=Q (Xt #[.agg #[Xb true,E T 0,Xb false],E T 0])/\Bw w w':=
 (ykI a cap l (G (Z g 0 N)) 1 [ycm r] w hl af hs ae ac zs zs hg (λ h=>by cases h) (ymV hn h0) hT).mono λ e w' h=>⟨by
   obtain ⟨y,t,f,er,h1,h2⟩:=h.1;obtain ⟨rfl,rfl,rfl,rfl⟩:=ynR h2 hf (ycB (ybD h0)) hG;exact h1,h.2⟩
structure FaR (l:List Cl) (fi la:Int) (r:Ru):Prop where
 st:r.st=fi
 un:r.un=la
 co:r.co=0
 c:yag r=0
 e:yc5 r=0
 n:r.Num
 m:r.Sm 1000000
 i:∀t,yaj l t=true->yaj [ycm r] t=true
theorem ypX {l:List Cl} {u:Nat->Nat} {fi la n:Int} {ev sq:Bool} {g:Nat->Int} (h:ybL l u fi la n ev sq) (hg:BtP l g) {L:List Ru} (hL:AlL (ycT u fi la n g) L (ycT u fi la n g).length) :
  ((n=0/\L.length=0)\/ (n≠0/\0<L.length))/\L.length<=1000/\∀r∈L,FaR l fi la r:=by
 have aj:L.length<=1000:=by rw [hL.1];exact ykj u fi la n g
 by_cases hn:n=0
 ·have e:ycT u fi la n g= []:=by rw [ycT,Yd hn]
  rw [e] at hL;have h0:L.length=0:=hL.1;exact ⟨.inl ⟨hn,h0⟩,aj,λ r hr=>by rw [YB h0] at hr;cases hr⟩
 ·have e:ycT u fi la n g=yeT u fi la g:=by rw [ycT,Yb hn]
  rw [e] at hL;refine ⟨.inr ⟨hn,by rw [hL.1];exact List.length_pos_iff.2 (yy2 h hg hn)⟩,aj,λ r hr=>?_⟩;obtain ⟨j,hj,rfl⟩:=Zt hr;obtain ⟨c,hc⟩:∃c,(yeT u fi la g)[j]? =G c:=⟨_,zzp (by rw [<- hL.1];exact hj)⟩;obtain ⟨r,h1,hE⟩:=hL.2 j c (by rw [<- hL.1];exact hj) hc;rw [zzp hj] at h1;cases h1;have hm:=YN hc;have hb:=h.bd;obtain ⟨q1,q2,q3⟩:=ylR hb.1 hb.2.1 (λ q hq=>by have:=hg.bd hq;unfold yax;omega) c hm;obtain ⟨⟨p1,p2,p3⟩,p4,p5⟩:=yw5 h hg hn hm;obtain ⟨e0,e1,e2,e3,e4,-⟩:=RuE.iff.1 hE;have hl:yc5 L[j]=yc5 c/\ycm L[j]=ycm c:=by rw [hE];exact ⟨rfl,rfl⟩
  exact ⟨e0.trans p1,e4.trans p2,e3.trans p3,by rw [hE.check];exact q2,by rw [hl.1];exact p4,(hE.num q1).1,(hE.sm q3).mil,λ t ht=>by rw [hl.2];exact p5 t ht⟩
structure FaS (w:World) (b off b5:Nat) (fi la:Int) (r:Ru) (W:World):Prop where
 g:W.rangeAt b off (yac r)
 c0:W.cell? (Z b off N)=G (E T fi)
 c4:W.cell? (Z b (off+4) N)=G (E T la)
 c3:W.cell? (Z b (off+3) N)=G (E T 0)
 f0:W.cell? (Z b5 46 N)=G (E T fi)
 f4:W.cell? (Z b5 47 N)=G (E T la)
 s:RuS W r
 lt:b<W.heap.size/\b5<W.heap.size
 be:Bw w W
theorem FaS.keep {w W W':World} {b off b5:Nat} {fi la:Int} {r:Ru} (h:FaS w b off b5 fi la r W) (hB:Bw W W'):FaS w b off b5 fi la r W':=
 ⟨ya6 h.g hB h.lt.1,(hB.cell (p:=Z b off N) h.lt.1).trans h.c0,(hB.cell (p:=Z b (off+4) N) h.lt.1).trans h.c4,(hB.cell (p:=Z b (off+3) N) h.lt.1).trans h.c3,(hB.cell (p:=Z b5 46 N) h.lt.2).trans h.f0,(hB.cell (p:=Z b5 47 N) h.lt.2).trans h.f4,h.s.below hB,⟨zH h.lt.1 hB.size,zH h.lt.2 hB.size⟩,h.be.trans (hB.mono h.be.size)⟩
theorem yf6 (a:Option Addr) (cap:Nat) (l:List Cl) (x:Nat) (w:World) (ai:l.length<=9223372036854775807) (af:l.length<=cap) (hs:Sl w a (cls l)) (ae:a=N->cap=0) (ac:∀c∈l,c.Ok) (hx:x<256) (hT:Tab w) :
  H I 4 #[Xs a l.length cap, .int .u8 x] w λ e w'=>e=Q (Xb true)/\Bw w w':=by
 have cV:=hid (λ W (hB:Bw w W)=>ykt W (hT.later hB));have H0:Hid (Bw w w):=Ye _ _;by_cases h8:8<l.length
 ·have q:(8:Int)<l.length:=zo;clear h8 ai af hs ae ac hT;go_enter Tryz.func4,Tryz.ntmps4
  go_wp2_with fail
  refine zm (cV _ H0) ?_;rintro wz hB;have HF:=hid (zu H0 hB);clear hB;go_wp2;go_ret;exact ⟨rfl,HF⟩
 have q:¬(8:Int)<l.length:=zo;have cM:=hid (yoT a cap l w zo hs ac);rw [ycd] at cM;by_cases hf:yaf l=0;rotate_left
 ·rw [zzd hf] at cM;clear h8 ai af hs ae ac hT hf;go_enter Tryz.func4,Tryz.ntmps4
  go_wp2_with fail
  refine zm cM ?_;rintro w1 hB;have H1:=hid hB;clear hB;go_wp2_with fail
  refine zm (cV _ H1) ?_;rintro wz hB;have HF:=hid (zu H1 hB);clear hB;go_wp2;go_ret;exact ⟨rfl,HF⟩
 rw [zzZ hf] at cM;have cC:=hid (λ W (hB:Bw w W)=>ysx a cap l W ai af (hs.below hB) ae ac (hT.later hB));have cP:=hid (λ W (hB:Bw w W)=>ysg a cap l W ai af (hs.below hB) ae ac (hT.later hB));have cR:=hid (λ u fi la n ev sq g W hu h6 (hB:Bw w W)=>yoL u fi la n ev sq g W hu h6 (hT.later hB));have cK:=hid (λ r W hr hm=>yoU r W hr hm);have cL:=hid (λ r W (hB:Bw w W) hr hm hn hz=>yiR r W hr hm hn hz);have cW:=hid (λ g r W (hB:Bw w W) hg hn h0 hG=>ykZ a cap l g r W zo af (hs.below hB) ae ac hf hg hn h0 hG (hT.later hB));have Hf:=hid hf;clear h8 ai af hs ae ac hT hf;go_enter Tryz.func4,Tryz.ntmps4
 go_wp2_with fail
 refine zm cM ?_;rintro w1 hB;have H1:=hid hB;have aK:=hid (cC w1 hB);clear hB cM cC;go_wp2_with fail
 refine aK.mono ?_;rintro e w2 ⟨hC,aq⟩;rcases hC with ⟨hf,rfl⟩ | ⟨-,u,fi,la,n,ev,sq,rfl,aH⟩
 ·exact absurd Hf.out hf
 obtain ⟨w3,st3,A3,B3⟩:=yrp w2 u fi la n ev sq;obtain ⟨b5,e5⟩:=zx w2.heap.size;have aA:=hid ((zu H1 aq).trans (B3.mono (zI H1.size aq.size)));have aJ:=hid (cP w3 aA);have av:=A3.out;rw [e5] at st3 av;have aD:=hid av;have an:=hid aH;have E5:=hid e5;clear B3 aq A3 cP aK aH e5 av;go_wp2_with (first | rw [E5] | fail)
 refine aJ.mono ?_;rintro e w4 ⟨⟨g,rfl,-,hg⟩,ap⟩;rw [Hf];obtain ⟨w5,aL,A5,B5⟩:=yx0 w4 g;obtain ⟨b7,e7⟩:=zx w4.heap.size;have ad:Bw w3 w5:=zu ap B5.out;have au:=aD.block ad.size (ad.block _ aD.lt);have ao:=A5.out;rw [e7] at aL ao;have aN:=au.ld;have aM:=ao.ld;have az:=hid (zu aA ad);have aC:=hid au;have Hg:Hid (BtP l g):=hg Hf.out;have E7:=hid e7;have aI:=hid (cR u fi la n ev sq g w5 an.lt (ykf an) az);clear ad au ao ap hg B5 A5 aJ cR e7 aD;go_wp2_with (first | rw [E7] | fail)
 refine aI.mono ?_;rintro e w6 ⟨⟨a2,aP,L,rfl,r1,r2,r3⟩,am⟩;obtain ⟨hn,aO,hR⟩:=ypX an Hg r2;have a6:(L.length:Int)<=1000:=zo;have ag:=hid (zu az am);have ar:=aC.block am.size (am.block _ aC.lt);have c48:=ar.c48;have aB:=hid ar;have aw:=hid r1;have ax:=hid r3;have HR:=hid hR;clear ar am r1 r2 r3 hR aI aN aM an Hg aC aO;obtain ⟨FV,aG⟩:=zx (fcv u fi la n ev sq);obtain ⟨GV,aF⟩:=zx (yhy g);rw [aG,aF];clear aG aF;rcases hn with ⟨rfl,ak⟩ | ⟨hn,ak⟩
 ·have q0:((L.length:Int)==0)=true:=by rw [ak];rfl
  clear ak;go_wp2_with fail
  refine zm (cV _ ag) ?_;rintro wz hB;have HF:=hid (zu ag hB);clear hB;go_wp2;go_ret;exact ⟨rfl,HF⟩
 have q1:(n==0)=false:=by simpa using hn
 have q2:((L.length:Int)==0)=false:=ZD.2 zo;have q3:(0:Int)<L.length:=zo;have aT:=hid ak;clear hn ak;go_wp2_with fail
 go_loopw [10] (λ i wr=>∃k:Nat,i=E T k/\k<=L.length/\Hid (Bw w6 wr)) (λ i _=>L.length-(intOf i).toNat)
 case atStart=>exact ⟨0,rfl,by omega,Ye _ _⟩
 case round=>
  obtain ⟨k,rfl,hk,HB⟩:=hrel;by_cases hlt:k<L.length
  ·obtain ⟨b,off,rfl,hb,hr⟩:=Sl.atRu aw hlt;have hF:=HR _ (zzr hlt);have hS:=ax _ (zzr hlt);obtain ⟨r,ah⟩:=zx (L[k]);rw [ah] at hr hF hS;have g0:=hr 0 _ rfl;have g3:=hr 3 _ rfl;have g4:=hr 4 _ rfl;rw [hF.st,Nat.add_zero] at g0;rw [hF.co] at g3;rw [hF.un] at g4;have aV:Hid (FaS w b (off+k*11) b5 fi la r wr):=
    FaS.keep ⟨hr,g0,g4,g3,aB.c46,aB.c47,hS,⟨hb,aB.lt⟩,ag⟩ HB
   have aS:Hid (∀W,FaS w b (off+k*11) b5 fi la r W->H I 16 #[ruv r] W λ e w'=>e=Q (E T 0)/\Bw W w'):=λ W h=>by
    have:=cK r W h.s hF.m;rwa [hF.c] at this
   have qk:(k:Int)<L.length:=zo;have a1:¬(k:Int)<0:=zo;have a0:(0:Int)<=k:=zo;have aU:=hid (aV.keep (Ye _ _).drew);have aW:=hid (HB.drew);clear hr hF hS g0 g3 g4 ah hb hlt;go_upto_region 13 with fail
   refine Yj (S:=λ w'=>FaS w b (off+k*11) b5 fi la r w'/\Bw w6 w') zk ⟨aU,aW⟩ (λ aa=>?_);refine zhD 0 ?_;refine zhD 1 ?_;refine zhD 2 ?_;refine zT 3 (v:=?_) ?_ ?_;rotate_left
   ·intro w ab;have ld:=yxN ab.1.g;clear ab;go_simp;(try with_reducible rfl)
   refine zzK 4 (λ K hK=>?_);go_simp;refine zm (aS _ aa.1) ?_;rintro aX hB;have aE:=Ya (aa.1.keep hB) (aa.2.trans (hB.mono aa.2.size));clear hB;(try go_wp2_with fail);refine hK _ _ aE (λ aa=>?_);clear hK K aE;refine zhD 5 ?_;refine zhD 6 ?_;refine zhD 7 ?_;refine zhD 8 ?_;refine zhD 9 ?_;refine zhD 10 ?_;refine zT 11 (v:=?_) ?_ ?_;rotate_left
   ·intro w ab;have c:=ab.1.c0;clear ab;go_simp;(try with_reducible rfl)
   refine zhD 12 ?_;refine zT 13 (v:=?_) ?_ ?_;rotate_left
   ·intro w ab;have c:=ab.1.f0;clear ab;go_simp;(try with_reducible rfl)
   refine zT 14 (v:=?_) ?_ ?_;rotate_left
   ·intro w ab;go_simp;(try rw [bne_self_eq_false]);(try with_reducible rfl)
   refine zhD 15 ?_;refine zhD 16 ?_;refine zhD 17 ?_;refine zhD 18 ?_;refine zhD 19 ?_;refine zhD 20 ?_;refine zT 21 (v:=?_) ?_ ?_;rotate_left
   ·intro w ab;have c:=ab.1.c4;clear ab;go_simp;(try with_reducible rfl)
   refine zhD 22 ?_;refine zT 23 (v:=?_) ?_ ?_;rotate_left
   ·intro w ab;have c:=ab.1.f4;clear ab;go_simp;(try with_reducible rfl)
   refine zT 24 (v:=?_) ?_ ?_;rotate_left
   ·intro w ab;go_simp;(try rw [bne_self_eq_false]);(try with_reducible rfl)
   refine zhD 25 ?_;refine zhD 26 ?_;refine zhD 27 ?_;refine zhD 28 ?_;refine zhD 29 ?_;refine zhD 30 ?_;refine zT 31 (v:=?_) ?_ ?_;rotate_left
   ·intro w ab;have c:=ab.1.c3;clear ab;go_simp;(try with_reducible rfl)
   refine zhD 32 ?_;refine zhD 33 ?_;refine Yt zk ?_ _;have HN:=hid aa.2;clear aa;go_wp2;exact ⟨⟨k+1,by go_num,by omega,HN⟩,by simp [intOf];omega⟩
  ·obtain rfl:k=L.length:=zo;obtain ⟨m,hm⟩:=zx (x%L.length);have al:m<L.length:=(by rw [<- hm];exact Nat.mod_lt _ aT);obtain ⟨b,off,rfl,hb,hr⟩:=Sl.atRu aw al;have hF:=HR _ (zzr al);have hS:=ax _ (zzr al);obtain ⟨r,ah⟩:=zx (L[m]);rw [ah] at hr hF hS;have ld:=yxN (ya6 hr HB hb);have ay:=hid (zu ag HB);have aR:=hid (cL r wr ay (hS.below HB) hF.m hF.n hF.co hF.e);have HF:=hid hF;have a5:Int.tmod (x:Int) (L.length:Int)= (m:Int):=by
    rw [Int.tmod_eq_emod_of_nonneg zo];omega
   have a4:IntKind.i64.wrap (m:Int)= (m:Int):=Yn _ zo;have a3:IntKind.i64.wrap (x:Int)= (x:Int):=Yn _ zo;have qm:(m:Int)<L.length:=zo;have aZ:¬(m:Int)<0:=zo;have aY:(0:Int)<=m:=zo;have qk:¬(L.length:Int)<L.length:=zo;clear hr hF hS ah hb al hm cL aw ax HR;go_wp2_with fail
   refine aR.mono ?_;rintro e w7 ⟨⟨g7,rfl,hg⟩,hB⟩;have H7:=hid (zu ay hB);have aQ:=hid (cW g7 r w7 H7 hg HF.n HF.e HF.i);clear hB hg ld cW;go_wp2_with fail
   refine zm aQ ?_;rintro w8 hB;have H8:=hid (zu H7 hB);clear hB;have hv:=yjE w8 35;have hb:Bw w8 (w8.alloc (J #[Xb true,E T 0,Xb false] 35)):=yaa (Ye _ _) zg;go_upto_region 17 with fail
   generalize hw:w8.alloc (J #[Xb true,E T 0,Xb false] 35)=w9 at hv hb⊢
   have HY:=hid (zu H8 hb);clear hw hb;go_wp2_with fail
   refine zm (cV _ HY) ?_;rintro wz hB;have HF:=hid (zu HY hB);clear hB;go_wp2;go_ret;exact ⟨rfl,HF⟩
end
