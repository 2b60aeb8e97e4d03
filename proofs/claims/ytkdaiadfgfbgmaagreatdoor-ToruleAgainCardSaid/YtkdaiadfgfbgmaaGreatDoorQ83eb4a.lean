/- Keys that are two pointers -/
import Derived.Test.YtkdaiadfgfbgmaaGreatDoorQ6eb9b1
set_option maxRecDepth 100000
set_option maxHeartbeats 25600000
set_option linter.unusedSimpArgs false
open Option renaming none -> N, some -> G
open Go.Value renaming int -> E, pointer -> R, slice -> Xs, bool -> Xb, func -> Xf, tuple -> Xt
open Go.IntKind renaming i64 -> T, u64 -> Y
open Go.Addr renaming mk -> Z
open Go renaming Calls -> H
open Go.Proofs.Tryz renaming prog -> I
open Go.Obj renaming cells -> J
open Go.Ending renaming returned -> Q
namespace Go.Proofs.YtkdaiadfgfbgmaaGreatDoor
open Go.RowKit Go.Maps
set_option linter.unusedVariables false
section
variable {d e:Option Nat} {w:World}
def PtrOk (w:World) (d:Option Nat):Prop:=∀x,d=G x->(w.cell? (Z x 0 N)).isSome=true/\∀i,w.frozen? (Z x i N)=false
theorem PtrOk.disc {q:Nat->Bool} (h:DiscO w d q):PtrOk w d:=λ x hx=>by
 subst hx;obtain ⟨f,h1,h2,-⟩:=h;exact ⟨by rw [h1 0 zo];rfl,h2⟩
theorem PtrOk.block {w':World} (h:PtrOk w d) (hb:∀x,d=G x->w'.heap[x]? =w.heap[x]?):PtrOk w' d:=λ x hx=>by
 obtain ⟨h1,h2⟩:=h x hx;exact ⟨by rw [zzJ (w:=w) (a:=Z x 0 N) (hb x hx)];exact h1,λ i=>(zzM (w:=w) (a:=Z x i N) (hb x hx)).trans (h2 i)⟩
def yz1 (w:World) (v:Value):Prop:=∃d e,v= .agg #[ybA d,ybA e]/\PtrOk w d/\PtrOk w e
theorem ygI (hd:PtrOk w d) (he:PtrOk w e) (n:Nat):(Op.equalIn (n+1) 84 (ybA d) (ybA e)).run I w= .ok (decide (d=e)) w:=by
 have hp:=Tryz.underlying84;cases d with
 | none=>
   cases e with
   | none=>simp [Op.equalIn,run_underlying hp,ybA]
   | some y=>simp [Op.equalIn,run_underlying hp,ybA]
 | some x=>
   cases e with
   | none=>simp [Op.equalIn,run_underlying hp,ybA]
   | some y=>
     have hi:((Tryz.prog.info? 163).map λ i=>decide (i.size≠0))=G true:=(by kernel_rfl);cases hj:Tryz.prog.info? 163 with
     | none=>rw [hj] at hi;cases hi
     | some j=>
       rw [hj] at hi;have hsz:j.size≠0:=(by simpa using hi);have hs:(sameAddr (Z x 0 N) (Z y 0 N)).run I w= .ok (decide (x=y)) w:=by
        by_cases aa:x=y
        ·subst aa;rw [run_sameAddr_same];simp
        ·rw [yeD (hd x rfl).1 (he y rfl).1 (hd x rfl).2 (he y rfl).2 aa];simp [aa]
       simp [Op.equalIn,run_underlying hp,sizeOf,typeInfo,hj,hsz,hs,ybA]
theorem yzy (w:World) (x y:Value):(part 84 #[x,y] 0).run I w= .ok x w:=by kernel_rfl
theorem yzx (w:World) (x y:Value):(part 84 #[x,y] 1).run I w= .ok y w:=by kernel_rfl
theorem yop {d' e':Option Nat} (h1:PtrOk w d) (h2:PtrOk w e) (h3:PtrOk w d') (h4:PtrOk w e') :
  (Op.equal 258 (.agg #[ybA d,ybA e]) (.agg #[ybA d',ybA e'])).run I w= .ok (decide (d=d')&&decide (e=e')) w:=by
 have g1:=ygI h1 h3 9998;have g2:=ygI h2 h4 9998;have hp:=Tryz.underlying258;have hi:((Tryz.prog.info? 84).map λ i=>i.size)=G 1:=by kernel_rfl
 cases hj:Tryz.prog.info? 84 with
 | none=>rw [hj] at hi;cases hi
 | some j=>
   rw [hj] at hi;have hsz:j.size=1:=(by simpa using hi);unfold Op.equal Op.maxDepth;rw [Op.equalIn];simp only [ZC,run_underlying hp,Zf,sizeOf,typeInfo];have ac:(Op.equalIn 9999 84 (ybA d) (ybA d')).run I w= .ok (decide (d=d')) w:=g1;have ab:(Op.equalIn 9999 84 (ybA e) (ybA e')).run I w= .ok (decide (e=e')) w:=g2;simp [hj,hsz];rw [show List.range' 0 2= [0,1] from rfl];obtain ⟨b1,ae⟩:=zx (decide (d=d'));obtain ⟨b2,ad⟩:=zx (decide (e=e'));rw [ae] at ac⊢;rw [ad] at ab⊢;cases b1 <;> cases b2 <;> simp [yzy,yzx,ac,ab,List.forIn_cons]
theorem yzz (w:World):yjD I 258 (yz1 w) w:=by
 refine yjD.ask Tryz.underlying258 ?_ ?_ ?_ ?_
 ·rintro _ _ ⟨d,e,rfl,-,-⟩ ⟨d',e',rfl,-,-⟩;rfl
 ·rintro em _ ⟨d,e,rfl,-,-⟩;cases d <;> cases e <;> kernel_rfl
 ·rintro _ _ ⟨d,e,rfl,h1,h2⟩ ⟨d',e',rfl,h3,h4⟩;refine ⟨_,yop h1 h2 h3 h4,λ h=>?_⟩;simp only [zzX,zzY] at h;rw [h.1,h.2]
 ·rintro _ ⟨d,e,rfl,-,-⟩;cases d <;> cases e <;> simp [Instr.sameBits,ybA]
end
theorem yo3 (f u n:Int) (w:World) (h0:0<=n) (h1:n<146097) (ae:¬max (max 0 f) (86400*n)<=min (min 12622780799 u) (86400*n+86399)) :
  H I 133 #[spv f u,E T n] w λ e w'=>e=Q (Xt #[E T 0,E T 0,Xb false])/\Bw w w':=by
 have cD:=hid (λ W=>ynQ n W h0 h1);have cM:=hid (λ b W hb k0 k1 k2 k3=>ykJ b f u (86400*n) (86400*n+86399) W hb k0 k1 k2 k3);obtain ⟨d,aj⟩:=zx (86400*n);rw [aj] at cD cM ae;obtain ⟨X,hX⟩:=zx (max (max 0 f) d);obtain ⟨Yq,hY⟩:=zx (min (min 12622780799 u) (d+86399));rw [hX] at cM ae;rw [hY] at cM ae;have ai:yau X Yq=0:=by rcases ybr X Yq with ⟨e1,e2,h⟩ | ⟨e1,e2,h⟩ <;> omega
 have ah:yat X Yq= -1:=by rcases ybr X Yq with ⟨e1,e2,h⟩ | ⟨e1,e2,h⟩ <;> omega
 rw [ai,ah] at cM;have c1:=hid (λ W=>yb0 0 W zo zo);have c2:=hid (λ W=>ygr (-1) W zd);clear aj h0 h1 ae hX hY ai ah;have ak:Hid (CtS w (w.alloc (J #[E T f,E T u] 126)).drew):=⟨(yaa (Ye _ _) zg).drew,by show _<(World.alloc _ _).heap.size;simp⟩;go_enter Tryz.func133,Tryz.ntmps133
 go_wp2_with fail
 refine Yj (S:=λ w'=>CtS w w') zk ak (λ aa=>?_);refine zhD 1 ?_;refine wpAnyH_ready (rs:= [0,2]) zk zs ?_;refine AllReadyH.cons rfl (λ K hK=>?_) (AllReadyH.cons rfl (λ K hK=>?_) AllReadyH.nil);focus
  go_simp;(try go_wp2_with fail);refine hK _ _ (by assumption) (λ aa=>?_);clear hK K;refine zzK 2 (λ K hK=>?_);go_simp;refine zm (cD _) ?_;rintro w1 ab;have k1:=(ab.cell (p:=Z w.heap.size 0 N) (by simp [World.size_drew])).trans (show _ =G (E T f) by simp [go_sem]);have k2:=(ab.cell (p:=Z w.heap.size 1 N) (by simp [World.size_drew])).trans (show _ =G (E T u) by simp [go_sem]);have f1:=(ab.frozen (p:=Z w.heap.size 0 N) (by simp [World.size_drew])).trans (show _ =false by simp [go_sem]);have f2:=(ab.frozen (p:=Z w.heap.size 1 N) (by simp [World.size_drew])).trans (show _ =false by simp [go_sem]);have ac:=CtS.keep aa ab;(try go_wp2_with fail);refine hK _ _ ac (λ aa=>?_)
 rotate_left;focus
  go_simp;refine zm (cD _) ?_;rintro w1 ab;have k1:=(ab.cell (p:=Z w.heap.size 0 N) (by simp [World.size_drew])).trans (show _ =G (E T f) by simp [go_sem]);have k2:=(ab.cell (p:=Z w.heap.size 1 N) (by simp [World.size_drew])).trans (show _ =G (E T u) by simp [go_sem]);have f1:=(ab.frozen (p:=Z w.heap.size 0 N) (by simp [World.size_drew])).trans (show _ =false by simp [go_sem]);have f2:=(ab.frozen (p:=Z w.heap.size 1 N) (by simp [World.size_drew])).trans (show _ =false by simp [go_sem]);have ac:=CtS.keep aa ab;(try go_wp2_with fail);refine hK _ _ ac (λ aa=>?_);clear hK K;refine zzK 0 (λ K hK=>?_);go_simp;(try go_wp2_with fail);refine hK _ _ (by assumption) (λ aa=>?_)
 rotate_left;all_goals
  clear hK K;have hn:=yaa (o:=J #[E T f,E T u,E T d,E T (d+86399)] 126) (Ye w1.heap.size w1) zg;have af:w.heap.size<w1.heap.size:=ac.2;refine zzK 3 (λ K hK=>?_);go_simp;(try go_wp2_with fail);refine hK _ _ (CtS.keep ac hn) (λ aa=>?_);clear hK K;refine zzK 4 (λ K hK=>?_);go_simp;refine zm (cM w1.heap.size _ zs (by simp [go_sem]) (by simp [go_sem]) (by simp [go_sem]) (by simp [go_sem])) ?_;rintro w2 ad;have ag:=CtS.keep aa ad;have m1:=(ad.cell (p:=Z w.heap.size 0 N) (by simp only [zzN];omega)).trans ((hn.cell (p:=Z w.heap.size 0 N) af).trans k1);have m2:=(ad.cell (p:=Z w.heap.size 1 N) (by simp only [zzN];omega)).trans ((hn.cell (p:=Z w.heap.size 1 N) af).trans k2);have n1:=(ad.frozen (p:=Z w.heap.size 0 N) (by simp only [zzN];omega)).trans ((hn.frozen (p:=Z w.heap.size 0 N) af).trans f1);have n2:=(ad.frozen (p:=Z w.heap.size 1 N) (by simp only [zzN];omega)).trans ((hn.frozen (p:=Z w.heap.size 1 N) af).trans f2);clear hn k1 k2 f1 f2;(try go_wp2_with fail);refine hK _ _ (by assumption) (λ aa=>?_);clear hK K;refine zzK 5 (λ K hK=>?_);go_simp;(try go_wp2_with fail);refine hK _ _ ⟨yab (yab ag.1 zg) zg,by rw [Yx,Yx];exact ag.2⟩ (λ aa=>?_);clear hK K;refine Yt zk ?_ _;have al:=hid ag.1;go_wp2_with (first | (go_at_call 181;with_reducible refine zm (c1.out _) ?_;rintro w' rfl) | (go_at_call 181;with_reducible refine zm (c2.out _) ?_;rintro w' rfl))
  exact Yh (v:=Xt #[E T 0,E T 0,Xb false]) (by simp [results,Tryz.results133,go_sem]) rfl ⟨rfl,yab (yab al zg) zg⟩
def inD (f u n:Int):Bool:=decide (max (max 0 f) (86400*n)<=min (min 12622780799 u) (86400*n+86399))
theorem yhh (f u n:Int) (w:World) (h0:0<=n) (h1:n<146097) :
  H I 122 #[spv f u,E T n] w λ e w'=>e=Q (Xb (inD f u n))/\Bw w w':=by
 by_cases h:max (max 0 f) (86400*n)<=min (min 12622780799 u) (86400*n+86399);focus
  have c:=hid (λ W=>ynR f u n W h0 h1 h);rw [inD,zzZ h]
 rotate_left;focus
  have c:=hid (λ W=>yo3 f u n W h0 h1 h);rw [inD,zzd h]
 rotate_left;all_goals
  clear h;go_enter Tryz.func122,Tryz.ntmps122
  go_wp2_with fail
  refine zm (c _) ?_;rintro w1 hB;have HB:=hid ((yaa (o:=J #[E T f,E T u] 126) (Ye w.heap.size w) zg).trans (hB.mono zs));clear hB;go_wp2;go_ret;exact ⟨rfl,HB⟩
section
def mbF (f u a:Int):Int:=if yaw f u=true then min a (max f 0/86400) else a
def mbU (f u a:Int):Int:=if yaw f u=true then max a (min u 12622780799/86400) else a
theorem yhU (f u a b:Int) (ha:0<=a/\a<=146097) (hb:-1<=b/\b<=146096):0<=mbF f u a/\mbF f u a<=146097/\-1<=mbU f u b/\mbU f u b<=146096:=by
 unfold mbF mbU;cases e:yaw f u
 ·simp;omega
 ·have:max f 0<=min u 12622780799:=by simpa [yaw] using e
  simp;omega
structure AsH (x:Nat) (f0 u0 f1 u1:Int) (W:World):Prop where
 c5:W.cell? (Z x 5 N)=G (E T f0)
 c6:W.cell? (Z x 6 N)=G (E T u0)
 c7:W.cell? (Z x 7 N)=G (E T f1)
 c8:W.cell? (Z x 8 N)=G (E T u1)
 lt:x<W.heap.size
theorem AsH.below {x:Nat} {f0 u0 f1 u1:Int} {W W':World} (h:AsH x f0 u0 f1 u1 W) (hB:Bw W W'):AsH x f0 u0 f1 u1 W':=
 ⟨(hB.cell (p:=Z x 5 N) h.lt).trans h.c5,(hB.cell (p:=Z x 6 N) h.lt).trans h.c6,(hB.cell (p:=Z x 7 N) h.lt).trans h.c7,(hB.cell (p:=Z x 8 N) h.lt).trans h.c8,zH h.lt hB.size⟩
theorem yv9 (f0 u0 f1 u1:Int) (W:World):(Instr.index 127 (.agg #[E T f0,E T u0,E T f1,E T u1]) (E T 0)).run I W= .ok (.agg #[E T f0,E T u0]) W:=by kernel_rfl
theorem yv8 (f0 u0 f1 u1:Int) (W:World):(Instr.index 127 (.agg #[E T f0,E T u0,E T f1,E T u1]) (E T 1)).run I W= .ok (.agg #[E T f1,E T u1]) W:=by kernel_rfl
attribute [local go_sem] yv9 yv8
theorem ymm (x:Nat) (f0 u0 f1 u1:Int) (W:World) (h:AsH x f0 u0 f1 u1 W) :
  H I 121 #[R (G (Z x 0 N))] W λ e W'=>e=Q (Xt #[E T (mbF f1 u1 (mbF f0 u0 146097)),E T (mbU f1 u1 (mbU f0 u0 (-1)))])/\Bw W W':=by
 obtain ⟨F1,ag⟩:=zx (mbF f0 u0 146097);obtain ⟨U1,ae⟩:=zx (mbU f0 u0 (-1));rw [ag,ae];obtain ⟨F2,af⟩:=zx (mbF f1 u1 F1);obtain ⟨U2,ad⟩:=zx (mbU f1 u1 U1);rw [af,ad];have ak:=hid ag;have ai:=hid ae;have aj:=hid af;have ah:=hid ad;clear ag ae af ad;obtain ⟨k5,k6,k7,k8,hlt⟩:=h;have cD:=hid (λ f u W=>yfy f u W);go_enter Tryz.func121,Tryz.ntmps121
 go_wp2_with fail
 clear k5 k6 k7 k8;go_loopw [4,5,7,8,9,10,15] (λ fv uv _ _ _ _ iv wr=>∃i:Int,0<=i/\i<=2/\iv=E T i/\fv=E T (if i=0 then 146097 else if i=1 then F1 else F2)/\uv=E T (if i=0 then -1 else if i=1 then U1 else U2)/\Hid (Bw W wr)) (λ _ _ _ _ _ _ iv _=>(2-intOf iv).toNat)
 case atStart=>exact ⟨0,by omega,by omega,rfl,rfl,rfl,Ye _ _⟩
 case round=>
  obtain ⟨i,al,hi,rfl,rfl,rfl,HB⟩:=hrel;have:i=0\/ i=1\/ i=2:=zo
  rcases this with rfl | rfl | rfl;all_goals simp only [if_true,if_false,Int.reduceEq]
  ·have c:=cD f0 u0;cases e:yaw f0 u0
   ·rw [e] at c;simp only [Bool.false_eq_true,if_false] at c;have C:=hid c;have E1:Hid (F1=146097):=(by show _ = _;rw [<- ak,mbF,e];rfl);have E2:Hid (U1= (-1)):=(by show _ = _;rw [<- ai,mbU,e];rfl);clear c e;go_wp2_with fail
    refine zm (C _) ?_;rintro w1 hB;have ac:=hid (HB.trans (((yaa (o:=J #[E T f0,E T u0] 126) (Ye wr.heap.size wr) zg).trans (hB.mono zs)).mono HB.size));clear hB;go_wp2;exact ⟨⟨1,by omega,by omega,by trivial,by rw [<- E1];rfl,by rw [<- E2];rfl,ac⟩,by simp [intOf]⟩
   ·rw [e] at c;simp only [if_true] at c;have C:=hid c;have E1:Hid (F1=min 146097 (max f0 0/86400)):=(by show _ = _;rw [<- ak,mbF,e];rfl);have E2:Hid (U1=max (-1) (min u0 12622780799/86400)):=(by show _ = _;rw [<- ai,mbU,e];rfl);obtain ⟨x1,ab⟩:=zx (max f0 0/86400);obtain ⟨x2,aa⟩:=zx (min u0 12622780799/86400);rw [ab,aa] at C;rw [ab] at E1;rw [aa] at E2;clear c e ab aa;go_wp2_with fail
    refine zm (C _) ?_;rintro w1 hB;have ac:=hid (HB.trans (((yaa (o:=J #[E T f0,E T u0] 126) (Ye wr.heap.size wr) zg).trans (hB.mono zs)).mono HB.size));clear hB;go_wp2;all_goals
     have h1:=E1.out;have h2:=E2.out;exact ⟨⟨1,by omega,by omega,by trivial,by congr 1;(try simp);omega,by congr 1;(try simp);omega,ac⟩,by simp [intOf]⟩
  ·have c:=cD f1 u1;cases e:yaw f1 u1
   ·rw [e] at c;simp only [Bool.false_eq_true,if_false] at c;have C:=hid c;have E1:Hid (F2=F1):=(by show _ = _;rw [<- aj,mbF,e];rfl);have E2:Hid (U2=U1):=(by show _ = _;rw [<- ah,mbU,e];rfl);clear c e;go_wp2_with fail
    refine zm (C _) ?_;rintro w1 hB;have ac:=hid (HB.trans (((yaa (o:=J #[E T f1,E T u1] 126) (Ye wr.heap.size wr) zg).trans (hB.mono zs)).mono HB.size));clear hB;go_wp2;exact ⟨⟨2,by omega,by omega,by trivial,by rw [<- E1];rfl,by rw [<- E2];rfl,ac⟩,by simp [intOf]⟩
   ·rw [e] at c;simp only [if_true] at c;have C:=hid c;have E1:Hid (F2=min F1 (max f1 0/86400)):=(by show _ = _;rw [<- aj,mbF,e];rfl);have E2:Hid (U2=max U1 (min u1 12622780799/86400)):=(by show _ = _;rw [<- ah,mbU,e];rfl);obtain ⟨x1,ab⟩:=zx (max f1 0/86400);obtain ⟨x2,aa⟩:=zx (min u1 12622780799/86400);rw [ab,aa] at C;rw [ab] at E1;rw [aa] at E2;clear c e ab aa;go_wp2_with fail
    refine zm (C _) ?_;rintro w1 hB;have ac:=hid (HB.trans (((yaa (o:=J #[E T f1,E T u1] 126) (Ye wr.heap.size wr) zg).trans (hB.mono zs)).mono HB.size));clear hB;go_wp2;all_goals
     have h1:=E1.out;have h2:=E2.out;exact ⟨⟨2,by omega,by omega,by trivial,by congr 1;(try simp);omega,by congr 1;(try simp);omega,ac⟩,by simp [intOf]⟩
  ·go_wp2;go_ret2
   exact ⟨rfl,HB⟩
end
section
structure RN where
 br:Nat
 bk:Nat
 bps:List Nat
def RN.M (r:RN):Blk:=RM r.br r.bk r.bps
structure yfU (W:World) (la lb:List Cl) (ra rb:RN) (Fa Fb:Blk) (wa wb:Nat->Bool) (ma mb:Nat):Prop where
 a:yar W la ra.br ra.bk ra.bps Fa wa ma
 b:yar W lb rb.br rb.bk rb.bps Fb wb mb
 sa:∀c,Fb c->¬ra.M c
 sb:∀c,Fa c->¬rb.M c
section
variable {W W':World} {la lb:List Cl} {ra rb:RN} {Fa Fb ac ab:Blk} {wa wb ae ad:Nat->Bool} {ma mb ag af:Nat}
theorem yfU.stepA (h:yfU W la lb ra rb Fa Fb wa wb ma mb) (hE:Eff ra.M W W') (hR:yar W' la ra.br ra.bk ra.bps ac ae ag) (hG:GrF Fa ac W):yfU W' la lb ra rb ac Fb ae wb ag mb:=
 ⟨hR,h.b.keep hE.size (λ c hc=>hE.block c (h.b.x.lt c hc) (h.sa c hc)),h.sa,λ c hc hm=>by
  rcases hG.new c hc with h1 | h1
  ·exact h.sb c h1 hm
  ·have:=h.b.x.lt c (h.b.x.sub c hm);omega⟩
theorem yfU.stepB (h:yfU W la lb ra rb Fa Fb wa wb ma mb) (hE:Eff rb.M W W') (hR:yar W' lb rb.br rb.bk rb.bps ab ad af) (hG:GrF Fb ab W):yfU W' la lb ra rb Fa ab wa ad ma af:=
 ⟨h.a.keep hE.size (λ c hc=>hE.block c (h.a.x.lt c hc) (h.sb c hc)),hR,λ c hc hm=>by
  rcases hG.new c hc with h1 | h1
  ·exact h.sa c h1 hm
  ·have:=h.a.x.lt c (h.a.x.sub c hm);omega,h.sb⟩
theorem yfU.keep (h:yfU W la lb ra rb Fa Fb wa wb ma mb) (hs:W.heap.size<=W'.heap.size) (ha:∀c,Fa c\/ Fb c->W'.heap[c]? =W.heap[c]?):yfU W' la lb ra rb Fa Fb wa wb ma mb:=
 ⟨h.a.keep hs (λ c hc=>ha c (.inl hc)),h.b.keep hs (λ c hc=>ha c (.inr hc)),h.sa,h.sb⟩
end
structure DOf (W:World) (F M:Blk) (d:Option Nat) (q:Nat->Bool):Prop where
 no:d=N->∀k,k<86400->q k=false
 yes:∀b,d=G b->DiF W F M b q
theorem DOf.disc {W:World} {F M:Blk} {d:Option Nat} {q:Nat->Bool} (h:DOf W F M d q):DiscO W d q:=by
 cases d with
 | none=>exact h.no rfl
 | some b=>exact (h.yes b rfl).2.2
theorem DOf.keep {W W':World} {F F' M:Blk} {d:Option Nat} {q:Nat->Bool} (h:DOf W F M d q) (hs:W.heap.size<=W'.heap.size) (hF:∀b,F b->F' b) (hb:∀b,F b/\¬M b->W'.heap[b]? =W.heap[b]?):DOf W' F' M d q:=
 ⟨h.no,λ b hd=>by
  obtain ⟨h1,h2,h3⟩:=h.yes b hd;exact ⟨hF b h1,h2,h3.block hs (hb b ⟨h1,h2⟩)⟩⟩
theorem DOf.unique {W:World} {F M:Blk} {d:Option Nat} {q q':Nat->Bool} (h:DOf W F M d q) (h':DOf W F M d q') {k:Nat} (hk:k<86400):q k=q' k:=by
 cases d with
 | none=>rw [h.no rfl k hk,h'.no rfl k hk]
 | some b=>exact DiscAt.unique (h.yes b rfl).2.2 (h'.yes b rfl).2.2 k hk
def FineK (W:World) (Fa Fb:Blk) (ra rb:RN) (v:Value):Prop:=∃d e qa qb,v= .agg #[ybA d,ybA e]/\DOf W Fa ra.M d qa/\DOf W Fb rb.M e qb
def FineG (pw:Bool->Bool->Bool) (W:World) (Fa Fb:Blk) (ra rb:RN) (key v:Value):Prop:=
 v=Xb true/\∃d e qa qb,key= .agg #[ybA d,ybA e]/\DOf W Fa ra.M d qa/\DOf W Fb rb.M e qb/\∀k,k<86400->pw (qa k) (qb k)=false
theorem yyF (W:World) (Fa Fb:Blk) (ra rb:RN):yjD I 258 (FineK W Fa Fb ra rb) W:=
 (yzz W).sub λ v ⟨d,e,qa,qb,h1,h2,h3⟩=>⟨d,e,h1,PtrOk.disc h2.disc,PtrOk.disc h3.disc⟩
theorem yny {d e:Option Nat} (h:ybA d=ybA e):d=e:=by
 cases d <;> cases e
 ·rfl
 ·cases h
 ·cases h
 ·injection h with h;injection h with h;injection h with h;rw [h]
theorem ytn {d e d' e':Option Nat} (h:(Value.agg #[ybA d,ybA e])= .agg #[ybA d',ybA e']):d=d'/\e=e':=by
 injection h with h
 have h1:=congrArg (λ a=>a.getD 0 undef) h;have h2:=congrArg (λ a=>a.getD 1 undef) h;exact ⟨yny (by simpa using h1),yny (by simpa using h2)⟩
theorem FineG.none {pw:Bool->Bool->Bool} {W:World} {Fa Fb:Blk} {ra rb:RN} {d e:Option Nat} {qa qb:Nat->Bool} {v:Value} (h:FineG pw W Fa Fb ra rb (.agg #[ybA d,ybA e]) v) (ha:DOf W Fa ra.M d qa) (hb:DOf W Fb rb.M e qb):v=Xb true/\FirstOf (λ k=>pw (qa k) (qb k)) 0 false:=by
 obtain ⟨rfl,d',e',al,ak,h1,h2,h3,h4⟩:=h;obtain ⟨rfl,rfl⟩:=ytn h1;exact ⟨rfl, .inr ⟨rfl,rfl,λ k hk=>by show pw (qa k) (qb k)=false;rw [ha.unique h2 hk,hb.unique h3 hk];exact h4 k hk⟩⟩
structure AsS (x fm:Nat) (fv:Value) (pw:Bool->Bool->Bool) (la lb:List Cl) (ra rb:RN) (f0 u0 f1 u1:Int) (Fa Fb:Blk) (wa wb:Nat->Bool) (ma mb:Nat) (aa:Int) (W:World):Prop where
 two:yfU W la lb ra rb Fa Fb wa wb ma mb
 c0:W.cell? (Z x 0 N)=G (R (G (Z ra.br 0 N)))
 c1:W.cell? (Z x 1 N)=G (R (G (Z rb.br 0 N)))
 c2:W.cell? (Z x 2 N)=G fv
 c3:W.cell? (Z x 3 N)=G (.map (G fm))
 c4:W.cell? (Z x 4 N)=G (E T aa)
 z4:W.frozen? (Z x 4 N)=false
 hul:AsH x f0 u0 f1 u1 W
 fine:MapS (FineK W Fa Fb ra rb) (FineG pw W Fa Fb ra rb) W fm 512
 nx:¬Fa x/\¬Fb x
 nf:¬Fa fm/\¬Fb fm
 ne:x≠fm
section
variable {x fm:Nat} {fv:Value} {pw:Bool->Bool->Bool} {la lb:List Cl} {ra rb:RN} {f0 u0 f1 u1 aa:Int} {Fa Fb ac ab:Blk} {wa wb ae ad:Nat->Bool} {ma mb ag af:Nat} {W W':World}
theorem FineG.keep {key v:Value} (h:FineG pw W Fa Fb ra rb key v) (hs:W.heap.size<=W'.heap.size) (ha:∀b,Fa b->ac b) (hb:∀b,Fb b->ab b) (h1:∀b,Fa b/\¬ra.M b->W'.heap[b]? =W.heap[b]?) (h2:∀b,Fb b/\¬rb.M b->W'.heap[b]? =W.heap[b]?):FineG pw W' ac ab ra rb key v:=by
 obtain ⟨g1,d,e,qa,qb,g2,g3,g4,g5⟩:=h;exact ⟨g1,d,e,qa,qb,g2,g3.keep hs ha h1,g4.keep hs hb h2,g5⟩
theorem FineK.keep {v:Value} (h:FineK W Fa Fb ra rb v) (hs:W.heap.size<=W'.heap.size) (ha:∀b,Fa b->ac b) (hb:∀b,Fb b->ab b) (h1:∀b,Fa b/\¬ra.M b->W'.heap[b]? =W.heap[b]?) (h2:∀b,Fb b/\¬rb.M b->W'.heap[b]? =W.heap[b]?):FineK W' ac ab ra rb v:=by
 obtain ⟨d,e,qa,qb,g2,g3,g4⟩:=h;exact ⟨d,e,qa,qb,g2,g3.keep hs ha h1,g4.keep hs hb h2⟩
theorem AsS.turn (h:AsS x fm fv pw la lb ra rb f0 u0 f1 u1 Fa Fb wa wb ma mb aa W) (hT:yfU W' la lb ra rb ac ab ae ad ag af) (hE:Eff (λ b=>ra.M b\/ rb.M b) W W') (ga:GrF Fa ac W) (gb:GrF Fb ab W):AsS x fm fv pw la lb ra rb f0 u0 f1 u1 ac ab ae ad ag af aa W':=by
 have lx:=h.hul.lt;have lf:=h.fine.lt;have ai:¬(ra.M x\/ rb.M x):=λ hm=>hm.elim (λ h1=>h.nx.1 (h.two.a.x.sub x h1)) (λ h1=>h.nx.2 (h.two.b.x.sub x h1));have aj:¬(ra.M fm\/ rb.M fm):=λ hm=>hm.elim (λ h1=>h.nf.1 (h.two.a.x.sub fm h1)) (λ h1=>h.nf.2 (h.two.b.x.sub fm h1));have cc:∀i,W'.cell? (Z x i N)=W.cell? (Z x i N):=λ i=>hE.cell (p:=Z x i N) lx ai;have ka:∀b,Fa b/\¬ra.M b->W'.heap[b]? =W.heap[b]?:=λ b hb=>hE.block b (h.two.a.x.lt b hb.1) (λ hm=>hm.elim hb.2 (h.two.sb b hb.1));have kb:∀b,Fb b/\¬rb.M b->W'.heap[b]? =W.heap[b]?:=λ b hb=>hE.block b (h.two.b.x.lt b hb.1) (λ hm=>hm.elim (h.two.sa b hb.1) hb.2);exact ⟨hT,(cc 0).trans h.c0,(cc 1).trans h.c1,(cc 2).trans h.c2,(cc 3).trans h.c3,(cc 4).trans h.c4,(hE.frozen (p:=Z x 4 N) lx ai).trans h.z4,
  ⟨(cc 5).trans h.hul.c5,(cc 6).trans h.hul.c6,(cc 7).trans h.hul.c7,(cc 8).trans h.hul.c8,zH lx hE.size⟩,
  (h.fine.keep (hE.block fm lf aj)).mono zg (λ v hv=>hv.keep hE.size ga.sub gb.sub ka kb) (λ k v hv=>hv.keep hE.size ga.sub gb.sub ka kb),
  ⟨λ hx=>(ga.new x hx).elim h.nx.1 (λ hl=>by omega),λ hx=>(gb.new x hx).elim h.nx.2 (λ hl=>by omega)⟩,⟨λ hx=>(ga.new fm hx).elim h.nf.1 (λ hl=>by omega),λ hx=>(gb.new fm hx).elim h.nf.2 (λ hl=>by omega)⟩,h.ne⟩
theorem AsS.map (h:AsS x fm fv pw la lb ra rb f0 u0 f1 u1 Fa Fb wa wb ma mb aa W) (hg:W.grownBy W' (G fm)) (hM:MapS (FineK W Fa Fb ra rb) (FineG pw W Fa Fb ra rb) W' fm 512):AsS x fm fv pw la lb ra rb f0 u0 f1 u1 Fa Fb wa wb ma mb aa W':=by
 have lx:=h.hul.lt;have hb:∀b,b<W.heap.size->b≠fm->W'.heap[b]? =W.heap[b]?:=λ b hb hn=>hg.block b hb (λ e=>hn (by cases e;rfl));have cc:∀i,W'.cell? (Z x i N)=W.cell? (Z x i N):=λ i=>zzJ (w:=W) (a:=Z x i N) (hb x lx h.ne);have ka:∀b,Fa b\/ Fb b->W'.heap[b]? =W.heap[b]?:=λ b hF=>hF.elim (λ h1=>hb b (h.two.a.x.lt b h1) (λ e=>h.nf.1 (e ▸ h1))) (λ h1=>hb b (h.two.b.x.lt b h1) (λ e=>h.nf.2 (e ▸ h1)));exact ⟨h.two.keep hg.size ka,(cc 0).trans h.c0,(cc 1).trans h.c1,(cc 2).trans h.c2,(cc 3).trans h.c3,(cc 4).trans h.c4,(zzM (w:=W) (a:=Z x 4 N) (hb x lx h.ne)).trans h.z4,
  ⟨(cc 5).trans h.hul.c5,(cc 6).trans h.hul.c6,(cc 7).trans h.hul.c7,(cc 8).trans h.hul.c8,zH lx hg.size⟩,
  hM.mono zg (λ v hv=>hv.keep hg.size zi zi (λ b hb=>ka b (.inl hb.1)) (λ b hb=>ka b (.inr hb.1))) (λ k v hv=>hv.keep hg.size zi zi (λ b hb=>ka b (.inl hb.1)) (λ b hb=>ka b (.inr hb.1))),h.nx,h.nf,h.ne⟩
theorem AsS.below (h:AsS x fm fv pw la lb ra rb f0 u0 f1 u1 Fa Fb wa wb ma mb aa W) (hB:Bw W W'):AsS x fm fv pw la lb ra rb f0 u0 f1 u1 Fa Fb wa wb ma mb aa W':=
 h.turn (h.two.keep hB.size (λ c hc=>hB.block c (hc.elim (h.two.a.x.lt c) (h.two.b.x.lt c)))) (Eff.of_below hB) (GrF.refl _ _) (GrF.refl _ _)
end
theorem yiV {l:List Cl} (h:yhV l=true):l.length<=8:=by rw [yhV,zzX,zzY] at h;exact h.1
theorem yxv {W:World} {la lb:List Cl} {ra rb:RN} {Fa Fb:Blk} {wa wb:Nat->Bool} {ma mb:Nat} (n:Int) (h0:0<=n) (h1:n<146097) (hm:ma<4611686018427387904) (h:yfU W la lb ra rb Fa Fb wa wb ma mb) :
  H I 87 #[R (G (Z ra.br 0 N)),shN n] W λ e W'=>∃d ac ae ag,e=Q (ybA d)/\yfU W' la lb ra rb ac Fb ae wb ag mb/\GrF Fa ac W/\Eff ra.M W W'/\ybQ la n wa ma ae ag/\DOf W' ac ra.M d (yax la n):=by
 refine (ymj n h0 h1 hm h.a).mono λ e W' ⟨d,F',ah,m',g1,g2,g3,g4,g5,g6,g7⟩=>⟨d,F',ah,m',g1,h.stepA g4 g2 g3,g3,g4,g5,⟨λ hd k hk=>yeS (yiV g2.x.may) h0 h1 (g6 hd) hk,g7⟩⟩
theorem yxu {W:World} {la lb:List Cl} {ra rb:RN} {Fa Fb:Blk} {wa wb:Nat->Bool} {ma mb:Nat} (n:Int) (h0:0<=n) (h1:n<146097) (hm:mb<4611686018427387904) (h:yfU W la lb ra rb Fa Fb wa wb ma mb) :
  H I 87 #[R (G (Z rb.br 0 N)),shN n] W λ e W'=>∃d ab ad af,e=Q (ybA d)/\yfU W' la lb ra rb Fa ab wa ad ma af/\GrF Fb ab W/\Eff rb.M W W'/\ybQ lb n wb mb ad af/\DOf W' ab rb.M d (yax lb n):=by
 refine (ymj n h0 h1 hm h.b).mono λ e W' ⟨d,F',ah,m',g1,g2,g3,g4,g5,g6,g7⟩=>⟨d,F',ah,m',g1,h.stepB g4 g2 g3,g3,g4,g5,⟨λ hd k hk=>yeS (yiV g2.x.may) h0 h1 (g6 hd) hk,g7⟩⟩
end
section
variable {F2 Fa Fb:Blk} {la lb:List Cl} {m2 ma mb:Nat} {w2 wa wb:Nat->Bool} {d:Option Nat} {W:World}
theorem yfU.below {W':World} {ra rb:RN} (h:yfU W la lb ra rb Fa Fb wa wb ma mb) (hB:Bw W W'):yfU W' la lb ra rb Fa Fb wa wb ma mb:=
 h.keep hB.size (λ c hc=>hB.block c (hc.elim (h.a.x.lt c) (h.b.x.lt c)))
structure DP (W:World) (la lb:List Cl) (ra rb:RN) (n:Int) (Fa Fb:Blk) (wa wb:Nat->Bool) (ma mb:Nat) (A B:Option (Option Nat)) (p:Option Nat) (ab aa:Blk) (ad ac:Nat->Bool) (af ae:Nat) (w:World):Prop where
 two:yfU w la lb ra rb ab aa ad ac af ae
 eff:Eff (λ b=>ra.M b\/ rb.M b) W w
 ga:GrF Fa ab W
 gb:GrF Fb aa W
 sa:∀d,A=G d->ybQ la n wa ma ad af/\DOf w ab ra.M d (yax la n)
 sb:∀d,B=G d->ybQ lb n wb mb ac ae/\DOf w aa rb.M d (yax lb n)
 na:A=N->ad=wa/\af=ma
 nb:B=N->ac=wb/\ae=mb
 pn:∀b,p=G b->W.heap.size<=b/\b<w.heap.size/\¬ab b/\¬aa b/\(∀i,i<2->w.cell? (Z b i N)=G (R N))/\∀i,w.frozen? (Z b i N)=false
section
variable {W w w':World} {la lb:List Cl} {ra rb:RN} {n:Int} {Fa Fb:Blk} {wa wb:Nat->Bool} {ma mb:Nat} {A B:Option (Option Nat)} {p:Option Nat} {ab aa:Blk} {ad ac:Nat->Bool} {af ae:Nat}
theorem DP.start (h:yfU W la lb ra rb Fa Fb wa wb ma mb):DP W la lb ra rb n Fa Fb wa wb ma mb N N N Fa Fb wa wb ma mb W:=
 ⟨h,Eff.refl _ _,GrF.refl _ _,GrF.refl _ _,λ _ h=>(by cases h),λ _ h=>(by cases h),λ _=>⟨rfl,rfl⟩,λ _=>⟨rfl,rfl⟩,λ _ h=>(by cases h)⟩
theorem DP.lt (h:DP W la lb ra rb n Fa Fb wa wb ma mb A B p ab aa ad ac af ae w):(∀b,ra.M b->b<w.heap.size/\ab b)/\(∀b,rb.M b->b<w.heap.size/\aa b):=
 ⟨λ b hb=>⟨h.two.a.x.lt b (h.two.a.x.sub b hb),h.two.a.x.sub b hb⟩,λ b hb=>⟨h.two.b.x.lt b (h.two.b.x.sub b hb),h.two.b.x.sub b hb⟩⟩
theorem DP.atA (h:DP W la lb ra rb n Fa Fb wa wb ma mb N B p ab aa ad ac af ae w) (hT:yfU w' la lb ra rb F2 aa w2 ac m2 ae) (hG:GrF ab F2 w) (hE:Eff ra.M w w') (hS:ybQ la n ad af w2 m2) (hD:DOf w' F2 ra.M d (yax la n)) :
  DP W la lb ra rb n Fa Fb wa wb ma mb (G d) B p F2 aa w2 ac m2 ae w':=by
 obtain ⟨e1,e2⟩:=h.na rfl;subst e1;subst e2;refine ⟨hT,h.eff.trans hE (λ b hb=> .inl (.inl hb)),h.ga.trans hG h.eff.size,h.gb,λ d' hd=>?_,λ d' hd=>?_,λ hd=>(by cases hd),h.nb,λ b hb=>?_⟩
 ·cases hd;exact ⟨hS,hD⟩
 ·obtain ⟨g1,g2⟩:=h.sb d' hd;exact ⟨g1,g2.keep hE.size zi (λ b hb=>hE.block b (h.two.b.x.lt b hb.1) (h.two.sa b hb.1))⟩
 ·obtain ⟨g1,g2,g3,g4,g5,g6⟩:=h.pn b hb;have nM:¬ra.M b:=λ hm=>g3 (h.two.a.x.sub b hm);exact ⟨g1,zH g2 hE.size,λ hf=>(hG.new b hf).elim g3 (λ hl=>by omega),g4,λ i hi=>(hE.cell (p:=Z b i N) g2 nM).trans (g5 i hi),λ i=>(hE.frozen (p:=Z b i N) g2 nM).trans (g6 i)⟩
theorem DP.atB (h:DP W la lb ra rb n Fa Fb wa wb ma mb A N p ab aa ad ac af ae w) (hT:yfU w' la lb ra rb ab F2 ad w2 af m2) (hG:GrF aa F2 w) (hE:Eff rb.M w w') (hS:ybQ lb n ac ae w2 m2) (hD:DOf w' F2 rb.M d (yax lb n)) :
  DP W la lb ra rb n Fa Fb wa wb ma mb A (G d) p ab F2 ad w2 af m2 w':=by
 obtain ⟨e1,e2⟩:=h.nb rfl;subst e1;subst e2;refine ⟨hT,h.eff.trans hE (λ b hb=> .inl (.inr hb)),h.ga,h.gb.trans hG h.eff.size,λ d' hd=>?_,λ d' hd=>?_,h.na,λ hd=>(by cases hd),λ b hb=>?_⟩
 ·obtain ⟨g1,g2⟩:=h.sa d' hd;exact ⟨g1,g2.keep hE.size zi (λ b hb=>hE.block b (h.two.a.x.lt b hb.1) (h.two.sb b hb.1))⟩
 ·cases hd;exact ⟨hS,hD⟩
 ·obtain ⟨g1,g2,g3,g4,g5,g6⟩:=h.pn b hb;have nM:¬rb.M b:=λ hm=>g4 (h.two.b.x.sub b hm);exact ⟨g1,zH g2 hE.size,g3,λ hf=>(hG.new b hf).elim g4 (λ hl=>by omega),λ i hi=>(hE.cell (p:=Z b i N) g2 nM).trans (g5 i hi),λ i=>(hE.frozen (p:=Z b i N) g2 nM).trans (g6 i)⟩
theorem DP.below (h:DP W la lb ra rb n Fa Fb wa wb ma mb A B p ab aa ad ac af ae w) (hB:Bw w w'):DP W la lb ra rb n Fa Fb wa wb ma mb A B p ab aa ad ac af ae w':=by
 refine ⟨h.two.below hB,h.eff.trans (Eff.of_below (O:=λ b=>ra.M b\/ rb.M b) hB) (λ b hb=> .inl hb),h.ga,h.gb,λ d' hd=>?_,λ d' hd=>?_,h.na,h.nb,λ b hb=>?_⟩
 ·obtain ⟨g1,g2⟩:=h.sa d' hd;exact ⟨g1,g2.keep hB.size zi (λ b hb=>hB.block b (h.two.a.x.lt b hb.1))⟩
 ·obtain ⟨g1,g2⟩:=h.sb d' hd;exact ⟨g1,g2.keep hB.size zi (λ b hb=>hB.block b (h.two.b.x.lt b hb.1))⟩
 ·obtain ⟨g1,g2,g3,g4,g5,g6⟩:=h.pn b hb;exact ⟨g1,zH g2 hB.size,g3,g4,λ i hi=>(hB.cell (p:=Z b i N) g2).trans (g5 i hi),λ i=>(hB.frozen (p:=Z b i N) g2).trans (g6 i)⟩
theorem DP.alloc (h:DP W la lb ra rb n Fa Fb wa wb ma mb A B N ab aa ad ac af ae w) (t:TypeId):DP W la lb ra rb n Fa Fb wa wb ma mb A B (G w.heap.size) ab aa ad ac af ae (w.alloc (J #[R N,R N] t)):=by
 have hB:=yaa (o:=J #[R N,R N] t) (Ye w.heap.size w) zg;have h':=h.below hB;refine ⟨h'.two,h'.eff,h'.ga,h'.gb,h'.sa,h'.sb,h'.na,h'.nb,λ b hb=>?_⟩;cases hb;refine ⟨h.eff.size,by simp,λ hf=>?_,λ hf=>?_,λ i hi=>?_,λ i=>by simp [go_sem]⟩
 ·have:=h.two.a.x.lt _ hf;omega
 ·have:=h.two.b.x.lt _ hf;omega
 ·rcases (show i=0\/ i=1 by omega) with rfl | rfl <;> simp [go_sem]
end
def yAl (x fm:Nat) (fv:Value) (pw:Bool->Bool->Bool) (la lb:List Cl) (ra rb:RN) (f0 u0 f1 u1:Int) (Fa Fb:Blk) (wa wb:Nat->Bool) (ma mb:Nat) (ag:Int) (n:Int) (W:World) (x6:Value) (W':World):Prop:=
 ∃b6 d e ab aa ad ac af ae,x6=R (G (Z b6 0 N))/\AsS x fm fv pw la lb ra rb f0 u0 f1 u1 ab aa ad ac af ae ag W'/\Eff (λ b=>ra.M b\/ rb.M b) W W'/\GrF Fa ab W/\GrF Fb aa W/\ybQ la n wa ma ad af/\ybQ lb n wb mb ac ae/\
  DOf W' ab ra.M d (yax la n)/\DOf W' aa rb.M e (yax lb n)/\W'.cell? (Z b6 0 N)=G (ybA d)/\W'.cell? (Z b6 1 N)=G (ybA e)/\(∀i,W'.frozen? (Z b6 i N)=false)/\W.heap.size<=b6/\b6<W'.heap.size/\¬ab b6/\¬aa b6
theorem DP.day {w:World} {ra rb:RN} {n:Int} {e:Option Nat} {b6:Nat} {ab aa:Blk} {ad ac:Nat->Bool} {af ae:Nat} {x fm:Nat} {fv:Value} {pw:Bool->Bool->Bool} {f0 u0 f1 u1 ag:Int}
  (hA:AsS x fm fv pw la lb ra rb f0 u0 f1 u1 Fa Fb wa wb ma mb ag W) (h:DP W la lb ra rb n Fa Fb wa wb ma mb (G d) (G e) (G b6) ab aa ad ac af ae w) :
  yAl x fm fv pw la lb ra rb f0 u0 f1 u1 Fa Fb wa wb ma mb ag n W (R (G (Z b6 0 N))) ((w.setCell (Z b6 0 N) (ybA d)).setCell (Z b6 1 N) (ybA e)):=by
 obtain ⟨p1,p2,p3,p4,p5,hz⟩:=h.pn b6 rfl;obtain ⟨a1,a2⟩:=h.sa d rfl;obtain ⟨a3,a4⟩:=h.sb e rfl;have c0:=p5 0 zo;have c1:=p5 1 zo;obtain ⟨W',ah⟩:∃W',(w.setCell (Z b6 0 N) (ybA d)).setCell (Z b6 1 N) (ybA e)=W':=⟨_,rfl⟩;have hs:W'.heap.size=w.heap.size:=by rw [<- ah];simp
 have hb:∀b,b≠b6->W'.heap[b]? =w.heap[b]?:=λ b hn=>by rw [<- ah];exact (Ym _ _ _ _ hn).trans (Ym _ _ _ _ hn)
 have hE:Eff (λ b=>ra.M b\/ rb.M b) W W':=by
  have aj:=h.eff.trans (A:=W) (O':=λ b=>b=b6) (B:=w) (C:=W') (by rw [<- ah];exact Eff.set (O:=λ b=>b=b6) (Eff.set (O:=λ b=>b=b6) (Eff.refl _ _) (b:=b6) rfl 0 _) (b:=b6) rfl 1 _) (λ b hb=> .inr zo);exact aj
 have hT:yfU W' la lb ra rb ab aa ad ac af ae:=h.two.keep zo (λ c hc=>hb c (λ e=>hc.elim (λ h1=>p3 (e ▸ h1)) (λ h1=>p4 (e ▸ h1))));refine ⟨b6,d,e,ab,aa,ad,ac,af,ae,rfl,?_,?_,h.ga,h.gb,a1,a3,?_,?_,?_,?_,?_,p1,?_,p3,p4⟩
 ·rw [ah];exact hA.turn hT hE h.ga h.gb
 ·rw [ah];exact hE
 ·rw [ah];exact a2.keep zo zi (λ b ai=>hb b (λ e=>p3 (e ▸ ai.1)))
 ·rw [ah];exact a4.keep zo zi (λ b ai=>hb b (λ e=>p4 (e ▸ ai.1)))
 ·simp [go_sem,c0]
 ·simp [go_sem,c1]
 ·intro i;simpa [go_sem] using hz i
 ·rw [ah];omega
end
section
section
variable {x fm:Nat} {fv:Value} {pw:Bool->Bool->Bool} {la lb:List Cl} {ra rb:RN} {f0 u0 f1 u1 ac:Int} {Fa Fb ab aa:Blk} {wa wb ah ag:Nat->Bool} {ma mb aj ai:Nat} {W W':World}
theorem AsS.keep (h:AsS x fm fv pw la lb ra rb f0 u0 f1 u1 Fa Fb wa wb ma mb ac W) (hs:W.heap.size<=W'.heap.size) (hb:∀c,c=x\/ c=fm\/ Fa c\/ Fb c->W'.heap[c]? =W.heap[c]?):AsS x fm fv pw la lb ra rb f0 u0 f1 u1 Fa Fb wa wb ma mb ac W':=by
 have cc:∀i,W'.cell? (Z x i N)=W.cell? (Z x i N):=λ i=>zzJ (w:=W) (a:=Z x i N) (hb x (.inl rfl));have ka:∀b,Fa b\/ Fb b->W'.heap[b]? =W.heap[b]?:=λ b hF=>hb b (.inr (.inr hF));exact ⟨h.two.keep hs ka,(cc 0).trans h.c0,(cc 1).trans h.c1,(cc 2).trans h.c2,(cc 3).trans h.c3,(cc 4).trans h.c4,(zzM (w:=W) (a:=Z x 4 N) (hb x (.inl rfl))).trans h.z4,
  ⟨(cc 5).trans h.hul.c5,(cc 6).trans h.hul.c6,(cc 7).trans h.hul.c7,(cc 8).trans h.hul.c8,zH h.hul.lt hs⟩,
  (h.fine.keep (hb fm (.inr (.inl rfl)))).mono zg (λ v hv=>hv.keep hs zi zi (λ b hb=>ka b (.inl hb.1)) (λ b hb=>ka b (.inr hb.1))) (λ k v hv=>hv.keep hs zi zi (λ b hb=>ka b (.inl hb.1)) (λ b hb=>ka b (.inr hb.1))),h.nx,h.nf,h.ne⟩
theorem AsS.setDays (h:AsS x fm fv pw la lb ra rb f0 u0 f1 u1 Fa Fb wa wb ma mb ac W) (d':Int):AsS x fm fv pw la lb ra rb f0 u0 f1 u1 Fa Fb wa wb ma mb d' (W.setCell (Z x 4 N) (E T d')):=by
 obtain ⟨W',ad⟩:∃W',W.setCell (Z x 4 N) (E T d')=W':=⟨_,rfl⟩;have hs:W'.heap.size=W.heap.size:=by rw [<- ad];simp
 have hb:∀b,b≠x->W'.heap[b]? =W.heap[b]?:=λ b hn=>by rw [<- ad];exact Ym _ _ _ _ hn
 have cc:∀i,i≠4->W'.cell? (Z x i N)=W.cell? (Z x i N):=λ i hi=>by rw [<- ad];exact zzL _ _ _ _ (λ e=>by injection e with _ e;exact hi e.symm)
 have c4:=h.c4;have ka:∀b,Fa b\/ Fb b->W'.heap[b]? =W.heap[b]?:=λ b hF=>hb b (λ e=>hF.elim (λ h1=>h.nx.1 (e ▸ h1)) (λ h1=>h.nx.2 (e ▸ h1)));have z4:W'.frozen? (Z x 4 N)=false:=by rw [<- ad];simpa [go_sem] using h.z4
 have d4:W'.cell? (Z x 4 N)=G (E T d'):=by rw [<- ad];simp [go_sem,c4]
 rw [ad];exact ⟨h.two.keep zo ka,(cc 0 zd).trans h.c0,(cc 1 zd).trans h.c1,(cc 2 zd).trans h.c2,(cc 3 zd).trans h.c3,d4,z4,
  ⟨(cc 5 zd).trans h.hul.c5,(cc 6 zd).trans h.hul.c6,(cc 7 zd).trans h.hul.c7,(cc 8 zd).trans h.hul.c8,by rw [hs];exact h.hul.lt⟩,
  (h.fine.keep (hb fm (λ e=>h.ne e.symm))).mono zg (λ v hv=>hv.keep zo zi zi (λ b hb=>ka b (.inl hb.1)) (λ b hb=>ka b (.inr hb.1))) (λ k v hv=>hv.keep zo zi zi (λ b hb=>ka b (.inl hb.1)) (λ b hb=>ka b (.inr hb.1))),h.nx,h.nf,h.ne⟩
end
structure FiS (x fm:Nat) (fv:Value) (pw:Bool->Bool->Bool) (la lb:List Cl) (ra rb:RN) (f0 u0 f1 u1:Int) (c0:Nat) (Fa Fb ab aa:Blk) (W0:World) (t:Int) (fd:Bool) (j:Nat) (wa wb:Nat->Bool) (ma mb:Nat) (O:Blk) (W:World):Prop where
 ask:AsS x fm fv pw la lb ra rb f0 u0 f1 u1 ab aa wa wb ma mb (j:Int) W
 ga:GrF Fa ab W0
 gb:GrF Fb aa W0
 own:∀b,O b↔(b=c0\/ b=c0+1\/ b=c0+1+1\/ b=x\/ b=fm\/ ab b\/ aa b)
 cx:W.cell? (Z c0 0 N)=G (R (G (Z x 0 N)))
 ct:W.cell? (Z (c0+1) 0 N)=G (E T t)
 cf:W.cell? ⟨c0+1+1,0,N⟩=G (Xb fd)
 zt:W.frozen? (Z (c0+1) 0 N)=false
 zf:W.frozen? ⟨c0+1+1,0,N⟩=false
 lc:c0+1+1<W.heap.size
 nc:∀i,i<3->¬ab (c0+i)/\¬aa (c0+i)/\c0+i≠x/\c0+i≠fm
 old:∀b,Fa b\/ Fb b->¬ra.M b->¬rb.M b->W.heap[b]? =W0.heap[b]?
 sz:W0.heap.size<=W.heap.size
section
variable {x fm c0 j:Nat} {fv:Value} {pw:Bool->Bool->Bool} {la lb:List Cl} {ra rb:RN} {f0 u0 f1 u1 t:Int} {fd:Bool} {Fa Fb ab aa F2 G2:Blk} {wa wb ah ag:Nat->Bool} {ma mb aj ai:Nat} {O:Blk} {W0 W W':World}
theorem FiS.keep (h:FiS x fm fv pw la lb ra rb f0 u0 f1 u1 c0 Fa Fb ab aa W0 t fd j wa wb ma mb O W) (hs:W.heap.size<=W'.heap.size) (hO:∀b,O b->W'.heap[b]? =W.heap[b]?):FiS x fm fv pw la lb ra rb f0 u0 f1 u1 c0 Fa Fb ab aa W0 t fd j wa wb ma mb O W':=by
 have o0:=hO c0 ((h.own _).2 (.inl rfl));have o1:=hO (c0+1) ((h.own _).2 (.inr (.inl rfl)));have o2:=hO (c0+1+1) ((h.own _).2 (.inr (.inr (.inl rfl))));exact ⟨h.ask.keep hs (λ c hc=>hO c ((h.own c).2 (.inr (.inr (.inr hc))))),h.ga,h.gb,h.own,(zzJ (w:=W) (a:=Z c0 0 N) o0).trans h.cx,(zzJ (w:=W) (a:=Z (c0+1) 0 N) o1).trans h.ct,(zzJ (w:=W) (a:=⟨c0+1+1,0,N⟩) o2).trans h.cf,
  (zzM (w:=W) (a:=Z (c0+1) 0 N) o1).trans h.zt,(zzM (w:=W) (a:=⟨c0+1+1,0,N⟩) o2).trans h.zf,zH h.lc hs,h.nc,
  λ b hb n1 n2=>(hO b ((h.own b).2 (.inr (.inr (.inr (.inr (.inr (hb.imp (h.ga.sub b) (h.gb.sub b))))))))).trans (h.old b hb n1 n2),zI h.sz hs⟩
theorem FiS.lt (h:FiS x fm fv pw la lb ra rb f0 u0 f1 u1 c0 Fa Fb ab aa W0 t fd j wa wb ma mb O W):∀b,O b->b<W.heap.size:=λ b hb=>by
 have:=h.lc;have:=h.ask.hul.lt;have:=h.ask.fine.lt;rcases (h.own b).1 hb with rfl | rfl | rfl | rfl | rfl | h1 | h1
 ·omega
 ·omega
 ·omega
 ·omega
 ·omega
 ·exact h.ask.two.a.x.lt b h1
 ·exact h.ask.two.b.x.lt b h1
theorem FiS.n0 (h:FiS x fm fv pw la lb ra rb f0 u0 f1 u1 c0 Fa Fb ab aa W0 t fd j wa wb ma mb O W):(¬ab c0/\¬aa c0/\c0≠x/\c0≠fm)/\(¬ab (c0+1)/\¬aa (c0+1)/\c0+1≠x/\c0+1≠fm)/\(¬ab (c0+1+1)/\¬aa (c0+1+1)/\c0+1+1≠x/\c0+1+1≠fm):=
 ⟨h.nc 0 zo,h.nc 1 zo,h.nc 2 zo⟩
theorem FiS.more (h:FiS x fm fv pw la lb ra rb f0 u0 f1 u1 c0 Fa Fb ab aa W0 t fd j wa wb ma mb O W):FiS x fm fv pw la lb ra rb f0 u0 f1 u1 c0 Fa Fb ab aa W0 t fd (j+1) wa wb ma mb O (W.setCell (Z x 4 N) (E T ((j:Int)+1))):=by
 have hb:∀b,b≠x->(W.setCell (Z x 4 N) (E T ((j:Int)+1))).heap[b]? =W.heap[b]?:=λ b hn=>Ym _ _ _ _ hn;obtain ⟨g0,g1,g2⟩:=h.n0;have hs:(W.setCell (Z x 4 N) (E T ((j:Int)+1))).heap.size=W.heap.size:=by simp
 exact ⟨by have:=h.ask.setDays ((j:Int)+1);simpa using this,h.ga,h.gb,h.own,(zzJ (w:=W) (a:=Z c0 0 N) (hb _ g0.2.2.1)).trans h.cx,(zzJ (w:=W) (a:=Z (c0+1) 0 N) (hb _ g1.2.2.1)).trans h.ct,(zzJ (w:=W) (a:=⟨c0+1+1,0,N⟩) (hb _ g2.2.2.1)).trans h.cf,
  (zzM (w:=W) (a:=Z (c0+1) 0 N) (hb _ g1.2.2.1)).trans h.zt,(zzM (w:=W) (a:=⟨c0+1+1,0,N⟩) (hb _ g2.2.2.1)).trans h.zf,by rw [hs];exact h.lc,h.nc,
  λ b ae n1 n2=>(hb b (λ e=>by
   have hx:=h.ask.nx;exact ae.elim (λ h1=>hx.1 (e ▸ h.ga.sub b h1)) (λ h1=>hx.2 (e ▸ h.gb.sub b h1)))).trans (h.old b ae n1 n2),by rw [hs];exact h.sz⟩
theorem FiS.day (h:FiS x fm fv pw la lb ra rb f0 u0 f1 u1 c0 Fa Fb ab aa W0 t fd j wa wb ma mb O W) (hA:AsS x fm fv pw la lb ra rb f0 u0 f1 u1 F2 G2 ah ag aj ai (j:Int) W') (hE:Eff (λ b=>b=fm\/ ra.M b\/ rb.M b) W W') (ga:GrF ab F2 W) (gb:GrF aa G2 W) :
  FiS x fm fv pw la lb ra rb f0 u0 f1 u1 c0 Fa Fb F2 G2 W0 t fd j ah ag aj ai (λ b=>b=c0\/ b=c0+1\/ b=c0+1+1\/ b=x\/ b=fm\/ F2 b\/ G2 b) W'/\yaM O (λ b=>b=c0\/ b=c0+1\/ b=c0+1+1\/ b=x\/ b=fm\/ F2 b\/ G2 b) W W':=by
 obtain ⟨g0,g1,g2⟩:=h.n0;have lc:=h.lc;have nm:∀b,¬ab b->¬aa b->b≠fm->¬(b=fm\/ ra.M b\/ rb.M b):=λ b h1 h2 h3 h4=>by
  rcases h4 with h4 | h4 | h4
  ·exact h3 h4
  ·exact h1 (h.ask.two.a.x.sub b h4)
  ·exact h2 (h.ask.two.b.x.sub b h4)
 have k0:=nm _ g0.1 g0.2.1 g0.2.2.2;have k1:=nm _ g1.1 g1.2.1 g1.2.2.2;have k2:=nm _ g2.1 g2.2.1 g2.2.2.2;refine ⟨⟨hA,h.ga.trans ga h.sz,h.gb.trans gb h.sz,λ b=>Y6,(hE.cell (p:=Z c0 0 N) (by simp only [];omega) k0).trans h.cx,(hE.cell (p:=Z (c0+1) 0 N) (by simp only [];omega) k1).trans h.ct,(hE.cell (p:=⟨c0+1+1,0,N⟩) lc k2).trans h.cf,
  (hE.frozen (p:=Z (c0+1) 0 N) (by simp only [];omega) k1).trans h.zt,(hE.frozen (p:=⟨c0+1+1,0,N⟩) lc k2).trans h.zf,zH lc hE.size,λ i hi=>?_,λ b hb n1 n2=>?_,zI h.sz hE.size⟩,⟨λ b hb=>?_,λ b hb=>?_,hE.wide (λ b hb=>(h.own b).2 ?_)⟩⟩
 ·obtain ⟨q1,q2,q3,q4⟩:=h.nc i hi;exact ⟨λ hf=>(ga.new _ hf).elim q1 (λ hl=>by omega),λ hf=>(gb.new _ hf).elim q2 (λ hl=>by omega),q3,q4⟩
 ·have hl:b<W.heap.size:=hb.elim (λ h1=>h.ask.two.a.x.lt b (h.ga.sub b h1)) (λ h1=>h.ask.two.b.x.lt b (h.gb.sub b h1));refine (hE.block b hl (λ h4=>?_)).trans (h.old b hb n1 n2);rcases h4 with h4 | h4 | h4
  ·exact hb.elim (λ h1=>h.ask.nf.1 (h4 ▸ h.ga.sub b h1)) (λ h1=>h.ask.nf.2 (h4 ▸ h.gb.sub b h1))
  ·exact n1 h4
  ·exact n2 h4
 ·have al:=(h.own b).1 hb;rcases al with h1 | h1 | h1 | h1 | h1 | h1 | h1
  ·exact .inl h1
  ·exact .inr (.inl h1)
  ·exact .inr (.inr (.inl h1))
  ·exact .inr (.inr (.inr (.inl h1)))
  ·exact .inr (.inr (.inr (.inr (.inl h1))))
  ·exact .inr (.inr (.inr (.inr (.inr (.inl (ga.sub b h1))))))
  ·exact .inr (.inr (.inr (.inr (.inr (.inr (gb.sub b h1))))))
 ·rcases hb with h1 | h1 | h1 | h1 | h1 | h1 | h1
  ·exact .inl ((h.own b).2 (.inl h1))
  ·exact .inl ((h.own b).2 (.inr (.inl h1)))
  ·exact .inl ((h.own b).2 (.inr (.inr (.inl h1))))
  ·exact .inl ((h.own b).2 (.inr (.inr (.inr (.inl h1)))))
  ·exact .inl ((h.own b).2 (.inr (.inr (.inr (.inr (.inl h1))))))
  ·exact (ga.new b h1).imp (λ h2=>(h.own b).2 (.inr (.inr (.inr (.inr (.inr (.inl h2))))))) id
  ·exact (gb.new b h1).imp (λ h2=>(h.own b).2 (.inr (.inr (.inr (.inr (.inr (.inr h2))))))) id
 ·rcases hb with h1 | h1 | h1
  ·exact .inr (.inr (.inr (.inr (.inl h1))))
  ·exact .inr (.inr (.inr (.inr (.inr (.inl (h.ask.two.a.x.sub b h1))))))
  ·exact .inr (.inr (.inr (.inr (.inr (.inr (h.ask.two.b.x.sub b h1))))))
theorem FiS.set (h:FiS x fm fv pw la lb ra rb f0 u0 f1 u1 c0 Fa Fb ab aa W0 t fd j wa wb ma mb O W) (t':Int) (af:Bool):FiS x fm fv pw la lb ra rb f0 u0 f1 u1 c0 Fa Fb ab aa W0 t' af j wa wb ma mb O ((W.setCell (Z (c0+1) 0 N) (E T t')).setCell ⟨c0+1+1,0,N⟩ (Xb af))/\Eff O W ((W.setCell (Z (c0+1) 0 N) (E T t')).setCell ⟨c0+1+1,0,N⟩ (Xb af)):=by
 obtain ⟨g0,g1,g2⟩:=h.n0;have c1:=h.ct;have c2:=h.cf;have c3:=h.cx;have z1:=h.zt;have z2:=h.zf;have hE:Eff O W ((W.setCell (Z (c0+1) 0 N) (E T t')).setCell ⟨c0+1+1,0,N⟩ (Xb af)):=((Eff.refl O W).set ((h.own _).2 (.inr (.inl rfl))) _ _).set ((h.own _).2 (.inr (.inr (.inl rfl)))) _ _;have hb:∀b,b≠c0+1->b≠c0+1+1->((W.setCell (Z (c0+1) 0 N) (E T t')).setCell ⟨c0+1+1,0,N⟩ (Xb af)).heap[b]? =W.heap[b]?:=λ b n1 n2=>(Ym _ _ _ _ n2).trans (Ym _ _ _ _ n1);have hF:∀b,ab b\/ aa b->b≠c0+1/\b≠c0+1+1:=λ b hb=>⟨λ e=>hb.elim (λ h1=>g1.1 (e ▸ h1)) (λ h1=>g1.2.1 (e ▸ h1)),λ e=>hb.elim (λ h1=>g2.1 (e ▸ h1)) (λ h1=>g2.2.1 (e ▸ h1))⟩;refine ⟨⟨h.ask.keep hE.size (λ c hc=>?_),h.ga,h.gb,h.own,(zzJ (w:=W) (a:=Z c0 0 N) (hb c0 zo zo)).trans c3,by simp [go_sem,c1],by simp [go_sem,c2],by simpa [go_sem] using z1,by simpa [go_sem] using z2,zH h.lc hE.size,h.nc,λ b ae n1 n2=>?_,zI h.sz hE.size⟩,hE⟩
 ·rcases hc with rfl | rfl | hc
  ·exact hb _ (λ e=>g1.2.2.1 e.symm) (λ e=>g2.2.2.1 e.symm)
  ·exact hb _ (λ e=>g1.2.2.2 e.symm) (λ e=>g2.2.2.2 e.symm)
  ·obtain ⟨q1,q2⟩:=hF c hc;exact hb c q1 q2
 ·obtain ⟨q1,q2⟩:=hF b (ae.imp (h.ga.sub b) (h.gb.sub b));exact (hb b q1 q2).trans (h.old b ae n1 n2)
theorem FiS.eff (h:FiS x fm fv pw la lb ra rb f0 u0 f1 u1 W0.heap.size Fa Fb ab aa W0 t fd j wa wb ma mb O W) (hE:Eff (λ b=>b=W0.heap.size\/ b=W0.heap.size+1\/ b=W0.heap.size+1+1\/ b=x\/ b=fm\/ Fa b\/ Fb b) W0 W):Eff (λ b=>b=x\/ b=fm\/ ra.M b\/ rb.M b) W0 W:=
 ⟨hE.os,hE.tape,hE.output,hE.size,λ k hk hn=>by
  by_cases hF:Fa k\/ Fb k
  ·exact h.old k hF (λ h1=>hn (.inr (.inr (.inl h1)))) (λ h1=>hn (.inr (.inr (.inr h1))))
  ·refine hE.block k hk (λ ho=>?_);rcases ho with h1 | h1 | h1 | h1 | h1 | h1
   ·omega
   ·omega
   ·omega
   ·exact hn (.inl h1)
   ·exact hn (.inr (.inl h1))
   ·exact hF h1⟩
end
def NoneS (pw:Bool->Bool->Bool) (la lb:List Cl) (f0 u0 f1 u1:Int) (D:List Int) (k:Nat):Prop:=∀i n,i<k->D[i]? =G n->(inD f0 u0 n||inD f1 u1 n)=true->∀s,s<86400->pw (yax la n s) (yax lb n s)=false
def yvQ (pw:Bool->Bool->Bool) (la lb:List Cl) (f0 u0 f1 u1:Int) (D:List Int) (k:Nat) (t:Int):Prop:=∃i n at',k=i+1/\D[i]? =G n/\t=n*86400+at'/\FirstOf (λ s=>pw (yax la n s) (yax lb n s)) at' true/\NoneS pw la lb f0 u0 f1 u1 D i
def FiI (x fm:Nat) (fv:Value) (pw:Bool->Bool->Bool) (la lb:List Cl) (ra rb:RN) (f0 u0 f1 u1:Int) (c0:Nat) (Fa Fb:Blk) (W0:World) (IA IB:Nat->Nat->(Nat->Bool)->Nat->Prop) (D:List Int):ycQ:=λ k O W=>
 ∃ab aa wa wb ma mb j,FiS x fm fv pw la lb ra rb f0 u0 f1 u1 c0 Fa Fb ab aa W0 0 false j wa wb ma mb O W/\IA k j wa ma/\IB k j wb mb/\j<=k/\NoneS pw la lb f0 u0 f1 u1 D k
def FiX (x fm:Nat) (fv:Value) (pw:Bool->Bool->Bool) (la lb:List Cl) (ra rb:RN) (f0 u0 f1 u1:Int) (c0:Nat) (Fa Fb:Blk) (W0:World) (IA IB:Nat->Nat->(Nat->Bool)->Nat->Prop) (D:List Int) (c:Code):ycQ:=λ k O W=>
 c= .ret/\∃ab aa wa wb ma mb j t,FiS x fm fv pw la lb ra rb f0 u0 f1 u1 c0 Fa Fb ab aa W0 t true j wa wb ma mb O W/\IA k j wa ma/\IB k j wb mb/\j<=k/\yvQ pw la lb f0 u0 f1 u1 D k t
section
variable {x fm c0:Nat} {fv:Value} {pw:Bool->Bool->Bool} {la lb:List Cl} {ra rb:RN} {f0 u0 f1 u1:Int} {Fa Fb:Blk} {W0:World} {IA IB:Nat->Nat->(Nat->Bool)->Nat->Prop} {D:List Int}
theorem yjg:ybI (FiI x fm fv pw la lb ra rb f0 u0 f1 u1 c0 Fa Fb W0 IA IB D):=λ k O W W' ⟨_,_,_,_,_,_,_,h,g⟩ hs hO=>⟨_,_,_,_,_,_,_,h.keep hs hO,g⟩
theorem yt9 (c:Code):ybI (FiX x fm fv pw la lb ra rb f0 u0 f1 u1 c0 Fa Fb W0 IA IB D c):=λ k O W W' ⟨e,_,_,_,_,_,_,_,_,h,g⟩ hs hO=>⟨e,_,_,_,_,_,_,_,_,h.keep hs hO,g⟩
theorem yvB:LtO (FiI x fm fv pw la lb ra rb f0 u0 f1 u1 c0 Fa Fb W0 IA IB D):=λ k O W ⟨_,_,_,_,_,_,_,h,g⟩=>h.lt
theorem yyH (c:Code):LtO (FiX x fm fv pw la lb ra rb f0 u0 f1 u1 c0 Fa Fb W0 IA IB D c):=λ k O W ⟨e,_,_,_,_,_,_,_,_,h,g⟩=>h.lt
end
theorem NoneS.skip {pw:Bool->Bool->Bool} {la lb:List Cl} {f0 u0 f1 u1:Int} {D:List Int} {k:Nat} {n:Int} (h:NoneS pw la lb f0 u0 f1 u1 D k) (hn:D[k]? =G n) (hs:(inD f0 u0 n||inD f1 u1 n)=true->∀s,s<86400->pw (yax la n s) (yax lb n s)=false):NoneS pw la lb f0 u0 f1 u1 D (k+1):=λ i m hi hm hd s ak=>by
 rcases Nat.lt_succ_iff_lt_or_eq.1 hi with h1 | h1
 ·exact h i m h1 hm hd s ak
 ·subst h1;rw [hn] at hm;cases hm;exact hs hd s ak
def FiT (h1 h2 h3 h6:Value) (ds:List Deferred) (a:Act):Prop:=∃V:Nat->Value,a= {tmps:=#[V 0,h1,h2,h3,V 4,V 5,h6,V 7,V 8,V 9,V 10,V 11,V 12,V 13,V 14,V 15,V 16,V 17,V 18,V 19,V 20,V 21,V 22,V 23,V 24,V 25,V 26,V 27,V 28,V 29,V 30,V 31,V 32,V 33,V 34,V 35,V 36,V 37,V 38,V 39,V 40,V 41,V 42,V 43,V 44,V 45,V 46,V 47,V 48,V 49,V 50,V 51,V 52,V 53,V 54,V 55,V 56],defers:=ds}
theorem FiT.of {t:Array Value} {h1 h2 h3 h6:Value} {ds:List Deferred} (hs:t.size=57:=by rfl) (k1:tg t 1=h1:=by rfl) (k2:tg t 2=h2:=by rfl) (k3:tg t 3=h3:=by rfl) (k6:tg t 6=h6:=by rfl):FiT h1 h2 h3 h6 ds {tmps:=t,defers:=ds}:=⟨tg t,by subst_vars;exact tgE hs ds⟩
end
section
def yrJ (d:Option Nat):Option Addr:=d.map λ b=>(Z b 0 N)
theorem ycl (d:Option Nat):ybA d= .pointer (yrJ d):=by cases d <;> rfl
def yqS (v x:Value):Sem Value:=Instr.lookup 124 v x false
theorem ywz (v x:Value):Instr.lookup 124 v x false=yqS v x:=rfl
def yAb (v:Value):Sem Value:=Builtin.len_ #[124] 3 #[v]
theorem yzE (v:Value):Builtin.len_ #[124] 3 #[v]=yAb v:=rfl
def yxO (v x y:Value):Sem Unit:=Instr.mapUpdate 124 v x y
theorem yxM (v x y:Value):Instr.mapUpdate 124 v x y=yxO v x y:=rfl
attribute [local go_sem ↓] ywz yzE yxM
def ysx (g:Nat) (pw:Bool->Bool->Bool):Prop:=∀(d e:Option Nat) (qa qb:Nat->Bool) (W:World),Tab W->DiscO W d qa->DiscO W e qb->H I g #[ybA d,ybA e] W λ r w'=>(∃n ok,r=Q (Xt #[E T n,Xb ok])/\FirstOf (λ k=>pw (qa k) (qb k)) n ok)/\Bw W w'
theorem yuZ {x fm g:Nat} {pw:Bool->Bool->Bool} {la lb:List Cl} {ra rb:RN} {f0 u0 f1 u1 av:Int} {Fa Fb:Blk} {wa wb:Nat->Bool} {ma mb:Nat} {W:World} (n:Int) (h0:0<=n) (h1:n<146097) (aH:ma<4611686018427387904) (aG:mb<4611686018427387904)
  (hg:∀args w,(callFunc g args).run I w= .ok (.enter g args) w) (hF:ysx g pw) (h:AsS x fm (Xf (.func g) #[] #[]) pw la lb ra rb f0 u0 f1 u1 Fa Fb wa wb ma mb av W) :
  H I 123 #[R (G (Z x 0 N)),shN n] W λ e W'=>∃at' ok ad ac aB aA aD aC,e=Q (Xt #[E T at',Xb ok])/\FirstOf (λ k=>pw (yax la n k) (yax lb n k)) at' ok/\
   AsS x fm (Xf (.func g) #[] #[]) pw la lb ra rb f0 u0 f1 u1 ad ac aB aA aD aC av W'/\Eff (λ b=>b=fm\/ ra.M b\/ rb.M b) W W'/\GrF Fa ad W/\GrF Fb ac W/\ybQ la n wa ma aB aD/\ybQ lb n wb mb aA aC:=by
 have cA:=hid (λ (W':World) Fa wa ma Fb wb mb (hm:ma<4611686018427387904) (hT:yfU W' la lb ra rb Fa Fb wa wb ma mb)=>yxv n h0 h1 hm hT);have cB:=hid (λ (W':World) Fa wa ma Fb wb mb (hm:mb<4611686018427387904) (hT:yfU W' la lb ra rb Fa Fb wa wb ma mb)=>yxu n h0 h1 hm hT);simp only [ycl] at cA cB;rw [<- ya7] at cA cB⊢;obtain ⟨s,hs⟩:=zx (shF n);rw [hs,shq] at cA cB;rw [hs,shq];obtain ⟨W1,aJ⟩:=zx (W.alloc (J (ybi s).toArray 83));have aZ:Bw W W1:=by rw [<- aJ];exact yaa (Ye _ _) zg
 have bm:ShS W1 W.heap.size s:=by rw [<- aJ];exact ycB W 83 _ _ _ _ _ _ _ _ _ _
 have aF:=h.below aZ;have l1:W.heap.size<W1.heap.size:=by rw [<- aJ];simp
 have hc:Hid (∀w,Eff (λ b=>ra.M b\/ rb.M b) W1 w->w.cell? (Z x 0 N)=G (R (G (Z ra.br 0 N)))/\w.cell? (Z x 1 N)=G (R (G (Z rb.br 0 N)))/\ShS w W.heap.size s):=λ w hE=>by
  have be:¬(ra.M x\/ rb.M x):=λ hm=>hm.elim (λ h1=>h.nx.1 (h.two.a.x.sub x h1)) (λ h1=>h.nx.2 (h.two.b.x.sub x h1));have lx:=aF.hul.lt;refine ⟨(hE.cell (p:=Z x 0 N) lx be).trans aF.c0,(hE.cell (p:=Z x 1 N) lx be).trans aF.c1,yef bm (hE.block _ l1 (λ hm=>?_))⟩;rcases hm with hm | hm
  ·have:=h.two.a.x.lt _ (h.two.a.x.sub _ hm);omega
  ·have:=h.two.b.x.lt _ (h.two.b.x.sub _ hm);omega
 have bB:=hid aJ;have bb:=hid aZ;have HH:=hid h;have aQ:=hid aF;obtain ⟨Wd,aq⟩:=zx W1.drew;have ae:Hid (DP W1 la lb ra rb n Fa Fb wa wb ma mb N N N Fa Fb wa wb ma mb Wd):=by rw [<- aq];exact (DP.start aF.two).below (Ye _ _).drew
 have aw:=hid aq;clear aq hs aJ aZ bm aF l1 h;go_enter Tryz.func123,Tryz.ntmps123
 go_upto_region 1 with fail
 rw [bB];go_cut [6] from 9 (λ x6 wx=>yAl x fm (Xf (.func g) #[] #[]) pw la lb ra rb f0 u0 f1 u1 Fa Fb wa wb ma mb av n W1 x6 wx)
 case first=>
  refine Yj (S:=λ w=>Hid (Eff (λ b=>ra.M b\/ rb.M b) W1 w)) zk (hid (by rw [aw];exact ae.eff)) (λ aa=>?_);rw [aw];clear aa;have aa:Hid (Eff (λ b=>ra.M b\/ rb.M b) W1 Wd):=hid ae.eff;refine zhF 0 (hc) ?_;refine zhF 1 (hc) ?_;refine zhF 2 (hc) ?_;refine zhF 3 (hc) ?_;refine zhF 4 (hc) ?_;refine zhF 6 (hc) ?_;refine zhF 7 (hc) ?_;refine zhF 8 (hc) ?_;refine zhF 9 (hc) ?_;refine zhF 10 (hc) ?_;refine wpAnyH_ready (rs:= [5,13]) zk zs ?_;refine AllReadyH.cons rfl (λ K hK=>?_) (AllReadyH.cons rfl (λ K hK=>?_) AllReadyH.nil);focus
   go_simp;refine (cA _ _ _ _ _ _ _ (by first | exact aH | exact aG) ae.two).mono ?_;rintro e w0 ⟨dA,FA,qA,mA,rfl,hT,hG,hE,hS,hD⟩;have ae:=hid (ae.atA hT hG hE hS hD);clear hT hG hE hS hD;(try go_wp2_with fail);refine hK _ _ (hid ae.eff) (λ aa=>?_);clear hK K;refine wpAnyH_ready (rs:= [11,13]) zk zs ?_;refine AllReadyH.cons rfl (λ K hK=>?_) (AllReadyH.cons rfl (λ K hK=>?_) AllReadyH.nil);focus
    go_simp;refine (cB _ _ _ _ _ _ _ (by first | exact aH | exact aG) ae.two).mono ?_;rintro e w1 ⟨dB,FB,qB,mB,rfl,hT,hG,hE,hS,hD⟩;have ak:=hid (ae.atB hT hG hE hS hD);clear hT hG hE hS hD;(try go_wp2_with fail);refine hK _ _ (hid ak.eff) (λ aa=>?_);clear hK K;refine zhD 12 ?_;refine zzK 13 (λ K hK=>?_);go_simp;(try go_wp2_with fail);have an:=ak.alloc 258;obtain ⟨w3,bf⟩:∃w',World.alloc w1 (J #[R N,R N] 258)=w':=⟨_,rfl⟩;rw [bf] at an⊢;have bc:=hid an;clear bf an;refine hK _ _ (hid bc.eff) (λ aa=>?_);clear hK K;refine zzK 14 (λ K hK=>?_);obtain ⟨-,-,-,-,p5,pz⟩:=bc.pn _ rfl;have c0:=p5 0 zo;have c1:=p5 1 zo;clear p5;go_simp;have ag:=bc.day aQ.out
   rotate_left;focus
    go_simp;(try go_wp2_with fail);have ao:=ae.alloc 258;obtain ⟨w1,bg⟩:∃w',World.alloc w0 (J #[R N,R N] 258)=w':=⟨_,rfl⟩;rw [bg] at ao⊢;have ak:=hid ao;clear bg ao;refine hK _ _ (hid ak.eff) (λ aa=>?_);clear hK K;refine zzK 11 (λ K hK=>?_);go_simp;refine (cB _ _ _ _ _ _ _ (by first | exact aH | exact aG) ak.two).mono ?_;rintro e w2 ⟨dB,FB,qB,mB,rfl,hT,hG,hE,hS,hD⟩;have az:=hid (ak.atB hT hG hE hS hD);clear hT hG hE hS hD;(try go_wp2_with fail);refine hK _ _ (hid az.eff) (λ aa=>?_);clear hK K;refine zhD 12 ?_;refine zzK 14 (λ K hK=>?_);obtain ⟨-,-,-,-,p5,pz⟩:=az.pn _ rfl;have c0:=p5 0 zo;have c1:=p5 1 zo;clear p5;go_simp;have ag:=az.day aQ.out
   rotate_left
  rotate_left 2;focus
   go_simp;(try go_wp2_with fail);have ap:=ae.alloc 258;obtain ⟨w0,bh⟩:∃w',World.alloc Wd (J #[R N,R N] 258)=w':=⟨_,rfl⟩;rw [bh] at ap⊢;have ae:=hid ap;clear bh ap;refine hK _ _ (hid ae.eff) (λ aa=>?_);clear hK K;refine zzK 5 (λ K hK=>?_);go_simp;refine (cA _ _ _ _ _ _ _ (by first | exact aH | exact aG) ae.two).mono ?_;rintro e w1 ⟨dA,FA,qA,mA,rfl,hT,hG,hE,hS,hD⟩;have ak:=hid (ae.atA hT hG hE hS hD);clear hT hG hE hS hD;(try go_wp2_with fail);refine hK _ _ (hid ak.eff) (λ aa=>?_);clear hK K;refine zzK 11 (λ K hK=>?_);go_simp;refine (cB _ _ _ _ _ _ _ (by first | exact aH | exact aG) ak.two).mono ?_;rintro e w2 ⟨dB,FB,qB,mB,rfl,hT,hG,hE,hS,hD⟩;have az:=hid (ak.atB hT hG hE hS hD);clear hT hG hE hS hD;(try go_wp2_with fail);refine hK _ _ (hid az.eff) (λ aa=>?_);clear hK K;refine zhD 12 ?_;refine zzK 14 (λ K hK=>?_);obtain ⟨-,-,-,-,p5,pz⟩:=az.pn _ rfl;have c0:=p5 0 zo;have c1:=p5 1 zo;clear p5;go_simp;have ag:=az.day aQ.out
  rotate_left;all_goals
   rw [ycl,ycl] at ag;clear c0 c1 pz;(try go_wp2_with fail);refine hK _ _ (hid (by obtain ⟨_,_,_,_,_,_,_,_,_,_,_,hE,_⟩:=ag;exact hE)) (λ aa=>?_);clear hK K;refine Yt zk ?_ _;clear aa;go_wp2_with fail
   go_meet;exact ag
 case rest=>
  obtain ⟨b6,d,e,ad,ac,aB,aA,aD,aC,rfl,hA,hE,aY,aX,bl,bk,bu,bt,p0,p1,pz,q1,q2,q3,q4⟩:=hcut;rw [ycl] at p0 p1;obtain ⟨Wd,aq⟩:=zx wc.drew;have ah:Bw wc Wd:=by rw [<- aq];exact (Ye _ _).drew
  have aO:=hA.below ah;have au:=bu.keep ah.size zi (λ b hb=>ah.block b (hA.two.a.x.lt b hb.1));have ar:=bt.keep ah.size zi (λ b hb=>ah.block b (hA.two.b.x.lt b hb.1));have a0:=(ah.cell (p:=Z b6 0 N) q2).trans p0;have a1:=(ah.cell (p:=Z b6 1 N) q2).trans p1;have bd:b6<Wd.heap.size:=zH q2 ah.size;have bi:b6≠fm:=λ e=>by have:=aQ.fine.lt;omega
  have bx:Hid (Eff (λ b=>b=fm\/ ra.M b\/ rb.M b) W Wd):=((Eff.of_below (O:=λ b=>b=fm\/ ra.M b\/ rb.M b) bb).trans hE (λ _ h=> .inl (.inr h))).trans (Eff.of_below (O:=λ b=>b=fm\/ ra.M b\/ rb.M b) ah) (λ _ h=> .inl h);have a6:Hid (GrF Fa ad W):=⟨aY.sub,λ b hb=>(aY.new b hb).imp id (zI bb.size)⟩;have a5:Hid (GrF Fb ac W):=⟨aX.sub,λ b hb=>(aX.new b hb).imp id (zI bb.size)⟩;have a4:=hid bl;have a3:=hid bk;have ba:=hid au;have a9:=hid ar;have aw:Hid (Wd=wc.drew):=aq.symm;have aE:=aO.c3;have ai:=hid aO;have HQ:=hid (Ya bd (Ya q3 (Ya q4 bi)));have HZ:Hid (∀i,Wd.frozen? (Z b6 i N)=false):=λ i=>(ah.frozen (p:=Z b6 i N) q2).trans (pz i);have hL:=aO.fine.lookup (yyF Wd ad ac ra rb) (t:=124) Tryz.underlying124 (z:=Xb false) (by rfl) false (x:= .agg #[ybA d,ybA e]) ⟨d,e,_,_,rfl,au,ar⟩;clear aq ah aO hA hE aY aX bl bk bu bt au ar p0 p1 pz q1 q2 q3 q4 bd bi;rcases hL with q | ⟨v,hv,q⟩;rotate_left
  ·obtain ⟨rfl,aI⟩:=hv.none ba a9;rw [ycl,ycl] at q;replace q:(yqS (.map (G fm)) (.agg #[.pointer (yrJ d), .pointer (yrJ e)])).run I Wd= .ok (Xb true) Wd:=q;have aK:=hid aI;clear hv aI;go_upto_region 2 with fail
   refine Yj (S:=λ w=>Hid (Wd=w)) zk aw (λ aa=>?_);refine zhC 0 ?_;refine zhC 1 ?_;refine zhC 2 ?_;refine zhC 3 ?_;refine zhC 4 ?_;refine zhC 5 ?_;refine Yt zk ?_ _;rw [<- aw];clear aa q aE a0 a1;go_wp2;exact Yh (v:=Xt #[E T 0,Xb false]) (by simp [results,Tryz.results123,go_sem]) rfl ⟨_,_,ad,ac,aB,aA,aD,aC,rfl,aK,ai,bx,a6,a5,a4,a3⟩
  ·rw [ycl,ycl] at q;replace q:(yqS (.map (G fm)) (.agg #[.pointer (yrJ d), .pointer (yrJ e)])).run I Wd= .ok (Xb false) Wd:=q;go_upto_region 2 with fail
   refine Yj (S:=λ w=>Hid (Wd=w)) zk aw (λ aa=>?_);refine zhC 0 ?_;refine zhC 1 ?_;refine zhC 2 ?_;refine zhC 3 ?_;refine zhC 4 ?_;refine zhC 5 ?_;refine Yt zk ?_ _;rw [<- aw];clear aa q;go_upto_region 4 with fail
   have h4:Hid (∀w,Bw Wd w->w.cell? (Z x 2 N)=G (Xf (.func g) #[] #[])/\w.cell? (Z x 3 N)=G (.map (G fm))/\w.cell? (Z b6 0 N)=G (.pointer (yrJ d))/\w.cell? (Z b6 1 N)=G (.pointer (yrJ e))):=λ w hw=>
    ⟨(hw.cell (p:=Z x 2 N) ai.hul.lt).trans ai.c2,(hw.cell (p:=Z x 3 N) ai.hul.lt).trans aE,(hw.cell (p:=Z b6 0 N) HQ.1).trans a0,(hw.cell (p:=Z b6 1 N) HQ.1).trans a1⟩
   clear aE a0 a1;refine Yj (S:=λ w=>Hid (Bw Wd w)) zk (hid (Ye _ _).drew) (λ aa=>?_);refine zhF 0 (h4) ?_;refine zhF 1 (h4) ?_;refine zhF 2 (h4) ?_;refine zhF 3 (h4) ?_;refine zhF 4 (h4) ?_;refine zhF 5 (h4) ?_;refine zhF 6 (h4) ?_;refine zhF 7 (h4) ?_;refine zzK 8 (λ K hK=>?_);go_simp;have hf:=hF d e (yax la n) (yax lb n) _ (ai.below aa).two.a.x.tab.1 (ba.keep aa.size zi (λ b hb=>aa.block b (ai.two.a.x.lt b hb.1))).disc (a9.keep aa.size zi (λ b hb=>aa.block b (ai.two.b.x.lt b hb.1))).disc;rw [ycl,ycl] at hf;refine hf.mono ?_;rintro r w4 ⟨⟨at',ok,rfl,aI⟩,bv⟩;have bq:Hid (Bw Wd w4):=zu aa bv;have aK:=hid aI;clear hf bv aI aa;(try go_wp2_with fail);refine hK _ _ bq (λ aa=>?_);clear hK K bq;refine zhD 9 ?_;refine zhD 10 ?_;refine zhD 11 ?_;refine zhD 12 ?_;refine zhD 13 ?_;refine Yt zk ?_ _;have al:=aa;clear aa;have aj:=hid (ai.below al);have a8:=hid (bx.trans (Eff.of_below (O:=λ b=>b=fm\/ ra.M b\/ rb.M b) al) (λ _ h=> .inl h));cases ok;rotate_left
   ·clear h4;go_wp2;exact Yh (v:=Xt #[E T at',Xb true]) (by simp [results,Tryz.results123,go_sem]) rfl ⟨_,_,ad,ac,aB,aA,aD,aC,rfl,aK,aj,a8,a6,a5,a4,a3⟩
   ·have HN:Hid (∀k,k<86400->pw (yax la n k) (yax lb n k)=false):=by
     rcases aK.out with ⟨h,_⟩ | ⟨_,_,h⟩
     ·cases h
     ·exact h
    have aE:w4.cell? (Z x 3 N)=G (.map (G fm)):=aj.c3;have aM:=hid (ba.keep (W':=w4) al.size zi (λ b hb=>al.block b (ai.two.a.x.lt b hb.1)));have aL:=hid (a9.keep (W':=w4) al.size zi (λ b hb=>al.block b (ai.two.b.x.lt b hb.1)));have Q4:=hid (Ya (h4 _ al).2.2.1 (Ya (h4 _ al).2.2.2 (Ya HQ.2.2.2 (zH HQ.1 al.size))));have bE:Hid (¬ad b6/\¬ac b6):=⟨HQ.2.1,HQ.2.2.1⟩;obtain ⟨k,hk,bn,ql⟩:=aj.fine.count (t:=124) Tryz.underlying124 3;replace ql:(yAb (.map (G fm))).run I w4= .ok (E T k) w4:=ql;have bC:=hid bn;have bA:=hid hk;clear h4 bn hk;by_cases hk:(k:Int)=512;focus
     have aR:((k:Int)==512)=true:=(by rw [hk];rfl);clear hk;go_wp2_with (with_reducible refine ybU (t:=124) (.tmp 51) rfl rfl Tryz.underlying124 aj.out.fine rfl ?_)
     intro W6 aW af;have am:=hid (aj.map af (aW.mono zo zi (λ _ _ h=>h)));have ka:∀b,ad b/\¬ra.M b->W6.heap[b]? =w4.heap[b]?:=λ b hb=>af.block b (aj.two.a.x.lt b hb.1) (λ e=>aj.nf.1 (by cases e;exact hb.1));have kb:∀b,ac b/\¬rb.M b->W6.heap[b]? =w4.heap[b]?:=λ b hb=>af.block b (aj.two.b.x.lt b hb.1) (λ e=>aj.nf.2 (by cases e;exact hb.1));have aP:Hid (MapS (FineK W6 ad ac ra rb) (FineG pw W6 ad ac ra rb) W6 fm 511):=aW.mono zo (λ v hv=>hv.keep af.size zi zi ka kb) (λ k v hv=>hv.keep af.size zi zi ka kb);have a7:=hid (a8.trans (Eff.of_grown (M:=λ b=>b=fm\/ ra.M b\/ rb.M b) af (.inl rfl)) (λ _ h=> .inl h));have ay:=hid (aM.keep (W':=W6) af.size zi ka);have ax:=hid (aL.keep (W':=W6) af.size zi kb);have aU:=af.block b6 Q4.2.2.2 (λ e=>Q4.2.2.1 (by cases e;rfl));have Q6:=hid (Ya ((zzJ (w:=w4) (a:=Z b6 0 N) aU).trans Q4.1) (Ya ((zzJ (w:=w4) (a:=Z b6 1 N) aU).trans Q4.2.1) (Ya Q4.2.2.1 (zH Q4.2.2.2 af.size))));clear ql aR aE aW af ka kb aU
    rotate_left;focus
     have aR:((k:Int)==512)=false:=(by simp [hk]);have Hk:=hid hk;clear hk;go_upto_region 8 with fail
     clear ql aR aE;obtain ⟨W6,bj⟩:=zx w4;have am:=aj;have a7:=a8;have ay:=aM;have ax:=aL;have Q6:=Q4;have aP:Hid (MapS (FineK w4 ad ac ra rb) (FineG pw w4 ad ac ra rb) w4 fm 511):=bC.mono (by have:=bA.out;have:=Hk.out;omega) zi (λ _ _ h=>h);rw [bj] at am a7 ay ax aP Q6⊢;clear bj
    rotate_left;all_goals
     obtain ⟨W7,aV⟩:=zx (World.drew W6);have ab:Bw W6 W7:=(by rw [<- aV];exact (Ye _ _).drew);have a2:=am.below ab;have bw:Hid (W7=W6.drew):=aV.symm;clear aV;have bs:=a7.trans (Eff.of_below (O:=λ b=>b=fm\/ ra.M b\/ rb.M b) ab) (λ _ h=> .inl h);have bp:=(aP.keep (w':=W7) (ab.block fm aP.lt)).mono zg (K':=FineK W7 ad ac ra rb) (G':=FineG pw W7 ad ac ra rb)
      (λ v hv=>hv.keep ab.size zi zi (λ b hb=>ab.block b (am.two.a.x.lt b hb.1)) (λ b hb=>ab.block b (am.two.b.x.lt b hb.1)))
      (λ k v hv=>hv.keep ab.size zi zi (λ b hb=>ab.block b (am.two.a.x.lt b hb.1)) (λ b hb=>ab.block b (am.two.b.x.lt b hb.1)))
     have aT:=ay.keep (W':=W7) ab.size zi (λ b hb=>ab.block b (am.two.a.x.lt b hb.1));have aS:=ax.keep (W':=W7) ab.size zi (λ b hb=>ab.block b (am.two.b.x.lt b hb.1));obtain ⟨W8,q8,bo,aN⟩:=bp.update (yyF W7 ad ac ra rb) (t:=124) (e:=4) Tryz.underlying124 (x:= .agg #[ybA d,ybA e]) ⟨d,e,_,_,rfl,aT,aS⟩ (v:=Xb true) ⟨rfl,d,e,_,_,rfl,aT,aS,HN⟩;rw [ycl,ycl] at q8;replace q8:(yxO (.map (G fm)) (.agg #[.pointer (yrJ d), .pointer (yrJ e)]) (Xb true)).run I W7= .ok () W8:=q8;have bz:=hid (a2.map aN (bo.mono zg zi (λ _ _ h=>h)));have bD:=hid (bs.trans (Eff.of_grown (M:=λ b=>b=fm\/ ra.M b\/ rb.M b) aN (.inl rfl)) (λ _ h=> .inl h));have h8:Hid (∀w,w=W7\/ w=W8->w.cell? (Z x 3 N)=G (.map (G fm))/\w.cell? (Z b6 0 N)=G (.pointer (yrJ d))/\w.cell? (Z b6 1 N)=G (.pointer (yrJ e))):=by
      have l6:b6<W7.heap.size:=zH Q6.2.2.2 ab.size;have a0:=(ab.cell (p:=Z b6 0 N) Q6.2.2.2).trans Q6.1;have a1:=(ab.cell (p:=Z b6 1 N) Q6.2.2.2).trans Q6.2.1;have hn:b6≠fm:=Q6.2.2.1;have hb:=aN.block b6 l6 (λ e=>hn (by cases e;rfl));intro w hw;rcases hw with rfl | rfl
      ·exact ⟨a2.c3,a0,a1⟩
      ·exact ⟨bz.c3,(zzJ (w:=W7) (a:=Z b6 0 N) hb).trans a0,(zzJ (w:=W7) (a:=Z b6 1 N) hb).trans a1⟩
     clear ab a2 bs bp aT aS bo aN;go_upto_region 8 with fail
     refine Yj (S:=λ w=>Hid (w=W7\/ w=W8)) zk (hid (.inl bw.symm)) (λ aa=>?_);refine zhF 0 (h8) ?_;refine zhF 1 (h8) ?_;refine zhF 2 (h8) ?_;refine zhF 3 (h8) ?_;refine zhF 4 (h8) ?_;refine zzK 5 (λ K hK=>?_);rw [<- bw];go_simp;refine hK _ _ (hid (.inr rfl)) (λ aa=>?_);clear hK K;refine Yt zk ?_ _;clear aa q8;go_wp2;exact Yh (v:=Xt #[E T at',Xb false]) (by simp [results,Tryz.results123,go_sem]) rfl ⟨_,_,ad,ac,aB,aA,aD,aC,rfl,aK,bz,bD,a6,a5,a4,a3⟩
end
section
attribute [local go_sem] Yw
variable {Fa Fb:Blk} {f0 f1 u0 u1:Int} {la lb:List Cl} {fm g ma mb x:Nat} {wa wb:Nat->Bool} {W:World}
def ysw (pw:Bool->Bool->Bool) (la lb:List Cl) (f0 u0 f1 u1:Int) (D:List Int) (t:Int) (ok:Bool) (j:Nat):Prop:=
 (ok=true/\∃k,k<=D.length/\j<=k/\yvQ pw la lb f0 u0 f1 u1 D k t)\/ (ok=false/\t=0/\j<=D.length/\NoneS pw la lb f0 u0 f1 u1 D D.length)
def dM (f0 u0 f1 u1:Int):List Int:=yag (mbF f1 u1 (mbF f0 u0 146097)) (mbU f1 u1 (mbU f0 u0 (-1)))
theorem yvF (f0 u0 f1 u1:Int):(dM f0 u0 f1 u1).length<=146097:=by
 have h1:=yhU f0 u0 146097 (-1) zo zo;have h2:=yhU f1 u1 (mbF f0 u0 146097) (mbU f0 u0 (-1)) ⟨h1.1,h1.2.1⟩ ⟨h1.2.2.1,h1.2.2.2⟩;rw [dM,ybg];omega
theorem yg8 {n:Int} {k:Nat} (h:(dM f0 u0 f1 u1)[k]? =G n):0<=n/\n<146097/\(k:Int)<=n:=by
 have h1:=yhU f0 u0 146097 (-1) zo zo;have h2:=yhU f1 u1 (mbF f0 u0 146097) (mbU f0 u0 (-1)) ⟨h1.1,h1.2.1⟩ ⟨h1.2.2.1,h1.2.2.2⟩;obtain ⟨hk,he⟩:=zzq.1 h;have e2:(dM f0 u0 f1 u1)[k]=mbF f1 u1 (mbF f0 u0 146097)+k:=ycK hk;have hm:=ybH.1 (YN h);omega
theorem yml {pw:Bool->Bool->Bool} {ra rb:RN} (IA IB:Nat->Nat->(Nat->Bool)->Nat->Prop)
  (sA:∀k j n ws m aa m',(dM f0 u0 f1 u1)[k]? =G n->IA k j ws m->ybQ la n ws m aa m'->IA (k+1) (j+1) aa m') (sB:∀k j n ws m aa m',(dM f0 u0 f1 u1)[k]? =G n->IB k j ws m->ybQ lb n ws m aa m'->IB (k+1) (j+1) aa m')
  (nA:∀k j ws m,IA k j ws m->IA (k+1) j ws m) (nB:∀k j ws m,IB k j ws m->IB (k+1) j ws m)
  (bA:∀k j ws m,IA k j ws m->j<=146097->m<4611686018427387904) (bB:∀k j ws m,IB k j ws m->j<=146097->m<4611686018427387904)
  (hg:∀args w,(callFunc g args).run I w= .ok (.enter g args) w) (hF:ysx g pw) (h:AsS x fm (Xf (.func g) #[] #[]) pw la lb ra rb f0 u0 f1 u1 Fa Fb wa wb ma mb 0 W) (iA:IA 0 0 wa ma) (iB:IB 0 0 wb mb) :
  H I 67 #[R (G (Z x 0 N))] W λ e W'=>∃t ok ag af ac ab ae ad j k,e=Q (Xt #[E T t,Xb ok])/\ysw pw la lb f0 u0 f1 u1 (dM f0 u0 f1 u1) t ok j/\
   AsS x fm (Xf (.func g) #[] #[]) pw la lb ra rb f0 u0 f1 u1 ag af ac ab ae ad (j:Nat) W'/\Eff (λ b=>b=x\/ b=fm\/ ra.M b\/ rb.M b) W W'/\GrF Fa ag W/\GrF Fb af W/\IA k j ac ae/\IB k j ab ad/\k<=(dM f0 u0 f1 u1).length:=by
 obtain ⟨W1,aC⟩:=zx (((W.alloc (J #[R (G (Z x 0 N))] 119)).alloc (J #[E T 0] 2)).alloc (J #[Xb false] 4));have aK:Bw W W1:=by rw [<- aC];exact yaa (yaa (yaa (Ye _ _) zg) zs) (by simp only [zzN];omega)
 have s1:W1.heap.size=W.heap.size+1+1+1:=by rw [<- aC];simp
 have br:=h.hul.lt;have bs:=h.fine.lt;have aF:∀c,c=x\/ c=fm\/ Fa c\/ Fb c->c<W.heap.size:=λ c hc=>by
  rcases hc with rfl | rfl | hc | hc
  ·exact br
  ·exact bs
  ·exact h.two.a.x.lt c hc
  ·exact h.two.b.x.lt c hc
 have bb:=h.below aK;have e0:Hid (∀b,b<3->¬Fa (W.heap.size+b)/\¬Fb (W.heap.size+b)/\W.heap.size+b≠x/\W.heap.size+b≠fm):=λ b _=>
  ⟨λ h1=>by have:=aF _ (.inr (.inr (.inl h1)));omega,λ h1=>by have:=aF _ (.inr (.inr (.inr h1)));omega,by omega,by omega⟩
 have ba:FiS x fm (Xf (.func g) #[] #[]) pw la lb ra rb f0 u0 f1 u1 W.heap.size Fa Fb Fa Fb W 0 false 0 wa wb ma mb (λ b=>b=W.heap.size\/ b=W.heap.size+1\/ b=W.heap.size+1+1\/ b=x\/ b=fm\/ Fa b\/ Fb b) W1:=by
  refine ⟨bb,GrF.refl _ _,GrF.refl _ _,λ b=>Y6,?_,?_,?_,?_,?_,by omega,e0,λ b hb _ _=>aK.block b (aF b (.inr (.inr hb))),aK.size⟩ <;> (rw [<- aC];simp [go_sem])
 have cB:=hid (ymm x f0 u0 f1 u1 W1 bb.hul);have b1:=yhU f0 u0 146097 (-1) zo zo;have b2:=yhU f1 u1 (mbF f0 u0 146097) (mbU f0 u0 (-1)) ⟨b1.1,b1.2.1⟩ ⟨b1.2.2.1,b1.2.2.2⟩;have aS:=yvF f0 u0 f1 u1;have a9:Hid (∀(k:Nat) (n:Int),(dM f0 u0 f1 u1)[k]? =G n->0<=n/\n<146097/\(k:Int)<=n):=λ k n h=>yg8 h;rw [dM] at aS a9 sA sB⊢;obtain ⟨F,bF⟩:=zx (mbF f1 u1 (mbF f0 u0 146097));obtain ⟨U,bC⟩:=zx (mbU f1 u1 (mbU f0 u0 (-1)));rw [bF,bC] at cB b2 aS a9 sA sB⊢;have bN:=hid aK;have b4:=hid aC;have S1:=hid s1;have bL:=hid ba;have HA:=hid h;have cp:=hid aF;have ce:=hid aS;have aw:=hid b2;have b6:=hid sA;have b5:=hid sB;have b9:=hid nA;have b8:=hid nB;have ci:=hid bA;have ch:=hid bB;have cc:=hid hF;have cb:=hid iA;have ca:=hid iB;have cx:=ba.cx;clear aC aK s1 br bs aF bb ba b1 b2 bF bC h sA sB nA nB bA bB hF iA iB aS;refine (wf_calls (r:=N) (n:=1)).mp ?_;refine callsIn_of_wp_marks Tryz.func67 rfl trivial ?_ rfl;simp only [Tryz.ntmps67,Yp,Yu,YS,Nat.reduceAdd,Nat.reduceSub,YE,YD,YQ,YJ,Y0,YH];gi_wp2_with fail
 refine ybO ?_;rw [b4];gi_wp2_with fail
 refine (wf_calls.mpr cB).mono ?_;rintro e w2 ⟨rfl,aU⟩;have aO:=hid (zu bN aU);have bh:=hid (bL.keep aU.size (λ b hb=>aU.block b (bL.lt b hb)));clear aU cB cx;gi_wp2_with fail
 refine wpIn_label ?_;gi_wp2_with fail
 refine (wf_calls.mpr (ykD _ _ _)).mono ?_;rintro e w3 ⟨rfl,aR,ak,aT,bo⟩;have aB:w3.cell? (Z w2.heap.size 0 N)=G (E T F):=by have:=aw.out;rw [aR,show max F 0=F by omega]
 have aA:w3.cell? (Z (w2.heap.size+1) 0 N)=G (E T U):=by have:=aw.out;rw [ak,show min U 146096=U by omega]
 have aj:=hid (zu aO aT);have cg:=hid (bh.keep aT.size (λ b hb=>aT.block b (bh.lt b hb)));have aZ:∀i,¬(λ b=>b=W.heap.size\/ b=W.heap.size+1\/ b=W.heap.size+1+1\/ b=x\/ b=fm\/ Fa b\/ Fb b) (w2.heap.size+i):=λ i hb=>by have:=bh.lt _ hb;omega
 have tl:=hid (yhB F U w2.heap.size (w2.heap.size+1) (λ b=>b=W.heap.size\/ b=W.heap.size+1\/ b=W.heap.size+1+1\/ b=x\/ b=fm\/ Fa b\/ Fb b) w3 aw.1 aw.2.1 aw.2.2.2 aw.2.2.1 zo bo (aZ 0) (aZ 1) aB aA);clear aR ak aB aA aT bo aZ;gi_wp2_with fail
 refine yfI (gf:=141) (lb:=#[R (G (Z w2.heap.size 0 N)),R (G (Z (w2.heap.size+1) 0 N))]) rfl ygu (ycn (yag F U)) (λ b=>b=W.heap.size\/ b=W.heap.size+1\/ b=W.heap.size+1+1\/ b=x\/ b=fm\/ Fa b\/ Fb b) (λ x hx=>by simp only [ycn,YA] at hx;obtain ⟨_,_,rfl⟩:=hx;rfl) tl
  (FiI x fm (Xf (.func g) #[] #[]) pw la lb ra rb f0 u0 f1 u1 W.heap.size Fa Fb W IA IB (yag F U)) (FiX x fm (Xf (.func g) #[] #[]) pw la lb ra rb f0 u0 f1 u1 W.heap.size Fa Fb W IA IB (yag F U))
  yjg yt9 yvB yyH ⟨Fa,Fb,wa,wb,ma,mb,0,cg,cb,ca,zG _,λ i n hi=>by omega⟩
  (λ k O a' W'=>FiI x fm (Xf (.func g) #[] #[]) pw la lb ra rb f0 u0 f1 u1 W.heap.size Fa Fb W IA IB (yag F U) k O W'/\∃bx n,(yag F U)[k]? =G n/\bx<W'.heap.size/\¬O bx/\ShS W' bx (shF n)/\FiT (R (G (Z W.heap.size 0 N))) (R (G (Z (W.heap.size+1) 0 N))) (R (G ⟨W.heap.size+1+1,0,N⟩)) (R (G (Z bx 0 N))) [] a')
  ?putl ?assign ?body ?done ?stop
 case putl=>
  rintro l' o k O2 a' W' hr hn ⟨h,bx,n,h1,h2,h3,h4,h5⟩;exact ⟨yjg k O2 W' _ h (by rw [Yg];exact zG _) (λ b hb=>Yc (λ e=>hn (e ▸ hb))),bx,n,h1,by rw [Yg];exact h2,h3,yle h4 hr,h5⟩
 case assign=>
  intro l' k O6 W6 K hk bE a6 hK;have ak:k<(yag F U).length:=by rw [yb6] at hk;exact hk
  have hx:=ye9 hk;obtain ⟨n,hn⟩:=zx ((yag F U)[k]);have bY:Hid ((yag F U)[k]? =G n):=by show _ = _;rw [zzp ak,hn]
  rw [hn,<- ya7] at hx;rw [hx];obtain ⟨s,hs⟩:=zx (shF n);rw [hs,shq];have Hs:=hid hs;have bK:=hid bE;clear hx hn hs ak bE a6;gi_wp2
  have ao:=yaa (o:=J (ybi s).toArray 83) (Ye W6.heap.size W6) zg;have hlt:=yvB k O6 W6 bK.out;exact hK _ O6 _ (yaM.of_below ao) ⟨yjg k O6 W6 _ bK ao.size (λ b hb=>ao.block b (hlt b hb)),W6.heap.size,n,bY,by simp,λ h=>by have:=hlt _ h;omega,by rw [Hs];exact ycB W6 83 _ _ _ _ _ _ _ _ _ _,FiT.of⟩
 case done=>
  intro O9 w9 ar bD hD an;rw [yb6] at bD;obtain ⟨ag,af,ac,ab,ae,ad,j,hS,jA,jB,hj,hN⟩:=bD;obtain ⟨a4,a7⟩:=hS.set 0 false;have az:∀b,O9 b->b≠w3.heap.size:=λ b hb e=>an (e ▸ hb);have c4:=hS.ct;have c5:=hS.cf;have f4:=hS.zt;have f5:=hS.zf;obtain ⟨wf,aP⟩:=zx ((w9.setCell (Z (W.heap.size+1) 0 N) (E T 0)).setCell ⟨W.heap.size+1+1,0,N⟩ (Xb false));rw [aP] at a4 a7;have bH:wf.heap[w3.heap.size]? =G (.deferred (G [])):=by
   rw [<- aP,Ym _ _ _ _ (λ e=>an (by rw [e];exact (hS.own _).2 (.inr (.inr (.inl rfl))))),Ym _ _ _ _ (λ e=>an (by rw [e];exact (hS.own _).2 (.inr (.inl rfl))))];exact hD
  have ap:=a4.keep (W':=wf.putObj w3.heap.size (.deferred N)) (by rw [Yg];exact zG _) (λ b hb=>Yc (az b hb));have aH:Eff (λ b=>b=W.heap.size\/ b=W.heap.size+1\/ b=W.heap.size+1+1\/ b=x\/ b=fm\/ Fa b\/ Fb b) W (wf.putObj w3.heap.size (.deferred N)):=by
   refine Eff.putObj (((Eff.of_below aj).trans ar.eff (λ _ h=> .inl h)).trans a7 (λ b hb=>?_)) (.inr aj.size) _;exact (ar.new b hb).imp id (λ h=>zI aj.size h)
  have ai:=hid ap;have bf:=hid (ap.eff aH);have bg:=hid bH;have HJ:=hid (Ya jA (Ya jB (Ya hj hN)));have bV:=hid aP;clear ar hD an hS a4 a7 az aP bH ap aH jA jB hj hN;gi_wp2
  rw [bV];refine ⟨by simp, .inl ⟨_,_,rfl,YM bg,?_⟩⟩;have d4:=ai.ct;have d5:=ai.cf;refine ⟨Xt #[E T 0,Xb false],?_,0,false,ag,af,ac,ab,ae,ad,j,(yag F U).length,rfl, .inr ⟨rfl,rfl,HJ.2.2.1,HJ.2.2.2⟩,ai.ask,bf,ai.ga,ai.gb,HJ.1,HJ.2.1,zG _⟩;simp [results,Tryz.results67,go_sem,d4,d5]
 case stop=>
  rintro c k O9 w9 aR ak ar ⟨rfl,ag,af,ac,ab,ae,ad,j,t,hS,jA,jB,hj,bz⟩ hD an;have bt:k<=(yag F U).length:=by rw [yb6] at ak;exact ak
  have az:∀b,O9 b->b≠w3.heap.size:=λ b hb e=>an (e ▸ hb);have ap:=hS.keep (W':=w9.putObj w3.heap.size (.deferred N)) (by rw [Yg];exact zG _) (λ b hb=>Yc (az b hb));have aH:Eff (λ b=>b=W.heap.size\/ b=W.heap.size+1\/ b=W.heap.size+1+1\/ b=x\/ b=fm\/ Fa b\/ Fb b) W (w9.putObj w3.heap.size (.deferred N)):=
   Eff.putObj ((Eff.of_below aj).trans ar.eff (λ _ h=> .inl h)) (.inr aj.size) _
  have ai:=hid ap;have bf:=hid (ap.eff aH);have bg:=hid hD;have HJ:=hid (Ya jA (Ya jB (Ya hj (Ya bt bz))));clear ar hD an hS az ap aH jA jB hj bz aR ak bt;gi_wp2
  refine ⟨by simp, .inl ⟨_,_,rfl,YM bg,?_⟩⟩;have d4:=ai.ct;have d5:=ai.cf;refine ⟨Xt #[E T t,Xb true],?_,t,true,ag,af,ac,ab,ae,ad,j,k,rfl, .inl ⟨rfl,k,HJ.2.2.2.1,HJ.2.2.1,HJ.2.2.2.2⟩,ai.ask,bf,ai.ga,ai.gb,HJ.1,HJ.2.1,HJ.2.2.2.1⟩;simp [results,Tryz.results67,go_sem,d4,d5]
 case body=>
  rintro l3 k O6 a' W6 hk a6 cn bq bR ⟨⟨ag,af,ac,ab,ae,ad,j,al,jA,jB,hj,hN⟩,bx,n,en,lx,nx,aY,V,rfl⟩;have hn:=a9 k n en;have bU:k<(yag F U).length:=(zzq.1 en).1;have hL:=ce.out;have j0:(0:Int)<=(j:Int):=zo;have j1:(j:Int)<146098:=zo;have cm:IntKind.i64.wrap ((j:Int)+1)= (j:Int)+1:=Yn _ zo;have aM:=hid (λ W=>yhh f0 u0 n W hn.1 hn.2.1);have aV:=hid (λ W=>yhh f1 u1 n W hn.1 hn.2.1);have En:=hid en;have Hn:=hid hn;have HJ:=hid (Ya jA (Ya jB (Ya hj hN)));have bJ:Hid (j+1<=146097):=by show _<=_;omega
  have av:=hid al;have bX:=hid nx;have bZ:=hid lx;have bW:=hid aY;obtain ⟨s,hs⟩:=zx (shF n);have bp:s 0=n:=by rw [<- hs];rfl
  rw [hs] at aY;obtain ⟨aX,-⟩:=aY;rw [bp] at aX;have k0:=al.cx;have k5:=al.ask.hul.c5;have k6:=al.ask.hul.c6;have k7:=al.ask.hul.c7;have k8:=al.ask.hul.c8;have lc:=al.lc;have ax:=al.ask.hul.lt;have cD:=hid (λ (W':World) (Fa Fb:Blk) (wa wb:Nat->Bool) (ma mb:Nat) (bc:Int) (bT:ma<4611686018427387904) (bS:mb<4611686018427387904) (hA:AsS x fm (Xf (.func g) #[] #[]) pw la lb ra rb f0 u0 f1 u1 Fa Fb wa wb ma mb bc W')=>yuZ n hn.1 hn.2.1 bT bS hg cc hA);rw [<- ya7,hs,shq] at cD;have Hs:=hid hs;have cl:IntKind.i64.wrap (n*86400)=n*86400:=Yn _ zo;clear hk a6 en hn bU hL jA jB hj hN al nx hs bp lx;obtain ⟨X0,a3⟩:=zx (inD f0 u0 n);obtain ⟨X1,a2⟩:=zx (inD f1 u1 n);rw [a3] at aM;rw [a2] at aV;have b3:=hid a3;have b0:=hid a2;clear a3 a2;cases X0;focus
   gi_wp2_with fail
   refine (wf_calls.mpr (aM _)).mono ?_;rintro e w7 ⟨rfl,aq⟩;have bM:=hid aq;have bP:=zH lc aq.size;have bO:=zH ax aq.size;replace k0:=(aq.cell (p:=Z W.heap.size 0 N) (by simp only [];omega)).trans k0;replace k7:=(aq.cell (p:=Z x 7 N) ax).trans k7;replace k8:=(aq.cell (p:=Z x 8 N) ax).trans k8;clear aq aM k5 k6 aX lc ax;cases X1;all_goals
    gi_wp2_with fail
    refine (wf_calls.mpr (aV _)).mono ?_;rintro e w8 ⟨rfl,aJ⟩;have am:=hid (zu bM aJ);clear aJ aV k0 k7 k8 bP bO;have hlt:=av.lt;have au:=hid (av.keep am.size (λ b hb=>am.block b (hlt b hb)))
  ·gi_wp2
   exact ⟨O6,yaM.of_below am,ag,af,ac,ab,ae,ad,j,au,b9 _ _ _ _ HJ.1,b8 _ _ _ _ HJ.2.1,by have:=HJ.2.2.1;omega,HJ.2.2.2.skip En (λ hd=>by rw [b3,b0] at hd;cases hd)⟩
  rotate_left;focus
   gi_wp2_with fail
   refine (wf_calls.mpr (aM _)).mono ?_;rintro e w8 ⟨rfl,aJ⟩;have am:=hid aJ;clear aJ aM aV k0 k5 k6 k7 k8 lc ax aX;have hlt:=av.lt;have au:=hid (av.keep am.size (λ b hb=>am.block b (hlt b hb)))
  all_goals
   have bd:=hid (yef bW (am.block bx bZ));have kx:=au.cx;have k4:=au.ask.c4;have z4:=au.ask.z4;clear hlt;gi_upto_region 7 with fail
   obtain ⟨w9,aQ⟩:=zx (w8.setCell (Z x 4 N) (E T ((j:Int)+1)));have aD:=au.more;have bG:Eff O6 W6 w9:=(by rw [<- aQ];exact (Eff.of_below am).set ((av.own x).2 (.inr (.inr (.inr (.inl rfl))))) _ _);have ay:ShS w9 bx (shF n):=(by rw [<- aQ];exact yef bd (Ym _ _ _ _ (λ e=>bX ((av.own bx).2 (.inr (.inr (.inr (.inl e))))))));rw [aQ] at aD⊢;have b7:=hid aD;have cd:=hid bG;have bI:=hid (cD w9 ag af ac ab ae ad _ (ci _ _ _ _ HJ.1 (zp bJ.out)) (ch _ _ _ _ HJ.2.1 (zp bJ.out)) aD.ask);have bQ:=aD.cx;rw [Hs] at ay;obtain ⟨t0,t1,t2,t3,t4,t5,t6,t7,t8,t9⟩:=ay;clear aQ bG kx k4 z4 aD cD;gi_wp2_with fail
   refine (wf_calls.mpr bI).mono ?_;rintro e cj ⟨at',ok,F2,G2,bj,bi,bl,bk,rfl,bw,aL,aI,bv,bu,bn,bm⟩;obtain ⟨aE,aG⟩:=b7.day aL aI bv bu;have ah:=hid aE;have aN:=hid ((show yaM O6 O6 W6 w9 from ⟨λ _ h=>h,λ _ h=> .inl h,cd⟩).trans aG);have be:=hid bw;have aW:=hid (Ya (b6 _ _ _ _ _ _ _ En HJ.1 bn) (b5 _ _ _ _ _ _ _ En HJ.2.1 bm));clear bw aL aI bv bu bn bm aE aG t0 t1 t2 t3 t4 t5 t6 t7 t8 t9 bQ bI;cases ok
   ·gi_wp2
    exact ⟨_,aN,F2,G2,bj,bi,bl,bk,j+1,ah,aW.1,aW.2,by have:=HJ.2.2.1;omega,HJ.2.2.2.skip En (λ _ s hs=>by
     rcases be.out with ⟨h,_⟩ | ⟨_,_,h⟩
     ·cases h
     ·exact h s hs)⟩
   ·obtain ⟨a0,a1⟩:0<=at'/\at'<86400:=by
     rcases be.out with ⟨_,k',rfl,co,_⟩ | ⟨h,_⟩
     ·omega
     ·cases h
    have ck:IntKind.i64.wrap (n*86400+at')=n*86400+at':=Yn _ (zp Hn.out);have c4:=ah.ct;have c5:=ah.cf;have f4:=ah.zt;have f5:=ah.zf;clear a0 a1;gi_wp2
    obtain ⟨a5,a8⟩:=ah.set (n*86400+at') true;exact ⟨_,aN.trans ⟨λ _ h=>h,λ _ h=> .inl h,a8⟩,rfl,F2,G2,bj,bi,bl,bk,j+1,n*86400+at',a5,aW.1,aW.2,by have:=HJ.2.2.1;omega,k,n,at',rfl,En,rfl,be,HJ.2.2.2⟩
theorem yo9 {pw:Bool->Bool->Bool} {ra rb:RN} (IA IB:Nat->(Nat->Bool)->Nat->Prop)
  (sA:∀j n ws m aa m',0<=n->n<146097->IA j ws m->ybQ la n ws m aa m'->IA (j+1) aa m') (sB:∀j n ws m aa m',0<=n->n<146097->IB j ws m->ybQ lb n ws m aa m'->IB (j+1) aa m')
  (bA:∀j ws m,IA j ws m->j<=146097->m<4611686018427387904) (bB:∀j ws m,IB j ws m->j<=146097->m<4611686018427387904)
  (hg:∀args w,(callFunc g args).run I w= .ok (.enter g args) w) (hF:ysx g pw) (h:AsS x fm (Xf (.func g) #[] #[]) pw la lb ra rb f0 u0 f1 u1 Fa Fb wa wb ma mb 0 W) (iA:IA 0 wa ma) (iB:IB 0 wb mb) :
  H I 67 #[R (G (Z x 0 N))] W λ e W'=>∃t ok ag af ac ab ae ad j,e=Q (Xt #[E T t,Xb ok])/\ysw pw la lb f0 u0 f1 u1 (dM f0 u0 f1 u1) t ok j/\
   AsS x fm (Xf (.func g) #[] #[]) pw la lb ra rb f0 u0 f1 u1 ag af ac ab ae ad (j:Nat) W'/\Eff (λ b=>b=x\/ b=fm\/ ra.M b\/ rb.M b) W W'/\GrF Fa ag W/\GrF Fb af W/\IA j ac ae/\IB j ab ad:=
 (yml (λ _=>IA) (λ _=>IB) (λ k j n ws m aa m' h=>sA j n ws m aa m' (yg8 h).1 (yg8 h).2.1) (λ k j n ws m aa m' h=>sB j n ws m aa m' (yg8 h).1 (yg8 h).2.1) (λ _ _ _ _ h=>h) (λ _ _ _ _ h=>h) (λ _=>bA) (λ _=>bB) hg hF h iA iB).mono
   λ e W' ⟨t,ok,ag,af,ac,ab,ae,ad,j,k,h1,h2,h3,h4,h5,h6,h7,h8,_⟩=>⟨t,ok,ag,af,ac,ab,ae,ad,j,h1,h2,h3,h4,h5,h6,h7,h8⟩
end
section
variable {x:Nat} {v:Nat->Value} {W:World}
structure XB (x:Nat) (v:Nat->Value) (W:World):Prop where
 c:∀i,i<9->W.cell? (Z x i N)=G (v i)
 z:∀i,W.frozen? (Z x i N)=false
 lt:x<W.heap.size
theorem XB.block {W':World} (h:XB x v W) (hs:W.heap.size<=W'.heap.size) (hb:W'.heap[x]? =W.heap[x]?):XB x v W':=
 ⟨λ i hi=>(zzJ (w:=W) (a:=Z x i N) hb).trans (h.c i hi),λ i=>(zzM (w:=W) (a:=Z x i N) hb).trans (h.z i),zH h.lt hs⟩
theorem XB.set (h:XB x v W) (k:Nat) (hk:k<9) (u:Value):XB x (λ i=>if i=k then u else v i) (W.setCell (Z x k N) u):=
 ⟨λ i hi=>by
  by_cases e:i=k
  ·subst e;have:=h.c i hi;simp [go_sem,this]
  ·rw [zzL _ _ _ _ (λ e2=>by injection e2 with _ e3;exact e e3.symm),h.c i hi,Yb e],λ i=>by simpa [go_sem] using h.z i,by simpa using h.lt⟩
def yzi (pa pb:Value) (fv:Value) (fm:Nat) (f0 u0 f1 u1:Int) (i:Nat):Value:=#[pa,pb,fv, .map (G fm),E T 0,E T f0,E T u0,E T f1,E T u1].getD i undef
def hF (l:List Cl):Int:=yau (ybz l) (yby l)
def hU (l:List Cl):Int:=yat (ybz l) (yby l)
attribute [local go_sem] run_makeMap
def yzn (W:World) (fv:Value) (pw:Bool->Bool->Bool) (la lb:List Cl) (e:Ending) (W':World):Prop:=
 (yaf la≠0/\e=Q (Xt #[R N,E T (yaf la)]))\/
 (yaf la=0/\yaf lb≠0/\e=Q (Xt #[R N,E T (yaf lb)]))\/
 (yaf la=0/\yaf lb=0/\∃x fm ra rb Fa Fb,e=Q (Xt #[R (G (Z x 0 N)),E T 0])/\AsS x fm fv pw la lb ra rb (hF la) (hU la) (hF lb) (hU lb) Fa Fb (λ _=>false) (λ _=>false) 0 0 0 W'/\W.heap.size<=x/\W.heap.size<=fm/\(∀b,ra.M b\/ rb.M b->W.heap.size<=b))
theorem ypa (a:Option Addr) (cap:Nat) (la:List Cl) (b:Option Addr) (ab:Nat) (lb:List Cl) (g:Nat) (pw:Bool->Bool->Bool) (W:World)
  (hl:la.length<=1000) (aU:la.length<=cap) (hs:Sl W a (cls la)) (aT:a=N->cap=0) (aS:∀c∈la,c.Ok)
  (aV:lb.length<=1000) (al:lb.length<=ab) (aC:Sl W b (cls lb)) (ak:b=N->ab=0) (aj:∀c∈lb,c.Ok) (hT:Tab W) :
  H I 66 #[Xs a la.length cap,Xs b lb.length ab,Xf (.func g) #[] #[]] W λ e W'=>yzn W (Xf (.func g) #[] #[]) pw la lb e W'/\Bw W W':=by
 have cA:=hid (λ W1 (hB:Bw W W1)=>yd5 a cap la W1 zo aU (hs.below hB) aT aS (hT.later hB));have cB:=hid (λ W1 (hB:Bw W W1)=>yd5 b ab lb W1 zo al (aC.below hB) ak aj (hT.later hB));have hA:=hid (λ W1 (hB:Bw W W1)=>yjw a cap la W1 hl (hs.below hB));have hB:=hid (λ W1 (hB:Bw W W1)=>yjw b ab lb W1 aV (aC.below hB));have HT:=hid hT;have aL:Hid (0<W.heap.size):=hT.1;clear hl aU hs aT aS aV al aC ak aj hT;obtain ⟨W1,ae⟩:=zx ((W.alloc (.map #[] 0)).alloc (J #[R N,R N,Xf (.func g) #[] #[], .map (G W.heap.size),E T 0,E T 0,E T 0,E T 0,E T 0] 129));have aO:Hid (Bw W W1):=by rw [<- ae];exact yaa (yaa (Ye _ _) zg) zs
 have S1:Hid (W1.heap.size=W.heap.size+1+1):=by show _ = _;rw [<- ae];simp
 have X1:Hid (XB (W.heap.size+1) (yzi (R N) (R N) (Xf (.func g) #[] #[]) W.heap.size 0 0 0 0) W1):=by
  refine ⟨λ i hi=>?_,λ i=>?_,by rw [S1];omega⟩
  ·rw [<- ae];have h9:i=0\/ i=1\/ i=2\/ i=3\/ i=4\/ i=5\/ i=6\/ i=7\/ i=8:=zo;rcases h9 with rfl | rfl | rfl | rfl | rfl | rfl | rfl | rfl | rfl <;> simp [go_sem,yzi]
  ·rw [<- ae];simp [go_sem]
 have M1:Hid (W1.heap[W.heap.size]? =G (.map #[] 0)):=by
  show _ = _;rw [<- ae,Y4 _ _ _ zs];exact (MapKept.heap_alloc W _).1
 have a9:=hid ae;clear ae;obtain ⟨ea,aq⟩:=zx (yaf la);obtain ⟨eb,aF⟩:=zx (yaf lb);have aw:=hid aq;have av:=hid aF;go_enter Tryz.func66,Tryz.ntmps66
 go_upto_region 3 with fail
 rw [a9];go_wp2_with fail
 refine (cA W1 aO).mono ?_;rintro e w2 ⟨hN,af⟩;have bc:=hid af;have ag:=hid (zu aO af);have X2:=hid (X1.block af.size (af.block _ X1.lt));have M2:Hid (w2.heap[W.heap.size]? =G (.map #[] 0)):=(af.block _ (zp S1.out)).trans M1.out;have x0:=X2.c 0 zo;have z0:=X2.z 0;rw [show yzi (R N) (R N) (Xf (.func g) #[] #[]) W.heap.size 0 0 0 0 0=R N from rfl] at x0;rw [yzc,aq] at hN;rcases hN with ⟨hf,rfl⟩ | ⟨hf,br,bk,bps,rfl,hR,hM⟩
 ·have hR:Hid (yzn W (Xf (.func g) #[] #[]) pw la lb (Q (Xt #[R N,E T ea])) (w2.setCell (Z (W.heap.size+1) 0 N) (R N))):= .inl ⟨by rw [aw];exact hf,by rw [aw]⟩;have a7:(ea==0)=false:=by simpa using hf
  have a6:(ea != 0)=true:=by simpa using hf
  have aN:Hid (Bw W (w2.setCell (Z (W.heap.size+1) 0 N) (R N))):=yab ag zo;clear af cA cB hA hB aq aF hf;go_wp2;exact Yh (v:=Xt #[R N,E T ea]) (by simp [results,Tryz.results66,go_sem]) rfl ⟨hR,aN⟩
 ·have HR:=hid hR;have HM:=hid hM;subst hf;clear af hR hM cA aq aF;go_upto_region 6 with fail
  obtain ⟨w3,ai⟩:=zx (w2.setCell (Z (W.heap.size+1) 0 N) (R (G (Z br 0 N))));have aJ:=X2.set 0 zo (R (G (Z br 0 N)));have aH:∀b,b≠W.heap.size+1->w3.heap[b]? =w2.heap[b]?:=λ b hn=>by rw [<- ai];exact Ym _ _ _ _ hn
  have aR:w3.heap.size=w2.heap.size:=by rw [<- ai];simp
  have az:Hid (Bw W w3):=by rw [<- ai];exact yab ag zo
  rw [ai] at aJ⊢;have HF:Hid (∀b,yed W1 w2 b->b≠W.heap.size+1/\b≠W.heap.size):=λ b hb=>by
   have:=S1.out;have:=aL.out;rcases hb with hb | hb
   ·omega
   ·subst hb;omega
  have ax:=hid (HR.keep (W':=w3) zo (λ b hb=>aH b (HF b hb).1));have M3:Hid (w3.heap[W.heap.size]? =G (.map #[] 0)):=(aH _ zo).trans M2.out;have X3:=hid aJ;have S3:=hid aR;clear ai aJ aH aR x0 z0 HR;go_wp2_with fail
  refine (cB w3 az).mono ?_;rintro e w4 ⟨hN,ad⟩;have ao:=hid (zu az ad);have X4:=hid (X3.block ad.size (ad.block _ X3.lt));have M4:Hid (w4.heap[W.heap.size]? =G (.map #[] 0)):=(ad.block _ (zp X3.out.lt)).trans M3.out;have aM:=hid (ax.keep (W':=w4) ad.size (λ b hb=>ad.block b (ax.x.lt b hb)));have S4:Hid (w2.heap.size<=w4.heap.size):=by have:=S3.out;have:=ad.size;show _<=_;omega
  have x1:=X4.c 1 zo;have z1:=X4.z 1;rw [Yb zo,show yzi (R N) (R N) (Xf (.func g) #[] #[]) W.heap.size 0 0 0 0 1=R N from rfl] at x1;rw [yzc,av] at hN;rcases hN with ⟨hf,rfl⟩ | ⟨hf,au,aZ,am,rfl,hR,hM⟩
  ·have hR:Hid (yzn W (Xf (.func g) #[] #[]) pw la lb (Q (Xt #[R N,E T eb])) (w4.setCell (Z (W.heap.size+1) 1 N) (R N))):= .inr (.inl ⟨aw,by rw [av];exact hf,by rw [av]⟩);have a7:(eb==0)=false:=(by simpa using hf);have a6:(eb != 0)=true:=(by simpa using hf);have aN:Hid (Bw W (w4.setCell (Z (W.heap.size+1) 1 N) (R N))):=yab ao zo;clear ad cB hA hB hf;go_wp2;exact Yh (v:=Xt #[R N,E T eb]) (by simp [results,Tryz.results66,go_sem]) rfl ⟨hR,aN⟩
  ·have a0:=hid hR;have a1:=hid hM;subst hf;clear ad hR hM cB;go_upto_region 9 with fail
   obtain ⟨w5,ah⟩:=zx (w4.setCell (Z (W.heap.size+1) 1 N) (R (G (Z au 0 N))));have aI:=X4.set 1 zo (R (G (Z au 0 N)));have ar:∀b,b≠W.heap.size+1->w5.heap[b]? =w4.heap[b]?:=λ b hn=>(by rw [<- ah];exact Ym _ _ _ _ hn);have a5:w5.heap.size=w4.heap.size:=(by rw [<- ah];simp);have an:Hid (Bw W w5):=(by rw [<- ah];exact yab ao zo);rw [ah] at aI⊢;have ay:Hid (∀b,yed w3 w4 b->b≠W.heap.size+1/\b≠W.heap.size):=λ b hb=>by
    have:=X3.lt;have:=aL.out;rcases hb with hb | hb
    ·omega
    ·subst hb;omega
   have a8:Hid (yfU w5 la lb ⟨br,bk,bps⟩ ⟨au,aZ,am⟩ (yed W1 w2) (yed w3 w4) (λ _=>false) (λ _=>false) 0 0):=by
    refine ⟨aM.keep zo (λ b hb=>ar b (HF b hb).1),a0.keep zo (λ b hb=>ar b (ay b hb).1),λ c hc hm=>?_,λ c hc hm=>?_⟩
    ·have h1:=aM.x.sub c hm;have h2:=HM c hm;have:=S1.out;have:=S3.out;have:=ax.x.sub c hm;rcases hc with hc | hc
     ·rcases h1 with h1 | h1
      ·omega
      ·subst h1;omega
     ·subst hc;omega
    ·have h2:=a1 c hm;have:=S1.out;have:=S3.out;have:=ag.size;have:=aL.out;rcases hc with hc | hc
     ·omega
     ·subst hc;omega
   have M5:Hid (w5.heap[W.heap.size]? =G (.map #[] 0)):=(ar _ zo).trans M4.out;have X5:=hid aI;clear ah aI ar a5 x1 z1 a0 aM ax;rw [show yau (ybz la) (yby la)=hF la from rfl,show yat (ybz la) (yby la)=hU la from rfl] at hA;rw [show yau (ybz lb) (yby lb)=hF lb from rfl,show yat (ybz lb) (yby lb)=hU lb from rfl] at hB;obtain ⟨f0,aE⟩:=zx (hF la);obtain ⟨u0,aB⟩:=zx (hU la);obtain ⟨f1,aD⟩:=zx (hF lb);obtain ⟨u1,aA⟩:=zx (hU lb);rw [aE,aB] at hA;rw [aD,aA] at hB;have Hf:=hid (Ya aE (Ya aB (Ya aD aA)));clear aE aB aD aA;go_wp2_with fail
   refine zm (hA _ an) ?_;rintro w6 aK;have a3:=hid aK;have aQ:=hid (zu an aK);clear aK hA;go_wp2_with fail
   refine zm (hB _ aQ) ?_;rintro w7 aY;have ac:=hid (zu a3 aY);have aP:=hid (zu an ac);have X7:=hid (X5.block ac.size (ac.block _ X5.lt));have ba:=hid (a8.below ac);have M7:Hid (w7.heap[W.heap.size]? =G (.map #[] 0)):=(ac.block _ (zp X5.out.lt)).trans M5.out;have x5:=X7.c 5 zo;have x6:=X7.c 6 zo;have x7:=X7.c 7 zo;have x8:=X7.c 8 zo;have z5:=X7.z 5;have z6:=X7.z 6;have z7:=X7.z 7;have z8:=X7.z 8;simp only [Yb (show¬(5:Nat)=1 by omega),Yb (show¬(5:Nat)=0 by omega),Yb (show¬(6:Nat)=1 by omega),Yb (show¬(6:Nat)=0 by omega),Yb (show¬(7:Nat)=1 by omega),Yb (show¬(7:Nat)=0 by omega),Yb (show¬(8:Nat)=1 by omega),Yb (show¬(8:Nat)=0 by omega)] at x5 x6 x7 x8;clear aY hB;go_upto_region 10 with fail
   have aa:=(((X7.set 5 zo (E T f0)).set 6 zo (E T u0)).set 7 zo (E T f1)).set 8 zo (E T u1);have a2:Hid (Bw W ((((w7.setCell (Z (W.heap.size+1) 5 N) (E T f0)).setCell (Z (W.heap.size+1) 6 N) (E T u0)).setCell (Z (W.heap.size+1) 7 N) (E T f1)).setCell (Z (W.heap.size+1) 8 N) (E T u1))):=
    yab (yab (yab (yab aP zo) zo) zo) zo
   obtain ⟨w8,ap⟩:=zx ((((w7.setCell (Z (W.heap.size+1) 5 N) (E T f0)).setCell (Z (W.heap.size+1) 6 N) (E T u0)).setCell (Z (W.heap.size+1) 7 N) (E T f1)).setCell (Z (W.heap.size+1) 8 N) (E T u1));have aG:∀b,b≠W.heap.size+1->w8.heap[b]? =w7.heap[b]?:=λ b hn=>(by rw [<- ap];exact (Ym _ _ _ _ hn).trans ((Ym _ _ _ _ hn).trans ((Ym _ _ _ _ hn).trans (Ym _ _ _ _ hn))));have a4:w8.heap.size=w7.heap.size:=(by rw [<- ap];simp);rw [ap] at aa a2⊢;have aW:=ba.keep (W':=w8) zo (λ c hc=>aG c (hc.elim (λ h=>(HF c h).1) (λ h=>(ay c h).1)));have aX:w8.heap[W.heap.size]? =G (.map #[] 0):=(aG _ zo).trans M7.out;have bb:Hid (yzn W (Xf (.func g) #[] #[]) pw la lb (Q (Xt #[R (G (Z (W.heap.size+1) 0 N)),E T 0])) w8):=by
    refine .inr (.inr ⟨aw,av,W.heap.size+1,W.heap.size,⟨br,bk,bps⟩,⟨au,aZ,am⟩,yed W1 w2,yed w3 w4,rfl,?_,by omega,zG _,λ c hc=>?_⟩)
    ·obtain ⟨e1,e2,e3,e4⟩:=Hf.out;rw [e1,e2,e3,e4];refine ⟨aW,aa.c 0 zo,aa.c 1 zo,aa.c 2 zo,aa.c 3 zo,aa.c 4 zo,aa.z 4,⟨aa.c 5 zo,aa.c 6 zo,aa.c 7 zo,aa.c 8 zo,aa.lt⟩,⟨#[],0,aX,by simp,λ e he=>by simp at he⟩,⟨λ h=>(HF _ h).1 rfl,λ h=>(ay _ h).1 rfl⟩,⟨λ h=>(HF _ h).2 rfl,λ h=>(ay _ h).2 rfl⟩,by omega⟩
    ·have:=S1.out;rcases hc with hc | hc
     ·have:=HM c hc;omega
     ·have:=a1 c hc;have:=az.size;omega
   clear x5 x6 x7 x8 z5 z6 z7 z8 aa ap aG a4 aW aX;go_wp2;exact Yh (v:=Xt #[R (G (Z (W.heap.size+1) 0 N)),E T 0]) (by simp [results,Tryz.results66,go_sem]) rfl ⟨bb,a2⟩
end
section
variable {n t t':Int} {la lb:List Cl} {k:Nat}
def LeastP (pw:Bool->Bool->Bool) (la lb:List Cl) (t:Int):Prop:=0<=t/\t<12622780800/\pw (yai la t) (yai lb t)=true/\∀s,s<t->pw (yai la s) (yai lb s)=false
def ysn (pw:Bool->Bool->Bool) (la lb:List Cl):Prop:=∀s,pw (yai la s) (yai lb s)=false
def yhr (y:Bool) (t:Int) (f:Bool):Value:= .agg #[Xb y,E T t,Xb f]
def VerP (pw:Bool->Bool->Bool) (la lb:List Cl) (y:Bool) (t:Int) (f:Bool):Prop:=(ysn pw la lb/\y=true/\t=0/\f=false)\/ (LeastP pw la lb t/\y=false/\f=yai la t)
theorem LeastP.unique {pw:Bool->Bool->Bool} (h:LeastP pw la lb t) (h':LeastP pw la lb t'):t=t':=by
 obtain ⟨-,-,h3,h4⟩:=h;obtain ⟨-,-,k3,k4⟩:=h';rcases Int.lt_trichotomy t t' with e | e | e
 ·rw [k4 t e] at h3;cases h3
 ·exact e
 ·rw [h4 t' e] at k3;cases k3
theorem VerP.unique {pw:Bool->Bool->Bool} {y y':Bool} {f f':Bool} (h:VerP pw la lb y t f) (h':VerP pw la lb y' t' f'):y=y'/\t=t'/\f=f':=by
 rcases h with ⟨h,rfl,rfl,rfl⟩ | ⟨h,rfl,rfl⟩ <;> rcases h' with ⟨h',rfl,rfl,rfl⟩ | ⟨h',rfl,rfl⟩
 ·exact ⟨rfl,rfl,rfl⟩
 ·have:=h'.2.2.1;rw [h t'] at this;cases this
 ·have:=h.2.2.1;rw [h' t] at this;cases this
 ·cases h.unique h';exact ⟨rfl,rfl,rfl⟩
theorem ynp {l:List Cl} (hk:k<86400) (h:yax l n k=true):yaw (hF l) (hU l)=true/\hF l/86400<=n/\n<=hU l/86400/\0<=hF l/\hU l<=12622780799/\inD (hF l) (hU l) n=true:=by
 obtain ⟨h1,h2,h3,h4,h5⟩:=yrf hk h;have hr:=yi5 (f:=ybz l) (u:=yby l) h1;have e1:yau (ybz l) (yby l)=hF l:=rfl;have e2:yat (ybz l) (yby l)=hU l:=rfl;rw [e1,e2] at hr;rw [e1] at h2;rw [e2] at h3;refine ⟨?_,h2,h3,hr.1,hr.2.2,?_⟩
 ·rw [hF,hU,ykg];exact h1
 ·rw [inD,zzY];omega
theorem yyh {f u:Int} (h:yaw f u=true) (h0:0<=f) (hu:u<=12622780799) (a b:Int):mbF f u a<=f/86400/\u/86400<=mbU f u b:=by
 rw [mbF,mbU,Yd h,Yd h];have e1:max f 0=f:=zo;have e2:min u 12622780799=u:=zo;rw [e1,e2];omega
theorem yzD (f u a b:Int):mbF f u a<=a/\b<=mbU f u b:=by
 rw [mbF,mbU];split <;> omega
theorem ywL (hk:k<86400) (h:yax la n k=true\/ yax lb n k=true) :
  (inD (hF la) (hU la) n||inD (hF lb) (hU lb) n)=true/\mbF (hF lb) (hU lb) (mbF (hF la) (hU la) 146097)<=n/\n<=mbU (hF lb) (hU lb) (mbU (hF la) (hU la) (-1)):=by
 have m2:=yzD (hF lb) (hU lb) (mbF (hF la) (hU la) 146097) (mbU (hF la) (hU la) (-1));rcases h with h | h
 ·obtain ⟨g1,g2,g3,g4,g5,g6⟩:=ynp hk h;have m1:=yyh g1 g4 g5 146097 (-1);exact ⟨by rw [g6];rfl,by omega,by omega⟩
 ·obtain ⟨g1,g2,g3,g4,g5,g6⟩:=ynp hk h;have m1:=yyh g1 g4 g5 (mbF (hF la) (hU la) 146097) (mbU (hF la) (hU la) (-1));exact ⟨by rw [g6];simp,by omega,by omega⟩
theorem yuk {a b:Int} (h0:a<=n) (h1:n<=b):(yag a b)[(n-a).toNat]? =G n:=by
 have hk:(n-a).toNat<(yag a b).length:=by rw [ybg];omega
 rw [zzp hk,ycK hk];congr 1
 omega
theorem ylN {pw:Bool->Bool->Bool} {ok:Bool} {j:Nat} (hp:pw false false=false) (h:ysw pw la lb (hF la) (hU la) (hF lb) (hU lb) (dM (hF la) (hU la) (hF lb) (hU lb)) t ok j) :
  ((ok=true/\LeastP pw la lb t/\(j:Int)<=t/86400+1)\/ (ok=false/\t=0/\ysn pw la lb))/\j<=146097:=by
 have hl:=yvF (hF la) (hU la) (hF lb) (hU lb);have key:∀s:Int,pw (yai la s) (yai lb s)=true->∃i:Nat,∃n:Int,(dM (hF la) (hU la) (hF lb) (hU lb))[i]? =G n/\n=s/86400/\(inD (hF la) (hU la) n||inD (hF lb) (hU lb) n)=true/\pw (yax la n (s%86400).toNat) (yax lb n (s%86400).toNat)=true/\(i:Int)=n-mbF (hF lb) (hU lb) (mbF (hF la) (hU la) 146097):=λ s hs=>by
  have e:86400*(s/86400)+(((s%86400).toNat:Nat):Int)=s:=zo;have ea:yax la (s/86400) (s%86400).toNat=yai la s:=by rw [yce,e]
  have eb:yax lb (s/86400) (s%86400).toNat=yai lb s:=by rw [yce,e]
  have ad:yax la (s/86400) (s%86400).toNat=true\/ yax lb (s/86400) (s%86400).toNat=true:=by
   rw [ea,eb];cases e1:yai la s
   ·cases e2:yai lb s
    ·rw [e1,e2,hp] at hs;cases hs
    ·exact .inr rfl
   ·exact .inl rfl
  obtain ⟨g1,g2,g3⟩:=ywL zo ad;exact ⟨_,_,yuk g2 g3,rfl,g1,by rw [ea,eb];exact hs,by omega⟩
 rcases h with ⟨rfl,k,hk,hj,i,n,at',rfl,hn,rfl,ab,aa⟩ | ⟨rfl,rfl,hj,aa⟩
 ·refine ⟨.inl ⟨rfl,?_,?_⟩,by omega⟩
  ·obtain ⟨q1,q2,q3⟩:=yg8 hn;rcases ab with ⟨-,k',rfl,ag,ac,ah⟩ | ⟨h,_⟩
   ·have e1:n*86400+(k':Int)=86400*n+k':=zo;refine ⟨by omega,by omega,?_,λ s hs=>?_⟩
    ·rw [e1];exact ac
    ·cases e:pw (yai la s) (yai lb s)
     ·rfl
     ·obtain ⟨i',n',g1,g2,g3,g4,g5⟩:=key s e;obtain ⟨af,ai⟩:=zzq.1 hn;have e2:(dM (hF la) (hU la) (hF lb) (hU lb))[i]=mbF (hF lb) (hU lb) (mbF (hF la) (hU la) 146097)+i:=ycK af;have ae:n'<=n:=zo;rcases Int.lt_or_eq_of_le ae with h1 | h1
      ·have:=aa i' n' zo g1 g3 (s%86400).toNat zo;rw [g4] at this;cases this
      ·have hx:pw (yax la n (s%86400).toNat) (yax lb n (s%86400).toNat)=false:=ah (s%86400).toNat zo;rw [h1] at g4;rw [g4] at hx;cases hx
   ·cases h
  ·obtain ⟨q1,q2,q3⟩:=yg8 hn;rcases ab with ⟨-,k',rfl,ag,-,-⟩ | ⟨h,_⟩
   ·omega
   ·cases h
 ·refine ⟨.inr ⟨rfl,rfl,λ s=>?_⟩,by omega⟩;cases e:pw (yai la s) (yai lb s)
  ·rfl
  ·obtain ⟨i',n',g1,g2,g3,g4,g5⟩:=key s e;have:=aa i' n' (zzq.1 g1).1 g1 g3 (s%86400).toNat zo;rw [g4] at this;cases this
end
def yvP (j:Nat) (ws:Nat->Bool) (m:Nat):Prop:=m<=j
theorem ykb (cs:List Cl) (j:Nat) (n:Int) (ws:Nat->Bool) (m:Nat) (ai:Nat->Bool) (m':Nat) (h:yvP j ws m) (hs:ybQ cs n ws m ai m'):yvP (j+1) ai m':=by
 rw [yvP] at h⊢;rcases hs with ⟨_,_,h1⟩ | ⟨_,_,_,h1⟩ | ⟨_,_,_,h1 | h1⟩
 ·omega
 ·split at h1 <;> omega
 ·omega
 ·omega
def VrdR (pw:Bool->Bool->Bool) (la lb:List Cl) (e:Ending):Prop:=
 (yaf la≠0/\e=Q (Xt #[yhr false 0 false,E T (yaf la)]))\/
 (yaf la=0/\yaf lb≠0/\e=Q (Xt #[yhr false 0 false,E T (yaf lb)]))\/
 (yaf la=0/\yaf lb=0/\∃y t f,e=Q (Xt #[yhr y t f,E T 0])/\VerP pw la lb y t f)
theorem ykQ (a:Option Addr) (cap:Nat) (la:List Cl) (b:Option Addr) (aa:Nat) (lb:List Cl) (g:Nat) (pw:Bool->Bool->Bool) (W:World)
  (hl:la.length<=1000) (az:la.length<=cap) (hs:Sl W a (cls la)) (ay:a=N->cap=0) (ax:∀c∈la,c.Ok)
  (aA:lb.length<=1000) (am:lb.length<=aa) (aw:Sl W b (cls lb)) (al:b=N->aa=0) (ak:∀c∈lb,c.Ok) (hT:Tab W)
  (hg:∀args w,(callFunc g args).run I w= .ok (.enter g args) w) (hF:ysx g pw) (hp:pw false false=false) :
  H I 26 #[Xs a la.length cap,Xs b lb.length aa,Xf (.func g) #[] #[]] W λ e W'=>VrdR pw la lb e/\Bw W W':=by
 obtain ⟨W1,an⟩:=zx (W.alloc (J #[Xb false,E T 0,Xb false] 35));have ah:Hid (Bw W W1):=by rw [<- an];exact yaa (Ye _ _) zg
 have L1:Hid (W.heap.size<W1.heap.size):=by show _<_;rw [<- an];simp
 have C1:Hid ((W1.cell? (Z W.heap.size 0 N)=G (Xb false)/\W1.cell? (Z W.heap.size 1 N)=G (E T 0)/\W1.cell? (Z W.heap.size 2 N)=G (Xb false))/\∀i,W1.frozen? (Z W.heap.size i N)=false):=by
  rw [<- an];exact ⟨⟨by simp [go_sem],by simp [go_sem],by simp [go_sem]⟩,λ i=>by simp [go_sem]⟩
 have cB:=hid (ypa a cap la b aa lb g pw W1 hl az (hs.below ah) ay ax aA am (aw.below ah) al ak (hT.later ah));have HT:=hid hT;have HF:=hid hF;have HP:=hid hp;have aM:=hid an;clear hl az hs ay ax aA am aw al ak hT hF hp an;go_enter Tryz.func26,Tryz.ntmps26
 go_upto_region 1 with fail
 rw [aM];go_wp2_with fail
 refine cB.mono ?_;rintro e w2 ⟨hR,ag⟩;have au:=hid (zu ah ag);have C2:Hid ((w2.cell? (Z W.heap.size 0 N)=G (Xb false)/\w2.cell? (Z W.heap.size 1 N)=G (E T 0)/\w2.cell? (Z W.heap.size 2 N)=G (Xb false))/\∀i,w2.frozen? (Z W.heap.size i N)=false):=
  ⟨⟨(ag.cell (p:=Z W.heap.size 0 N) L1).trans C1.1.1,(ag.cell (p:=Z W.heap.size 1 N) L1).trans C1.1.2.1,(ag.cell (p:=Z W.heap.size 2 N) L1).trans C1.1.2.2⟩,λ i=>(ag.frozen (p:=Z W.heap.size i N) L1).trans (C1.2 i)⟩
 have L2:Hid (W1.heap.size<=w2.heap.size):=ag.size;clear ag cB;have ao:∀X:Int,X≠0->VrdR pw la lb (Q (Xt #[yhr false 0 false,E T X]))->e=Q (Xt #[R N,E T X])->True:=λ _ _ _ _=>trivial;clear ao;rcases hR with ⟨hf,rfl⟩ | ⟨hf,ae,rfl⟩ | ⟨hf,ae,x,fm,ra,rb,Fa,Fb,rfl,hA,hx,aC,hM⟩;focus
  obtain ⟨X,hX⟩:=zx (yaf la);have HR:Hid (VrdR pw la lb (Q (Xt #[yhr false 0 false,E T (yaf la)]))):= .inl ⟨hf,rfl⟩;rw [hX] at hf HR⊢;have aK:(X==0)=false:=by simpa using hf
  have aJ:(X != 0)=true:=by simpa using hf
 rotate_left;focus
  obtain ⟨X,hX⟩:=zx (yaf lb);have HR:Hid (VrdR pw la lb (Q (Xt #[yhr false 0 false,E T (yaf lb)]))):= .inr (.inl ⟨hf,ae,rfl⟩);rw [hX] at ae HR⊢;have aK:(X==0)=false:=by simpa using ae
  have aJ:(X != 0)=true:=by simpa using ae
 rotate_left
 ·have HA:=hid hA;have Hx:=hid (Ya hx (Ya aC hM));have Hf:=hid (Ya hf ae);have cF:=hid (yo9 (W:=w2) yvP yvP (λ j n ws m ai m' _ _ h hs=>ykb la j n ws m ai m' h hs) (λ j n ws m ai m' _ _ h hs=>ykb lb j n ws m ai m' h hs) (λ j ws m h hj=>by rw [yvP] at h;omega) (λ j ws m h hj=>by rw [yvP] at h;omega) hg HF hA (zG 0) (zG 0));clear hA hx aC hM hf ae;go_wp2_with fail
  refine cF.mono ?_;rintro e w3 ⟨t,ok,aV,aU,aR,aQ,aT,aS,j,rfl,hD,aE,af,-,-,iA,iB⟩;have aF:=ylN HP hD;have aq:∀c,(c=x\/ c=fm\/ ra.M c\/ rb.M c)->W1.heap.size<=c:=λ c hc=>by
   rcases hc with rfl | rfl | hc
   ·exact Hx.1
   ·exact Hx.2.1
   ·exact Hx.2.2 c hc
  have nW:¬(W.heap.size=x\/ W.heap.size=fm\/ ra.M W.heap.size\/ rb.M W.heap.size):=λ h=>by have:=aq _ h;have:=L1.out;omega
  have lW:W.heap.size<w2.heap.size:=zH L1 L2.out;have ar:Hid (Bw W w3):=au.trans (af.below (λ c hc=>by have:=aq c hc;have:=ah.size;omega) au.size);have c0:=(af.cell (p:=Z W.heap.size 0 N) lW nW).trans C2.1.1;have c1:=(af.cell (p:=Z W.heap.size 1 N) lW nW).trans C2.1.2.1;have c2:=(af.cell (p:=Z W.heap.size 2 N) lW nW).trans C2.1.2.2;have z:∀i,w3.frozen? (Z W.heap.size i N)=false:=λ i=>(af.frozen (p:=Z W.heap.size i N) lW nW).trans (C2.2 i);have z0:=z 0;have z1:=z 1;have z2:=z 2;have av:=hid aE;have Hm:=hid (Ya iA iB);have L3:Hid (w2.heap.size<=w3.heap.size):=af.size;have aj:Hid (W.heap.size<w3.heap.size):=zH lW L3.out;clear hD aE af iA iB cF aq lW z;rcases aF with ⟨⟨rfl,ap,-⟩ | ⟨rfl,rfl,hN⟩,hj⟩;rotate_left
  ·have HR:Hid (VrdR pw la lb (Q (Xt #[yhr true 0 false,E T 0]))):= .inr (.inr ⟨Hf.1,Hf.2,true,0,false,rfl, .inl ⟨hN,rfl,rfl,rfl⟩⟩);clear hN hj nW;go_wp2;refine Yh (v:=Xt #[yhr true 0 false,E T 0]) ?_ rfl ⟨HR,?_⟩
   ·simp [results,Tryz.results26,go_sem,yhr,c0,c1,c2]
   ·exact yab (yab (yab ar zg) zg) zg
  ·have aG:=hj;have t0:=ap.1;have t1:=ap.2.1;have aN:=hid ap;obtain ⟨n,hn⟩:=zx (t/86400);have n0:0<=n:=zo;have n1:n<146097:=zo;obtain ⟨k,hk⟩:∃k:Nat,t%86400=k:=⟨(t%86400).toNat,by omega⟩;have aB:k<86400:=zo;have cD:=hid (yme (W:=w3) n n0 n1 (by have:=Hm.1;rw [yvP] at this;omega) av.two.a);have x0:=av.c0;have aI:IntKind.i64.wrap (Int.tdiv t 86400)=n:=(by rw [Int.tdiv_eq_ediv_of_nonneg t0,hn];exact Yn _ zo);have aH:IntKind.i64.wrap (Int.tmod t 86400)= (k:Int):=(by rw [Int.tmod_eq_emod_of_nonneg t0,hk];exact Yn _ zo);have Hq:Hid (yax la n k=yai la t):=(by show _ = _;rw [yce];congr 1;omega);have Hn:=hid (Ya n0 n1);have Hk:=hid aB;have h8:=hid (yiV av.two.a.x.may);clear ap hj aG n0 n1 aB;go_wp2_with fail
   refine cD.mono ?_;rintro e w4 ⟨d,F2,aP,m2,rfl,aL,-,ad,-,ac,ab⟩;have aD:DiscO w4 d (yax la n):=DOf.disc (F:=F2) (M:=ra.M) ⟨λ hd j hj=>yeS h8 Hn.1 Hn.2 (ac hd) hj,ab⟩;have cH:=ysC d (yax la n) (k:Int) w4 aD;rw [yeP,zzZ Hk.out,zzo,YL,Hq] at cH;have CH:=hid cH;generalize hv:ybA d=v at CH⊢
   have nM:¬RM ra.br ra.bk ra.bps W.heap.size:=λ h=>nW (.inr (.inr (.inl h)));have aO:Hid (Bw W w4):=ar.trans (ad.below (λ c hc=>by have:=Hx.2.2 c (.inl hc);have:=ah.size;omega) ar.size);replace c0:=(ad.cell (p:=Z W.heap.size 0 N) aj nM).trans c0;replace c1:=(ad.cell (p:=Z W.heap.size 1 N) aj nM).trans c1;replace c2:=(ad.cell (p:=Z W.heap.size 2 N) aj nM).trans c2;replace z0:=(ad.frozen (p:=Z W.heap.size 0 N) aj nM).trans z0;replace z1:=(ad.frozen (p:=Z W.heap.size 1 N) aj nM).trans z1;replace z2:=(ad.frozen (p:=Z W.heap.size 2 N) aj nM).trans z2;clear aL ad ac ab aD cH hv nM cD x0;go_wp2_with fail
   refine zm CH ?_;rintro w5 rfl;obtain ⟨q,hq⟩:=zx (yai la t);have HR:Hid (VrdR pw la lb (Q (Xt #[yhr false t q,E T 0]))):= .inr (.inr ⟨Hf.1,Hf.2,false,t,q,rfl, .inr ⟨aN,rfl,hq.symm⟩⟩);rw [hq];clear CH hq aI aH t0 t1 hn hk nW;go_wp2;refine Yh (v:=Xt #[yhr false t q,E T 0]) ?_ rfl ⟨HR,?_⟩
   ·simp [results,Tryz.results26,go_sem,yhr,c0,c1,c2]
   ·exact yab (yab (yab aO zg) zg) zg
 all_goals
  obtain ⟨⟨c0,c1,c2⟩,z⟩:=C2.out;have z0:=z 0;have z1:=z 1;have z2:=z 2;clear hX z;go_wp2;refine Yh (v:=Xt #[yhr false 0 false,E T X]) ?_ rfl ⟨HR,?_⟩
  ·simp [results,Tryz.results26,go_sem,yhr,c0,c1,c2]
  ·exact yab (yab (yab au zg) zg) zg
section
variable {q:Nat->Bool} {d:Option Nat} {W:World}
theorem ywZ:ysx 27 (λ p q=>p != q):=λ d e qa qb W hT hd he=>by
 have h:=yhm d e qa qb W hT hd.v.1 he.v.1;rw [hd.v.2,he.v.2] at h;exact h.mono λ r w' ⟨⟨n,ok,h1,h2⟩,h3⟩=>⟨⟨n,ok,h1,h2⟩,by subst h3;exact Ye _ _⟩
theorem DiscO.below {W':World} (h:DiscO W d q) (hB:Bw W W'):DiscO W' d q:=by
 cases d with
 | none=>exact h
 | some b=>exact DiscAt.block h hB.size (hB.block b (DiscAt.lt h))
theorem DiscO.ne (h:DiscO W d q):∀c,d=G c->c<W.heap.size:=λ c hc=>by
 subst hc;exact DiscAt.lt h
def yc7 (la lb:List Cl):Int:=if yaf la≠0 then yaf la else yaf lb
def yzY (pw:Bool->Bool->Bool) (la lb:List Cl) (y:Bool) (t:Int) (f:Bool) (er:Int):Prop:=er=yc7 la lb/\(er≠0->y=false/\t=0/\f=false)/\(er=0->VerP pw la lb y t f)
theorem VrdR.form {pw:Bool->Bool->Bool} {la lb:List Cl} {e:Ending} (h:VrdR pw la lb e):∃y t f er,e=Q (Xt #[yhr y t f,E T er])/\yzY pw la lb y t f er:=by
 rcases h with ⟨h1,rfl⟩ | ⟨h1,h2,rfl⟩ | ⟨h1,h2,y,t,f,rfl,h3⟩
 ·exact ⟨false,0,false,_,rfl,by rw [yc7,Yd h1],λ _=>⟨rfl,rfl,rfl⟩,λ h=>absurd h h1⟩
 ·exact ⟨false,0,false,_,rfl,by rw [yc7,Yb (by simpa using h1)],λ _=>⟨rfl,rfl,rfl⟩,λ h=>absurd h h2⟩
 ·exact ⟨y,t,f,0,rfl,by rw [yc7,Yb (by simpa using h1),h2],λ h=>absurd rfl h,λ _=>h3⟩
def yz2 (pw:Bool->Bool->Bool) (la lb:List Cl) (e:Ending):Prop:=∃y t f er,e=Q (Xt #[yhr y t f,E T er])/\yzY pw la lb y t f er
theorem yeu (a:Option Addr) (cap:Nat) (la:List Cl) (b:Option Addr) (aa:Nat) (lb:List Cl) (W:World)
  (hl:la.length<=1000) (ak:la.length<=cap) (hs:Sl W a (cls la)) (aj:a=N->cap=0) (ai:∀c∈la,c.Ok)
  (al:lb.length<=1000) (ae:lb.length<=aa) (ah:Sl W b (cls lb)) (ad:b=N->aa=0) (ac:∀c∈lb,c.Ok) (hT:Tab W) :
  H I 11 #[Xs a la.length cap,Xs b lb.length aa] W λ e W'=>yz2 (λ p q=>p != q) la lb e/\Bw W W':=by
 obtain ⟨W1,af⟩:=zx (W.alloc (J #[Xb false,E T 0,Xb false] 35));have ag:Hid (Bw W W1):=by rw [<- af];exact yaa (Ye _ _) zg
 have L1:Hid (W.heap.size<W1.heap.size):=by show _<_;rw [<- af];simp
 have C1:Hid ((W1.cell? (Z W.heap.size 0 N)=G (Xb false)/\W1.cell? (Z W.heap.size 1 N)=G (E T 0)/\W1.cell? (Z W.heap.size 2 N)=G (Xb false))/\∀i,W1.frozen? (Z W.heap.size i N)=false):=by
  rw [<- af];exact ⟨⟨by simp [go_sem],by simp [go_sem],by simp [go_sem]⟩,λ i=>by simp [go_sem]⟩
 have cV:Hid (H I 26 #[Xs a la.length cap,Xs b lb.length aa,Xf (.func 27) #[] #[]] W1 λ e W'=>VrdR (λ p q=>p != q) la lb e/\Bw W1 W'):=ykQ a cap la b aa lb 27 (λ p q=>p != q) W1 hl ak (hs.below ag) aj ai al ae (ah.below ag) ad ac (hT.later ag) (λ args w=>by simp [go_sem]) ywZ rfl;have am:=hid af;clear hl ak hs aj ai al ae ah ad ac hT af;go_enter Tryz.func11,Tryz.ntmps11
 go_upto_region 1 with fail
 rw [am];go_wp2_with fail
 refine cV.mono ?_;rintro e w2 ⟨hR,ab⟩;obtain ⟨y,t,f,er,rfl,hV⟩:=hR.form;have an:=hid (zu ag ab);have c0:=(ab.cell (p:=Z W.heap.size 0 N) L1).trans C1.1.1;have c1:=(ab.cell (p:=Z W.heap.size 1 N) L1).trans C1.1.2.1;have c2:=(ab.cell (p:=Z W.heap.size 2 N) L1).trans C1.1.2.2;have z0:=(ab.frozen (p:=Z W.heap.size 0 N) L1).trans (C1.2 0);have z1:=(ab.frozen (p:=Z W.heap.size 1 N) L1).trans (C1.2 1);have z2:=(ab.frozen (p:=Z W.heap.size 2 N) L1).trans (C1.2 2);have HV:=hid hV;clear hR ab hV cV;unfold yhr;go_wp2;refine Yh (v:=Xt #[yhr y t f,E T er]) ?_ rfl ⟨⟨y,t,f,er,rfl,HV⟩,?_⟩
 ·simp [results,Tryz.results11,go_sem,yhr,c0,c1,c2]
 ·exact yab (yab (yab an zg) zg) zg
end
section
variable {y:Bool} {a b d f g:Int}
def PairD (S:Int->Prop) (d:Int):Prop:=∀x y,S x->S y->d∣x-y
theorem PairD.congr {S Tq:Int->Prop} (d:Int) (e:∀x,S x↔Tq x):PairD S d↔PairD Tq d:=
 ⟨λ h x y hx hy=>h x y ((e x).2 hx) ((e y).2 hy),λ h x y hx hy=>h x y ((e x).1 hx) ((e y).1 hy)⟩
theorem ygK {S:Int->Prop} (h:∀x,S x->d∣x-a):PairD S d:=λ x y hx hy=>by
 have:=Int.dvd_sub (h x hx) (h y hy);rwa [show x-a-(y-a)=x-y by omega] at this
theorem yjZ {S Tq:Int->Prop} (ha:S a) (hb:Tq b):PairD (λ x=>S x\/ Tq x) d↔PairD S d/\d∣b-a/\PairD Tq d:=by
 constructor
 ·intro h;exact ⟨λ x y hx hy=>h x y (.inl hx) (.inl hy),h b a (.inr hb) (.inl ha),λ x y hx hy=>h x y (.inr hx) (.inr hy)⟩
 ·rintro ⟨h1,h2,h3⟩;refine ygK (a:=a) λ x hx=>?_;rcases hx with hx | hx
  ·exact h1 x a hx ha
  ·have:=Int.dvd_add (h3 x b hx hb) h2;rwa [show x-b+(b-a)=x-a by omega] at this
structure ya2 (S:Int->Prop) (y:Bool) (f g:Int):Prop where
 no:y=false->f=0/\g=0/\∀x,¬S x
 yes:y=true->S f
 ge:0<=g
 dvd:∀d,d∣g↔PairD S d
theorem ya2.congr {S Tq:Int->Prop} (h:ya2 S y f g) (e:∀x,S x↔Tq x):ya2 Tq y f g:=
 ⟨λ hy=>⟨(h.no hy).1,(h.no hy).2.1,λ x hx=>(h.no hy).2.2 x ((e x).2 hx)⟩,λ hy=>(e f).1 (h.yes hy),h.ge,λ d=>(h.dvd d).trans (PairD.congr d e)⟩
theorem ya2.empty:ya2 (λ _=>False) false 0 0:=
 ⟨λ _=>⟨rfl,rfl,λ _ h=>h⟩,λ h=>(by cases h),by omega,λ d=>⟨λ _ x y h _=>h.elim,λ _=>Int.dvd_zero d⟩⟩
theorem ya2.first {S:Int->Prop} (h:ya2 S false f g) (n:Int):ya2 (λ x=>S x\/ x=n) true n 0:=by
 have hn:=(h.no rfl).2.2;refine ⟨λ h=>(by cases h),λ _=> .inr rfl,zo,λ d=>⟨λ _=>ygK (a:=n) λ x hx=>?_,λ _=>Int.dvd_zero d⟩⟩;rcases hx with hx | rfl
 ·exact (hn x hx).elim
 ·rw [Int.sub_self];exact Int.dvd_zero d
theorem ynx:d∣((ygj [a,b]:Nat):Int)↔d∣a/\d∣b:=by
 have e:ygj [a,b]=Int.gcd a b:=by simp [ygj,Int.gcd]
 rw [e,Int.dvd_coe_gcd_iff]
theorem yvm {n:Int}:PairD (λ x=>x=n) d:=λ x y hx hy=>by
 subst hx;subst hy;rw [Int.sub_self];exact Int.dvd_zero d
theorem ya2.more {S:Int->Prop} (h:ya2 S true f g) (n:Int):ya2 (λ x=>S x\/ x=n) true f (ygj [g,n-f]:Nat):=by
 refine ⟨λ h=>(by cases h),λ _=> .inl (h.yes rfl),by omega,λ d=>?_⟩;rw [ynx,h.dvd,yjZ (Tq:=λ x=>x=n) (b:=n) (h.yes rfl) rfl];exact ⟨λ ⟨h1,h2⟩=>⟨h1,h2,yvm⟩,λ ⟨h1,h2,_⟩=>⟨h1,h2⟩⟩
theorem ya2.one {S:Int->Prop} (h:ya2 S true f 1) (n:Int):ya2 (λ x=>S x\/ x=n) true f 1:=by
 refine ⟨λ h=>(by cases h),λ _=> .inl (h.yes rfl),by omega,λ d=>?_⟩;rw [yjZ (Tq:=λ x=>x=n) (b:=n) (h.yes rfl) rfl,<- h.dvd];exact ⟨λ h1=>⟨h1,Int.dvd_trans h1 (Int.one_dvd _),yvm⟩,λ h1=>h1.1⟩
abbrev Bt:=Bool × Int × Int
def ybR (b:Bt) (n:Int):Bt:=if b.1 then (true,b.2.1,if b.2.2=1 then 1 else (ygj [b.2.2,n-b.2.1]:Nat)) else (true,n,b.2.2)
def BeatQ (S:Int->Prop) (b:Bt):Prop:=ya2 S b.1 b.2.1 b.2.2
theorem BeatQ.take {S:Int->Prop} {b:Bt} (h:BeatQ S b) (n:Int):BeatQ (λ x=>S x\/ x=n) (ybR b n):=by
 obtain ⟨y,f,g⟩:=b;rw [BeatQ] at h⊢;cases y
 ·have:=h.first n;have e:=(h.no rfl).2.1;simp only at e;rw [ybR,Yb zs];simp only;rw [e];exact this
 ·rw [ybR,Yd rfl];simp only;by_cases h1:g=1
  ·subst h1;rw [Yd rfl];exact h.one n
  ·rw [Yb h1];exact h.more n
def yvx (b:Bt) (g:Int):Bt:=(b.1,b.2.1,(ygj [b.2.2,g]:Nat))
def yf2 (b x:Bt):Bt:=if x.1 then yvx (ybR b x.2.1) x.2.2 else b
theorem ypW (b:Bt) (n:Int):(ybR b n).1=true:=by rw [ybR];split <;> rfl
theorem BeatQ.both {S Tq:Int->Prop} {b:Bt} (h:BeatQ S b) (k:ya2 Tq true f g):BeatQ (λ x=>S x\/ Tq x) (yvx (ybR b f) g):=by
 have h1:=h.take f;have hy:=ypW b f;have hf:=k.yes rfl;rw [BeatQ] at h1⊢;refine ⟨λ e=>(by rw [yvx] at e;simp only at e;rw [hy] at e;cases e),λ _=>?_,by rw [yvx];simp only;omega,λ d=>?_⟩
 ·rcases h1.yes hy with h2 | h2
  ·exact .inl h2
  ·right;show Tq (ybR b f).2.1;rw [h2];exact hf
 ·show d∣((ygj [(ybR b f).2.2,g]:Nat):Int)↔_;rw [ynx,h1.dvd,k.dvd];constructor
  ·rintro ⟨p,q⟩;refine ygK (a:=f) λ x hx=>?_;rcases hx with hx | hx
   ·exact p x f (.inl hx) (.inr rfl)
   ·exact q x f hx hf
  ·intro p;have im:∀z,(S z\/ z=f)->(S z\/ Tq z):=λ z hz=>hz.elim .inl (λ (e:z=f)=> .inr (e ▸ hf));exact ⟨λ x y hx hy=>p x y (im x hx) (im y hy),λ x y hx hy=>p x y (.inr hx) (.inr hy)⟩
theorem BeatQ.join {S Tq:Int->Prop} {b x:Bt} (h:BeatQ S b) (k:BeatQ Tq x):BeatQ (λ n=>S n\/ Tq n) (yf2 b x):=by
 obtain ⟨y,f,g⟩:=x;rw [BeatQ] at k;cases y
 ·rw [yf2,Yb zs];have hn:=(k.no rfl).2.2;exact ya2.congr h λ n=>⟨.inl,λ h=>h.resolve_right (hn n)⟩
 ·rw [yf2,Yd rfl];exact h.both k
theorem ya2.bd {S:Int->Prop} {M:Int} (h:ya2 S y f g) (hM:0<=M) (hS:∀x,S x->0<=x/\x<=M):0<=f/\f<=M/\0<=g/\g<=M:=by
 have hg:=h.ge;have h1:0<=f/\f<=M:=by
  cases y
  ·obtain ⟨rfl,-,-⟩:=h.no rfl;omega
  ·exact hS f (h.yes rfl)
 refine ⟨h1.1,h1.2,hg,?_⟩;rcases Int.lt_or_le M g with h2 | h2
 ·exfalso
  have h3:=(h.dvd g).1 (Int.dvd_refl g);have h4:PairD S 0:=λ x y hx hy=>by
   have hd:=h3 x y hx hy;have b1:=hS x hx;have b2:=hS y hy;have:x-y=0:=by
    rcases Int.lt_trichotomy (x-y) 0 with e | e | e
    ·have:=Int.le_of_dvd zo (Int.dvd_neg.2 hd);omega
    ·exact e
    ·have:=Int.le_of_dvd e hd;omega
   rw [this];exact Int.dvd_refl 0
  have:=(h.dvd 0).2 h4;rw [Int.zero_dvd] at this;omega
 ·exact h2
theorem ya2.unique {S Tq:Int->Prop} {y':Bool} {f' g':Int} (h:ya2 S y f g) (h':ya2 Tq y' f' g') (e:∀d,PairD S d↔PairD Tq d):g=g':=by
 have h1:g∣g':=(h'.dvd g).2 ((e g).1 ((h.dvd g).1 (Int.dvd_refl g)));have h2:g'∣g:=(h.dvd g').2 ((e g').2 ((h'.dvd g').1 (Int.dvd_refl g')));have g0:=h.ge;have g1:=h'.ge;exact Int.dvd_antisymm g0 g1 h1 h2
end
section
variable {b o:Nat} {W W':World}
structure Bt1 (b o:Nat) (x:Bt) (W:World):Prop where
 y:W.cell? (Z b o N)=G (Xb x.1)
 f:W.cell? (Z b (o+1) N)=G (E T x.2.1)
 g:W.cell? (Z b (o+2) N)=G (E T x.2.2)
 z:∀i,W.frozen? (Z b i N)=false
 lt:b<W.heap.size
theorem Eff.set1 (W:World) (b j:Nat) (v:Value):Eff (λ c=>c=b) W (W.setCell (Z b j N) v):=(Eff.refl (λ c=>c=b) W).set (b:=b) rfl j v
structure ycg (b o:Nat) (W W':World):Prop where
 eff:Eff (λ c=>c=b) W W'
 c:∀i,i≠o->i≠o+1->i≠o+2->W'.cell? (Z b i N)=W.cell? (Z b i N)
 z:∀i,W'.frozen? (Z b i N)=W.frozen? (Z b i N)
theorem ycg.of_below (h:Bw W W') (hb:b<W.heap.size):ycg b o W W':=⟨Eff.of_below h,λ i _ _ _=>h.cell (p:=Z b i N) hb,λ i=>h.frozen (p:=Z b i N) hb⟩
theorem ycg.trans {W2:World} (h:ycg b o W W') (k:ycg b o W' W2):ycg b o W W2:=
 ⟨h.eff.trans k.eff (λ _ h=> .inl h),λ i a1 a2 a3=>(k.c i a1 a2 a3).trans (h.c i a1 a2 a3),λ i=>(k.z i).trans (h.z i)⟩
theorem ycg.set (j:Nat) (hj:j=o\/ j=o+1\/ j=o+2) (v:Value):ycg b o W (W.setCell (Z b j N) v):=
 ⟨Eff.set1 W b j v,λ i a1 a2 a3=>zzL _ _ _ _ (λ e=>by injection e with _ e2;omega),λ i=>by simp [go_sem]⟩
theorem Bt1.below {x:Bt} (h:Bt1 b o x W) (hB:Bw W W'):Bt1 b o x W':=
 ⟨(hB.cell (p:=Z b o N) h.lt).trans h.y,(hB.cell (p:=Z b (o+1) N) h.lt).trans h.f,(hB.cell (p:=Z b (o+2) N) h.lt).trans h.g,λ i=>(hB.frozen (p:=Z b i N) h.lt).trans (h.z i),zH h.lt hB.size⟩
theorem Bt1.setg {x:Bt} (h:Bt1 b o x W) (g:Int):Bt1 b o (x.1,x.2.1,g) (W.setCell (Z b (o+2) N) (E T g)):=
 ⟨(zzL _ _ _ _ (λ e=>by injection e with _ e2;omega)).trans h.y,(zzL _ _ _ _ (λ e=>by injection e with _ e2;omega)).trans h.f,by simp [go_sem,h.g],λ i=>by simpa [go_sem] using h.z i,by simpa using h.lt⟩
theorem yi8 {a b M:Int} (ha:-M<=a/\a<=M) (hb:-M<=b/\b<=M):((ygj [a,b]:Nat):Int)<=M:=by
 have e:ygj [a,b]=Nat.gcd a.natAbs b.natAbs:=by simp [ygj]
 rw [e];rcases ZT a.natAbs with h | h
 ·rw [h,Nat.gcd_zero_left];omega
 ·have:=Nat.gcd_le_left b.natAbs h;omega
theorem ys0 (f g n:Int):ybR (false,f,g) n= (true,n,g):=rfl
theorem ypX (f n:Int):ybR (true,f,1) n= (true,f,1):=rfl
theorem ypY {g:Int} (f n:Int) (hg:g≠1):ybR (true,f,g) n= (true,f,((ygj [g,n-f]:Nat):Int)):=by rw [ybR,Yd rfl];simp only;rw [Yb hg]
def M62 (n:Int):Prop:=0<=n/\n<=4611686018427387903
theorem ymG {x:Bt} {n:Int} (hf:M62 x.2.1) (hg:M62 x.2.2) (hn:M62 n):M62 (ybR x n).2.1/\M62 (ybR x n).2.2:=by
 obtain ⟨y,f,g⟩:=x;simp only [M62] at hf hg hn;cases y
 ·exact ⟨hn,hg⟩
 ·by_cases e:g=1
  ·subst e;exact ⟨hf,hg⟩
  ·rw [ypY f n e];refine ⟨hf,(show (0:Int)<=((ygj [g,n-f]:Nat):Int) by omega),yi8 zo zo⟩
theorem ye0 {x:Bt} (n:Int) (h:Bt1 b o x W) (hf:M62 x.2.1) (hg:M62 x.2.2) (hn:M62 n) :
  H I 95 #[R (G (Z b o N)),E T n] W λ e W'=>(∃v,e=Q v)/\Bt1 b o (ybR x n) W'/\ycg b o W W':=by
 obtain ⟨y,f,g⟩:=x;simp only [M62] at hf hg hn;have aO:=h.y;have aC:=h.f;have aB:=h.g;have aH:=h.z o;have aG:=h.z (o+1);have Hq:=hid h;simp only at aO aC aB;cases y
 ·rw [ys0];clear h hf hg hn;go_enter Tryz.func95,Tryz.ntmps95
  go_wp2;refine Yh (YO rfl _ _ _) rfl ?_;refine ⟨⟨_,rfl⟩,⟨?_,?_,?_,λ i=>?_,?_⟩,(ycg.set o (.inl rfl) _).trans (ycg.set (o+1) (.inr (.inl rfl)) _)⟩
  ·rw [zzL _ _ _ _ (λ e=>by injection e with _ e2;omega)];simp [go_sem,Hq.out.y]
  ·simp [go_sem,Hq.out.f]
  ·rw [zzL _ _ _ _ (λ e=>by injection e with _ e2;omega),zzL _ _ _ _ (λ e=>by injection e with _ e2;omega)];exact Hq.g
  ·simpa [go_sem] using Hq.out.z i
  ·simpa using Hq.out.lt
 ·by_cases h1:g=1
  ·subst h1;rw [ypX];clear h hf hg hn aC aH aG;go_enter Tryz.func95,Tryz.ntmps95
   go_wp2;refine bodyPost_end (YO rfl _ _ _) rfl ?_;exact ⟨⟨_,rfl⟩,Hq,ycg.of_below (Ye _ _) Hq.lt⟩
  ·rw [ypY f n h1];have aR:(g != 1)=true:=(by simpa using h1);have hw:IntKind.i64.wrap (n-f)=n-f:=Yn _ zo;have ai:=yi8 (a:=g) (b:=n-f) (M:=4611686018427387903) zo zo;have aD:Hid (∀m∈ [g,n-f],yaA m):=λ m hm=>by
    simp only [YF,ZF,or_false] at hm;rcases hm with rfl | rfl <;> exact ⟨by omega,by omega⟩
   have cG:=hid (yjs (G (Z W.heap.size 0 N)) 2 [g,n-f] (W.alloc (J #[E T g,E T (n-f)] 2)).drew zs (ybV (cs:= [E T g,E T (n-f)]) (yap W _ _) zs) aD);generalize hG:ygj [g,n-f]=Gq at cG ai⊢
   have aP:IntKind.i64.wrap (Gq:Int)= (Gq:Int):=Yn _ zo;have az:=h.z (o+2);clear h hf hg hn hG ai h1 aH aG;go_enter Tryz.func95,Tryz.ntmps95
   go_upto_region 3 with fail
   refine Yj (S:=λ w=>Hid (w.cell? (Z b (o+1) N)=G (E T f))) zk (hid aC) (λ aa=>?_);refine zhA 0 ?_;refine zhA 1 ?_;refine zhA 2 ?_;refine zhA 3 ?_;refine zhA 5 ?_;refine zhA 6 ?_;refine zhA 7 ?_;refine zhA 8 ?_;refine zhA 9 ?_;refine zhA 10 ?_;refine zzK 4 (λ K hK=>?_);go_simp;have aw:Hid (Bw W W.drew):=(Ye _ _).drew;(try go_wp2_with fail);refine hK _ _ (by assumption) (λ aa=>?_);clear hK K;refine zzK 11 (λ K hK=>?_);go_simp;(try go_wp2_with fail);have ad:Bw W (W.alloc (J #[E T g,E T (n-f)] 2)).drew:=(yaa (Ye _ _) zg).drew;have al:(W.alloc (J #[E T g,E T (n-f)] 2)).drew.cell? (Z b (o+1) N)=G (E T f):=(ad.cell (p:=Z b (o+1) N) Hq.lt).trans Hq.f;have ao:=hid ad;refine hK _ _ (hid al) (λ aa=>?_);clear hK K ad al;refine zzK 12 (λ K hK=>?_);go_simp;refine zm cG ?_;rintro w2 am;have ae:=zu ao am;have ab:=hid ae;have ak:w2.cell? (Z b (o+1) N)=G (E T f):=(ae.cell (p:=Z b (o+1) N) Hq.lt).trans Hq.f;(try go_wp2_with fail);refine hK _ _ (hid ak) (λ aa=>?_);clear hK K am ae ak cG;refine zhA 13 ?_;refine zhA 14 ?_;refine zhA 15 ?_;refine zzK 16 (λ K hK=>?_);have aA:w2.cell? (Z b (o+2) N)=G (E T g):=(ab.cell (p:=Z b (o+2) N) Hq.lt).trans Hq.g;have ax:w2.frozen? (Z b (o+2) N)=false:=(ab.frozen (p:=Z b (o+2) N) Hq.lt).trans az;have aj:(w2.setCell (Z b (o+2) N) (E T (Gq:Int))).cell? (Z b (o+1) N)=G (E T f):=(zzL _ _ _ _ (λ e=>by injection e with _ e2;omega)).trans ((ab.cell (p:=Z b (o+1) N) Hq.lt).trans Hq.f);go_simp;(try go_wp2_with fail);refine hK _ _ (hid aj) (λ aa=>?_);clear hK K aj aA ax;refine Yt zk ?_ _;clear aa;go_wp2;refine bodyPost_end (YO rfl _ _ _) rfl ?_;exact ⟨⟨_,rfl⟩,(Hq.below ab).setg (Gq:Int),(ycg.of_below ab Hq.lt).trans (ycg.set (o+2) (.inr (.inr rfl)) _)⟩
def btv (x:Bt):Value:= .agg #[Xb x.1,E T x.2.1,E T x.2.2]
theorem yro (b:Bt) (g:Int):yvx b g= (b.1,b.2.1,((ygj [b.2.2,g]:Nat):Int)):=rfl
theorem ysH {a:Bt} (x:Bt) (h:Bt1 b o a W) (hf:M62 a.2.1) (hg:M62 a.2.2) (ah:M62 x.2.1) (ap:M62 x.2.2) :
  H I 37 #[R (G (Z b o N)),btv x] W λ e W'=>(∃v,e=Q v)/\Bt1 b o (yf2 a x) W'/\ycg b o W W':=by
 obtain ⟨y,f,g⟩:=x;unfold btv;simp only at ah ap;obtain ⟨W1,ac⟩:=zx (W.alloc (J #[Xb y,E T f,E T g] 89));have aw:Hid (Bw W W1):=by rw [<- ac];exact yaa (Ye _ _) zg
 have aJ:W.heap.size<W1.heap.size:=by rw [<- ac];simp
 have x0:W1.cell? (Z W.heap.size 0 N)=G (Xb y):=by rw [<- ac];simp [go_sem]
 have x1:W1.cell? (Z W.heap.size 1 N)=G (E T f):=by rw [<- ac];simp [go_sem]
 have x2:W1.cell? (Z W.heap.size 2 N)=G (E T g):=by rw [<- ac];simp [go_sem]
 have aN:=hid ac;have H1:=hid (h.below aw);have aI:b≠W.heap.size:=by have:=h.lt;omega
 have O1:=hid (ycg.of_below (o:=o) aw h.lt);cases y
 ·clear h hf hg ah ap ac x1 x2;go_enter Tryz.func37,Tryz.ntmps37
  go_upto_region 1 with fail
  rw [aN];go_wp2;refine bodyPost_end (YO rfl _ _ _) rfl ?_;exact ⟨⟨_,rfl⟩,H1,O1⟩
 ·have aq:=ymG hf hg ah;have cT:=hid (ye0 f H1 hf hg ah);obtain ⟨a',aE⟩:∃a',ybR a f=a':=⟨_,rfl⟩;have HJ:Hid (yf2 a (true,f,g)= (a'.1,a'.2.1,((ygj [a'.2.2,g]:Nat):Int))):=by show yf2 a (true,f,g)= _;rw [yf2,Yd rfl,yro,aE]
  rw [aE] at cT aq;obtain ⟨ay,af,ag⟩:=a';simp only at aq HJ;have aK:M62 ag:=aq.2;simp only [M62] at aK ap;have ai:=yi8 (a:=ag) (b:=g) (M:=4611686018427387903) zo zo;have aD:Hid (∀m∈ [ag,g],yaA m):=λ m hm=>by
   simp only [YF,ZF,or_false] at hm;rcases hm with rfl | rfl <;> exact ⟨by omega,by omega⟩
  have cG:=hid (λ W=>yjs (G (Z W.heap.size 0 N)) 2 [ag,g] (W.alloc (J #[E T ag,E T g] 2)).drew zs (ybV (cs:= [E T ag,E T g]) (yap W _ _) zs) aD);obtain ⟨Gq,hG⟩:=zx (ygj [ag,g]);rw [hG] at cG ai HJ;have aP:IntKind.i64.wrap (Gq:Int)= (Gq:Int):=Yn _ zo;have aL:=hid aI;have aM:=hid aJ;have X2:=hid x2;clear h hf hg ah ap ac aq aE hG ai aK aI aJ x2;go_enter Tryz.func37,Tryz.ntmps37
  go_upto_region 1 with fail
  rw [aN];go_wp2_with fail
  refine cT.mono ?_;rintro e w2 ⟨⟨v,rfl⟩,ar,au⟩;have an:=hid ar;have aQ:=hid (O1.trans au);have av:Hid (w2.cell? (Z W.heap.size 2 N)=G (E T g)):=(au.eff.cell (p:=Z W.heap.size 2 N) aM (λ e=>aL e.symm)).trans X2.out;have aF:Hid (W.heap.size<w2.heap.size):=zH aM au.eff.size;have aB:=ar.g;have az:=ar.z (o+2);simp only at aB;clear ar au x0 x1 cT;go_upto_region 3 with fail
  refine Yj (S:=λ w=>Hid (w.cell? (Z W.heap.size 2 N)=G (E T g))) zk (hid av) (λ aa=>?_);refine zhA 0 ?_;refine zhA 1 ?_;refine zhA 2 ?_;refine zhA 3 ?_;refine zhA 5 ?_;refine zhA 6 ?_;refine zzK 4 (λ K hK=>?_);go_simp;have aw:Hid (Bw w2 w2.drew):=(Ye _ _).drew;(try go_wp2_with fail);refine hK _ _ (by assumption) (λ aa=>?_);clear hK K;refine zzK 7 (λ K hK=>?_);go_simp;(try go_wp2_with fail);have ad:Bw w2 (w2.alloc (J #[E T ag,E T g] 2)).drew:=(yaa (Ye _ _) zg).drew;have al:(w2.alloc (J #[E T ag,E T g] 2)).drew.cell? (Z W.heap.size 2 N)=G (E T g):=(ad.cell (p:=Z W.heap.size 2 N) aF).trans av.out;have ao:=hid ad;refine hK _ _ (hid al) (λ aa=>?_);clear hK K ad al;refine zzK 8 (λ K hK=>?_);go_simp;refine zm (cG w2) ?_;rintro w3 am;have ae:=zu ao am;have ab:=hid ae;have ak:w3.cell? (Z W.heap.size 2 N)=G (E T g):=(ae.cell (p:=Z W.heap.size 2 N) aF).trans av.out;(try go_wp2_with fail);refine hK _ _ (hid ak) (λ aa=>?_);clear hK K am ae ak cG;refine zhA 9 ?_;refine zhA 10 ?_;refine zhA 11 ?_;refine zzK 12 (λ K hK=>?_);have aA:w3.cell? (Z b (o+2) N)=G (E T ag):=(ab.cell (p:=Z b (o+2) N) an.lt).trans an.g;have ax:w3.frozen? (Z b (o+2) N)=false:=(ab.frozen (p:=Z b (o+2) N) an.lt).trans az;have aj:(w3.setCell (Z b (o+2) N) (E T (Gq:Int))).cell? (Z W.heap.size 2 N)=G (E T g):=(zzL _ _ _ _ (λ e=>by injection e with e1 _;exact aL e1)).trans ((ab.cell (p:=Z W.heap.size 2 N) aF).trans av);go_simp;(try go_wp2_with fail);refine hK _ _ (hid aj) (λ aa=>?_);clear hK K aj aA ax;refine Yt zk ?_ _;clear aa;go_wp2;refine bodyPost_end (YO rfl _ _ _) rfl ?_;rw [HJ];exact ⟨⟨_,rfl⟩,(an.below ab).setg (Gq:Int),aQ.trans ((ycg.of_below ab an.lt).trans (ycg.set (o+2) (.inr (.inr rfl)) _))⟩
end
section
def btL (n:Nat) (B:Nat->Bt):List Value:=(List.range n).flatMap λ u=> [Xb (B u).1,E T (B u).2.1,E T (B u).2.2]
theorem ynJ (n:Nat) (B:Nat->Bt):btL (n+1) B=btL n B ++ [Xb (B n).1,E T (B n).2.1,E T (B n).2.2]:=by
 rw [btL,btL,ZL,ZE];simp
theorem ybC (n:Nat) (B:Nat->Bt):(btL n B).length=3*n:=by
 induction n with
 | zero=>rfl
 | succ n ih=>rw [ynJ,YG,ih];simp;omega
def btC (B:Nat->Bt) (j:Nat):Value:=if j%3=0 then Xb (B (j/3)).1 else if j%3=1 then E T (B (j/3)).2.1 else E T (B (j/3)).2.2
theorem ylY (n:Nat) (B:Nat->Bt) (j:Nat) (hj:j<3*n):(btL n B)[j]? =G (btC B j):=by
 induction n with
 | zero=>omega
 | succ n ih=>
   rw [ynJ];rcases ZK j (3*n) with h | h
   ·rw [Yo (by rw [ybC];exact h)];exact ih h
   ·rw [Yl (by rw [ybC];exact h),ybC];have h3:j=3*n\/ j=3*n+1\/ j=3*n+2:=zo;rcases h3 with rfl | rfl | rfl
    ·rw [btC,Yd zo,show 3*n/3=n by omega,Nat.sub_self];rfl
    ·rw [btC,Yb zo,Yd zo,show (3*n+1)/3=n by omega,show 3*n+1-3*n=1 by omega];rfl
    ·rw [btC,Yb zo,Yb zo,show (3*n+2)/3=n by omega,show 3*n+2-3*n=2 by omega];rfl
structure BtS (b n:Nat) (B:Nat->Bt) (W:World):Prop where
 at':∀u,u<n->Bt1 b (u*3) (B u) W
 z:∀i,W.frozen? (Z b i N)=false
 lt:b<W.heap.size
section
variable {b n:Nat} {B:Nat->Bt} {W W':World}
theorem BtS.cell (h:BtS b n B W) {j:Nat} (hj:j<3*n):W.cell? (Z b j N)=G (btC B j):=by
 have hu:j/3<n:=zo;have hb:=h.at' (j/3) hu;have h3:j%3=0\/ j%3=1\/ j%3=2:=zo;rcases h3 with e | e | e
 ·rw [btC,Yd e];have:=hb.y;rwa [show j/3*3=j by omega] at this
 ·rw [btC,Yb zo,Yd e];have:=hb.f;rwa [show j/3*3+1=j by omega] at this
 ·rw [btC,Yb zo,Yb zo];have:=hb.g;rwa [show j/3*3+2=j by omega] at this
theorem BtS.of (hc:∀j,j<3*n->W.cell? (Z b j N)=G (btC B j)) (hz:∀i,W.frozen? (Z b i N)=false) (hl:b<W.heap.size):BtS b n B W:=
 ⟨λ u hu=>by
  have c0:=hc (u*3) zo;have c1:=hc (u*3+1) zo;have c2:=hc (u*3+2) zo;rw [btC,Yd zo,show u*3/3=u by omega] at c0;rw [btC,Yb zo,Yd zo,show (u*3+1)/3=u by omega] at c1;rw [btC,Yb zo,Yb zo,show (u*3+2)/3=u by omega] at c2;exact ⟨c0,c1,c2,hz,hl⟩,hz,hl⟩
theorem BtS.block (h:BtS b n B W) (hs:W.heap.size<=W'.heap.size) (hb:W'.heap[b]? =W.heap[b]?):BtS b n B W':=
 BtS.of (λ j hj=>(zzJ (w:=W) (a:=Z b j N) hb).trans (h.cell hj)) (λ i=>(zzM (w:=W) (a:=Z b i N) hb).trans (h.z i)) (zH h.lt hs)
theorem BtS.congr {C:Nat->Bt} (h:BtS b n B W) (e:∀u,u<n->C u=B u):BtS b n C W:=⟨λ u hu=>by rw [e u hu];exact h.at' u hu,h.z,h.lt⟩
theorem BtS.step {x:Bt} {u:Nat} (h:BtS b n B W) (h1:Bt1 b (u*3) x W') (ho:ycg b (u*3) W W'):BtS b n (λ i=>if i=u then x else B i) W':=
 ⟨λ i hi=>by
  by_cases e:i=u
  ·subst e;rw [Yd rfl];exact h1
  ·rw [Yb e];have g:=h.at' i hi;exact ⟨(ho.c _ zo zo zo).trans g.y,(ho.c _ zo zo zo).trans g.f,(ho.c _ zo zo zo).trans g.g,λ j=>(ho.z j).trans (g.z j),h1.lt⟩,λ i=>(ho.z i).trans (h.z i),h1.lt⟩
theorem BtS.range (h:BtS b n B W):W.rangeAt b 0 (btL n B):=λ j v hv=>by
 have hj:j<3*n:=by have:=(zzq.1 hv).1;rwa [ybC] at this
 rw [ylY n B j hj] at hv;rw [zzn,h.cell hj];exact hv
theorem BtS.there (h:BtS b n B W) (C:Nat->Bt):W.there b 0 (btL n C).toArray.size:=λ j hj=>by
 rw [Yp,ybC] at hj;rw [zzn];exact ⟨by rw [h.cell hj];rfl,h.z j⟩
theorem BtS.put (h:BtS b n B W) (C:Nat->Bt):BtS b n C (W.setCells b 0 (btL n C)):=by
 have hs:=(Eff.setCells (O:=λ x=>x=b) rfl (btL n C) 0 W (Eff.refl _ W)).size;refine BtS.of (λ j hj=>?_) (λ i=>by rw [Zj];exact h.z i) (zH h.lt hs);have:=ZW b (btL n C) 0 W (λ i hi=>by rw [ybC] at hi;rw [zzn,h.cell hi];rfl) j (by rw [ybC];exact hj);rw [zzn] at this;rw [this];have h2:=ylY n C j hj;rw [zzp (by rw [ybC];exact hj)] at h2;exact h2
end
theorem yep (w:World) (t:TypeId) (n:Nat):BtS w.heap.size n (λ _=>(false,0,0)) (w.alloc (J (btL n λ _=>(false,0,0)).toArray t)):=
 BtS.of (λ j hj=>by
  rw [World.cell?,Y1];have:=ylY n (λ _=>((false,0,0):Bt)) j hj;simpa using this) (λ i=>yan w _ t i) zs
def bv3 (B:Nat->Bt):Value:= .agg (btL 3 B).toArray
def bv7 (B:Nat->Bt):Value:= .agg (btL 7 B).toArray
theorem yke:(Tryz.prog.info? 171).map (·.size)=G 9:=by kernel_rfl
theorem yrd:(Tryz.prog.info? 90).map (·.size)=G 21:=by kernel_rfl
def yqU (v:Value):Sem Value:=Instr.loadAt 171 v
theorem yj8 (v:Value):Instr.loadAt 171 v=yqU v:=rfl
def ygy (v u:Value):Sem Unit:=Instr.storeAt 171 v u
theorem yhI (v u:Value):Instr.storeAt 171 v u=ygy v u:=rfl
def yqT (v:Value):Sem Value:=Instr.loadAt 90 v
theorem yj7 (v:Value):Instr.loadAt 90 v=yqT v:=rfl
def ylc (v u:Value):Sem Unit:=Instr.storeAt 90 v u
theorem yhH (v u:Value):Instr.storeAt 90 v u=ylc v u:=rfl
section
variable {b:Nat} {B:Nat->Bt} {W:World}
theorem BtS.ld3 (h:BtS b 3 B W):(yqU (R (G (Z b 0 N)))).run I W= .ok (bv3 B) W:=by
 unfold yqU;simp only [Instr.loadAt,Instr.sureAddr,ZC,ZR,Zf,Zr W b 0 171 (btL 3 B) _ h.range Tryz.underlying171 rfl (by rw [ybC];exact yke)];rfl
theorem BtS.st3 (h:BtS b 3 B W) (C:Nat->Bt):(ygy (R (G (Z b 0 N))) (bv3 C)).run I W= .ok () (W.setCells b 0 (btL 3 C)):=by
 unfold ygy;rw [bv3,Zy W b 0 171 (btL 3 C).toArray (h.there C) (by rw [Yp,ybC];exact yke) (by simp [btL,List.range,List.range.loop,Value.oneCell'])]
theorem BtS.ld7 (h:BtS b 7 B W):(yqT (R (G (Z b 0 N)))).run I W= .ok (bv7 B) W:=by
 unfold yqT;simp only [Instr.loadAt,Instr.sureAddr,ZC,ZR,Zf,Zr W b 0 90 (btL 7 B) _ h.range Tryz.underlying90 rfl (by rw [ybC];exact yrd)];rfl
theorem BtS.st7 (h:BtS b 7 B W) (C:Nat->Bt):(ylc (R (G (Z b 0 N))) (bv7 C)).run I W= .ok () (W.setCells b 0 (btL 7 C)):=by
 unfold ylc;rw [bv7,Zy W b 0 90 (btL 7 C).toArray (h.there C) (by rw [Yp,ybC];exact yrd) (by simp [btL,List.range,List.range.loop,Value.oneCell'])]
end
end
section
attribute [local go_sem] Yw
attribute [local go_sem ↓] yj8 yhI
theorem yg7 (args:Array Value) (w:World):(callFunc 186 args).run I w= .ok (.enter 186 args) w:=by simp [go_sem]
def szI (u:Nat):Int:=if u=0 then 1 else if u=1 then 60 else 3600
theorem ygx (u:Nat):1<=szI u/\szI u<=3600:=by rw [szI];split;omega;split <;> omega
theorem szU {u:Nat} (h:u<3):yav (u:Int)=szI u:=by
 have:u=0\/ u=1\/ u=2:=zo
 rcases this with rfl | rfl | rfl <;> rfl
def nrB (xs:List Int) (u:Nat):Bt:=xs.foldl (λ b x=>ybR b (x/szI u)) (false,0,0)
theorem ync {xs:List Int} {k:Nat} (hk:k<xs.length) (u:Nat):nrB (xs.take (k+1)) u=ybR (nrB (xs.take k) u) (xs[k]/szI u):=by
 rw [nrB,yal xs k hk,Zp];rfl
theorem ytA (xs:List Int) (u:Nat):∀k,k<=xs.length->BeatQ (λ v=>∃x∈xs.take k,v=x/szI u) (nrB (xs.take k) u)
 | 0,_=>ya2.congr ya2.empty λ v=>⟨λ h=>h.elim,λ ⟨x,h,_⟩=>by cases h⟩
 | k+1,hk=>by
   rw [ync zo];refine ya2.congr ((ytA xs u k zo).take _) λ v=>?_;rw [yal xs k zo];constructor
   ·rintro (⟨x,h,rfl⟩ | rfl)
    ·exact ⟨x,YC.2 (.inl h),rfl⟩
    ·exact ⟨_,YC.2 (.inr (Yy.2 rfl)),rfl⟩
   ·rintro ⟨x,h,rfl⟩;rcases YC.1 h with h | h
    ·exact .inl ⟨x,h,rfl⟩
    ·rw [Yy] at h;subst h;exact .inr rfl
theorem ylR {x z:Int} (h0:0<=x) (h1:x<86400) (hz:1<=z):0<=x/z/\x/z<86400:=
 ⟨Int.ediv_nonneg h0 zo,Int.lt_of_le_of_lt (Int.ediv_le_self z h0) h1⟩
theorem yyf {xs:List Int} (hx:∀x∈xs,0<=x/\x<86400) (u k:Nat) (hk:k<=xs.length):M62 (nrB (xs.take k) u).2.1/\M62 (nrB (xs.take k) u).2.2:=by
 have h:=ya2.bd (M:=86399) (ytA xs u k hk) zo λ v ⟨x,hm,e⟩=>by
  have h1:=hx x (List.mem_of_mem_take hm);have h2:=ylR h1.1 h1.2 (ygx u).1;omega
 simp only [M62];omega
theorem ygf (q:Nat->Bool):∀x∈yak q,0<=x/\x<86400:=λ x hx=>by
 rw [yak,sel_mem] at hx;obtain ⟨k,h1,_,h2⟩:=hx;omega
def NrI (b:Nat) (xs:List Int):ycQ:=λ k O W=>BtS b 3 (nrB (xs.take k)) W/\O b/\∀c,O c->c<W.heap.size
theorem ynb (b:Nat) (xs:List Int):ybI (NrI b xs):=λ k O W W' ⟨h1,h2,h3⟩ hs hO=>⟨h1.block hs (hO b h2),h2,λ c hc=>zH (h3 c hc) hs⟩
theorem yst (d:Nat) (q:Nat->Bool) (w:World) (hT:Tab w) (h:DiscAt w d q) :
  H I 150 #[R (G (Z d 0 N))] w λ e w'=>e=Q (bv3 (nrB (yak q)))/\Bw w w':=by
 obtain ⟨W1,ae⟩:=zx ((w.alloc (J zl4 171)).alloc (J zl4 171));have aq:Bw w W1:=by rw [<- ae];exact yaa (yaa (Ye _ _) zg) zs
 have s1:W1.heap.size=w.heap.size+2:=by rw [<- ae];simp
 have aC:BtS (w.heap.size+1) 3 (nrB []) W1:=by
  have e:BtS (w.alloc (J zl4 171)).heap.size 3 (nrB []) ((w.alloc (J zl4 171)).alloc (J zl4 171)):=yep _ _ 3;(try unfold Bw at e);rw [zzN] at e
  rw [<- ae];exact e
 have aD:BtS w.heap.size 3 (λ _=>(false,0,0)) W1:=by
  have e:BtS w.heap.size 3 (λ _=>(false,0,0)) (w.alloc (J zl4 171)):=yep w _ 3;rw [<- ae];exact e.block zs (Y4 _ _ _ zs)
 have cA:=hid (yip (G d) q W1 (h.below aq h.lt));have HT:=hid hT;have aI:=hid aq;have aR:=hid ae;have S1:=hid s1;have aJ:=hid aC;have aK:=hid aD;have an:=ygb q;have ad:Hid (∀x∈yak q,0<=x/\x<86400):=ygf q;generalize hX:yak q=X at an ad cA⊢
 clear ae aq s1 aC aD hT h hX;refine (wf_calls (r:=N) (n:=1)).mp ?_;refine callsIn_of_wp_marks Tryz.func150 rfl trivial ?_ rfl;simp only [Tryz.ntmps150,Yp,Yu,YS,Nat.reduceAdd,Nat.reduceSub,YE,YD,YQ,YJ,Y0,YH];gi_wp2_with fail
 rw [aR];refine (wf_calls.mpr cA).mono ?_;rintro e w2 ⟨rfl,ht,ai,ax⟩;obtain ⟨t,t1,t2,t3⟩:=ht.out;have ab:Bw w w2:=zu aI ai;have aB:BtS (w.heap.size+1) 3 (nrB []) w2:=aJ.block ai.size (ai.block _ aJ.lt);have tl:yfV I 186 #[R (G (Z W1.heap.size 0 N))] X (λ b=>b=w.heap.size+1) w2:=by
  intro y Jq Jx O W hO hB hC hJ;rw [<- t3] at hC⊢;have aM:¬O W1.heap.size:=λ h=>by
   rcases hO _ h with h | h
   ·have:=S1.out;omega
   ·omega
  exact yfW t W1.heap.size y Jq Jx O W t2 hC hJ (zH ax hB.size) aM (t1.below hB ax) (HT.later (zu ab hB)) (λ h=>by
   have h0:=HT.1;rcases hO _ h with h | h
   ·omega
   ·have:=ab.size;omega)
 have TL:=hid tl;have ac:=hid ab;have aj:=hid ai;have av:=hid aB;clear tl ab aB ht t1 t3 ai cA;gi_wp2_with fail
 refine ybj (gf:=186) (lb:=#[R (G (Z W1.heap.size 0 N))]) rfl yg7 X (λ b=>b=w.heap.size+1) rfl TL
  (NrI (w.heap.size+1) X) (λ _ _ _ _=>False) (ynb _ _) (λ _ _ _ _ _ h _ _=>h.elim) (λ k O W h=>h.2.2) (λ _ _ _ _ h=>h.elim) ⟨av,rfl,λ c hc=>by rw [hc];exact av.lt⟩
  (λ k O a' W=>NrI (w.heap.size+1) X k O W/\∀hk:k<X.length,a' = {tmps:=#[R (G (Z d 0 N)),undef,R (G (Z w.heap.size 0 N)),R (G (Z (w.heap.size+1) 0 N)),E T X[k],undef,R (G (Z d 0 N)),Xf (.func 186) #[] #[R (G (Z W1.heap.size 0 N))],E T X[k],undef,undef,undef,undef,undef,undef,undef,undef,undef,undef,undef,undef],defers:= []})
  (λ l o k O a' W' hr hn h=>⟨ybJ (ynb _ _) h.1 hn o,h.2⟩) ?assign ?body ?done ?stop
 case assign=>
  intro l k O W K hk hI hG hK;gi_wp2
  exact hK _ O W (yaM.refl _ _) ⟨hI,λ _=>rfl⟩
 case stop=>
  rintro c k O' W' h1 h2 hG h;exact h.elim
 case body=>
  rintro l k O a' W hk hG hl ag ah ⟨⟨hA,hO,hlt⟩,ha⟩;rw [ha hk];have hx:=ad _ (zzr hk);have ak:Hid (∀u,nrB (X.take (k+1)) u=ybR (nrB (X.take k) u) (X[k]/szI u)):=λ u=>ync hk u;have al:Hid (∀u,M62 (nrB (X.take k) u).2.1/\M62 (nrB (X.take k) u).2.2):=λ u=>yyf ad u k (YY hk);generalize aL:X[k]=x at hx ak⊢
  obtain ⟨x0,x1⟩:=hx;obtain ⟨B,hB⟩:=zx (nrB (X.take k));rw [hB] at hA ak al;have HA:=hid hA;have HO:=hid hO;have aQ:=hid hlt;have Hx:=hid (Ya x0 x1);have aP:=hid ag;have aE:=hid ah;have Hk:=hid hk;clear aL ha hO hlt hA hB hk hG ag ah hl;gi_wp2_with fail
  gi_loopw [9] (λ iv wr=>∃j:Nat,iv=E T j/\j<=3/\Hid (BtS (w.heap.size+1) 3 (λ i=>if i<j then ybR (B i) (x/szI i) else B i) wr/\Eff O W wr)) (λ iv _=>3-(intOf iv).toNat)
  case atStart=>exact ⟨0,rfl,by omega,HA.congr (λ u _=>by simp),Eff.refl _ _⟩
  case round=>
   obtain ⟨j,rfl,hj,HI⟩:=hrel;by_cases ao:j<3
   ·have aO:(j:Int)<3:=zo;have aW:(0:Int)<=(j:Int):=zo;have cS:=hid (λ W=>ydn (j:Int) W);rw [szU ao] at cS;have hz:=ygx j;have hd:=ylR x0 x1 hz.1;have hb:=HI.1.at' j ao;rw [Yb zo] at hb;have cT:=hid (λ W' (hB:Bw wr W')=>ye0 (x/szI j) (hb.below hB) (al j).1 (al j).2 (show M62 (x/szI j) from ⟨hd.1,by omega⟩));have af:Hid (∀W',Bt1 (w.heap.size+1) (j*3) (ybR (B j) (x/szI j)) W'->ycg (w.heap.size+1) (j*3) wr W'->BtS (w.heap.size+1) 3 (λ i=>if i<j+1 then ybR (B i) (x/szI i) else B i) W'/\Eff O W W'):=λ W' h1 h2=>
     ⟨(HI.1.step h1 h2).congr (λ u hu=>by
       by_cases e:u=j
       ·subst e;rw [Yd zo,Yd rfl]
       ·rw [Yb e];by_cases e2:u<j
        ·rw [Yd zo,Yd e2]
        ·rw [Yb zo,Yb e2]),HI.2.trans h2.eff (λ c hc=>by subst hc;exact .inl HO)⟩
    obtain ⟨z,aw⟩:=zx (szI j);rw [aw] at cS hz hd cT af;have aU:z≠0:=zo;have hq:IntKind.i64.wrap (Int.tdiv x z)=x/z:=(by rw [Int.tdiv_eq_ediv_of_nonneg x0];exact Yn _ zo);have aX:=hid aO;obtain ⟨y,hy⟩:=zx (x/z);rw [hy] at hq cT af hd;clear hb aw hy hd;gi_upto_region 7 with fail
    refine yxZ (S:=λ _=>True) zk zk (by rintro ⟨_,_,h⟩;exact h) trivial (λ aa=>?_);refine zT 0 (v:=?_) ?_ ?_;rotate_left
    ·intro w' am;go_simp;(try with_reducible rfl)
    refine zT 1 (v:=?_) ?_ ?_;rotate_left
    ·intro w' am;go_simp;(try with_reducible rfl)
    refine zT 2 (v:=?_) ?_ ?_;rotate_left
    ·intro w' am;go_simp;(try with_reducible rfl)
    refine zT 3 (v:=?_) ?_ ?_;rotate_left
    ·intro w' am;go_simp;(try with_reducible rfl)
    refine zzK 4 (λ K hK=>?_);go_simp;refine zm (cS _) ?_;rintro w7 aA;have aH:Hid (Bw wr w7):=(Ye _ _).drew.trans aA;refine hK _ _ trivial (λ aa=>?_);clear hK K aA cS;refine zT 5 (v:=?_) ?_ ?_;rotate_left
    ·intro w' am;go_simp;(try with_reducible rfl)
    refine zzK 6 (λ K hK=>?_);go_simp;refine (cT w7 aH).mono ?_;rintro e w8 ⟨⟨v,rfl⟩,ay,az⟩;have HN:=hid (af w8 ay ((ycg.of_below aH HI.1.lt).trans az));refine hK _ _ trivial (λ aa=>?_);clear hK K ay az cT af;refine Yt zk ?_ _;clear aa;gi_wp2
    exact ⟨⟨j+1,by go_num,by omega,HN⟩,by simp [intOf];omega⟩
   ·obtain rfl:j=3:=zo;have ap:Hid (BtS (w.heap.size+1) 3 (nrB (X.take (k+1))) wr):=HI.1.congr (λ u hu=>by rw [ak u,Yd hu]);have ah:∀c,O c->c<wr.heap.size:=λ c hc=>zH (aQ c hc) HI.2.size;have aE:=hid ah;clear ak al ah hj ao;gi_wp2
    exact ⟨O,⟨λ _ h=>h,λ _ h=> .inl h,HI.2⟩,ap,HO,aE⟩
 case done=>
  rintro O' W' hG ⟨hA,hO,hlt⟩ hD aN;rw [YW] at hA;have ar:BtS w.heap.size 3 (λ _=>(false,0,0)) W':=by
   have h2:=aK.block (aj.size) (aj.block _ aK.lt);exact h2.block hG.eff.size (hG.eff.block _ h2.lt zo)
  have aG:Hid (Bw w W'):=ac.trans (hG.eff.below (by rintro b rfl;omega) ac.size);have HD:=hid hD;have au:Hid (¬w2.heap.size=w.heap.size/\w2.heap.size<W'.heap.size):=⟨λ e=>by have:=ac.size;have:=av.lt;omega,(YZ.1 hD).1⟩;have aV:=hA.ld3;have af:=ar.st3 (nrB X);have aT:=hid (ar.put (nrB X));have aF:Hid (Eff (λ x=>x=w.heap.size) W' (W'.setCells w.heap.size 0 (btL 3 (nrB X)))):=Eff.setCells (O:=λ x=>x=w.heap.size) rfl (btL 3 (nrB X)) 0 W' (Eff.refl _ W');have aS:Hid ((W'.setCells w.heap.size 0 (btL 3 (nrB X))).heap[w2.heap.size]? =G (.deferred (G []))):=by
   show _ = _;rw [aF.block w2.heap.size (zH au.2 zg) (λ e=>au.1 e)];exact HD
  clear hG hA hO hlt hD aN ar;gi_wp2
  refine ⟨by simp, .inl ⟨_,_,rfl,YM aS,?_⟩⟩;have hX:=aT.block (W':=(W'.setCells w.heap.size 0 (btL 3 (nrB X))).putObj w2.heap.size (.deferred N)) (by rw [Yg];exact zG _) (Yc (λ e=>au.1 e.symm));exact ⟨_,yac rfl _ _ w.heap.size 0 _ _ rfl hX.range Tryz.underlying171 rfl (by rw [ybC];exact yke),rfl,yaF (aG.trans (aF.below (by rintro b rfl;exact zG _) aG.size)) ac.size _⟩
end
section
attribute [local go_sem ↓] yj8 yhI
variable {F M:Blk} {bm bx d:Nat} {q:Nat->Bool} {v:Value} {W:World}
def ywA (v x:Value):Sem Value:=Instr.lookup 237 v x true
theorem yyk (v x:Value):Instr.lookup 237 v x true=ywA v x:=rfl
def lnI (v:Value):Sem Value:=Builtin.len_ #[237] 3 #[v]
theorem yAq (v:Value):Builtin.len_ #[237] 3 #[v]=lnI v:=rfl
def yz7 (v x y:Value):Sem Unit:=Instr.mapUpdate 237 v x y
theorem yzr (v x y:Value):Instr.mapUpdate 237 v x y=yz7 v x y:=rfl
attribute [local go_sem ↓] yyk yAq yzr
def DiK (W:World) (F M:Blk) (v:Value):Prop:=∃d q,v=R (G (Z d 0 N))/\DiF W F M d q
def DiG (W:World) (F M:Blk) (x v:Value):Prop:=∃d q,x=R (G (Z d 0 N))/\DiF W F M d q/\v=bv3 (nrB (yak q))
section
variable {W W':World} {F F' M:Blk}
theorem DiF.keepI (h:DiF W F M d q) (hs:W.heap.size<=W'.heap.size) (hF:∀b,F b->F' b) (hb:∀b,F b/\¬M b->W'.heap[b]? =W.heap[b]?):DiF W' F' M d q:=
 ⟨hF _ h.1,h.2.1,h.2.2.block hs (hb _ ⟨h.1,h.2.1⟩)⟩
theorem DiK.keep (h:DiK W F M v) (hs:W.heap.size<=W'.heap.size) (hF:∀b,F b->F' b) (hb:∀b,F b/\¬M b->W'.heap[b]? =W.heap[b]?):DiK W' F' M v:=by
 obtain ⟨d,q,h1,h2⟩:=h;exact ⟨d,q,h1,h2.keepI hs hF hb⟩
theorem DiG.keep {x:Value} (h:DiG W F M x v) (hs:W.heap.size<=W'.heap.size) (hF:∀b,F b->F' b) (hb:∀b,F b/\¬M b->W'.heap[b]? =W.heap[b]?):DiG W' F' M x v:=by
 obtain ⟨d,q,h1,h2,h3⟩:=h;exact ⟨d,q,h1,h2.keepI hs hF hb,h3⟩
theorem MapI.keep {b n:Nat} (h:MapS (DiK W F M) (DiG W F M) W b n) (hs:W.heap.size<=W'.heap.size) (hF:∀b,F b->F' b) (hb:∀b,F b/\¬M b->W'.heap[b]? =W.heap[b]?) (hm:W'.heap[b]? =W.heap[b]?):MapS (DiK W' F' M) (DiG W' F' M) W' b n:=
 (h.keep hm).mono zg (λ v hv=>hv.keep hs hF hb) (λ x v hv=>hv.keep hs hF hb)
theorem yui (W:World) (F M:Blk):yjD I 84 (DiK W F M) W:=by
 refine yjD.ask Tryz.underlying84 ?_ ?_ ?_ ?_
 ·rintro _ _ ⟨d,q,rfl,-⟩ ⟨d',q',rfl,-⟩;rfl
 ·rintro em _ ⟨d,q,rfl,-⟩;kernel_rfl
 ·rintro _ _ ⟨d,q,rfl,h⟩ ⟨d',q',rfl,h'⟩;have e:=ygI (w:=W) (d:=G d) (e:=G d') (PtrOk.disc (d:=G d) (q:=q) h.2.2) (PtrOk.disc (d:=G d') (q:=q') h'.2.2) 9999;refine ⟨_,e,λ hd=>?_⟩;rw [zzY] at hd;injection hd with hd
  rw [hd]
 ·rintro _ ⟨d,q,rfl,-⟩;simp [Instr.sameBits]
end
structure PuS (bx bm:Nat) (F M:Blk) (W:World):Prop where
 c:W.cell? (Z bx 0 N)=G (.map (G bm))
 m:MapS (DiK W F M) (DiG W F M) W bm 512
 nx:¬F bx
 nm:¬F bm
 ne:bx≠bm
 lx:bx<W.heap.size
 lt:∀b,F b->b<W.heap.size
theorem PuS.keep {F':Blk} {W':World} (h:PuS bx bm F M W) (hs:W.heap.size<=W'.heap.size) (hF:∀b,F b->F' b) (hN:∀b,F' b->F b\/ W.heap.size<=b) (hl:∀b,F' b->b<W'.heap.size) (hb:∀b,F b/\¬M b->W'.heap[b]? =W.heap[b]?) (hx:W'.heap[bx]? =W.heap[bx]?) (hm:W'.heap[bm]? =W.heap[bm]?):PuS bx bm F' M W':=
 ⟨(zzJ (w:=W) (a:=Z bx 0 N) hx).trans h.c,MapI.keep h.m hs hF hb hm,λ e=>(hN _ e).elim h.nx (λ g=>by have:=h.lx;omega),λ e=>(hN _ e).elim h.nm (λ g=>by have:=h.m.lt;omega),h.ne,zH h.lx hs,hl⟩
structure PuM (bx bm b0 b1:Nat) (F M:Blk) (n:Nat) (W0 W:World):Prop where
 c:W.cell? (Z bx 0 N)=G (.map (G bm))
 m:MapS (DiK W F M) (DiG W F M) W bm n
 eff:Eff (λ c=>c=bm) W0 W
 a0:BtS b0 3 (λ _=>(false,0,0)) W
 a1:∃B,BtS b1 3 B W
theorem ykN (h:PuS bx bm F M W) (hd:DiF W F M d q) (hT:Tab W) (aJ:F 0) :
  H I 149 #[R (G (Z d 0 N)),R (G (Z bx 0 N))] W λ e W'=>e=Q (bv3 (nrB (yak q)))/\PuS bx bm F M W'/\Eff (λ c=>c=bm) W W':=by
 obtain ⟨W1,ak⟩:=zx (W.alloc (J zl4 171));have ac:Below W.heap.size W W1:=by rw [<- ak];exact yaa (Ye _ _) zg
 have s1:W1.heap.size=W.heap.size+1:=by rw [<- ak];simp
 have aP:BtS W.heap.size 3 (λ _=>(false,0,0)) W1:=by rw [<- ak];exact yep W 171 3
 have hk:∀b,F b/\¬M b->W1.heap[b]? =W.heap[b]?:=λ b hb=>ac.block b (h.lt b hb.1);have ao:=h.keep (F':=F) ac.size zi (λ _ h=> .inl h) (λ b hb=>zH (h.lt b hb) ac.size) hk (ac.block _ h.lx) (ac.block _ h.m.lt);have aw:=hd.keepI (W':=W1) (F':=F) ac.size zi hk;have hL:=ao.m.lookup (yui W1 F M) (t:=237) Tryz.underlying237 (z:=bv3 (λ _=>(false,0,0))) zk true (x:=R (G (Z d 0 N))) ⟨d,q,rfl,aw⟩;have hN:∀c,(c=bm\/ c=bx\/ F c)->c<W.heap.size:=λ c hc=>by
  rcases hc with rfl | rfl | hc
  ·exact h.m.lt
  ·exact h.lx
  ·exact h.lt c hc
 have c1:=ao.c;have HH:=hid h;have a3:=hid ao;have ai:=hid ac;have S1:=hid s1;have aq:=hid aP;have HN:=hid hN;have al:=hid aw;have aU:=hid ak;have HT:=hid (Ya hT aJ);have ae:Hid (∀B:Nat->Bt,(ygy (R (G (Z W1.heap.size 0 N))) (bv3 B)).run I (W1.alloc (J zl4 171))= .ok () ((W1.alloc (J zl4 171)).setCells W1.heap.size 0 (btL 3 B))/\
   BtS W1.heap.size 3 B ((W1.alloc (J zl4 171)).setCells W1.heap.size 0 (btL 3 B))/\Below W1.heap.size W1 ((W1.alloc (J zl4 171)).setCells W1.heap.size 0 (btL 3 B))):=λ B=>by
  have e:BtS W1.heap.size 3 (λ _=>(false,0,0)) (W1.alloc (J zl4 171)):=yep W1 171 3;exact ⟨e.st3 B,e.put B,(yaa (Ye _ _) zg).trans ((Eff.setCells (O:=λ x=>x=W1.heap.size) rfl (btL 3 B) 0 _ (Eff.refl _ _)).below (by rintro b rfl;exact zG _) zs)⟩
 have aj:Hid (∀B W2,BtS W.heap.size 3 (λ _=>(false,0,0)) W2->(ygy (R (G (Z W.heap.size 0 N))) (bv3 B)).run I W2= .ok () (W2.setCells W.heap.size 0 (btL 3 B))/\BtS W.heap.size 3 B (W2.setCells W.heap.size 0 (btL 3 B))/\Eff (λ c=>c=W.heap.size) W2 (W2.setCells W.heap.size 0 (btL 3 B))):=λ B W2 e=>
  ⟨e.st3 B,e.put B,Eff.setCells (O:=λ x=>x=W.heap.size) rfl (btL 3 B) 0 _ (Eff.refl _ _)⟩
 obtain ⟨B,hB⟩:=zx (nrB (yak q));rw [hB];have ay:=hid hB;clear ak ac s1 aP hk ao aw h hd hN hT aJ hB;go_enter Tryz.func149,Tryz.ntmps149
 go_upto_region 1 with fail
 rw [aU];rcases hL with hl | ⟨v,hv,hl⟩;rotate_left
 ·obtain ⟨d',q',e1,aH,rfl⟩:=hv;have hq:yak q' =yak q:=by
   injection e1 with e1;injection e1 with e1;injection e1 with e1
   subst e1;have e:(List.range 86400).filter q' = (List.range 86400).filter q:=List.filter_congr λ k hk=>DiscAt.unique aH.2.2 al.2.2 k (YT.1 hk);rw [yak,yak,sel,sel,e]
  rw [hq,ay] at hl;replace hl:(ywA (.map (G bm)) (R (G (Z d 0 N)))).run I W1= .ok (Xt #[bv3 B,Xb true]) W1:=hl;obtain ⟨b1,b2,b3⟩:=ae B;have H2:=hid b2;have H3:=hid b3;clear b2 b3 aH hq e1;go_upto_region 2 with fail
  obtain ⟨w2,ad⟩:=zx ((W1.alloc (J zl4 171)).setCells W1.heap.size 0 (btL 3 B));rw [ad] at H2 H3;rw [ad];have ld:=H2.ld3;have aO:BtS W.heap.size 3 (λ _=>(false,0,0)) w2:=aq.block H3.size (H3.block _ aq.lt);obtain ⟨f1,f2,f3⟩:=aj B w2 aO;have F2:=hid f2;have F3:=hid f3;have ab:Hid (Below W.heap.size W w2):=zu ai H3.out;clear b1 hl ad aO f2 f3 c1;go_wp2;have aa:Below W.heap.size W (w2.setCells W.heap.size 0 (btL 3 B)):=ab.trans (F3.below (by rintro b rfl;exact zG _) ab.size);refine Yh (yac rfl _ _ W.heap.size 0 _ _ rfl F2.range Tryz.underlying171 rfl (by rw [ybC];exact yke)) rfl ⟨rfl,?_,Eff.of_below aa⟩;exact HH.keep aa.size zi (λ _ h=> .inl h) (λ b hb=>zH (HH.lt b hb) aa.size) (λ b hb=>aa.block b (HH.lt b hb.1)) (aa.block _ HH.lx) (aa.block _ HH.m.lt)
 ·replace hl:(ywA (.map (G bm)) (R (G (Z d 0 N)))).run I W1= .ok (Xt #[bv3 (λ _=>(false,0,0)),Xb false]) W1:=hl;obtain ⟨b1,b2,b3⟩:=ae (λ _=>(false,0,0));have H2:=hid b2;have H3:=hid b3;clear b2 b3;go_upto_region 2 with fail
  obtain ⟨w2,ad⟩:=zx ((W1.alloc (J zl4 171)).setCells W1.heap.size 0 (btL 3 λ _=>(false,0,0)));rw [ad] at H2 H3;rw [ad];have ab:Hid (Below W.heap.size W w2):=zu ai H3.out;have aD:∀b,F b/\¬M b->w2.heap[b]? =W.heap[b]?:=λ b hb=>ab.block b (HH.lt b hb.1);have au:MapS (DiK w2 F M) (DiG w2 F M) w2 bm 512:=MapI.keep HH.m ab.size zi aD (ab.block _ HH.m.lt);have c2:w2.cell? (Z bx 0 N)=G (.map (G bm)):=(ab.cell (p:=Z bx 0 N) HH.lx).trans HH.c;have az:Hid (BtS W.heap.size 3 (λ _=>(false,0,0)) w2):=aq.block H3.size (H3.block _ aq.lt);obtain ⟨k,hk,aM,ql⟩:=au.count (t:=237) Tryz.underlying237 3;replace ql:(lnI (.map (G bm))).run I w2= .ok (E T k) w2:=ql;have aW:=hid aM;have Hk:=hid hk;have aT:=hid au;have aQ:=hid c2;obtain ⟨bb,an⟩:=zx W1.heap.size;have ah:Hid (bb=W.heap.size+1):=by show _ = _;rw [<- an,S1]
  rw [an] at H2 H3;rw [an];clear b1 hl ad aD au c1 aM hk ae an;iterate 12 go_step
  (try dsimp only);go_cut [] from 18 (λ wx=>PuM bx bm W.heap.size bb F M 511 W wx)
  case first=>
   by_cases h5:(k:Int)=512
   ·have aC:((k:Int)==512)=true:=(by rw [h5];rfl);clear h5;go_wp2_with (with_reducible refine ybU (t:=237) (.tmp 17) rfl rfl Tryz.underlying237 aT.out rfl ?_)
    intro w3 aN aE;have af:Eff (λ c=>c=bm) w2 w3:=Eff.of_grown aE rfl;have aL:PuM bx bm W.heap.size bb F M 511 W w3:=by
     have hb:∀b,b<w2.heap.size->b≠bm->w3.heap[b]? =w2.heap[b]?:=λ b hb hn=>af.block b hb hn;have l2:=ab.size;have lm:=HH.m.lt;refine ⟨(zzJ (w:=w2) (a:=Z bx 0 N) (hb bx (zH HH.lx l2) HH.ne)).trans aQ,?_,(Eff.of_below ab).trans af (λ b h=> .inl h),az.block af.size (hb _ az.lt zo),_,H2.block af.size (hb _ H2.lt (zp ah.out))⟩;exact aN.mono zo (λ v hv=>hv.keep af.size zi (λ b hf=>hb b (zH (HH.lt b hf.1) l2) (λ e=>HH.nm (e ▸ hf.1)))) (λ x v hv=>hv.keep af.size zi (λ b hf=>hb b (zH (HH.lt b hf.1) l2) (λ e=>HH.nm (e ▸ hf.1))))
    have ax:=hid aL;clear ql aC c2 aN aE af aL;go_wp2;go_meet;exact ax
   ·have aC:((k:Int)==512)=false:=(by simpa using h5);have ax:Hid (PuM bx bm W.heap.size bb F M 511 W w2):=⟨aQ,aW.mono (zp Hk.out) zi (λ _ _ h=>h),Eff.of_below ab,az,_,H2⟩;clear h5;go_wp2;go_meet;exact ax
  case rest=>
   have HC:=hid hcut;have lm:=HH.m.lt;have aF:d≠bm:=λ e=>HH.nm (e ▸ al.1);have av:d<W.heap.size:=HH.lt d al.1;have aG:DiscAt wc d q:=by
    have h0:DiscAt W1 d q:=al.2.2;have e:wc.heap[d]? =W1.heap[d]?:=(hcut.eff.block d av aF).trans (ai.block d av).symm;exact DiscAt.block h0 (by have:=S1.out;have:=hcut.a1;have:=hcut.a0.lt;obtain ⟨B',aS⟩:=hcut.a1;have:=aS.lt;have:=ah.out;omega) e
   have aI:Tab wc:=HT.1.eff hcut.eff (λ e=>HH.nm (e ▸ HT.2));have cI:=hid (yst d q wc aI aG);rw [ay] at cI;clear hcut lm aF av aG aI ql c2;go_wp2_with fail
   refine zm cI ?_;rintro w4 aa;obtain ⟨B4,ag⟩:=HC.a1;have l4:=aa.size;have g4:=ag.block (W':=w4) l4 (aa.block _ ag.lt);have aR:=g4.st3 B;have p4:=hid (g4.put B);have e4:Eff (λ c=>c=bb) w4 (w4.setCells bb 0 (btL 3 B)):=Eff.setCells (O:=λ x=>x=bb) rfl (btL 3 B) 0 _ (Eff.refl _ _);have E4:=hid ((HC.eff.trans (Eff.of_below (O:=λ c=>c=bm) aa) (λ _ h=> .inl h)).trans e4 (λ b hb=> .inr (zp ah.out)));have lm:=HH.m.lt;have lx:=HH.lx;have am:=HH.ne;have kb:∀b,b<W.heap.size->(w4.setCells bb 0 (btL 3 B)).heap[b]? =wc.heap[b]?:=λ b hb=>by
    have hl:b<wc.heap.size:=zH hb HC.eff.size;exact (e4.block b (zH hl l4) (zp ah.out)).trans (aa.block b hl)
   have c5:(w4.setCells bb 0 (btL 3 B)).cell? (Z bx 0 N)=G (.map (G bm)):=(zzJ (w:=wc) (a:=Z bx 0 N) (kb bx lx)).trans HC.c;have m5:MapS (DiK (w4.setCells bb 0 (btL 3 B)) F M) (DiG (w4.setCells bb 0 (btL 3 B)) F M) (w4.setCells bb 0 (btL 3 B)) bm 511:=
    MapI.keep HC.m (zI l4 e4.size) zi (λ b hb=>kb b (HH.lt b hb.1)) (kb bm lm)
   have a5:BtS W.heap.size 3 (λ _=>(false,0,0)) (w4.setCells bb 0 (btL 3 B)):=(HC.a0.block l4 (aa.block _ HC.a0.lt)).block e4.size (e4.block _ (zH HC.a0.lt l4) (zp ah.out));have d5:DiF (w4.setCells bb 0 (btL 3 B)) F M d q:=al.keepI (by have:=E4.size;have:=S1.out;have:=p4.lt;have:=ah.out;omega) zi (λ b hb=>(kb b (HH.lt b hb.1)).trans ((HC.eff.block b (HH.lt b hb.1) (λ e=>HH.nm (e ▸ hb.1))).trans (ai.block b (HH.lt b hb.1)).symm));obtain ⟨w5,ar⟩:=zx (w4.setCells bb 0 (btL 3 B));rw [ar] at aR p4 E4 c5 m5 a5 d5;obtain ⟨w6,q6,m6,g6⟩:=m5.update (yui w5 F M) (t:=237) (e:=171) Tryz.underlying237 (x:=R (G (Z d 0 N))) ⟨d,q,rfl,d5⟩ (v:=bv3 B) ⟨d,q,rfl,d5,by rw [ay]⟩;replace q6:(yz7 (.map (G bm)) (R (G (Z d 0 N))) (bv3 B)).run I w5= .ok () w6:=q6;have e6:Eff (λ c=>c=bm) w5 w6:=Eff.of_grown g6 rfl;have aZ:=p4.ld3;have aA:bb≠bm:=(by have:=ah.out;omega);have p6:=p4.block e6.size (e6.block _ p4.lt aA);have aY:=p6.ld3;have a6:=a5.block e6.size (e6.block _ a5.lt zo);obtain ⟨f1,f2,f3⟩:=aj B w6 a6;have F2:=hid f2;have ap:Eff (λ c=>c=bm) W (w6.setCells W.heap.size 0 (btL 3 B)):=(E4.trans e6 (λ _ h=> .inl h)).trans f3 (λ b hb=> .inr zo);have aB:MapS (DiK w6 F M) (DiG w6 F M) w6 bm 512:=m6.mono zg (λ v hv=>hv.keep e6.size zi (λ b hb=>e6.block b (zH (HH.lt b hb.1) E4.size) (λ e=>HH.nm (e ▸ hb.1)))) (λ x v hv=>hv.keep e6.size zi (λ b hb=>e6.block b (zH (HH.lt b hb.1) E4.size) (λ e=>HH.nm (e ▸ hb.1))));have aK:PuS bx bm F M (w6.setCells W.heap.size 0 (btL 3 B)):=by
    have k7:∀b,b<W.heap.size->(w6.setCells W.heap.size 0 (btL 3 B)).heap[b]? =w6.heap[b]?:=λ b hb=>f3.block b (zH hb (zI E4.size e6.size)) zo;have c6:w6.cell? (Z bx 0 N)=G (.map (G bm)):=(e6.cell (p:=Z bx 0 N) (zH lx E4.size) am).trans c5;exact ⟨(zzJ (w:=w6) (a:=Z bx 0 N) (k7 bx lx)).trans c6,MapI.keep aB f3.size zi (λ b hb=>k7 b (HH.lt b hb.1)) (k7 bm lm),HH.nx,HH.nm,am,zH lx ap.size,λ b hb=>zH (HH.lt b hb) ap.size⟩
   have aV:=hid aK;have aX:=hid ap;have a2:=hid ar;have c6:w6.cell? (Z bx 0 N)=G (.map (G bm)):=(e6.cell (p:=Z bx 0 N) (zH lx E4.size) am).trans c5;clear aa ag g4 e4 kb m5 a5 d5 m6 g6 e6 p6 a6 f2 f3 ap aB aK aA lm lx am l4 ar cI;go_wp2;exact Yh (yac rfl _ _ W.heap.size 0 _ _ rfl F2.range Tryz.underlying171 rfl (by rw [ybC];exact yke)) rfl ⟨rfl,aV,aX⟩
end
section
variable {b:Nat} {f:Nat->Int} {W:World}
def L7 (f:Nat->Int):List Value:=(List.range 7).map λ i=>E T (f i)
theorem yec (f:Nat->Int):(L7 f).length=7:=by simp [L7]
theorem yxr (f:Nat->Int) {j:Nat} (hj:j<(L7 f).length):(L7 f)[j]=E T (f j):=by simp [L7]
structure Ar7 (b:Nat) (f:Nat->Int) (W:World):Prop where
 c:∀i,i<7->W.cell? (Z b i N)=G (E T (f i))
 z:∀i,W.frozen? (Z b i N)=false
 lt:b<W.heap.size
theorem Ar7.block {W':World} (h:Ar7 b f W) (hs:W.heap.size<=W'.heap.size) (hb:W'.heap[b]? =W.heap[b]?):Ar7 b f W':=
 ⟨λ i hi=>(zzJ (w:=W) (a:=Z b i N) hb).trans (h.c i hi),λ i=>(zzM (w:=W) (a:=Z b i N) hb).trans (h.z i),zH h.lt hs⟩
def yjC (f:Nat->Int):Value:= .agg (L7 f).toArray
theorem ykd:(Tryz.prog.info? 46).map (·.size)=G 7:=by kernel_rfl
theorem Ar7.range (h:Ar7 b f W):W.rangeAt b 0 (L7 f):=λ j v hv=>by
 obtain ⟨hj,e⟩:=zzq.1 hv;rw [yxr] at e;rw [zzn,h.c j (by rw [yec] at hj;exact hj),<- e]
theorem Ar7.there (h:Ar7 b f W) (g:Nat->Int):W.there b 0 (L7 g).toArray.size:=λ j hj=>by
 rw [Yp,yec] at hj;rw [zzn];exact ⟨by rw [h.c j hj];rfl,h.z j⟩
def ylB (v:Value):Sem Value:=Instr.loadAt 46 v
theorem yc4 (v:Value):Instr.loadAt 46 v=ylB v:=rfl
def yga (v u:Value):Sem Unit:=Instr.storeAt 46 v u
theorem ydV (v u:Value):Instr.storeAt 46 v u=yga v u:=rfl
theorem Ar7.ld (h:Ar7 b f W):(ylB (R (G (Z b 0 N)))).run I W= .ok (yjC f) W:=by
 unfold ylB;simp only [Instr.loadAt,Instr.sureAddr,ZC,ZR,Zf,Zr W b 0 46 (L7 f) _ h.range Tryz.underlying46 rfl (by rw [yec];exact ykd)];rfl
theorem Ar7.st (h:Ar7 b f W) (g:Nat->Int):(yga (R (G (Z b 0 N))) (yjC g)).run I W= .ok () (W.setCells b 0 (L7 g)):=by
 unfold yga;rw [yjC,Zy W b 0 46 (L7 g).toArray (h.there g) (by rw [Yp,yec];exact ykd) (by simp [L7,Value.oneCell'])]
theorem Ar7.put (h:Ar7 b f W) (g:Nat->Int):Ar7 b g (W.setCells b 0 (L7 g)):=by
 have hs:=(Eff.setCells (O:=λ x=>x=b) rfl (L7 g) 0 W (Eff.refl _ W)).size;refine ⟨λ i hi=>?_,λ i=>by rw [Zj];exact h.z i,zH h.lt hs⟩;have:=ZW b (L7 g) 0 W (λ j hj=>by rw [yec] at hj;rw [zzn,h.c j hj];rfl) i (by rw [yec];exact hi);rw [zzn,yxr] at this;exact this
theorem yha (w:World) (t:TypeId):Ar7 w.heap.size (λ _=>0) (w.alloc (J zl1 t)):=by
 refine ⟨λ i hi=>?_,λ i=>yan w _ t i,by simp⟩;rw [World.cell?,Y1];have h7:i=0\/ i=1\/ i=2\/ i=3\/ i=4\/ i=5\/ i=6:=zo;rcases h7 with rfl | rfl | rfl | rfl | rfl | rfl | rfl <;> rfl
def yor (n:Int) (u:Nat):Int:=if u=3 then n else if u=4 then wkN n else if u=5 then 12*fY n+fMo n else if u=6 then fY n else 0
theorem ytq (n:Int):yjC (yor n)= .agg #[E T 0,E T 0,E T 0,E T n,E T (wkN n),E T (12*fY n+fMo n),E T (fY n)]:=rfl
attribute [local go_sem ↓] yc4 ydV
theorem yo6 (n:Int) (W:World) (h0:0<=n) (h1:n<146097):H I 94 #[shN n] W λ e W'=>e=Q (yjC (yor n))/\Bw W W':=by
 have cW:=hid (λ W=>yhd n W h0 zo);obtain ⟨y0,y1,m0,m1,-,-⟩:=yaQ h0 h1;have HO:Hid (yjC (yor n)= .agg #[E T 0,E T 0,E T 0,E T n,E T (wkN n),E T (12*fY n+fMo n),E T (fY n)]):=ytq n;have ag:ShS (W.alloc (J (ybi (shF n)).toArray 83)) W.heap.size (shF n):=ycB W 83 _ _ _ _ _ _ _ _ _ _;have ae:shF n 1=fY n:=rfl;have ad:shF n 2=fMo n:=rfl;have af:shF n 0=n:=rfl;rw [<- ya7];generalize hs:shF n=s at ag ae ad af⊢
 obtain ⟨W1,ac⟩:=zx ((W.alloc (J (ybi s).toArray 83)).alloc (J zl1 46));have ao:Hid (Bw W W1):=by rw [<- ac];exact yaa (yaa (Ye _ _) zg) zs
 have S1:Hid (W1.heap.size=W.heap.size+1+1):=by show _ = _;rw [<- ac];simp
 have ap:Hid (Ar7 (W.heap.size+1) (λ _=>0) W1):=by
  have e:=yha (W.alloc (J (ybi s).toArray 83)) 46;(try unfold Bw at e);rw [zzN] at e
  rw [<- ac];exact e
 have an:Hid (ShS W1 W.heap.size s):=by rw [<- ac];exact yef ag (Y4 _ _ _ zs)
 have am:=hid ac;have Hs:=hid hs;have ak:IntKind.i64.wrap (12*fY n)=12*fY n:=Yn _ zo;have al:IntKind.i64.wrap (12*fY n+fMo n)=12*fY n+fMo n:=Yn _ zo;obtain ⟨y,hy⟩:=zx (fY n);obtain ⟨m,hm⟩:=zx (fMo n);obtain ⟨k,hk⟩:=zx (wkN n);rw [hy,hm,hk] at HO;rw [hy] at ae ak;rw [hy,hm] at al;rw [hm] at ad;rw [hk] at cW;generalize hA:yor n=A at HO⊢
 have hc:Hid (∀w,Bw W1 w->w.cell? (Z W.heap.size 0 N)=G (E T n)/\w.cell? (Z W.heap.size 1 N)=G (E T y)/\w.cell? (Z W.heap.size 2 N)=G (E T m)):=λ w hB=>by
  have l0:W.heap.size<W1.heap.size:=by rw [S1];omega
  obtain ⟨a0,a1,a2,-⟩:=an.out;exact ⟨(hB.cell (p:=Z W.heap.size 0 N) l0).trans (af ▸ a0),(hB.cell (p:=Z W.heap.size 1 N) l0).trans (ae ▸ a1),(hB.cell (p:=Z W.heap.size 2 N) l0).trans (ad ▸ a2)⟩
 clear ag af ae ad hs ac hy hm hk hA y0 y1 m0 m1;unfold shq;go_enter Tryz.func94,Tryz.ntmps94
 go_upto_region 1 with fail
 rw [am];refine Yj (S:=λ w=>Hid (w.cell? (Z W.heap.size 0 N)=G (E T n)/\w.cell? (Z W.heap.size 1 N)=G (E T y)/\w.cell? (Z W.heap.size 2 N)=G (E T m))) zk (hid (hc _ (Ye _ _).drew)) (λ ab=>?_);refine zT 0 (v:=?_) ?_ ?_;rotate_left
 ·intro w' aa;obtain ⟨q0,q1,q2⟩:=aa.out;clear aa;go_simp;(try with_reducible rfl)
 refine zT 1 (v:=?_) ?_ ?_;rotate_left
 ·intro w' aa;obtain ⟨q0,q1,q2⟩:=aa.out;clear aa;go_simp;(try with_reducible rfl)
 refine zT 2 (v:=?_) ?_ ?_;rotate_left
 ·intro w' aa;obtain ⟨q0,q1,q2⟩:=aa.out;clear aa;go_simp;(try with_reducible rfl)
 refine zT 3 (v:=?_) ?_ ?_;rotate_left
 ·intro w' aa;obtain ⟨q0,q1,q2⟩:=aa.out;clear aa;go_simp;(try with_reducible rfl)
 refine zT 5 (v:=?_) ?_ ?_;rotate_left
 ·intro w' aa;obtain ⟨q0,q1,q2⟩:=aa.out;clear aa;go_simp;(try with_reducible rfl)
 refine zT 6 (v:=?_) ?_ ?_;rotate_left
 ·intro w' aa;obtain ⟨q0,q1,q2⟩:=aa.out;clear aa;go_simp;(try with_reducible rfl)
 refine zT 7 (v:=?_) ?_ ?_;rotate_left
 ·intro w' aa;obtain ⟨q0,q1,q2⟩:=aa.out;clear aa;go_simp;(try with_reducible rfl)
 refine zT 8 (v:=?_) ?_ ?_;rotate_left
 ·intro w' aa;obtain ⟨q0,q1,q2⟩:=aa.out;clear aa;go_simp;(try with_reducible rfl)
 refine zT 9 (v:=?_) ?_ ?_;rotate_left
 ·intro w' aa;obtain ⟨q0,q1,q2⟩:=aa.out;clear aa;go_simp;(try with_reducible rfl)
 refine zT 10 (v:=?_) ?_ ?_;rotate_left
 ·intro w' aa;obtain ⟨q0,q1,q2⟩:=aa.out;clear aa;go_simp;(try with_reducible rfl)
 refine zT 11 (v:=?_) ?_ ?_;rotate_left
 ·intro w' aa;obtain ⟨q0,q1,q2⟩:=aa.out;clear aa;go_simp;(try with_reducible rfl)
 refine zT 12 (v:=?_) ?_ ?_;rotate_left
 ·intro w' aa;obtain ⟨q0,q1,q2⟩:=aa.out;clear aa;go_simp;(try with_reducible rfl)
 refine zzK 4 (λ K hK=>?_);go_simp;refine zm (cW _) ?_;rintro w2 rfl;(try go_wp2_with fail);refine hK _ _ (by assumption) (λ ab=>?_);clear hK K;refine zT 13 (v:=?_) ?_ ?_;rotate_left
 ·intro w' aa;obtain ⟨q0,q1,q2⟩:=aa.out;clear aa;go_simp;(try with_reducible rfl)
 refine zzK 14 (λ K hK=>?_);have ah:=ap.block (W':=W1.drew) zg rfl;have ai:=ah.st A;rw [HO] at ai;have HP:=hid (ah.put A);have hE:Eff (λ c=>c=W.heap.size+1) W1.drew (W1.drew.setCells (W.heap.size+1) 0 (L7 A)):=Eff.setCells (O:=λ x=>x=W.heap.size+1) rfl (L7 A) 0 _ (Eff.refl _ _);have HE:=hid hE;have aj:(W1.drew.setCells (W.heap.size+1) 0 (L7 A)).cell? (Z W.heap.size 0 N)=G (E T n)/\(W1.drew.setCells (W.heap.size+1) 0 (L7 A)).cell? (Z W.heap.size 1 N)=G (E T y)/\(W1.drew.setCells (W.heap.size+1) 0 (L7 A)).cell? (Z W.heap.size 2 N)=G (E T m):=by
  have l0:W.heap.size<W1.drew.heap.size:=by show _<W1.heap.size;rw [S1];omega
  obtain ⟨a0,a1,a2⟩:=hc W1.drew (Ye _ _).drew;exact ⟨(hE.cell (p:=Z W.heap.size 0 N) l0 zs).trans a0,(hE.cell (p:=Z W.heap.size 1 N) l0 zs).trans a1,(hE.cell (p:=Z W.heap.size 2 N) l0 zs).trans a2⟩
 clear ah hE;go_simp;(try go_wp2_with fail);refine hK _ _ (hid aj) (λ ab=>?_);clear hK K ai aj;refine Yt zk ?_ _;clear ab;go_wp2;exact Yh (yac rfl _ _ (W.heap.size+1) 0 _ _ rfl HP.range Tryz.underlying46 rfl (by rw [yec];exact ykd)) rfl ⟨rfl,ao.drew.trans (HE.below (by rintro b rfl;exact zG _) (by show _<=W1.heap.size;rw [S1];omega)|>.mono zo)⟩
end
section
variable {D n x:Int} {cs:List Cl} {j k u:Nat}
def unN (n:Int) (j u:Nat):Int:=if u<3 then (86400*n+j)/szI u else yor n u
theorem yqr (h0:0<=n) (h1:n<146097) (u:Nat):0<=yor n u/\yor n u<=146097:=by
 obtain ⟨y0,y1,m0,m1,-,-⟩:=yaQ h0 h1;have hk:=yvb h0 h1;rw [yor];split
 ·omega
 ·split
  ·omega
  ·split
   ·omega
   ·split <;> omega
theorem yvZ (u:Nat):86400%szI u=0:=by rw [szI];split;rfl;split <;> rfl
theorem ypR (hu:u<3):unN n j u=n*(86400/szI u)+(j:Int)/szI u:=by
 have h3:u=0\/ u=1\/ u=2:=zo;rcases h3 with rfl | rfl | rfl
 ·show (86400*n+j)/1=n*(86400/1)+(j:Int)/1;omega
 ·show (86400*n+j)/60=n*(86400/60)+(j:Int)/60;omega
 ·show (86400*n+j)/3600=n*(86400/3600)+(j:Int)/3600;omega
theorem yxP (h0:0<=n) (h1:n<146097) (hj:j<86400) (u:Nat):0<=unN n j u/\unN n j u<=12622780799:=by
 rw [unN];split
 ·have hz:=ygx u;exact ⟨Int.ediv_nonneg zo zo,Int.le_trans (Int.ediv_le_self _ zo) zo⟩
 ·have:=yqr h0 h1 u;omega
def UD (cs:List Cl) (k u:Nat) (x:Int):Prop:=∃(i:Nat) (D:Int) (j:Nat),i<k/\(yaN cs (yag 0 146096))[i]? =G D/\j<86400/\yax cs D j=true/\x=unN D j u
def BQ (cs:List Cl) (k:Nat) (B:Nat->Bt):Prop:=∀u,u<7->BeatQ (UD cs k u) (B u)
theorem BQ.zero (cs:List Cl):BQ cs 0 (λ _=>(false,0,0)):=λ u _=>ya2.congr ya2.empty λ x=>⟨λ h=>h.elim,λ ⟨i,_,_,h,_⟩=>by omega⟩
theorem yg6 {i:Nat} (h:(yaN cs (yag 0 146096))[i]? =G D):0<=D/\D<146097/\∃j,j<86400/\yax cs D j=true:=by
 have hm:=YN h;rw [yaN,Y5,ybH] at hm;obtain ⟨⟨a,b⟩,c⟩:=hm;refine ⟨a,by omega,?_⟩;rw [yl1,Yk] at c;obtain ⟨j,hj,hq⟩:=c;exact ⟨j,YT.1 hj,hq⟩
theorem UD.rng (h:UD cs k u x):0<=x/\x<=12622780799:=by
 obtain ⟨i,D,j,-,hD,hj,-,rfl⟩:=h;obtain ⟨a,b,-⟩:=yg6 hD;exact yxP a b hj u
theorem BQ.bd {B:Nat->Bt} (h:BQ cs k B) (hu:u<7):M62 (B u).2.1/\M62 (B u).2.2:=by
 have:=ya2.bd (M:=12622780799) (h u hu) zo λ x hx=>hx.rng;simp only [M62];omega
theorem UD.more (hD:(yaN cs (yag 0 146096))[k]? =G D) (x:Int):UD cs (k+1) u x↔UD cs k u x\/ ∃j,j<86400/\yax cs D j=true/\x=unN D j u:=by
 constructor
 ·rintro ⟨i,D',j,hi,h1,h2,h3,h4⟩;rcases Nat.lt_succ_iff_lt_or_eq.1 hi with h | h
  ·exact .inl ⟨i,D',j,h,h1,h2,h3,h4⟩
  ·subst h;rw [hD] at h1;cases h1;exact .inr ⟨j,h2,h3,h4⟩
 ·rintro (⟨i,D',j,hi,h⟩ | ⟨j,h⟩)
  ·exact ⟨i,D',j,by omega,h⟩
  ·exact ⟨k,D,j,by omega,hD,h⟩
theorem ya2.shift {S:Int->Prop} {f g:Int} (h:ya2 S true f g) (c:Int):ya2 (λ x=>S (x-c)) true (c+f) g:=
 ⟨λ e=>(by cases e),λ _=>(by show S (c+f-c);rw [show c+f-c=f by omega];exact h.yes rfl),h.ge,λ d=>by
  rw [h.dvd d];constructor
  ·intro p x y hx hy;have:=p _ _ hx hy;rwa [show x-c-(y-c)=x-y by omega] at this
  ·intro p x y hx hy;have:=p (x+c) (y+c) (by show S (x+c-c);rw [show x+c-c=x by omega];exact hx) (by show S (y+c-c);rw [show y+c-c=y by omega];exact hy);rwa [show x+c-(y+c)=x-y by omega] at this⟩
def nxB (D:Int) (Nq B:Nat->Bt) (u:Nat):Bt:=if u<3 then yvx (ybR (B u) (D*(86400/szI u)+(Nq u).2.1)) (Nq u).2.2 else ybR (B u) (yor D u)
theorem yaH {q:Nat->Bool}:x∈yak q↔∃j,j<86400/\q j=true/\x= (j:Int):=by rw [yak];exact sel_mem
attribute [local irreducible] yak
theorem BQ.next {B:Nat->Bt} (h:BQ cs k B) (hD:(yaN cs (yag 0 146096))[k]? =G D):BQ cs (k+1) (nxB D (nrB (yak (yax cs D))) B):=λ u hu=>by
 obtain ⟨a,b,j0,ab,aa⟩:=yg6 hD;rw [nxB];by_cases h3:u<3
 ·rw [Yd h3];have hn:=ytA (yak (yax cs D)) u _ zg;rw [YW] at hn;generalize hN:nrB (yak (yax cs D)) u=Nq at hn⊢
  obtain ⟨y,f,g⟩:=Nq;simp only [BeatQ] at hn;have hy:y=true:=by
   cases y
   ·exact absurd ⟨(j0:Int),yaH.2 ⟨j0,ab,aa,rfl⟩,rfl⟩ ((hn.no rfl).2.2 ((j0:Int)/szI u))
   ·rfl
  subst hy;refine ya2.congr ((h u hu).both (hn.shift (D*(86400/szI u)))) λ x=>?_;rw [UD.more hD];refine or_congr Y6 ?_;constructor
  ·rintro ⟨v,hv,e⟩;obtain ⟨j,h1,h2,rfl⟩:=yaH.1 hv;exact ⟨j,h1,h2,by rw [ypR h3];omega⟩
  ·rintro ⟨j,h1,h2,rfl⟩;exact ⟨j,yaH.2 ⟨j,h1,h2,rfl⟩,by rw [ypR h3];omega⟩
 ·rw [Yb h3];refine ya2.congr ((h u hu).take (yor D u)) λ x=>?_;rw [UD.more hD];refine or_congr Y6 ?_;constructor
  ·rintro rfl;exact ⟨j0,ab,aa,by rw [unN,Yb h3]⟩
  ·rintro ⟨j,_,_,rfl⟩;rw [unN,Yb h3]
theorem ywn {j0:Nat} (ab:j0<86400) (aa:yax cs D j0=true) (u:Nat):M62 (nrB (yak (yax cs D)) u).2.1/\M62 (nrB (yak (yax cs D)) u).2.2/\(nrB (yak (yax cs D)) u).2.1<86400:=by
 have hn:=ytA (yak (yax cs D)) u _ zg;rw [YW] at hn;have:=ya2.bd (M:=86399) hn zo λ v ⟨x,hm,e⟩=>by
  obtain ⟨j,h1,-,rfl⟩:=yaH.1 hm;have h2:=ylR (x:=(j:Int)) zo zo (ygx u).1;omega
 simp only [M62];omega
end
section
attribute [local irreducible] yak
attribute [local go_sem] Yw
attribute [local go_sem ↓] yaz yc4 ydV yj7 yhH
attribute [local go_sem] run_makeMap
variable {O:Blk} {ba bf bm bx:Nat} {W W':World}
theorem ymk (w:World):H I 93 #[] w λ e w'=>e=Q (Xf (.func 149) #[] #[R (G (Z (w.heap.size+1) 0 N))])/\w' = (w.alloc (.map #[] 0)).alloc (J #[.map (G w.heap.size)] 237):=by
 go_enter Tryz.func93,Tryz.ntmps93
 go_wp2;go_ret;exact ⟨rfl,rfl⟩
def yre (v i:Value):Sem Value:=Instr.index 171 v i
theorem ytS (v i:Value):Instr.index 171 v i=yre v i:=rfl
attribute [local go_sem ↓] ytS
theorem yyA (Nq:Nat->Bt) (v:Nat) (hv:v<3) (W:World):(yre (bv3 Nq) (E T (v:Nat))).run I W= .ok (.agg #[Xb (Nq v).1,E T (Nq v).2.1,E T (Nq v).2.2]) W:=by
 have e:∀a0 a1 a2 a3 a4 a5 a6 a7 a8:Value,∀W:World,(yre (.agg #[a0,a1,a2,a3,a4,a5,a6,a7,a8]) (E T 0)).run I W= .ok (.agg #[a0,a1,a2]) W/\(yre (.agg #[a0,a1,a2,a3,a4,a5,a6,a7,a8]) (E T 1)).run I W= .ok (.agg #[a3,a4,a5]) W/\(yre (.agg #[a0,a1,a2,a3,a4,a5,a6,a7,a8]) (E T 2)).run I W= .ok (.agg #[a6,a7,a8]) W:=λ _ _ _ _ _ _ _ _ _ _=>⟨by kernel_rfl,by kernel_rfl,by kernel_rfl⟩;have h3:v=0\/ v=1\/ v=2:=zo;rcases h3 with h | h | h
 ·subst h;exact (e _ _ _ _ _ _ _ _ _ W).1
 ·subst h;exact (e _ _ _ _ _ _ _ _ _ W).2.1
 ·subst h;exact (e _ _ _ _ _ _ _ _ _ W).2.2
structure PuW (bx bm:Nat) (F M:Blk) (W:World):Prop where
 c:W.cell? (Z bx 0 N)=G (.map (G bm))
 m:MapS (DiK W F M) (DiG W F M) W bm 512
theorem PuW.keep {F F' M:Blk} (h:PuW bx bm F M W) (hs:W.heap.size<=W'.heap.size) (hF:∀b,F b->F' b) (hb:∀b,F b/\¬M b->W'.heap[b]? =W.heap[b]?) (hx:W'.heap[bx]? =W.heap[bx]?) (hm:W'.heap[bm]? =W.heap[bm]?):PuW bx bm F' M W':=
 ⟨(zzJ (w:=W) (a:=Z bx 0 N) hx).trans h.c,MapI.keep h.m hs hF hb hm⟩
structure AlC (ba bx bm bf:Nat) (B:Nat->Bt) (O:Blk) (W:World):Prop where
 al:BtS ba 7 B W
 fn:W.cell? (Z bf 0 N)=G (Xf (.func 149) #[] #[R (G (Z bx 0 N))])
 oa:O ba
 ox:O bx
 om:O bm
 of':O bf
 lt:∀b,O b->b<W.heap.size
 ne:ba≠bx/\ba≠bm/\ba≠bf/\bf≠bm/\bx≠bm
theorem AlC.keep {B:Nat->Bt} (h:AlC ba bx bm bf B O W) (hs:W.heap.size<=W'.heap.size) (hb:∀c,O c->W'.heap[c]? =W.heap[c]?):AlC ba bx bm bf B O W':=
 ⟨h.al.block hs (hb _ h.oa),(zzJ (w:=W) (a:=Z bf 0 N) (hb _ h.of')).trans h.fn,h.oa,h.ox,h.om,h.of',λ c hc=>zH (h.lt c hc) hs,h.ne⟩
theorem AlC.upd {B B':Nat->Bt} (h:AlC ba bx bm bf B O W) (hE:Eff (λ c=>c=ba) W W') (hb:BtS ba 7 B' W'):AlC ba bx bm bf B' O W':=
 ⟨hb,(hE.cell (p:=Z bf 0 N) (h.lt _ h.of') (λ e=>h.ne.2.2.1 (Zx e))).trans h.fn,h.oa,h.ox,h.om,h.of',λ c hc=>zH (h.lt c hc) hE.size,h.ne⟩
def AlI (cs:List Cl) (M:Blk) (ba bx bm bf:Nat):ydt:=λ k O F W=>∃B,AlC ba bx bm bf B O W/\BQ cs k B/\PuW bx bm F M W
def AlX:Code->ydt:=λ _ _ _ _ _=>False
theorem yjq (cs:List Cl) (M:Blk) (ba bx bm bf:Nat):StabF M (AlI cs M ba bx bm bf):=λ k O F F' W W' ⟨B,h1,h2,h3⟩ hs hF hO=>⟨B,h1.keep hs (λ c hc=>hO c (.inl hc)),h2,h3.keep hs hF (λ b hb=>hO b (.inr hb)) (hO _ (.inl h1.ox)) (hO _ (.inl h1.om))⟩
theorem yuC (M:Blk) (c:Code):StabF M (AlX c):=λ k O F F' W W' h _ _ _=>h.elim
theorem yvM (cs:List Cl) (M:Blk) (ba bx bm bf:Nat):LtF (AlI cs M ba bx bm bf):=λ k O F W ⟨_,h,_⟩=>h.lt
theorem yy5 (c:Code):LtF (AlX c):=λ k O F W h=>h.elim
theorem ykl {c:Cl} (h:yb2 c=true):yaf [c]=0:=by
 rw [yaf,Yb zs,Yd (by simp [h])]
def mdB (A:Nat->Int) (B:Nat->Bt) (u i:Nat):Bt:=if 3<=i/\i<u then ybR (B i) (A i) else B i
def ldB (D:Int) (Nq B:Nat->Bt) (v i:Nat):Bt:=if i<v then yvx (ybR (B i) (D*(86400/szI i)+(Nq i).2.1)) (Nq i).2.2 else B i
theorem yzF (D:Int) (Nq B:Nat->Bt) (i:Nat) (hi:i<7):ldB D Nq (mdB (yor D) B 7) 3 i=nxB D Nq B i:=by
 rw [ldB,nxB];by_cases h:i<3
 ·rw [Yd h,Yd h,mdB,Yb zo]
 ·rw [Yb h,Yb h,mdB,Yd zo]
def AlT (h0 h1 h2 h3 h4 h5 h6 h7 h8:Value) (ds:List Deferred) (a:Act):Prop:=∃V:Nat->Value,a= {tmps:=#[h0,h1,h2,h3,h4,h5,h6,h7,h8,V 9,V 10,V 11,V 12,V 13,V 14,V 15,V 16,V 17,V 18,V 19,V 20,V 21,V 22,V 23,V 24,V 25,V 26,V 27,V 28,V 29,V 30,V 31,V 32,V 33,V 34,V 35,V 36,V 37,V 38,V 39,V 40,V 41,V 42,V 43,V 44,V 45,V 46,V 47,V 48,V 49,V 50,V 51,V 52,V 53,V 54,V 55,V 56,V 57,V 58,V 59,V 60,V 61,V 62,V 63,V 64,V 65,V 66,V 67,V 68,V 69,V 70],defers:=ds}
theorem AlT.of {t:Array Value} {h0 h1 h2 h3 h4 h5 h6 h7 h8:Value} {ds:List Deferred} (hs:t.size=71:=by rfl) (k0:tg t 0=h0:=by rfl) (k1:tg t 1=h1:=by rfl) (k2:tg t 2=h2:=by rfl) (k3:tg t 3=h3:=by rfl) (k4:tg t 4=h4:=by rfl) (k5:tg t 5=h5:=by rfl) (k6:tg t 6=h6:=by rfl) (k7:tg t 7=h7:=by rfl) (k8:tg t 8=h8:=by rfl):AlT h0 h1 h2 h3 h4 h5 h6 h7 h8 ds {tmps:=t,defers:=ds}:=⟨tg t,by subst_vars;exact tgE hs ds⟩
theorem yo7 (c:Cl) (w:World) (hc:c.Ok) (hm:yb2 c=true) (hT:Tab w) :
  H I 36 #[clv c] w λ e w'=>(∃B,e=Q (bv7 B)/\BQ [c] (yaN [c] (yag 0 146096)).length B)/\Bw w w':=by
 obtain ⟨W1,aM⟩:=zx (((w.alloc (J (yae c).toArray 59)).alloc (J zl3 90)).alloc (J zl3 90));have bX:Bw w W1:=by rw [<- aM];exact yaa (yaa (yaa (Ye _ _) zg) zs) (by simp only [zzN];omega)
 have s1:W1.heap.size=w.heap.size+1+1+1:=by rw [<- aM];simp
 have co:(ydj (R (G (Z w.heap.size 0 N)))).run I W1= .ok (clv c) W1:=by
  refine ylE (b:=w.heap.size) (o:=0) ?_;have e:(w.alloc (J (yae c).toArray 59)).rangeAt w.heap.size 0 (yae c):=yap w _ _;intro j v hv;have:=e j v hv;rw [<- aM];exact (zzJ (w:=w.alloc (J (yae c).toArray 59)) (a:=Z w.heap.size (0+j) N) ((Y4 _ _ _ (by simp only [zzN];omega)).trans (Y4 _ _ _ zs))).trans this
 have bZ:BtS (w.heap.size+1) 7 (λ _=>(false,0,0)) W1:=by
  have e:BtS (w.alloc (J (yae c).toArray 59)).heap.size 7 (λ _=>(false,0,0)) ((w.alloc (J (yae c).toArray 59)).alloc (J zl3 90)):=yep _ _ 7;(try unfold Bw at e);rw [zzN] at e
  rw [<- aM];exact e.block zs (Y4 _ _ _ zs)
 have bY:BtS (w.heap.size+1+1) 7 (λ _=>(false,0,0)) W1:=by
  have e:BtS ((w.alloc (J (yae c).toArray 59)).alloc (J zl3 90)).heap.size 7 (λ _=>(false,0,0)) (((w.alloc (J (yae c).toArray 59)).alloc (J zl3 90)).alloc (J zl3 90)):=yep _ _ 7;(try unfold Bw at e);rw [zzN,zzN] at e
  rw [<- aM];exact e
 obtain ⟨W2,bc⟩:=zx (W1.alloc (J (yae c).toArray 59));have ad:Bw W1 W2:=by rw [<- bc];exact yaa (Ye _ _) zg
 have s2:W2.heap.size=W1.heap.size+1:=by rw [<- bc];simp
 have cx:cls [c]=yae c:=by simp [cls]
 have cj:Sl W2 (G (Z W1.heap.size 0 N)) (cls [c]):=by
  rw [cx,<- bc];exact ybV (cs:=yae c) (yap W1 _ _) zs
 have bW:=zu bX ad;have cN:=hid (yd5 (G (Z W1.heap.size 0 N)) 1 [c] W2 zs zs cj (λ h=>by cases h) (λ x hx=>by rw [Yy] at hx;subst hx;exact hc) (hT.later bW));have HF:=hid (ykl hm);have c6:=hid bW;have dA:=hid aM;have dz:=hid bc;have S1:=hid s1;have S2:=hid s2;have A2:=hid (bZ.block ad.size (ad.block _ bZ.lt));have A3:=hid (bY.block ad.size (ad.block _ bY.lt));have b1:Hid (0<w.heap.size):=hT.1;obtain ⟨L,hL⟩:=zx ([c]);have cH:L.length=1:=by rw [<- hL];rfl
 have dD:=hid cH;rw [hL] at cN HF⊢;clear aM bc bX bW ad hc hT s1 s2 bZ bY cj cx hm hL cH;refine (wf_calls (r:=N) (n:=1)).mp ?_;refine callsIn_of_wp_marks Tryz.func36 rfl trivial ?_ rfl;simp only [Tryz.ntmps36,Yp,Yu,YS,Nat.reduceAdd,Nat.reduceSub,YE,YD,YQ,YJ,Y0,YH];gi_upto_region 2 with fail
 rw [dA];gi_wp2_with fail
 rw [dz];have b0:=cN.out;rw [dD] at b0;refine (wf_calls.mpr b0).mono ?_;rintro e w3 ⟨hN,aQ⟩;have bo:=hid (zu c6 aQ);have S3:Hid (w.heap.size+4<=w3.heap.size):=by have:=aQ.size;have:=S1.out;have:=S2.out;show _<=_;omega
 have c8:=hid (A2.block aQ.size (aQ.block _ A2.lt));have c7:=hid (A3.block aQ.size (aQ.block _ A3.lt));rcases hN with ⟨hf,rfl⟩ | ⟨-,br,bk,bps,rfl,hR,hM⟩
 ·exact absurd HF.out hf
 ·have HR:=hid hR;have HM:=hid hM;clear aQ hR hM cN b0 co;have cI:=hid (ymk w3);gi_wp2_with fail
  refine (wf_calls.mpr cI).mono ?_;rintro e w4 ⟨rfl,aV⟩;obtain ⟨w5,aJ⟩:=zx (w4.alloc (J #[Xf (.func 149) #[] #[R (G (Z (w3.heap.size+1) 0 N))]] 167));obtain ⟨bf,bw⟩:=zx w4.heap.size;have s4:bf=w3.heap.size+1+1:=by rw [<- bw,aV];simp
  have s5:w5.heap.size=w3.heap.size+1+1+1:=by rw [<- aJ,aV];simp
  have B5:Bw w3 w5:=by rw [<- aJ,aV];exact yaa (yaa (yaa (Ye _ _) zg) zs) (by simp only [zzN];omega)
  have cU:AlC (w.heap.size+1+1) (w3.heap.size+1) w3.heap.size bf (λ _=>(false,0,0)) (λ b=>b=w.heap.size+1+1\/ b=w3.heap.size+1\/ b=w3.heap.size\/ b=bf) w5:=by
   have dT:=S3.out;refine ⟨c7.block B5.size (B5.block _ c7.lt),?_, .inl rfl, .inr (.inl rfl), .inr (.inr (.inl rfl)), .inr (.inr (.inr rfl)),λ b hb=>by omega,by omega,by omega,by omega,by omega,by omega⟩;rw [<- aJ,<- bw];simp [go_sem]
  have cE:PuW (w3.heap.size+1) w3.heap.size (yed W2 w3) (RM br bk bps) w5:=by
   refine ⟨?_,?_⟩
   ·rw [<- aJ,aV];simp [go_sem]
   ·have dm:=MapS.made w3 (DiK w5 (yed W2 w3) (RM br bk bps)) (DiG w5 (yed W2 w3) (RM br bk bps));refine (dm.keep (w':=w5) ?_).mono zo zi (λ _ _ h=>h);rw [<- aJ,aV];exact (Y4 _ _ _ (by simp only [zzN];omega)).trans (Y4 _ _ _ zs)
  have dB:Hid (yar w5 L br bk bps (yed W2 w3) (λ _=>false) 0):=HR.keep B5.size (λ b hb=>B5.block b (by have:=S3.out;have:=b1.out;rcases hb with hb | hb <;> omega));have bG:=hid cU;have cZ:=hid cE;have c5:=hid (zu bo B5);have cf:=hid (c8.block B5.size (B5.block _ c8.lt));have S5:=hid s5;have S4:=hid s4;have dv:=hid aJ;have dy:=hid bw;clear B5 cU cE s4 aJ bw s5 aV cI;gi_wp2_with fail
  rw [dy,dv];obtain ⟨ba,bA⟩:=zx (w.heap.size+1+1);obtain ⟨b2,bC⟩:=zx (w.heap.size+1);have cY:=hid bA;have b4:=hid bC;rw [bA] at bG;rw [bC] at cf;rw [bA,bC];clear bA bC;obtain ⟨bm,bR⟩:=zx w3.heap.size;have b3:=hid bR;rw [bR] at bG cZ S4 S5;clear bR;have cA:=hid (yeX 0 146096 dB (ymn 0) (zG 0));have aW:=yjn L (f:=0) (t:=146096) zo zo;have au:=yeU L 0 146096;obtain ⟨X1,cB⟩:=zx (ynL L 0);obtain ⟨X2,cz⟩:=zx (ynK L 146096);rw [cB,cz] at cA aW au;have tl:=yeW (cs:=L) (br:=br) (bk:=bk) (bps:=bps) ymn (w5.heap.size+1) (w5.heap.size+2) w5.heap.size X1 X2 aW.1 aW.2.1 aW.2.2.1 aW.2.2.2
   (λ j n ws m dL m' hn hi hs=>yeJ hi hs) (λ j ws m hi hj=>by rw [ybg] at hj;rw [ymn] at hi;omega)
  rw [au] at tl;obtain ⟨LL,cJ⟩:=zx ((yag X1 X2).length);rw [cJ] at tl;have TL:=hid tl;clear aW au tl cJ cB cz;refine (wf_calls.mpr cA).mono ?_;rintro e w6 ⟨rfl,aA,dp,cL⟩;have cd:=hid (zu c5 aA);have C6:=hid (bG.keep aA.size (λ c hc=>aA.block c (bG.lt c hc)));have ce:=hid (cf.block aA.size (aA.block _ cf.lt));have P6:Hid (PuW (bm+1) bm (F3 (yed W2 w3) w5.heap.size) (RM br bk bps) w6):=by
   have l5:=S5.out;have lm:=b3.out;refine cZ.keep aA.size (λ b h=> .inl h) (λ b hb=>aA.block b ?_) (aA.block _ zo) (aA.block _ zo);rcases hb.1 with h | h
   ·omega
   ·have:=b1.out;have:=S3.out;omega
  have dE:=hid cL;have dF:Hid (∀b,F3 (yed W2 w3) w5.heap.size b->¬(b=ba\/ b=bm+1\/ b=bm\/ b=bf)/\b≠b2):=λ b hb=>by
   have:=S3.out;have:=S5.out;have:=S4.out;have:=S1.out;have:=S2.out;have:=b1.out;have:=cY.out;have:=b4.out;have:=b3.out;rcases hb with hb | hb
   ·rcases hb with hb | hb <;> omega
   ·omega
  clear aA cL cA dp;gi_wp2_with fail
  refine ybu (F:=F3 (yed W2 w3) w5.heap.size) (M:=RM br bk bps) (gf:=85) (lb:=#[R (G (Z (w5.heap.size+1) 0 N)),R (G (Z (w5.heap.size+2) 0 N)),R (G (Z w5.heap.size 0 N))]) rfl yca (λ b=>b=ba\/ b=bm+1\/ b=bm\/ b=bf)
   (λ k vs F W h=>by obtain ⟨_,_,_,_,_,rfl,_⟩:=h;rfl) TL HA.host HA.host HA.hostE dE (λ b hb=>(dF b hb).1)
   (AlI L (RM br bk bps) ba (bm+1) bm bf) AlX (yjq _ _ _ _ _ _) (yuC _) (yvM _ _ _ _ _ _) yy5 ⟨_,C6,BQ.zero _,P6⟩
   (λ k O F a' W=>AlI L (RM br bk bps) ba (bm+1) bm bf k O F W/\∃b7 D d,(yaN L (yag 0 146096))[k]? =G D/\SkD L (RM br bk bps) D d b7 O F W/\AlT (clv c) (R (G (Z w.heap.size 0 N))) (R (G (Z b2 0 N))) (R (G (Z ba 0 N))) (R (G (Z br 0 N))) (E T 0) (R (G (Z bf 0 N))) (R (G (Z b7 0 N))) (R (G (Z d 0 N))) [] a')
   ?putl ?assign ?body ?done ?stop
  case putl=>
   rintro l' o k O F a' W hr dk bv ⟨h1,bx,D,d,h3,h4,h5⟩;have ko:∀b,O b\/ (F b/\¬RM br bk bps b)->(W.putObj l' o).heap[b]? =W.heap[b]?:=λ b hb=>Yc (λ e=>hb.elim (λ h=>dk (e ▸ h)) (λ h=>bv (e ▸ h.1)));exact ⟨yjq _ (RM br bk bps) _ _ _ _ k O F F W _ h1 (by rw [Yg];exact zG _) zi ko,bx,D,d,h3,h4.put hr bv,h5⟩
  case assign=>
   rintro l' k O6 F6 W6 vs K hk bg bE ⟨D,d,hn,h0,h1,rfl,hd,ht,hlt⟩ bi hK;rw [<- ya7];obtain ⟨s,hs⟩:=zx (shF D);rw [hs,shq];have Hs:=hid hs;have HP:=hid (Ya bg (Ya bE (Ya hn (Ya hd (Ya ht (Ya hlt bi))))));clear hs bg bE hn hd ht hlt bi h0 h1;gi_wp2
   obtain ⟨bg,bE,hn,hd,ht,hlt,bi⟩:=HP.out;have am:=yaa (o:=J (ybi s).toArray 83) (Ye W6.heap.size W6) zg;have cp:=yvM _ _ _ _ _ _ _ _ _ _ bg;refine hK _ O6 _ (yaM.of_below am) ⟨yjq _ (RM br bk bps) _ _ _ _ _ O6 F6 F6 W6 _ bg am.size zi (λ b hb=>am.block b (hb.elim (cp b) (λ h=>hlt b h.1))),W6.heap.size,D,d,hn,
    ⟨λ b hb=>(bE b hb).1,⟨hd.1,hd.2.1,hd.2.2.block am.size (am.block d (hlt d hd.1))⟩,⟨ht.1.later am,ht.2.1⟩,λ b hb=>zH (hlt b hb) am.size,by simp,⟨λ h=>by have:=cp _ h;omega,λ h=>by have:=hlt _ h;omega⟩,by rw [Hs];exact ycB W6 83 _ _ _ _ _ _ _ _ _ _⟩,AlT.of⟩
  case stop=>
   rintro c k O9 F9 w9 dY dX bh cK cM cP bj h;exact h.elim
  case done=>
   rintro O9 F9 w9 bh cK cM cP bj ⟨B,hI,hQ,-⟩ hD dl bv;have aX:Hid (∀b,(b=ba\/ b=bm+1\/ b=bm\/ b=bf)\/ RM br bk bps b->w.heap.size<=b/\b≠b2):=λ b hb=>by
    have:=S3.out;have:=S4.out;have:=cY.out;have:=b4.out;have:=b3.out;have:=S1.out;have:=S2.out;rcases hb with (h | h | h | h) | h
    ·omega
    ·omega
    ·omega
    ·omega
    ·have:=HM b h;omega
   have c4:Hid (Bw w w9):=cd.trans (bh.eff.below (λ b hb=>(aX b hb).1) cd.size);have aG:BtS b2 7 (λ _=>(false,0,0)) w9:=ce.block bh.eff.size (bh.eff.block _ ce.lt (λ hb=>(aX _ hb).2 rfl));have co:=hI.al.ld7;have aj:=aG.st7 B;have dK:=hid (aG.put B);have c1:Hid (Eff (λ x=>x=b2) w9 (w9.setCells b2 0 (btL 7 B))):=Eff.setCells (O:=λ x=>x=b2) rfl (btL 7 B) 0 w9 (Eff.refl _ w9);have ak:w6.heap.size≠b2:=λ e=>(by have:=ce.lt;omega);have dH:Hid ((w9.setCells b2 0 (btL 7 B)).heap[w6.heap.size]? =G (.deferred (G []))):=by
    show _ = _;rw [c1.block w6.heap.size (YZ.1 hD).1 ak];exact hD
   have bq:=hid ak;have HQ:=hid hQ;clear bh cK cM cP bj dl bv hD hI aG ak hQ;gi_wp2
   refine ⟨by simp, .inl ⟨_,_,rfl,YM dH,?_⟩⟩;have hX:=dK.block (W':=(w9.setCells b2 0 (btL 7 B)).putObj w6.heap.size (.deferred N)) (by rw [Yg];exact zG _) (Yc (λ e=>bq e.symm));exact ⟨_,yac rfl _ _ b2 0 _ _ rfl hX.range Tryz.underlying90 rfl (by rw [ybC];exact yrd),⟨B,rfl,HQ⟩,yaF (c4.trans (c1.below (by rintro b rfl;have:=b4.out;omega) c4.size)) cd.size _⟩
  case body=>
   rintro l3 k O6 F6 a' W6 hk bi dW aF bb bO ⟨⟨B,bl,bS,cF⟩,b7,D,d,en,hD,V,rfl⟩;obtain ⟨D0,D1,j0,cq,cl⟩:=yg6 en;have cO:=hid (yo6 D W6 D0 D1);have hA:=λ u=>yqr D0 D1 u;have bN:=λ u=>ywn (cs:=L) (D:=D) cq cl u;have bM:=bS.next en;have cc:Hid (∀u,u<7->M62 (B u).2.1/\M62 (B u).2.2):=λ u hu=>bS.bd hu;have HX:Hid (∀i,i<7->ldB D (nrB (yak (yax L D))) (mdB (yor D) B 7) 3 i=nxB D (nrB (yak (yax L D))) B i):=λ i hi=>yzF D _ B i hi;obtain ⟨Nq,hN⟩:=zx (nrB (yak (yax L D)));rw [hN] at bN bM HX;obtain ⟨A,cV⟩:=zx (yor D);rw [cV] at cO hA HX;obtain ⟨s,hs⟩:=zx (shF D);have ck:s 0=D:=(by rw [<- hs];rfl);rw [<- ya7,hs,shq] at cO;have bK:=hD.sh;rw [hs] at bK;have cX:Hid (∀W',Eff O6 W6 W'->W'.cell? (Z b7 0 N)=G (E T D)):=λ W' hE=>by
    have a0:W6.cell? (Z b7 0 N)=G (E T (s 0)):=(by obtain ⟨a0,-⟩:=bK;exact a0);rw [ck] at a0;exact (hE.cell (p:=Z b7 0 N) hD.lx hD.nx.1).trans a0
   obtain ⟨t0,t1,t2,t3,t4,t5,t6,t7,t8,t9⟩:=bK;have ac:=hid bl;have c0:=hid cF;have an:=hid hD;have HN:=hid hN;have HQ:=hid bM;have dx:=hid bN;have HA:=hid hA;have dI:=hid (Ya D0 D1);have dw:=hid aF;have d0:=hid bb;have bQ:=bl.fn;have dn:=bl.lt _ bl.of';clear bi hs hD hk en bl bS cF hN bM bN hA cV aF bb bO cq cl D0 D1 ck;gi_wp2_with fail
   refine (wf_calls.mpr cO).mono ?_;rintro e w7 ⟨rfl,bF⟩;have e8:Ar7 w7.heap.size (λ _=>0) (w7.alloc (J zl1 46)):=yha w7 46;have bJ:=e8.st A;have H8:=hid (e8.put A);have cR:Bw w7 ((w7.alloc (J zl1 46)).setCells w7.heap.size 0 (L7 A)):=(yaa (Ye _ _) zg).trans ((Eff.setCells (O:=λ x=>x=w7.heap.size) rfl (L7 A) 0 _ (Eff.refl _ _)).below (by rintro b rfl;exact zG _) zs);have ar:=hid (zu bF cR);have l9:W6.heap.size<=w7.heap.size:=bF.size;clear bF cR e8 cO t0 t1 t2 t3 t4 t5 t6 t7 t8 t9;gi_upto_region 8 with fail
   obtain ⟨w8,bu⟩:=zx ((w7.alloc (J zl1 46)).setCells w7.heap.size 0 (L7 A));obtain ⟨b9,bB⟩:=zx w7.heap.size;rw [bu,bB] at H8;rw [bu] at ar;rw [bu,bB];have L9:Hid (W6.heap.size<=b9):=(by show _<=_;rw [<- bB];exact l9);have c2:=hid (ac.keep ar.size (λ b hb=>ar.block b (ac.lt b hb)));have d1:Hid (PuW (bm+1) bm F6 (RM br bk bps) w8):=c0.keep ar.size zi (λ b hb=>ar.block b (an.lt b hb.1)) (ar.block _ (ac.lt _ ac.ox)) (ar.block _ (ac.lt _ ac.om));clear bu bB bJ l9 bQ dn;gi_wp2_with fail
   gi_loopw [10] (λ iv wr=>∃u:Nat,iv=E T u/\3<=u/\u<=7/\Hid (BtS ba 7 (mdB A B u) wr/\Eff (λ x=>x=ba) w8 wr)) (λ iv _=>7-(intOf iv).toNat)
   case atStart=>exact ⟨3,rfl,by omega,by omega,c2.al.congr (λ i _=>by rw [mdB,Yb zo]),Eff.refl _ _⟩
   case round=>
    obtain ⟨u,rfl,df,de,HI⟩:=hrel;by_cases hlt:u<7
    ·have dQ:(u:Int)<7:=zo;have dR:(0:Int)<=(u:Int):=zo;have aK:=HI.1.at' u hlt;have eB:mdB A B u u=B u:=(by rw [mdB,Yb zo]);rw [eB] at aK;have hM:M62 (A u):=(by have:=HA u;exact ⟨by omega,by omega⟩);have cT:=hid (ye0 (A u) (aK.below (Ye _ _).drew) (cc u hlt).1 (cc u hlt).2 hM);have aG:wr.drew.cell? (Z b9 u N)=G (E T (A u)):=(HI.2.cell (p:=Z b9 u N) H8.lt (λ e=>by have:=ac.lt _ ac.oa;have:=L9.out;simp only [] at e;omega)).trans (H8.c u hlt);have aj:Hid (∀W',Bt1 ba (u*3) (ybR (B u) (A u)) W'->ycg ba (u*3) wr.drew W'->BtS ba 7 (mdB A B (u+1)) W'/\Eff (λ x=>x=ba) w8 W'):=λ W' h1 h2=>
      ⟨(BtS.step (W:=wr.drew) (HI.1.block zg rfl) h1 h2).congr (λ i hi=>by
        by_cases e:i=u
        ·subst e;rw [mdB,Yd zo,Yd rfl]
        ·rw [Yb e,mdB,mdB];by_cases e2:3<=i/\i<u
         ·rw [Yd zo,Yd e2]
         ·rw [Yb zo,Yb e2]),HI.2.drew.trans h2.eff (λ _ h=> .inl h)⟩
     obtain ⟨y,hy⟩:=zx (A u);rw [hy] at cT aG aj;clear aK eB hM hy;gi_upto_region 11 with fail
     refine yxZ (S:=λ W=>W.cell? (Z b9 u N)=G (E T y)) zk zk (by rintro ⟨_,_,h⟩;exact h) aG (λ ab=>?_);refine zT 0 (v:=?_) ?_ ?_;rotate_left
     ·intro w' aa;have f0:=aa;clear aa;go_simp;(try with_reducible rfl)
     refine zT 1 (v:=?_) ?_ ?_;rotate_left
     ·intro w' aa;have f0:=aa;clear aa;go_simp;(try with_reducible rfl)
     refine zT 2 (v:=?_) ?_ ?_;rotate_left
     ·intro w' aa;have f0:=aa;clear aa;go_simp;(try with_reducible rfl)
     refine zT 3 (v:=?_) ?_ ?_;rotate_left
     ·intro w' aa;have f0:=aa;clear aa;go_simp;(try with_reducible rfl)
     refine zT 4 (v:=?_) ?_ ?_;rotate_left
     ·intro w' aa;have f0:=aa;clear aa;go_simp;(try with_reducible rfl)
     refine zzK 5 (λ K hK=>?_);go_simp;refine cT.mono ?_;rintro e w9 ⟨⟨v,rfl⟩,cC,aX⟩;have dC:=hid (aj w9 cC aX);refine hK _ _ ((aX.eff.cell (p:=Z b9 u N) (by have:=HI.2.size;have:=H8.lt;show _<wr.heap.size;simp only [];omega) (λ e=>by have:=ac.lt _ ac.oa;have:=L9.out;simp only [] at e;omega)).trans aG) (λ ab=>?_);clear hK K cC aX cT aj aG;refine Yt zk ?_ _;clear ab;gi_wp2
     exact ⟨⟨u+1,by go_num,by omega,by omega,dC⟩,by simp [intOf];omega⟩
    ·obtain rfl:u=7:=zo;have aZ:=c2.upd HI.2 HI.1;have ak:=aZ.ne;have bH:=ac.lt _ ac.ox;have bI:=ac.lt _ ac.om;have c9:=ac.lt _ ac.oa;have ae:Eff O6 W6 wr:=(Eff.of_below ar).trans HI.2 (λ b hb=>by subst hb;exact .inl ac.oa);have bT:PuW (bm+1) bm F6 (RM br bk bps) wr:=c0.keep ae.size zi (λ b hb=>ae.block b (an.lt b hb.1) (an.dj b hb.1))
      ((HI.2.block _ (zH bH ar.size) (λ e=>ak.1 (Zx e))).trans (ar.block _ bH)) ((HI.2.block _ (zH bI ar.size) (λ e=>ak.2.1 (Zx e))).trans (ar.block _ bI))
     have cw:DiF wr F6 (RM br bk bps) d (yax L D):=an.di.keepI ae.size zi (λ b hb=>ae.block b (an.lt b hb.1) (an.dj b hb.1));have cD:PuS (bm+1) bm F6 (RM br bk bps) wr:=⟨bT.c,bT.m,λ h=>an.dj _ h ac.ox,λ h=>an.dj _ h ac.om,ak.2.2.2.2,aZ.lt _ aZ.ox,λ b hb=>zH (an.lt b hb) ae.size⟩;have cI:=hid (ykN cD cw (an.tab.1.eff ae (an.dj _ an.tab.2)) an.tab.2);rw [HN] at cI;have bQ:=aZ.fn;have dJ:=hid aZ;have ca:=hid ae;clear aZ ak bH bI c9 ae bT cw cD df de hlt;gi_wp2_with fail
     refine (wf_calls.mpr cI).mono ?_;rintro e bt ⟨rfl,aN,ap⟩;have aq:Hid (AlC ba (bm+1) bm bf (mdB A B 7) O6 bt):=by
      have h:=dJ.out;exact ⟨h.al.block ap.size (ap.block _ (h.lt _ h.oa) h.ne.2.1),(ap.cell (p:=Z bf 0 N) (h.lt _ h.of') h.ne.2.2.2.1).trans h.fn,h.oa,h.ox,h.om,h.of',λ b hb=>zH (h.lt b hb) ap.size,h.ne⟩
     have b5:Hid (PuW (bm+1) bm F6 (RM br bk bps) bt):=⟨aN.c,aN.m⟩;have aT:=hid (ca.trans ap (λ b hb=>by subst hb;exact .inl ac.om));clear aN ap cI bQ;gi_wp2_with fail
     gi_loopw [40] (λ iv wr=>∃v:Nat,iv=E T v/\v<=3/\Hid (BtS ba 7 (ldB D Nq (mdB A B 7) v) wr/\Eff (λ x=>x=ba) bt wr)) (λ iv _=>3-(intOf iv).toNat)
     case atStart=>exact ⟨0,rfl,by omega,aq.al.congr (λ i _=>by rw [ldB,Yb zo]),Eff.refl _ _⟩
     case round=>
      obtain ⟨v,rfl,dd,ax⟩:=hrel;by_cases hlt:v<3
      ·have dc:(v:Int)<3:=zo;have dO:(v:Int)<7:=zo;have dP:(0:Int)<=(v:Int):=zo;have bP:=yyA Nq v hlt wr;have cS:=hid (λ W=>ydn (v:Int) W);rw [szU hlt] at cS;have hz:=ygx v;have ch:=yvZ v;have aK:=ax.1.at' v zo;have eB:ldB D Nq (mdB A B 7) v v=B v:=(by rw [ldB,Yb zo,mdB,Yb zo]);rw [eB] at aK;have aj:Hid (∀W' W2,Eff (λ x=>x=ba) wr W2->BtS ba 7 (ldB D Nq (mdB A B 7) v) W2->Bt1 ba (v*3) (yvx (ybR (B v) (D*(86400/szI v)+(Nq v).2.1)) (Nq v).2.2) W'->ycg ba (v*3) W2 W'->BtS ba 7 (ldB D Nq (mdB A B 7) (v+1)) W'/\Eff (λ x=>x=ba) bt W'):=λ W' W2 e2 du h1 h2=>
        ⟨(du.step h1 h2).congr (λ i hi=>by
          by_cases e:i=v
          ·subst e;rw [ldB,Yd zo,Yd rfl,mdB,Yb zo]
          ·rw [Yb e,ldB,ldB];by_cases e2:i<v
           ·rw [Yd zo,Yd e2]
           ·rw [Yb zo,Yb e2]),(ax.2.trans e2 (λ _ h=> .inl h)).trans h2.eff (λ _ h=> .inl h)⟩
       have bp:=cc v zo;have bD:=dx v;obtain ⟨z,cg⟩:=zx (szI v);rw [cg] at cS hz aj ch;have dM:z≠0:=zo;obtain ⟨y,f,g,ci⟩:∃y f g,Nq v= (y,f,g):=⟨_,_,_,rfl⟩;rw [ci] at bP aj bD;simp only at bP aj bD;have bL:1<=86400/z/\86400/z<=86400:=⟨Int.le_ediv_of_mul_le zo zo,Int.ediv_le_self _ zo⟩;have dg:Int.tdiv 86400 z=86400/z:=Int.tdiv_eq_ediv_of_nonneg zo;obtain ⟨m,cm⟩:=zx (86400/z);rw [cm] at bL dg aj;have dV:IntKind.i64.wrap m=m:=Yn _ zo;have bU:=dI.out;have cQ:0<=D*m/\D*m<=12622780800:=⟨Int.mul_nonneg bU.1 zo,by
        have h1:D*m<=D*86400:=Int.mul_le_mul_of_nonneg_left bL.2 bU.1;omega⟩
       obtain ⟨p,dh⟩:=zx (D*m);rw [dh] at cQ aj;have dU:IntKind.i64.wrap p=p:=Yn _ zo;simp only [M62] at bD;have dS:IntKind.i64.wrap (p+f)=p+f:=Yn _ zo;have hM:M62 (p+f):=⟨by omega,by omega⟩;have cT:=hid (λ W' (hb:Bt1 ba (v*3) (B v) W')=>ye0 (p+f) hb bp.1 bp.2 hM);have bz:=ymG bp.1 bp.2 hM;obtain ⟨a',cy⟩:∃a',ybR (B v) (p+f)=a':=⟨_,rfl⟩;rw [cy] at cT bz aj;obtain ⟨ay,af,ag⟩:=a';simp only [yro] at aj;simp only at bz;have cr:M62 ag:=bz.2;simp only [M62] at cr;have cn:=yi8 (a:=ag) (b:=g) (M:=4611686018427387903) zo zo;have dt:Hid (∀m∈ [ag,g],yaA m):=λ m hm=>by
        simp only [YF,ZF,or_false] at hm;rcases hm with rfl | rfl <;> exact ⟨by omega,by omega⟩
       have cG:=hid (λ W=>yjs (G (Z W.heap.size 0 N)) 2 [ag,g] (W.alloc (J #[E T ag,E T g] 2)).drew zs (ybV (cs:= [E T ag,E T g]) (yap W _ _) zs) dt);obtain ⟨Gq,hG⟩:=zx (ygj [ag,g]);rw [hG] at cG cn aj;have dN:IntKind.i64.wrap (Gq:Int)= (Gq:Int):=Yn _ zo;have cb:=hid aK;have dZ:=hid dc;clear aK eB cg ci cm cy hG bz cr cn bD bp hM cQ bL ch bU;gi_upto_region 15 with fail
       obtain ⟨aI,ao⟩:=zx (wr.alloc (J #[Xb y,E T f,E T g] 89));have aR:Bw wr aI:=(by rw [<- ao];exact yaa (Ye _ _) zg);have x1:aI.cell? (Z wr.heap.size 1 N)=G (E T f):=(by rw [<- ao];simp [go_sem]);have x2:aI.cell? (Z wr.heap.size 2 N)=G (E T g):=(by rw [<- ao];simp [go_sem]);have lb:wr.heap.size<aI.heap.size:=(by rw [<- ao];simp);obtain ⟨ah,aL⟩:=zx wr.heap.size;have ak:ba≠ah:=(by have:=cb.lt;omega);rw [ao,aL];rw [aL] at x1 x2 lb;have aY:Eff O6 W6 wr:=aT.trans ax.2 (λ b hb=>by subst hb;exact .inl ac.oa);have cW:=cX aI.drew ((aY.trans (Eff.of_below (O:=O6) aR) (λ _ h=> .inl h)).drew);have bs:=hid aR;have dG:=hid aY;have X2:=hid x2;have X1:=hid x1;have Lb:=hid lb;have bq:=hid ak;clear ao aL aR aY x1 x2 lb ak bP;refine yxZ (S:=λ W=>W.cell? (Z b7 0 N)=G (E T D)) zk zk (by rintro ⟨_,_,h⟩;exact h) cW (λ ab=>?_);refine zT 0 (v:=?_) ?_ ?_;rotate_left
       ·intro w' aa;have f0:=aa;clear aa;go_simp;(try with_reducible rfl)
       refine zT 1 (v:=?_) ?_ ?_;rotate_left
       ·intro w' aa;have f0:=aa;clear aa;go_simp;(try with_reducible rfl)
       refine zT 2 (v:=?_) ?_ ?_;rotate_left
       ·intro w' aa;have f0:=aa;clear aa;go_simp;(try with_reducible rfl)
       refine zzK 3 (λ K hK=>?_);go_simp;refine zm (cS _) ?_;rintro aU ad;have aE:Hid (Bw aI aU):=(Ye _ _).drew.trans ad;have ai:Hid (Bw wr aU):=zu bs aE.out;refine hK _ _ (cX aU (dG.trans (Eff.of_below (O:=O6) ai) (λ _ h=> .inl h))) (λ ab=>?_);clear hK K ad cS cW;refine zT 4 (v:=?_) ?_ ?_;rotate_left
       ·intro w' aa;have f0:=aa;clear aa;go_simp;(try with_reducible rfl)
       refine zT 5 (v:=?_) ?_ ?_;rotate_left
       ·intro w' aa;have f0:=aa;clear aa;go_simp;(try with_reducible rfl)
       refine zT 6 (v:=?_) ?_ ?_;rotate_left
       ·intro w' aa;have f0:=aa;clear aa;go_simp;(try with_reducible rfl)
       refine Yt zk ?_ _;clear ab;gi_upto_region 16 with fail
       have x1:aU.drew.cell? (Z ah 1 N)=G (E T f):=(aE.cell (p:=Z ah 1 N) Lb).trans X1.out;refine yxZ (S:=λ W=>W.cell? (Z ah 1 N)=G (E T f)) zk zk (by rintro ⟨_,_,h⟩;exact h) x1 (λ ab=>?_);refine zT 0 (v:=?_) ?_ ?_;rotate_left
       ·intro w' aa;have f0:=aa;clear aa;go_simp;(try with_reducible rfl)
       refine zT 1 (v:=?_) ?_ ?_;rotate_left
       ·intro w' aa;have f0:=aa;clear aa;go_simp;(try with_reducible rfl)
       refine zT 2 (v:=?_) ?_ ?_;rotate_left
       ·intro w' aa;have f0:=aa;clear aa;go_simp;(try with_reducible rfl)
       refine zT 3 (v:=?_) ?_ ?_;rotate_left
       ·intro w' aa;have f0:=aa;clear aa;go_simp;(try with_reducible rfl)
       refine zT 4 (v:=?_) ?_ ?_;rotate_left
       ·intro w' aa;have f0:=aa;clear aa;go_simp;(try with_reducible rfl)
       refine zT 5 (v:=?_) ?_ ?_;rotate_left
       ·intro w' aa;have f0:=aa;clear aa;go_simp;(try with_reducible rfl)
       refine zzK 6 (λ K hK=>?_);go_simp;refine (cT _ (cb.below ai.drew)).mono ?_;rintro e aH ⟨⟨vv,rfl⟩,aC,av⟩;have aB:ah<aU.heap.size:=zH Lb aE.size;have aw:=hid aC;have b6:=hid av;have aD:Hid (aH.cell? (Z ah 2 N)=G (E T g)):=(av.eff.cell (p:=Z ah 2 N) aB (λ e=>bq (Zx e))).trans ((aE.cell (p:=Z ah 2 N) Lb).trans X2);have aS:Hid (ah<aH.heap.size):=zH aB av.eff.size;refine hK _ _ ((av.eff.cell (p:=Z ah 1 N) aB (λ e=>bq (Zx e))).trans x1) (λ ab=>?_);have dr:=aC.g;have db:=aC.z (v*3+2);simp only at dr;clear hK K aC av cT x1 aB;refine Yt zk ?_ _;clear ab;gi_upto_region 17 with fail
       refine yxZ (S:=λ W=>Hid (W.cell? (Z ah 2 N)=G (E T g))) zk zk (by rintro ⟨_,_,h⟩;exact h) (hid aD) (λ ab=>?_);refine zT 0 (v:=?_) ?_ ?_;rotate_left
       ·intro w' aa;have f0:=aa.out;clear aa;go_simp;(try with_reducible rfl)
       refine zT 1 (v:=?_) ?_ ?_;rotate_left
       ·intro w' aa;have f0:=aa.out;clear aa;go_simp;(try with_reducible rfl)
       refine zT 2 (v:=?_) ?_ ?_;rotate_left
       ·intro w' aa;have f0:=aa.out;clear aa;go_simp;(try with_reducible rfl)
       refine zT 3 (v:=?_) ?_ ?_;rotate_left
       ·intro w' aa;have f0:=aa.out;clear aa;go_simp;(try with_reducible rfl)
       refine zT 5 (v:=?_) ?_ ?_;rotate_left
       ·intro w' aa;have f0:=aa.out;clear aa;go_simp;(try with_reducible rfl)
       refine zT 6 (v:=?_) ?_ ?_;rotate_left
       ·intro w' aa;have f0:=aa.out;clear aa;go_simp;(try with_reducible rfl)
       refine zzK 4 (λ K hK=>?_);go_simp;(try go_wp2_with fail);refine hK _ _ (by assumption) (λ ab=>?_);clear hK K;refine zzK 7 (λ K hK=>?_);go_simp;(try go_wp2_with fail);have bV:Bw aH (aH.alloc (J #[E T ag,E T g] 2)).drew:=(yaa (Ye _ _) zg).drew;have cv:(aH.alloc (J #[E T ag,E T g] 2)).drew.cell? (Z ah 2 N)=G (E T g):=(bV.cell (p:=Z ah 2 N) aS).trans aD.out;have c3:=hid bV;refine hK _ _ (hid cv) (λ ab=>?_);clear hK K bV cv;refine zzK 8 (λ K hK=>?_);go_simp;refine zm (cG aH) ?_;rintro a9 bn;have aP:=zu c3 bn;have az:=hid aP;have cu:a9.cell? (Z ah 2 N)=G (E T g):=(aP.cell (p:=Z ah 2 N) aS).trans aD.out;(try go_wp2_with fail);refine hK _ _ (hid cu) (λ ab=>?_);clear hK K bn aP cu cG;refine zT 9 (v:=?_) ?_ ?_;rotate_left
       ·intro w' aa;have f0:=aa.out;clear aa;go_simp;(try with_reducible rfl)
       refine zT 10 (v:=?_) ?_ ?_;rotate_left
       ·intro w' aa;have f0:=aa.out;clear aa;go_simp;(try with_reducible rfl)
       refine zT 11 (v:=?_) ?_ ?_;rotate_left
       ·intro w' aa;have f0:=aa.out;clear aa;go_simp;(try with_reducible rfl)
       refine zzK 12 (λ K hK=>?_);have dq:a9.cell? ⟨ba,v*3+2,N⟩=G (E T ag):=(az.cell (p:=⟨ba,v*3+2,N⟩) aw.lt).trans aw.g;have da:a9.frozen? ⟨ba,v*3+2,N⟩=false:=(az.frozen (p:=⟨ba,v*3+2,N⟩) aw.lt).trans db;have ct:(a9.setCell ⟨ba,v*3+2,N⟩ (E T (Gq:Int))).cell? (Z ah 2 N)=G (E T g):=(zzL _ _ _ _ (λ e=>by injection e with e1 _;exact bq e1)).trans ((az.cell (p:=Z ah 2 N) aS).trans aD);go_simp;(try go_wp2_with fail);refine hK _ _ (hid ct) (λ ab=>?_);clear hK K ct dq da;refine Yt zk ?_ _;have b8:=hid (aj (a9.setCell ⟨ba,v*3+2,N⟩ (E T (Gq:Int))) aU.drew (Eff.of_below ai.drew) (ax.1.block ai.size (ai.block _ cb.lt)) ((aw.below az).setg (Gq:Int)) (b6.trans ((ycg.of_below az aw.lt).trans (ycg.set (v*3+2) (.inr (.inr rfl)) _))));clear ab aj;gi_wp2
       exact ⟨⟨v+1,by go_num,by omega,b8⟩,by simp [intOf];omega⟩
      ·obtain rfl:v=3:=zo;have aO:=aq.upd ax.2 (ax.1.congr (λ i hi=>(HX i hi).symm));have aY:Eff O6 W6 wr:=aT.trans ax.2 (λ b hb=>by subst hb;exact .inl ac.oa);have ak:=aO.ne;have be:PuW (bm+1) bm F6 (RM br bk bps) wr:=b5.keep ax.2.size zi (λ b hb=>ax.2.block b (zH (an.lt b hb.1) aT.size) (λ e=>an.dj b hb.1 (by subst e;exact ac.oa))) (ax.2.block _ (aq.lt _ aq.ox) (λ e=>ak.1 (Zx e))) (ax.2.block _ (aq.lt _ aq.om) (λ e=>ak.2.1 (Zx e)));have HF:=hid (Ya aO (Ya aY be));clear aO aY ak be hlt dd;gi_wp2
       exact ⟨O6,⟨λ _ h=>h,λ _ h=> .inl h,HF.2.1⟩,_,HF.1,HQ,HF.2.2⟩
end
section
open Go.RowKit
variable {X:List Int} {u u':Nat->Nat}
def hrL (X:List Int):List Int:=X.map λ s=>s/3600
def mnL (X:List Int):List Int:=X.map λ s=>s/60%60
def scL (X:List Int):List Int:=X.map λ s=>s%60
theorem yvX {k:Nat} (hk:k<X.length) (h0:0<=X[k]) (h1:X[k]<86400) :
  ofM (hrL (X.take (k+1)))=ofM (hrL (X.take k))|||2 ^ (X[k]/3600).toNat/\ofM (mnL (X.take (k+1)))=ofM (mnL (X.take k))|||2 ^ (X[k]/60%60).toNat/\ofM (scL (X.take (k+1)))=ofM (scL (X.take k))|||2 ^ (X[k]%60).toNat:=by
 rw [yal X k hk];refine ⟨?_,?_,?_⟩
 ·rw [ym8 _ _ zo,hrL,Zl,Ze zo];rfl
 ·rw [ym8 _ _ zo,mnL,Zl,Ze zo];rfl
 ·rw [ym8 _ _ zo,scL,Zl,Ze zo];rfl
def fcU (Hq M S:Nat) (L:List Int) (i:Nat):Nat:=
 if i=0 then S else if i=1 then M else if i=2 then Hq
 else if i<7 then ofM (L.map λ D=>shF D (i-1))
 else if i<14 then wof (L.map λ D=>shF D 1-1970) (i-7)
 else if i<22 then ofM ((L.filter λ D=>decide (shF D 5= ((i-14:Nat):Int))).map λ D=>shF D 6)
 else if i<30 then ofM ((L.filter λ D=>decide (shF D 5= ((i-22:Nat):Int))).map λ D=>shF D 7)
 else if i<38 then ofM ((L.filter λ D=>decide (shF D 5= ((i-30:Nat):Int))).map λ D=>shF D 8)
 else ofM ((L.filter λ D=>decide (shF D 5= ((i-38:Nat):Int))).map λ D=>shF D 9)
def dyU (s:Nat->Int) (u:Nat->Nat) (i:Nat):Nat:=
 if i<3 then u i else if i<7 then u i|||ofM [s (i-1)]
 else if i<14 then if (i-7:Nat)= (s 1-1970).toNat/64 then u i|||2 ^ ((s 1-1970).toNat%64) else u i
 else if i<22 then if ((i-14:Nat):Int)=s 5 then u i|||ofM [s 6] else u i
 else if i<30 then if ((i-22:Nat):Int)=s 5 then u i|||ofM [s 7] else u i
 else if i<38 then if ((i-30:Nat):Int)=s 5 then u i|||ofM [s 8] else u i
 else if ((i-38:Nat):Int)=s 5 then u i|||ofM [s 9] else u i
theorem yyg (p q:Nat->Bool):mk p|||mk q=mk λ i=>p i||q i:=
 yf4 (ygM (yaG p) (yaG q)) λ i hi=>by rw [Y2,yaW,yaW];simp [hi]
theorem ym7 (l:List Int) (x:Int):ofM (l ++ [x])=ofM l|||ofM [x]:=by
 rw [ofM,ofM,ofM,yyg];exact ybm λ i _=>by simp [inB,Bool.decide_or]
theorem ygk (L:List Int) (D:Int) (i k:Nat) (j:Nat):ofM (((L ++ [D]).filter λ D=>decide (shF D 5= (j:Int))).map λ D=>shF D k)=if (j:Int)=shF D 5 then ofM ((L.filter λ D=>decide (shF D 5= (j:Int))).map λ D=>shF D k)|||ofM [shF D k] else ofM ((L.filter λ D=>decide (shF D 5= (j:Int))).map λ D=>shF D k):=by
 rw [Zb,Zl];by_cases h:(j:Int)=shF D 5
 ·rw [Yd h,List.filter_cons,Yd (by rw [zzY];exact h.symm),List.filter_nil,List.map_cons,ZS,ym7]
 ·rw [Yb h,List.filter_cons,Yb (by rw [zzY];exact λ e=>h e.symm),List.filter_nil,ZS,List.append_nil]
theorem yub (Hq M S:Nat) (L:List Int) {D:Int} (h0:1970<=shF D 1) (h1:shF D 1<2370) (i:Nat):fcU Hq M S (L ++ [D]) i=dyU (shF D) (fcU Hq M S L) i:=by
 simp only [fcU,dyU];by_cases a3:i<3
 ·rw [Yd a3];have:i=0\/ i=1\/ i=2:=zo
  rcases this with rfl | rfl | rfl <;> rfl
 ·simp only [Yb a3,Yb (show¬i=0 by omega),Yb (show¬i=1 by omega),Yb (show¬i=2 by omega)];by_cases a7:i<7
  ·simp only [Yd a7];rw [Zl,List.map_cons,ZS,ym7]
  simp only [Yb a7];by_cases ad:i<14
  ·simp only [Yd ad];obtain ⟨n,hn⟩:∃n:Nat,shF D 1-1970= (n:Int):=⟨(shF D 1-1970).toNat,by omega⟩;rw [Zl,List.map_cons,ZS,hn,YL];by_cases e:i-7=n/64
   ·rw [Yd e,e,yxH _ _ zo]
   ·rw [Yb e,ypy _ _ _ e]
  simp only [Yb ad];by_cases ac:i<22
  ·simp only [Yd ac];exact ygk L D i 6 (i-14)
  simp only [Yb ac];by_cases ab:i<30
  ·simp only [Yd ab];exact ygk L D i 7 (i-22)
  simp only [Yb ab];by_cases aa:i<38
  ·simp only [Yd aa];exact ygk L D i 8 (i-30)
  simp only [Yb aa];exact ygk L D i 9 (i-38)
def ynM (u:Nat->Nat) (s:Int):Prop:=(u 2).testBit (s/3600).toNat=true/\(u 1).testBit (s/60%60).toNat=true/\(u 0).testBit (s%60).toNat=true
structure HmP (u:Nat->Nat) (P:Int->Prop):Prop where
 lt:∀i,i<3->u i<18446744073709551616
 inn:∀s,P s->ynM u s
 rng:∀s,P s->0<=s/\s<86400
 h:∀i,(u 2).testBit i=true->∃s,P s/\(s/3600).toNat=i
 m:∀i,(u 1).testBit i=true->∃s,P s/\(s/60%60).toNat=i
 s:∀i,(u 0).testBit i=true->∃s,P s/\(s%60).toNat=i
theorem HmP.same {P Qq:Int->Prop} (h:HmP u P) (hi:∀s,P s->Qq s) (ho:∀s,Qq s->P s\/ ((0<=s/\s<86400)/\ynM u s)):HmP u Qq:=
 ⟨h.lt,λ s hs=>(ho s hs).elim (h.inn s) (λ e=>e.2),λ s hs=>(ho s hs).elim (h.rng s) (λ e=>e.1),λ i e=>let ⟨s,h1,h2⟩:=h.h i e;⟨s,hi s h1,h2⟩,λ i e=>let ⟨s,h1,h2⟩:=h.m i e;⟨s,hi s h1,h2⟩,λ i e=>let ⟨s,h1,h2⟩:=h.s i e;⟨s,hi s h1,h2⟩⟩
theorem HmP.as {P:Int->Prop} (h:HmP u P) (e:∀i,i<3->u' i=u i):HmP u' P:=by
 have e0:=e 0 zo;have e1:=e 1 zo;have e2:=e 2 zo;exact ⟨λ i hi=>by rw [e i hi];exact h.lt i hi,λ s hs=>by rw [ynM,e0,e1,e2];exact h.inn s hs,h.rng,λ i=>by rw [e2];exact h.h i,λ i=>by rw [e1];exact h.m i,λ i=>by rw [e0];exact h.s i⟩
theorem ygN (l:List Int) (i:Nat):(ofM l).testBit i= (decide (i<64)&&decide ((i:Int)∈l)):=by rw [ofM,yaW,inB]
theorem HmP.or {P:Int->Prop} (h:HmP u P) (hX:∀x∈X,0<=x/\x<86400) (e2:u' 2=u 2|||ofM (hrL X)) (e1:u' 1=u 1|||ofM (mnL X)) (e0:u' 0=u 0|||ofM (scL X)):HmP u' (λ s=>P s\/ s∈X):=by
 have key:∀s∈X,(ofM (hrL X)).testBit (s/3600).toNat=true/\(ofM (mnL X)).testBit (s/60%60).toNat=true/\(ofM (scL X)).testBit (s%60).toNat=true:=λ s hs=>by
  have:=hX s hs;refine ⟨?_,?_,?_⟩;rotate_left;rotate_left;rotate_left;all_goals
   rw [ygN,zzX,zzY,zzY,Ze zo];exact ⟨by omega,YA.2 ⟨s,hs,rfl⟩⟩
 refine ⟨λ i hi=>?_,λ s hs=>?_,λ s hs=>hs.elim (h.rng s) (hX s),λ i hi=>?_,λ i hi=>?_,λ i hi=>?_⟩
 ·have:i=0\/ i=1\/ i=2:=zo
  rcases this with rfl | rfl | rfl
  ·rw [e0];exact ygM (h.lt 0 zo) (yaG _)
  ·rw [e1];exact ygM (h.lt 1 zo) (yaG _)
  ·rw [e2];exact ygM (h.lt 2 zo) (yaG _)
 ·rw [ynM,e0,e1,e2,Y2,Y2,Y2,Ys,Ys,Ys];rcases hs with hs | hs
  ·obtain ⟨b2,b1,b0⟩:=h.inn s hs;exact ⟨.inl b2, .inl b1, .inl b0⟩
  ·obtain ⟨b2,b1,b0⟩:=key s hs;exact ⟨.inr b2, .inr b1, .inr b0⟩
 ·rw [e2,Y2,Ys] at hi;rcases hi with hi | hi
  ·obtain ⟨s,h1,h2⟩:=h.h i hi;exact ⟨s, .inl h1,h2⟩
  ·rw [ygN,zzX,zzY,zzY,hrL,YA] at hi;obtain ⟨-,s,hs,e⟩:=hi;exact ⟨s, .inr hs,by omega⟩
 ·rw [e1,Y2,Ys] at hi;rcases hi with hi | hi
  ·obtain ⟨s,h1,h2⟩:=h.m i hi;exact ⟨s, .inl h1,h2⟩
  ·rw [ygN,zzX,zzY,zzY,mnL,YA] at hi;obtain ⟨-,s,hs,e⟩:=hi;exact ⟨s, .inr hs,by omega⟩
 ·rw [e0,Y2,Ys] at hi;rcases hi with hi | hi
  ·obtain ⟨s,h1,h2⟩:=h.s i hi;exact ⟨s, .inl h1,h2⟩
  ·rw [ygN,zzX,zzY,zzY,scL,YA] at hi;obtain ⟨-,s,hs,e⟩:=hi;exact ⟨s, .inr hs,by omega⟩
theorem HmP.eq {v:Nat->Nat} {P Qq:Int->Prop} (h:HmP u P) (k:HmP v Qq) (e:∀s,P s↔Qq s) {i:Nat} (hi:i<3):u i=v i:=by
 have:i=0\/ i=1\/ i=2:=zo
 have key:∀{a b:Nat},(∀i,a.testBit i=true↔b.testBit i=true)->a=b:=λ ae=>Nat.eq_of_testBit_eq λ i=>zze.2 (ae i);rcases this with rfl | rfl | rfl
 ·refine key λ i=>⟨λ hi=>?_,λ hi=>?_⟩
  ·obtain ⟨s,h1,rfl⟩:=h.s i hi;exact (k.inn s ((e s).1 h1)).2.2
  ·obtain ⟨s,h1,rfl⟩:=k.s i hi;exact (h.inn s ((e s).2 h1)).2.2
 ·refine key λ i=>⟨λ hi=>?_,λ hi=>?_⟩
  ·obtain ⟨s,h1,rfl⟩:=h.m i hi;exact (k.inn s ((e s).1 h1)).2.1
  ·obtain ⟨s,h1,rfl⟩:=k.m i hi;exact (h.inn s ((e s).2 h1)).2.1
 ·refine key λ i=>⟨λ hi=>?_,λ hi=>?_⟩
  ·obtain ⟨s,h1,rfl⟩:=h.h i hi;exact (k.inn s ((e s).1 h1)).1
  ·obtain ⟨s,h1,rfl⟩:=k.h i hi;exact (h.inn s ((e s).2 h1)).1
def sqB (X:List Int):Bool:=decide ((ycC (ofM (hrL X)) (ofM (mnL X)) (ofM (scL X))).length=X.length)
def evB (ls:List (List Int)):Bool:=ls.all λ L=>decide (L=ls.headD [])
theorem yud (L0:List Int) (ls:List (List Int)) (L:List Int):evB ((L0::ls) ++ [L])= (evB (L0::ls)&&decide (L=L0)):=by
 rw [evB,evB,YH,List.headD_cons,List.headD_cons,<- YH,List.all_append];simp
def sqA (ls:List (List Int)):Bool:=ls.all sqB
theorem ydW (ls:List (List Int)) (L:List Int):sqA (ls ++ [L])= (sqA ls&&sqB L):=by rw [sqA,sqA,List.all_append];simp
end
section
attribute [local irreducible] yak
def fcv (u:Nat->Nat) (fi la n:Int) (ev sq:Bool):Value:= .agg #[E Y (u 0:Nat),E Y (u 1:Nat),E Y (u 2:Nat),E Y (u 3:Nat),E Y (u 4:Nat),E Y (u 5:Nat),E Y (u 6:Nat),E Y (u 7:Nat),E Y (u 8:Nat),E Y (u 9:Nat),E Y (u 10:Nat),E Y (u 11:Nat),E Y (u 12:Nat),E Y (u 13:Nat),E Y (u 14:Nat),E Y (u 15:Nat),E Y (u 16:Nat),E Y (u 17:Nat),E Y (u 18:Nat),E Y (u 19:Nat),E Y (u 20:Nat),E Y (u 21:Nat),E Y (u 22:Nat),E Y (u 23:Nat),E Y (u 24:Nat),E Y (u 25:Nat),E Y (u 26:Nat),E Y (u 27:Nat),E Y (u 28:Nat),E Y (u 29:Nat),E Y (u 30:Nat),E Y (u 31:Nat),E Y (u 32:Nat),E Y (u 33:Nat),E Y (u 34:Nat),E Y (u 35:Nat),E Y (u 36:Nat),E Y (u 37:Nat),E Y (u 38:Nat),E Y (u 39:Nat),E Y (u 40:Nat),E Y (u 41:Nat),E Y (u 42:Nat),E Y (u 43:Nat),E Y (u 44:Nat),E Y (u 45:Nat),E T fi,E T la,E T n,Xb ev,Xb sq]
def fcL (u:Nat->Nat) (fi la n:Int) (ev sq:Bool):List Value:=((List.range 46).map λ i=>E Y (u i:Nat)) ++ [E T fi,E T la,E T n,Xb ev,Xb sq]
theorem yhx (u:Nat->Nat) (fi la n:Int) (ev sq:Bool):fcv u fi la n ev sq= .agg (fcL u fi la n ev sq).toArray:=rfl
theorem ydJ (u:Nat->Nat) (fi la n:Int) (ev sq:Bool):(fcL u fi la n ev sq).length=51:=by simp [fcL]
theorem ynn:(Tryz.prog.info? 43).map (·.size)=G 51:=by kernel_rfl
structure FcB (b:Nat) (u:Nat->Nat) (fi la n:Int) (ev sq:Bool) (W:World):Prop where
 c:∀i,i<46->W.cell? (Z b i N)=G (E Y (u i:Nat))
 c46:W.cell? (Z b 46 N)=G (E T fi)
 c47:W.cell? (Z b 47 N)=G (E T la)
 c48:W.cell? (Z b 48 N)=G (E T n)
 c49:W.cell? (Z b 49 N)=G (Xb ev)
 c50:W.cell? (Z b 50 N)=G (Xb sq)
 z:∀i,W.frozen? (Z b i N)=false
 lt:b<W.heap.size
section
variable {b:Nat} {u:Nat->Nat} {fi la n:Int} {ev sq:Bool} {W:World}
theorem FcB.block {W':World} (h:FcB b u fi la n ev sq W) (hs:W.heap.size<=W'.heap.size) (hb:W'.heap[b]? =W.heap[b]?):FcB b u fi la n ev sq W':=
 have e:=λ i=>zzJ (w:=W) (w':=W') (a:=Z b i N) hb
 ⟨λ i hi=>(e i).trans (h.c i hi),(e 46).trans h.c46,(e 47).trans h.c47,(e 48).trans h.c48,(e 49).trans h.c49,(e 50).trans h.c50,λ i=>(zzM (w:=W) (a:=Z b i N) hb).trans (h.z i),zH h.lt hs⟩
theorem FcB.as {u':Nat->Nat} (h:FcB b u fi la n ev sq W) (e:∀i,i<46->u' i=u i):FcB b u' fi la n ev sq W:=
 ⟨λ i hi=>by rw [h.c i hi,e i hi],h.c46,h.c47,h.c48,h.c49,h.c50,h.z,h.lt⟩
theorem yaU {i j:Nat} (h:i≠j) (v:Value):(W.setCell (Z b j N) v).cell? (Z b i N)=W.cell? (Z b i N):=
 zzL _ _ _ _ (λ e=>by injection e with _ e;exact h e.symm)
theorem FcB.set (h:FcB b u fi la n ev sq W) {k:Nat} (hk:k<46) (v:Nat) {u':Nat->Nat} (e:∀i,i<46->u' i=if i=k then v else u i):FcB b u' fi la n ev sq (W.setCell (Z b k N) (E Y (v:Nat))):=
 ⟨λ i hi=>by
  rw [e i hi];by_cases e:i=k
  ·subst e;rw [Yd rfl];exact zzW _ _ _ (by rw [h.c i hi])
  ·rw [yaU e,h.c i hi,Yb e],(yaU zo _).trans h.c46,(yaU zo _).trans h.c47,(yaU zo _).trans h.c48,(yaU zo _).trans h.c49,(yaU zo _).trans h.c50,λ i=>by simpa [go_sem] using h.z i,by simpa using h.lt⟩
theorem FcB.set46 (h:FcB b u fi la n ev sq W) (x:Int):FcB b u x la n ev sq (W.setCell (Z b 46 N) (E T x)):=
 ⟨λ i hi=>(yaU zo _).trans (h.c i hi),zzW _ _ _ (by rw [h.c46]),(yaU zo _).trans h.c47,(yaU zo _).trans h.c48,(yaU zo _).trans h.c49,(yaU zo _).trans h.c50,λ i=>by simpa [go_sem] using h.z i,by simpa using h.lt⟩
theorem FcB.set47 (h:FcB b u fi la n ev sq W) (x:Int):FcB b u fi x n ev sq (W.setCell (Z b 47 N) (E T x)):=
 ⟨λ i hi=>(yaU zo _).trans (h.c i hi),(yaU zo _).trans h.c46,zzW _ _ _ (by rw [h.c47]),(yaU zo _).trans h.c48,(yaU zo _).trans h.c49,(yaU zo _).trans h.c50,λ i=>by simpa [go_sem] using h.z i,by simpa using h.lt⟩
theorem FcB.set48 (h:FcB b u fi la n ev sq W) (x:Int):FcB b u fi la x ev sq (W.setCell (Z b 48 N) (E T x)):=
 ⟨λ i hi=>(yaU zo _).trans (h.c i hi),(yaU zo _).trans h.c46,(yaU zo _).trans h.c47,zzW _ _ _ (by rw [h.c48]),(yaU zo _).trans h.c49,(yaU zo _).trans h.c50,λ i=>by simpa [go_sem] using h.z i,by simpa using h.lt⟩
theorem FcB.set49 (h:FcB b u fi la n ev sq W) (x:Bool):FcB b u fi la n x sq (W.setCell (Z b 49 N) (Xb x)):=
 ⟨λ i hi=>(yaU zo _).trans (h.c i hi),(yaU zo _).trans h.c46,(yaU zo _).trans h.c47,(yaU zo _).trans h.c48,zzW _ _ _ (by rw [h.c49]),(yaU zo _).trans h.c50,λ i=>by simpa [go_sem] using h.z i,by simpa using h.lt⟩
theorem FcB.set50 (h:FcB b u fi la n ev sq W) (x:Bool):FcB b u fi la n ev x (W.setCell (Z b 50 N) (Xb x)):=
 ⟨λ i hi=>(yaU zo _).trans (h.c i hi),(yaU zo _).trans h.c46,(yaU zo _).trans h.c47,(yaU zo _).trans h.c48,(yaU zo _).trans h.c49,zzW _ _ _ (by rw [h.c50]),λ i=>by simpa [go_sem] using h.z i,by simpa using h.lt⟩
theorem FcB.at (h:FcB b u fi la n ev sq W) {j:Nat} {v:Value} (hv:(fcL u fi la n ev sq)[j]? =G v):W.cell? (Z b j N)=G v:=by
 obtain ⟨hj,e⟩:=zzq.1 hv;rw [ydJ] at hj;by_cases ae:j<46
 ·rw [h.c j ae,<- e];simp only [fcL];rw [List.getElem_append_left (by simpa using ae)];simp
 ·have h5:j=46\/ j=47\/ j=48\/ j=49\/ j=50:=zo;rcases h5 with rfl | rfl | rfl | rfl | rfl
  ·exact h.c46.trans hv
  ·exact h.c47.trans hv
  ·exact h.c48.trans hv
  ·exact h.c49.trans hv
  ·exact h.c50.trans hv
theorem FcB.range (h:FcB b u fi la n ev sq W):W.rangeAt b 0 (fcL u fi la n ev sq):=λ j v hv=>by rw [zzn];exact h.at hv
end
def ygQ (v:Value):Sem Value:=Instr.loadAt 43 v
theorem ycd (v:Value):Instr.loadAt 43 v=ygQ v:=rfl
def ydU (v x:Value):Sem Unit:=Instr.storeAt 43 v x
theorem yhG (v x:Value):Instr.storeAt 43 v x=ydU v x:=rfl
section
variable {b:Nat} {u:Nat->Nat} {fi la n:Int} {ev sq:Bool} {W:World}
theorem FcB.ld (h:FcB b u fi la n ev sq W):(ygQ (R (G (Z b 0 N)))).run I W= .ok (fcv u fi la n ev sq) W:=by
 unfold ygQ;simp only [Instr.loadAt,Instr.sureAddr,ZC,ZR,Zf,Zr W b 0 43 (fcL u fi la n ev sq) _ h.range Tryz.underlying43 rfl (by rw [ydJ];exact ynn)];rfl
theorem FcB.there (h:FcB b u fi la n ev sq W) (u':Nat->Nat) (ac ab n':Int) (ad aa:Bool):W.there b 0 (fcL u' ac ab n' ad aa).toArray.size:=λ j hj=>by
 rw [Yp,ydJ] at hj;rw [zzn];have hl:j<(fcL u fi la n ev sq).length:=by rw [ydJ];exact hj
 exact ⟨by rw [h.at (zzp hl)];rfl,h.z j⟩
theorem FcB.st (h:FcB b u fi la n ev sq W) (u':Nat->Nat) (ac ab n':Int) (ad aa:Bool):(ydU (R (G (Z b 0 N))) (fcv u' ac ab n' ad aa)).run I W= .ok () (W.setCells b 0 (fcL u' ac ab n' ad aa)):=by
 unfold ydU;rw [yhx,Zy W b 0 43 (fcL u' ac ab n' ad aa).toArray (h.there u' ac ab n' ad aa) (by rw [Yp,ydJ];exact ynn) (by simp [fcL,Value.oneCell'])]
theorem FcB.put (h:FcB b u fi la n ev sq W) (u':Nat->Nat) (ac ab n':Int) (ad aa:Bool):FcB b u' ac ab n' ad aa (W.setCells b 0 (fcL u' ac ab n' ad aa)):=by
 have hs:=(Eff.setCells (O:=λ x=>x=b) rfl (fcL u' ac ab n' ad aa) 0 W (Eff.refl _ W)).size;have key:∀j v,(fcL u' ac ab n' ad aa)[j]? =G v->(W.setCells b 0 (fcL u' ac ab n' ad aa)).cell? (Z b j N)=G v:=λ j v hv=>by
  obtain ⟨hj,e⟩:=zzq.1 hv;have:=ZW b (fcL u' ac ab n' ad aa) 0 W (λ j hj=>by
   have hl:j<(fcL u fi la n ev sq).length:=(by rw [ydJ] at hj⊢;exact hj);rw [zzn,h.at (zzp hl)];rfl) j hj
  rw [zzn,e] at this;exact this
 refine ⟨λ i hi=>key i _ ?_,key 46 _ rfl,key 47 _ rfl,key 48 _ rfl,key 49 _ rfl,key 50 _ rfl,λ i=>by rw [Zj];exact h.z i,zH h.lt hs⟩;simp only [fcL];rw [Yo (by simpa using hi)];simp [hi]
theorem ylO (w:World) (t:TypeId):FcB w.heap.size (λ _=>0) 0 0 0 false false (w.alloc (J zl2 t)):=by
 have e:(zl2:Array Value)= (fcL (λ _=>0) 0 0 0 false false).toArray:=rfl;have key:∀j v,(fcL (λ _=>0) 0 0 0 false false)[j]? =G v->(w.alloc (J zl2 t)).cell? (Z w.heap.size j N)=G v:=λ j v hv=>by
  rw [e];have e2:(fcL (λ _=>0) 0 0 0 false false).toArray[j]? =G v:=by rw [List.getElem?_toArray];exact hv
  rw [World.cell?,Y1];simpa using e2
 refine ⟨λ i hi=>key i _ ?_,key 46 _ rfl,key 47 _ rfl,key 48 _ rfl,key 49 _ rfl,key 50 _ rfl,λ i=>yan w _ t i,by simp⟩;simp only [fcL];rw [Yo (by simpa using hi)];simp [hi]
end
end
