/- The n-th instant of a set, in plain words. -/
import Derived.Test.YtkdaiadfgfbgmaaGreatDoorQ7f8f1d
import Derived.Test.YtkdaiadfgfbgmaaGreatDoorQ9cec83
set_option maxRecDepth 100000
set_option maxHeartbeats 25600000
set_option linter.unusedSimpArgs false
open Option renaming none -> N, some -> G
open Go.Value renaming int -> E, pointer -> R, slice -> Xs, bool -> Xb, func -> Xf, tuple -> Xt
open Go.IntKind renaming i64 -> T, u64 -> Y
open Go.Addr renaming mk -> Z
open Go renaming Calls -> H
open Go.Proofs.Tryz renaming prog -> I
open Go.Obj renaming cells -> J
open Go.Ending renaming returned -> Q
namespace Go.Proofs.YtkdaiadfgfbgmaaGreatDoor
open Go.RowKit Go.Maps
set_option linter.unusedVariables false
section
variable {ok:Bool} {at' d:Int} {l:List Cl} {j k:Nat} {q:Nat->Bool}
theorem ynw {s:Int} (hj:j<(yal q).length) (hs:∀x∈yal q,s<=x↔(yal q)[j]<=x) (h:FirstOf (λ k=>q k&&decide (s<=(k:Int))) at' ok):at' = (yal q)[j]/\ok=true:=by
 have hm:∀x,x∈yal q↔∃k:Nat,k<86400/\q k=true/\x=k:=λ x=>by rw [yal,sel_mem]
 obtain ⟨k0,ac,ab,e0⟩:=(hm _).1 (zzr hj);have ad:=(hs _ (zzr hj)).2 (Zv _);rcases h with ⟨rfl,k,rfl,hk,hp,aa⟩ | ⟨rfl,-,aa⟩
 ·rw [zzX,zzY] at hp;refine ⟨?_,rfl⟩;have h1:=(hs _ ((hm _).2 ⟨k,hk,hp.1,rfl⟩)).1 hp.2;rcases ZK k0 k with h2 | h2
  ·have h3:(q k0&&decide (s<=(k0:Int)))=false:=aa k0 h2;rw [ab,zzZ zo] at h3;cases h3
  ·omega
 ·have h3:(q k0&&decide (s<=(k0:Int)))=false:=aa k0 ac;rw [ab,zzZ zo] at h3;cases h3
theorem yii (hj:0<(yal q).length) (h:FirstOf (λ k=>q k&&decide ((0:Int)<=(k:Int))) at' ok):at' = (yal q)[0]/\ok=true:=by
 refine ynw hj (λ x hx=>?_) h;have hp:(yal q).Pairwise (·< ·):=yaM _ _;constructor
 ·intro _;obtain ⟨i,hi,rfl⟩:=ZO.1 hx;rcases ZT i with h1 | h1
  ·subst h1;exact Zv _
  ·have:=(yoa hp hj hi).2 h1;omega
 ·intro _;rw [yal,sel_mem] at hx;obtain ⟨k,-,-,rfl⟩:=hx;omega
theorem yoK (hj:j+1<(yal q).length) (h:FirstOf (λ k=>q k&&decide ((yal q)[j]+1<=(k:Int))) at' ok):at' = (yal q)[j+1]/\ok=true:=by
 refine ynw hj (λ x hx=>?_) h;have hp:(yal q).Pairwise (·< ·):=yaM _ _;obtain ⟨i,hi,rfl⟩:=ZO.1 hx;have h1:=yoa hp (show j<(yal q).length by omega) hi;have h2:=yoa hp hi hj;constructor
 ·intro h3;have:=h1.1 zo;apply Int.le_of_not_gt;intro h4;have:=h2.1 h4;omega
 ·intro h3;have:¬i<j+1:=λ h4=>by have:=h2.2 h4;omega
  have:=h1.2 zo;omega
theorem yww {n:Int} {p:Nat} (hd:(yaP l (yaf 0 146096))[k]? =G d) (hp:p<(yal (yay l d)).length) (h0:0<=d) (h1:d<146097):(yhm l)[yil l 0 12622780799 (yaP l (yaf 0 146096)) k+p]? =G (86400*d+(yal (yay l d))[p]):=by
 have e:yhm l=ydB l 0 12622780799 (yaP l (yaf 0 146096)):=rfl;rw [e];refine ywT hd ?_;rw [yuy l zo zo,Y9,zzp hp];rfl
theorem ytK (hd:(yaP l (yaf 0 146096))[k]? =G d) (h0:0<=d) (h1:d<146097):yil l 0 12622780799 (yaP l (yaf 0 146096)) (k+1)=yil l 0 12622780799 (yaP l (yaf 0 146096)) k+(yal (yay l d)).length:=by
 rw [yrS hd,yoS l zo zo]
theorem ywx (l:List Cl):yil l 0 12622780799 (yaP l (yaf 0 146096)) (yaP l (yaf 0 146096)).length= (yhm l).length:=by rw [yuC];rfl
end
section
attribute [local go_sem] Yw
variable {O:Blk} {m n x y:Int} {b0 c0 cf:Nat} {c:Option Nat} {W W':World}
structure NtC (b0 c0 cf:Nat) (n x y:Int) (c:Option Nat) (m:Int) (O:Blk) (W:World):Prop where
 cn:W.cell? (Z b0 0 N)=G (E T n)
 fn:W.frozen? (Z b0 0 N)=false
 two:yoZ (b0+1) x y O W
 k:ysS c0 c m W
 co:W.cell? (Z cf 0 N)=G (yAA c0)
 o0:O b0
 p0:O c0
 p1:O (c0+1)
 p2:O cf
 ne:b0+1+1<c0
 nf:c0+1<cf
theorem NtC.keep (h:NtC b0 c0 cf n x y c m O W) (hs:W.heap.size<=W'.heap.size) (hb:∀c,O c->W'.heap[c]? =W.heap[c]?):NtC b0 c0 cf n x y c m O W':=
 ⟨(zzJ (w:=W) (a:=Z b0 0 N) (hb _ h.o0)).trans h.cn,(zzM (w:=W) (a:=Z b0 0 N) (hb _ h.o0)).trans h.fn,h.two.keep hs hb,
  h.k.block hs (hb _ h.p0) (hb _ h.p1),(zzJ (w:=W) (a:=Z cf 0 N) (hb _ h.p2)).trans h.co,h.o0,h.p0,h.p1,h.p2,h.ne,h.nf⟩
theorem NtC.cnt {c':Option Nat} {m':Int} (h:NtC b0 c0 cf n x y c m O W) (hE:Eff (λ b=>b=c0\/ b=c0+1) W W') (hk:ysS c0 c' m' W'):NtC b0 c0 cf n x y c' m' O W':=by
 obtain ⟨h1,h2,⟨t1,t2,t3,t4,t5,t6,t7⟩,h4,h5,o0,p0,p1,p2,ne,nf⟩:=h;have lt:=t7;exact ⟨(hE.cell (p:=Z b0 0 N) (lt _ o0) (by show¬(b0=c0\/ b0=c0+1);omega)).trans h1,(hE.frozen (p:=Z b0 0 N) (lt _ o0) (by show¬(b0=c0\/ b0=c0+1);omega)).trans h2,
  ⟨(hE.cell (p:=Z (b0+1) 0 N) (lt _ t5) (by show¬(b0+1=c0\/ b0+1=c0+1);omega)).trans t1,(hE.cell (p:=⟨b0+1+1,0,N⟩) (lt _ t6) (by show¬(b0+1+1=c0\/ b0+1+1=c0+1);omega)).trans t2,
    (hE.frozen (p:=Z (b0+1) 0 N) (lt _ t5) (by show¬(b0+1=c0\/ b0+1=c0+1);omega)).trans t3,(hE.frozen (p:=⟨b0+1+1,0,N⟩) (lt _ t6) (by show¬(b0+1+1=c0\/ b0+1+1=c0+1);omega)).trans t4,t5,t6,λ b hb=>zH (t7 b hb) hE.size⟩,hk,
  (hE.cell (p:=Z cf 0 N) (lt _ p2) (by show¬(cf=c0\/ cf=c0+1);omega)).trans h5,o0,p0,p1,p2,ne,nf⟩
theorem NtC.put {n':Int} (h:NtC b0 c0 cf n x y c m O W):NtC b0 c0 cf n' x y c m O (W.setCell (Z b0 0 N) (E T n')):=by
 obtain ⟨h1,h2,⟨t1,t2,t3,t4,t5,t6,t7⟩,h4,h5,o0,p0,p1,p2,ne,nf⟩:=h;have hb:∀b,b≠b0->(W.setCell (Z b0 0 N) (E T n')).heap[b]? =W.heap[b]?:=λ b hb=>Ym _ _ _ _ hb;have hs:(W.setCell (Z b0 0 N) (E T n')).heap.size=W.heap.size:=by simp
 exact ⟨by simp [go_sem,h1],by simp [go_sem,h2],⟨(zzJ (w:=W) (a:=Z (b0+1) 0 N) (hb _ (by simp only [];omega))).trans t1,(zzJ (w:=W) (a:=⟨b0+1+1,0,N⟩) (hb _ (by simp only [];omega))).trans t2,
  (zzM (w:=W) (a:=Z (b0+1) 0 N) (hb _ (by simp only [];omega))).trans t3,(zzM (w:=W) (a:=⟨b0+1+1,0,N⟩) (hb _ (by simp only [];omega))).trans t4,t5,t6,λ b hb=>by rw [hs];exact t7 b hb⟩,
  h4.block (by rw [hs];exact zG _) (hb _ zo) (hb _ zo),(zzJ (w:=W) (a:=Z cf 0 N) (hb _ (by simp only [];omega))).trans h5,o0,p0,p1,p2,ne,nf⟩
def NtI (cs:List Cl) (M:Blk) (b0 c0 cf:Nat) (n:Int):ydz:=λ k O F W=>((yil cs 0 12622780799 (yaP cs (yaf 0 146096)) k:Nat):Int)<n/\∃c m,NtC b0 c0 cf (n-(yil cs 0 12622780799 (yaP cs (yaf 0 146096)) k:Nat)) 0 0 c m O W/\Knows c m M F W
def NtX (cs:List Cl) (b0:Nat) (n:Int) (c:Code):ydz:=λ k O _ W=>c= .ret/\∃x,(1<=n/\(yhm cs)[n.toNat-1]? =G x)/\yoZ (b0+1) x 0 O W
theorem yi1 (cs:List Cl) (M:Blk) (b0 c0 cf:Nat) (n:Int):StabF M (NtI cs M b0 c0 cf n):=λ k O F F' W W' ⟨h0,c,m,h1,h2⟩ hs hF hO=>⟨h0,c,m,h1.keep hs (λ c hc=>hO c (.inl hc)),h2.keep hs hF (λ b hb=>hO b (.inr hb))⟩
theorem ytL (cs:List Cl) (b0:Nat) (n:Int) (M:Blk) (c:Code):StabF M (NtX cs b0 n c):=λ k O F F' W W' ⟨h1,x,h2,h3⟩ hs hF hO=>⟨h1,x,h2,h3.keep hs (λ c hc=>hO c (.inl hc))⟩
theorem yvF (cs:List Cl) (M:Blk) (b0 c0 cf:Nat) (n:Int):LtF (NtI cs M b0 c0 cf n):=λ k O F W ⟨_,_,_,h,_⟩=>h.two.lt
theorem yyu (cs:List Cl) (b0:Nat) (n:Int) (c:Code):LtF (NtX cs b0 n c):=λ k O F W ⟨_,_,_,h⟩=>h.lt
structure NtL (cs:List Cl) (M:Blk) (d bx:Nat) (D:Int) (b0 c0 cf:Nat) (n:Int) (O6 F6:Blk) (W6:World) (j:Nat) (W:World):Prop where
 cells:∃c m,NtC b0 c0 cf (n-j) 0 0 c m O6 W
 gr:Eff O6 W6 W
 di:DiscAt W d (yay cs D)
 tab:Tab W
 sh:ShS W bx (shF D)
theorem NtL.put {cs:List Cl} {M:Blk} {d bx:Nat} {D:Int} {O6 F6:Blk} {W6:World} {j:Nat} {v:Int} (h:NtL cs M d bx D b0 c0 cf n O6 F6 W6 j W) (hd:d≠b0) (hx:bx≠b0) (ht:0≠b0) (hv:v=n-((j+1:Nat):Int)):NtL cs M d bx D b0 c0 cf n O6 F6 W6 (j+1) (W.setCell (Z b0 0 N) (E T v)):=by
 subst hv;obtain ⟨⟨c,m,h1⟩,h2,h3,h4,h5⟩:=h;have hb:∀b,b≠b0->(W.setCell (Z b0 0 N) (E T (n-((j+1:Nat):Int)))).heap[b]? =W.heap[b]?:=λ b hb=>Ym _ _ _ _ hb;have hs:(W.setCell (Z b0 0 N) (E T (n-((j+1:Nat):Int)))).heap.size=W.heap.size:=by simp
 exact ⟨⟨c,m,h1.put⟩,h2.set h1.o0 _ _,h3.block (by rw [hs];exact zG _) (hb d hd),⟨by rw [hs];exact h4.1,λ i hi=>(zzJ (w:=W) (a:=⟨0,i,N⟩) (hb _ ht)).trans (h4.2 i hi)⟩,ydl h5 (hb bx hx)⟩
def NtT (h0 h1 h2 h3 h4 h5 h6 h7 h8 h9 aZ:Value) (ds:List Deferred) (a:Act):Prop:=∃V:Nat->Value,a= {tmps:=#[h0,h1,h2,h3,h4,h5,h6,h7,h8,h9,aZ,V 11,V 12,V 13,V 14,V 15,V 16,V 17,V 18,V 19,V 20,V 21,V 22,V 23,V 24,V 25,V 26,V 27,V 28,V 29,V 30,V 31,V 32,V 33,V 34,V 35,V 36,V 37,V 38,V 39,V 40,V 41,V 42,V 43,V 44,V 45,V 46,V 47,V 48,V 49,V 50,V 51,V 52,V 53,V 54,V 55,V 56,V 57,V 58,V 59,V 60],defers:=ds}
theorem NtT.of {h0 h1 h2 h3 h4 h5 h6 h7 h8 h9 aZ ce cd cc cb ca b9 b8 b7 b6 b5 b4 b3 b2 b1 bZ bY bX bW bV bU bT bS bR bQ bP bO bN bM bL bK bJ bI bH bG bF bE bD bC bB bA bz bw bv bu bt bs bq bp bo bn:Value} {ds:List Deferred}:NtT h0 h1 h2 h3 h4 h5 h6 h7 h8 h9 aZ ds {tmps:=#[h0,h1,h2,h3,h4,h5,h6,h7,h8,h9,aZ,ce,cd,cc,cb,ca,b9,b8,b7,b6,b5,b4,b3,b2,b1,bZ,bY,bX,bW,bV,bU,bT,bS,bR,bQ,bP,bO,bN,bM,bL,bK,bJ,bI,bH,bG,bF,bE,bD,bC,bB,bA,bz,bw,bv,bu,bt,bs,bq,bp,bo,bn],defers:=ds}:=⟨λ i=>(#[ce,cd,cc,cb,ca,b9,b8,b7,b6,b5,b4,b3,b2,b1,bZ,bY,bX,bW,bV,bU,bT,bS,bR,bQ,bP,bO,bN,bM,bL,bK,bJ,bI,bH,bG,bF,bE,bD,bC,bB,bA,bz,bw,bv,bu,bt,bs,bq,bp,bo,bn]:Array Value).getD (#[0,0,0,0,0,0,0,0,0,0,0,0,1,2,3,4,5,6,7,8,9,10,11,12,13,14,15,16,17,18,19,20,21,22,23,24,25,26,27,28,29,30,31,32,33,34,35,36,37,38,39,40,41,42,43,44,45,46,47,48,49].getD i 0) undef,rfl⟩
theorem yu5 (a:Option Addr) (cap:Nat) (l:List Cl) (n:Int) (w:World) (hl:l.length<=9223372036854775807) (cm:l.length<=cap) (hs:Sl w a (cls l)) (cl:a=N->cap=0) (ck:∀c∈l,c.Ok) (dh:n<=9223372036854775807) (hT:Tab w) :
  H I 21 #[Xs a l.length cap,E T n] w λ e w'=>e=Q (Xt #[E T (yi0 l n).1,E T (yi0 l n).2])/\Bw w w':=by
 obtain ⟨W1,aq⟩:=zx (((w.alloc (J #[E T n] 2)).alloc (J #[E T 0] 2)).alloc (J #[E T 0] 29));have aY:Bw w W1:=by rw [<- aq];exact yaa (yaa (yaa (Ye _ _) zg) zs) (by simp;omega)
 have s1:W1.heap.size=w.heap.size+3:=by rw [<- aq];simp
 have cy:yoZ (w.heap.size+1) 0 0 (λ b=>b=w.heap.size\/ b=w.heap.size+1\/ b=w.heap.size+1+1) W1:=by
  refine ⟨?_,?_,?_,?_, .inr (.inl rfl), .inr (.inr rfl),λ c hc=>by omega⟩ <;> (rw [<- aq];simp [go_sem])
 have k3:W1.cell? (Z w.heap.size 0 N)=G (E T n):=by rw [<- aq];simp [go_sem]
 have z3:W1.frozen? (Z w.heap.size 0 N)=false:=by rw [<- aq];simp [go_sem]
 have cN:=hid (yeh a cap l W1 hl cm (hs.below aY) cl ck (hT.later aY));have hP:Hid (yi0 l n=if yag l≠0 then (0,yag l) else if n<1 then (0,1) else if n<=(yhm l).length then ((yhm l).getD (n.toNat-1) 0,0) else (0,15)):=by show _ = _;rw [yi0]
 obtain ⟨pr,ad⟩:=zx (yi0 l n);rw [ad] at hP⊢;have cL:=hid aY;have c3:=hid aq;have S1:=hid s1;have C1:=hid cy;have cB:Hid (0<w.heap.size):=hT.1;clear aq aY hs ck hT s1 cl cm ad cy;refine (wf_calls (r:=N) (n:=1)).mp ?_;refine callsIn_of_wp_marks Tryz.func21 rfl trivial ?_ rfl;simp only [Tryz.ntmps21,Yp,Yu,YS,Nat.reduceAdd,Nat.reduceSub,YE,YD,YQ,YJ,Y0,YH];gi_wp2_with fail
 rw [c3];refine (wf_calls.mpr cN).mono ?_;rintro e w2 ⟨hN,al⟩;have ah:=hid (zu cL al);have S2:Hid (w.heap.size+3<=w2.heap.size):=by have:=al.size;have:=S1.out;show _<=_;omega
 have C2:Hid (yoZ (w.heap.size+1) 0 0 (λ b=>b=w.heap.size\/ b=w.heap.size+1\/ b=w.heap.size+1+1) w2):=C1.keep al.size (λ c hc=>al.block c (C1.lt c hc));have z32:=(al.frozen (p:=Z w.heap.size 0 N) (by have:=S1.out;simp only [];omega)).trans z3;have a1:=(al.cell (p:=Z w.heap.size 0 N) (by have:=S1.out;simp only [];omega)).trans k3;clear z3 k3;rcases hN with ⟨hf,rfl⟩ | ⟨hf,br,bk,bps,rfl,hR,hM⟩
 ·have ad:Hid (pr= (0,yag l)):=by show _ = _;rw [hP,Yd hf]
  have ak:Hid (Bw w ((w2.setCell (Z (w.heap.size+1) 0 N) (E T 0)).setCell ⟨w.heap.size+1+1,0,N⟩ (E T (yag l)))):=yab (yab ah zo) zo;obtain ⟨X,hX⟩:=zx (yag l);rw [hX] at hf ad ak⊢;have HX:=hid (C2.set (x':=0) (y':=X));obtain ⟨c4,c5,f4,f5,-,-,-⟩:=C2.out;have dq:(X==0)=false:=by simpa using hf
  have bc:(X != 0)=true:=by simpa using hf
  clear al hX hP z32 a1;gi_wp2
  obtain ⟨d4,d5,-,-,-,-,-⟩:=HX.out;refine ⟨_,?_,by rw [ad],ak⟩;simp [results,Tryz.results21,go_sem,d4,d5]
 ·have Hf:=hid hf;have HR:=hid hR;have HM:=hid hM;have cw:=hid hP.out;clear al hR hM hf hP;by_cases h1:n<1
  ·have e1:decide (n<1)=true:=zzZ h1;have ad:Hid (pr= (0,1)):=(by show _ = _;rw [cw,Yb (by rw [Hf];simp),Yd h1]);have ak:Hid (Bw w ((w2.setCell (Z (w.heap.size+1) 0 N) (E T 0)).setCell ⟨w.heap.size+1+1,0,N⟩ (E T 1))):=yab (yab ah zo) zo;have HX:=hid (C2.set (x':=0) (y':=1));obtain ⟨c4,c5,f4,f5,-,-,-⟩:=C2.out;clear h1;gi_wp2
   obtain ⟨d4,d5,-,-,-,-,-⟩:=HX.out;refine ⟨_,?_,by rw [ad],ak⟩;simp [results,Tryz.results21,go_sem,d4,d5]
  ·have e1:decide (n<1)=false:=zzd h1;have n1:1<=n:=zo;clear h1;have cC:=hid (ymn w2);gi_wp2_with fail
   refine (wf_calls.mpr cC).mono ?_;rintro e w3 ⟨rfl,ai⟩;obtain ⟨cf,aS⟩:=zx w3.heap.size;obtain ⟨w4,af⟩:=zx (w3.alloc (J #[yAA w2.heap.size] 113));have s3:cf=w2.heap.size+2:=(by rw [<- aS,ai];simp);have s4:w4.heap.size=w2.heap.size+3:=(by rw [<- af,ai];simp);have B4:Bw w2 w4:=(by rw [<- af,ai];exact yaa (yaa (yaa (Ye _ _) zg) zs) (by simp;omega));have cu:NtC w.heap.size w2.heap.size cf n 0 0 N 0 (λ b=>b=w.heap.size\/ b=w.heap.size+1\/ b=w.heap.size+1+1\/ b=w2.heap.size\/ b=w2.heap.size+1\/ b=cf) w4:=by
    have df:=S2.out;obtain ⟨c4,c5,f4,f5,-,-,-⟩:=C2.out;refine ⟨(B4.cell (p:=Z w.heap.size 0 N) (by simp only [];omega)).trans a1,(B4.frozen (p:=Z w.heap.size 0 N) (by simp only [];omega)).trans z32,
     ⟨(B4.cell (p:=Z (w.heap.size+1) 0 N) (by simp only [];omega)).trans c4,(B4.cell (p:=⟨w.heap.size+1+1,0,N⟩) (by simp only [];omega)).trans c5,(B4.frozen (p:=Z (w.heap.size+1) 0 N) (by simp only [];omega)).trans f4,(B4.frozen (p:=⟨w.heap.size+1+1,0,N⟩) (by simp only [];omega)).trans f5, .inr (.inl rfl), .inr (.inr (.inl rfl)),λ b hb=>by omega⟩,
     ⟨?_,?_,?_,?_,by omega⟩,?_, .inl rfl, .inr (.inr (.inr (.inl rfl))), .inr (.inr (.inr (.inr (.inl rfl)))), .inr (.inr (.inr (.inr (.inr rfl)))),by omega,by omega⟩
    ·rw [<- af,ai];simp [go_sem,yby]
    ·rw [<- af,ai];simp [go_sem]
    ·rw [<- af,ai];simp [go_sem]
    ·rw [<- af,ai];simp [go_sem]
    ·rw [<- af,<- aS];simp [go_sem]
   have c6:Hid (yar w4 l br bk bps (yel W1 w2) (λ _=>false) 0):=HR.keep B4.size (λ b hb=>B4.block b (by have:=S2.out;have:=cB.out;rcases hb with hb | hb <;> omega));have cF:=hid cu;have cK:=hid (zu ah B4);have S4:=hid s4;have S3:=hid s3;have cZ:=hid af;have c2:=hid aS;have cH:=cw;clear B4 cu s4 af aS s3 ai cC z32 a1;obtain ⟨c0,cq⟩:=zx w2.heap.size;have bm:=hid cq;clear cq;gi_wp2_with fail
   rw [c2,show w3.alloc (J #[Xf (.func 113) #[] #[R (G (Z w2.heap.size 0 N)),R (G (Z (w2.heap.size+1) 0 N))]] 113)=w4 from cZ];have cA:=hid (ye5 0 146096 c6 (ymi 0) (zG 0));have aw:=yjs l (f:=0) (t:=146096) zo zo;have ae:=ye2 l 0 146096;obtain ⟨X1,bc⟩:=zx (ynO l 0);obtain ⟨X2,aI⟩:=zx (ynN l 146096);rw [bc,aI] at cA aw ae;have tl:=ye4 (cs:=l) (br:=br) (bk:=bk) (bps:=bps) ymi (w4.heap.size+1) (w4.heap.size+2) w4.heap.size X1 X2 aw.1 aw.2.1 aw.2.2.1 aw.2.2.2
    (λ j n ws m dc m' hn hi hs=>yeP hi hs) (λ j ws m hi hj=>by rw [ybc] at hj;rw [ymi] at hi;omega)
   rw [ae] at tl;obtain ⟨L,hL⟩:=zx ((yaf X1 X2).length);rw [hL] at tl;have TL:=hid tl;clear aw ae tl hL bc aI;refine (wf_calls.mpr cA).mono ?_;rintro e w5 ⟨rfl,aX,cT,cx⟩;have az:=hid (zu cK aX);have C5:=hid (cF.keep aX.size (λ c hc=>aX.block c (cF.two.lt c hc)));have c8:=hid cx;have cI:Hid (∀b,F3 (yel W1 w2) w4.heap.size b->¬(b=w.heap.size\/ b=w.heap.size+1\/ b=w.heap.size+1+1\/ b=w2.heap.size\/ b=w2.heap.size+1\/ b=cf)):=λ b hb h=>by
    have:=S2.out;have:=S4.out;have:=S3.out;have:=S1.out;have:=cB.out;rcases hb with hb | hb
    ·rcases hb with hb | hb <;> omega
    ·omega
   clear aX cx cA cT;rw [bm] at C5 cI;have cE:=hid (show w.heap.size+3<=c0 by rw [<- bm];exact S2);have cD:=hid (show cf=c0+2 by rw [<- bm];exact S3);have cz:=hid (show W1.heap.size=w.heap.size+3 from S1);gi_wp2_with fail
   refine ybr (F:=F3 (yel W1 w2) w4.heap.size) (M:=RM br bk bps) (gf:=85) (lb:=#[R (G (Z (w4.heap.size+1) 0 N)),R (G (Z (w4.heap.size+2) 0 N)),R (G (Z w4.heap.size 0 N))]) rfl yb6 (λ b=>b=w.heap.size\/ b=w.heap.size+1\/ b=w.heap.size+1+1\/ b=c0\/ b=c0+1\/ b=cf)
    (λ k vs F W h=>by obtain ⟨_,_,_,_,_,rfl,_⟩:=h;rfl) TL HA.host HA.host HA.hostE c8 cI
    (NtI l (RM br bk bps) w.heap.size c0 cf n) (NtX l w.heap.size n) (yi1 _ _ _ _ _ _) (ytL _ _ _ _) (yvF _ _ _ _ _ _) (yyu _ _ _) ⟨by rw [ykr];omega,N,0,by rw [ykr];simpa using C5.out,Knows.none⟩
    (λ k O F a' W=>NtI l (RM br bk bps) w.heap.size c0 cf n k O F W/\∃bx D d,(yaP l (yaf 0 146096))[k]? =G D/\SkD l (RM br bk bps) D d bx O F W/\NtT (Xs a l.length cap) (E T n) undef (R (G (Z w.heap.size 0 N))) (R (G (Z (w.heap.size+1) 0 N))) (R (G ⟨w.heap.size+1+1,0,N⟩)) (R (G (Z br 0 N))) (E T 0) (R (G (Z cf 0 N))) (R (G (Z bx 0 N))) (R (G (Z d 0 N))) [] a')
    ?putl ?assign ?body ?done ?stop
   case putl=>
    rintro l' o k O F a' W hr cQ au ⟨h1,bx,D,d,h3,h4,h5⟩;have ko:∀b,O b\/ (F b/\¬RM br bk bps b)->(W.putObj l' o).heap[b]? =W.heap[b]?:=λ b hb=>Yc (λ e=>hb.elim (λ h=>cQ (e ▸ h)) (λ h=>au (e ▸ h.1)));exact ⟨yi1 _ (RM br bk bps) _ _ _ _ k O F F W _ h1 (by rw [Yg];exact zG _) zi ko,bx,D,d,h3,h4.put hr au,h5⟩
   case assign=>
    rintro l' k O6 F6 W6 vs K hk aJ aU ⟨D,d,hn,h0,h1,rfl,hd,ht,hlt⟩ aL hK;rw [<- ya6];obtain ⟨s,hs⟩:=zx (shF D);rw [hs,shq];have Hs:=hid hs;have HP:=hid (Ya aJ (Ya aU (Ya hn (Ya hd (Ya ht (Ya hlt aL))))));clear hs aJ aU hn hd ht hlt aL h0 h1;gi_wp2
    obtain ⟨aJ,aU,hn,hd,ht,hlt,aL⟩:=HP.out;have ab:=yaa (o:=J (ybf s).toArray 83) (Ye W6.heap.size W6) zg;have cp:=yvF _ _ _ _ _ _ _ _ _ _ aJ;refine hK _ O6 _ (yaK.of_below ab) ⟨yi1 _ (RM br bk bps) _ _ _ _ _ O6 F6 F6 W6 _ aJ ab.size zi (λ b hb=>ab.block b (hb.elim (cp b) (λ h=>hlt b h.1))),W6.heap.size,D,d,hn,
     ⟨λ b hb=>(aU b hb).1,⟨hd.1,hd.2.1,hd.2.2.block ab.size (ab.block d (hlt d hd.1))⟩,⟨ht.1.later ab,ht.2.1⟩,λ b hb=>zH (hlt b hb) ab.size,by simp,⟨λ h=>by have:=cp _ h;omega,λ h=>by have:=hlt _ h;omega⟩,by rw [Hs];exact ycF W6 83 _ _ _ _ _ _ _ _ _ _⟩,NtT.of⟩
   case done=>
    rintro O9 F9 w9 aK bd be bf ar ⟨aD,c9,m9,hI,-⟩ hD ao au;rw [ywx] at aD;have ad:Hid (pr= (0,15)):=by
     show _ = _;rw [cH,Yb (by rw [Hf];simp),Yb zo,Yb zo]
    have aT:=hI.two;have HX:=hid (aT.set (x':=0) (y':=15));have db:Hid (Bw w w9):=az.trans (aK.eff.below (λ b hb=>by
     have:=cE.out;have:=cD.out;rcases hb with (h | h | h | h | h | h) | h
     ·omega
     ·omega
     ·omega
     ·omega
     ·omega
     ·omega
     ·have:=HM b h;have:=cz.out;omega) az.size)
    have da:Hid (((w9.setCell (Z (w.heap.size+1) 0 N) (E T 0)).setCell ⟨w.heap.size+1+1,0,N⟩ (E T 15)).heap[w5.heap.size]? =G (.deferred (G []))):=by
     show _ = _;rw [Ym _ _ _ _ (λ e=>ao (by rw [e];exact aT.o5)),Ym _ _ _ _ (λ e=>ao (by rw [e];exact aT.o4))];exact hD
    have c7:=hid ao;obtain ⟨c4,c5,f4,f5,-,-,-⟩:=aT;clear aK bd be bf ar ao au hD aD hI;gi_wp2
    refine ⟨by simp, .inl ⟨_,_,rfl,YM da,?_⟩⟩;have ak:=yaD (yab (yab db zo) zo:Bw w ((w9.setCell (Z (w.heap.size+1) 0 N) (E T 0)).setCell ⟨w.heap.size+1+1,0,N⟩ (E T 15))) az.size (.deferred N);have aI:=HX.keep (W':=((w9.setCell (Z (w.heap.size+1) 0 N) (E T 0)).setCell ⟨w.heap.size+1+1,0,N⟩ (E T 15)).putObj w5.heap.size (.deferred N)) (by rw [Yg];exact zG _) (λ b hb=>Yc (λ e=>c7 (e ▸ hb)));refine ⟨Xt #[E T 0,E T 15],?_,by rw [ad],ak⟩;obtain ⟨WF,ct⟩:=zx (((w9.setCell (Z (w.heap.size+1) 0 N) (E T 0)).setCell ⟨w.heap.size+1+1,0,N⟩ (E T 15)).putObj w5.heap.size (.deferred N));rw [ct] at aI;obtain ⟨c4,c5,-,-,-,-,-⟩:=aI;rw [ct];simp [results,Tryz.results21,go_sem,c4,c5]
   case stop=>
    rintro c k O9 F9 w9 dm dl aK bd be bf ar ⟨rfl,x,⟨cg,hx⟩,hX⟩ hD ao au;have cr:yoZ (w.heap.size+1) x 0 O9 (w9.putObj w5.heap.size (.deferred N)):=hX.keep (by rw [Yg];exact zG _) (λ b hb=>Yc (λ e=>ao (e ▸ hb)));have ak:Hid (Bw w (w9.putObj w5.heap.size (.deferred N))):=yaD (az.trans (aK.eff.below (λ b hb=>by
     have:=cE.out;have:=cD.out;rcases hb with (h | h | h | h | h | h) | h
     ·omega
     ·omega
     ·omega
     ·omega
     ·omega
     ·omega
     ·have:=HM b h;have:=cz.out;omega) az.size)) az.size _
    have HD:=hid hD;have HX:=hid cr;have ad:Hid (pr= (x,0)):=by
     show _ = _;obtain ⟨hi,dp⟩:=zzq.1 hx;rw [cH,Yb (by rw [Hf];simp),Yb zo,Yd zo,Yz,hx];rfl
    clear hX aK hD cr bd be bf ar ao au hx;gi_wp2
    refine ⟨by simp, .inl ⟨_,_,rfl,YM HD,?_⟩⟩;obtain ⟨c4,c5,-,-,-,-,-⟩:=HX.out;refine ⟨Xt #[E T x,E T 0],?_,by rw [ad],ak⟩;simp [results,Tryz.results21,go_sem,c4,c5]
   case body=>
    rintro l3 k O6 F6 a' W6 hk aL dk cj cP cR ⟨⟨a6,c,m,aO,cv⟩,bx,D,d,en,hD,V,rfl⟩;have aC:=YN en;rw [yaP,Y5,ybG] at aC;obtain ⟨⟨D0,D1⟩,-⟩:=aC;have cC:=hid (yxG c0 d (yay l D) c m W6 aO.k (λ x hx=>(cv x hx).2.2) hD.di.2.2);have ag:=ytK en D0 zo;have ap:∀p (hp:p<(yal (yay l D)).length),(yhm l)[yil l 0 12622780799 (yaP l (yaf 0 146096)) k+p]? =G (86400*D+(yal (yay l D))[p]):=λ p hp=>yww (n:=0) en hp D0 zo;obtain ⟨r,hr⟩:=zx (n-((yil l 0 12622780799 (yaP l (yaf 0 146096)) k:Nat):Int));obtain ⟨q,hq⟩:=zx (yay l D);have r1:1<=r:=zo;have r2:r<=9223372036854775807:=zo;have cS:=ygh q;obtain ⟨s,hs⟩:=zx (shF D);have cO:s 0=D:=(by rw [<- hs];rfl);rw [hr] at aO;rw [hq] at cC ag ap;have co:W6.cell? (Z cf 0 N)=G (Xf (.func 113) #[] #[R (G (Z c0 0 N)),R (G (Z (c0+1) 0 N))]):=aO.co;have am:=hid aO;have aa:=hid hD;have bi:=hid ap;have bl:=hid ag;have Hr:=hid hr;have Hq:=hid hq;have Hs:=hid hs;have En:=hid en;obtain ⟨Nq,hN⟩:=zx ((yal q).length);rw [hN] at cC ag cS;have HN:=hid hN;clear aL hs hD hk en aO cv ap ag hr hq a6 hN;gi_wp2_with fail
    refine (wf_calls.mpr cC).mono ?_;rintro e w7 ⟨rfl,aW,a7⟩;have aN:=am.cnt aW a7;have ac:Eff O6 W6 w7:=aW.wide (λ b hb=>by rcases hb with rfl | rfl;exact am.p0;exact am.p1);have aH:DiscAt w7 d q:=by
     have:=aa.di.2.2.eff ac (aa.dj d aa.di.1);rw [Hq] at this;exact this
    have aR:Tab w7:=aa.tab.1.eff ac (aa.dj _ aa.tab.2);have an:ShS w7 bx s:=by
     have:=ydl aa.sh (ac.block bx aa.lx aa.nx.1);rw [Hs] at this;exact this
    have cY:=aN.cn;have cW:=aN.fn;have cJ:=hid aN;have aQ:=hid ac;by_cases hm:(Nq:Int)<r
    ·have e2:decide ((Nq:Int)<r)=true:=zzZ hm;have cV:Hid (NtI l (RM br bk bps) w.heap.size c0 cf n (k+1) O6 F6 (w7.setCell (Z w.heap.size 0 N) (E T (r-(Nq:Int))))):=by
      have h1:=bl.out;have h2:=Hr.out;refine ⟨by rw [h1,HN];omega,G d,Nq,?_,λ x hx=>?_⟩
      ·rw [h1,HN,show n-((yil l 0 12622780799 (yaP l (yaf 0 146096)) k+Nq:Nat):Int)=r-Nq by omega];exact cJ.put
      ·cases hx;exact ⟨aa.di.1,aa.di.2.1,q,DiscAt.block aH zs (Ym _ _ _ _ (λ e=>aa.dj d aa.di.1 (e ▸ am.o0))),by rw [HN]⟩
     have aV:Hid (Eff O6 W6 (w7.setCell (Z w.heap.size 0 N) (E T (r-(Nq:Int))))):=aQ.set am.o0 _ _;clear aN aW a7 ac aH aR an hm co cC;gi_wp2
     exact ⟨O6,⟨λ _ h=>h,λ _ h=> .inl h,aV⟩,cV⟩
    ·have e2:decide ((Nq:Int)<r)=false:=zzd hm;have dg:r<=Nq:=zo;have cX:=hid (λ (x:Int) W h1 h2 hT hd=>yiB (G d) q x W h1 h2 hT hd);have c1:=hid (cX 0 w7 zo zo aR aH);have cG:Hid (NtL l (RM br bk bps) d bx D w.heap.size c0 cf r O6 F6 W6 0 w7):=
      ⟨⟨G d,Nq,by rw [show r-((0:Nat):Int)=r by omega];exact cJ⟩,aQ,by rw [Hq];exact aH,aR,by rw [Hs];exact an⟩
     clear aN aW a7 ac aH aR an hm co cC;gi_wp2_with fail
     refine (wf_calls.mpr c1).mono ?_;rintro e w8 ⟨⟨a8,de,rfl,bg⟩,ci⟩;rw [<- ci];have ch:Hid ((yal q)[0]? =G a8):=by
      have h0:0<(yal q).length:=(by rw [HN];omega);have:=(yii h0 bg).1;show _ = _;rw [zzp h0,this]
     have bb:0<=a8/\a8<86400:=by
      have h0:0<(yal q).length:=(by rw [HN];omega);have h1:=(yii h0 bg).1;have h2:=zzr h0;rw [<- h1,yal,sel_mem] at h2;obtain ⟨k2,h3,-,h4⟩:=h2;omega
     clear bg ci c1 cY cW;gi_wp2_with fail
     gi_loopw [12] (λ av wr=>∃(j:Nat) (x:Int),av=E T x/\0<=x/\x<86400/\(j:Int)<r/\Hid ((yal q)[j]? =G x/\NtL l (RM br bk bps) d bx D w.heap.size c0 cf r O6 F6 W6 j wr)) (λ av _=>(86400-intOf av).toNat)
     case atStart=>exact ⟨0,a8,rfl,bb.1,bb.2,by omega,ch,cG⟩
     case round=>
      clear cG ch bb;obtain ⟨j,x,rfl,x0,x1,hj,HL⟩:=hrel;obtain ⟨⟨c9,m9,ay⟩,bh,ba,a4,a5⟩:=HL.2;have dt:=ay.cn;have dr:=ay.fn;by_cases dn:(j:Int)+1<r
      ·have e3:decide (1<r-(j:Int))=true:=zzZ zo;have c9:=hid (cX (x+1) wr zo zo a4 (by rw [<- Hq];exact ba));clear ay bh ba a4 a5;gi_wp2_with fail
       refine (wf_calls.mpr c9).mono ?_;rintro e dd ⟨⟨aP,a0,rfl,aM⟩,aB⟩;rw [<- aB];have aG:j+1<(yal q).length:=(by rw [HN];omega);have aE:(yal q)[j]? =G x:=HL.1;have aF:j<(yal q).length:=zo;have aA:(yal q)[j]=x:=(by rw [zzp aF] at aE;exact Option.some.inj aE);have aj:FirstOf (λ k=>q k&&decide ((yal q)[j]+1<=(k:Int))) aP a0:=(by rw [aA];exact aM);have hf:=(yoK aG aj).1;have cg:Hid ((yal q)[j+1]? =G aP):=by
        show _ = _;rw [zzp aG,hf]
       have a3:x<aP/\aP<86400:=by
        have hp:(yal q).Pairwise (·< ·):=yaM _ _;have h1:=(yoa hp aF aG).2 zo;have h2:=zzr aG;rw [<- hf] at h2 h1;rw [yal,sel_mem] at h2;obtain ⟨k2,h3,-,h4⟩:=h2;rw [aA] at h1;omega
       have cM:=a3.1;have a2:=a3.2;have bj:Hid (d≠w.heap.size/\bx≠w.heap.size/\0≠w.heap.size):=⟨λ e=>aa.dj d aa.di.1 (e ▸ am.o0),λ e=>aa.nx.1 (e ▸ am.o0),λ e=>aa.dj _ aa.tab.2 (e ▸ am.o0)⟩;have cU:((j+1:Nat):Int)<r:=zo;clear aM aj hf aA aE aG a3 aB c9 aF;gi_wp2
       refine ⟨⟨j+1,aP,rfl,by omega,a2,cU,cg,HL.2.put bj.1 bj.2.1 bj.2.2 zo⟩,by simp [intOf];omega⟩
      ·have e3:decide (1<r-(j:Int))=false:=zzd zo;have a9:Hid ((1<=n/\(yhm l)[n.toNat-1]? =G (86400*D+x))/\yoZ (w.heap.size+1) 0 0 O6 wr/\Eff O6 W6 wr):=by
        have aE:(yal q)[j]? =G x:=HL.1;obtain ⟨aF,aA⟩:=zzq.1 aE;have h1:=bi j aF;have h2:=Hr.out;refine ⟨⟨n1,?_⟩,ay.two,bh⟩;rw [show n.toNat-1=yil l 0 12622780799 (yaP l (yaf 0 146096)) k+j by omega,h1,aA]
       rw [Hs] at a5;obtain ⟨s0,-⟩:=a5;rw [cO] at s0;obtain ⟨g4,g5,z4,z5,-,-,-⟩:=ay.two;clear ay bh ba a4 HL;gi_wp2
       obtain ⟨hy,ax,aV⟩:=a9.out;first
        | exact ⟨O6,⟨λ _ h=>h,λ _ h=> .inl h,(aV.set ax.o4 _ _).set ax.o5 _ _⟩,rfl,_,hy,ax.set⟩
        | (rw [Int.mul_comm] at hy;exact ⟨O6,⟨λ _ h=>h,λ _ h=> .inl h,(aV.set ax.o4 _ _).set ax.o5 _ _⟩,rfl,_,hy,ax.set⟩)
end
theorem yma (r:Ru) (w:World) (hr:RuS w r) (hm:r.Sm 1000000) (hn:r.Num) (hT:Tab w):H I 9 #[ruv r] w λ e w'=>yAo w r e w'/\Bw w w':=
 yiv r w hr hm hn λ _ hE g W hB hs=>yu5 (G (Z g 0 N)) 1 [ydA r] r.co W zs zs hs (λ h=>by cases h) (by simpa using yqN hn) hn.co.2 (hT.later hB)
section
attribute [local irreducible] yal
attribute [local go_sem ↓] ya4 ya0
theorem ygc (r:Ru) (w:World) (hr:RuS w r) (hm:r.Sm 281474976710656) (hn:r.Num) (hT:Tab w):H I 3 #[ruv r] w λ e w'=>e=Q (Xb true)/\Bw w w':=by
 have aj:Bw w (w.alloc (J (yad r).toArray 25)):=yaa (Ye _ _) zg;have ad:=ybh w r 25;have s0:w.heap.size<(w.alloc (J (yad r).toArray 25)).heap.size:=by simp
 obtain ⟨W0,ai⟩:=zx (w.alloc (J (yad r).toArray 25));rw [ai] at aj ad s0;obtain ⟨b1,ak⟩:=zx w.heap.size;rw [ak] at ad s0;have cG:=hid (λ W=>yl8 r W hm);have cV:=hid (λ W (hB:Bw w W)=>yf1 W (hT.later hB));have H0:=hid aj;have ae:=hid ad;have aq:=hid ai;have E1:=hid ak;clear aj ad s0 ai ak;by_cases hg:yhc r=true
 ·rw [hg] at cG;clear hg hr hm hn hT;go_enter Tryz.func3,Tryz.ntmps3
  go_upto_region 1 with fail
  rw [aq,E1];have ld:=ae.ldw;go_wp2_with fail
  refine zm (cG _) ?_;rintro w1 hB;have H1:=hid (zu H0 hB);have ar:=hid (ae.later hB);clear hB ld;go_wp2_with fail
  refine zm (cV _ H1) ?_;rintro wz hB;have HF:=hid (zu H1 hB);clear hB;go_wp2;go_ret;exact ⟨rfl,HF⟩
 have ag:yhc r=false:=by simpa using hg
 rw [ag] at cG;have m0:=yt7 ag;have sm:r.Sm 1000000:=m0.up zd;have cF:=hid (λ W (hB:Bw w W)=>yma r W (hr.below hB) sm hn (hT.later hB));have cR:=hid (λ g W (hB:Bw w W) hg h0=>yfE (G (Z g 0 N)) 1 [ycJ r] W zs zs hg (λ h=>by cases h) (yj5 hn h0) (hT.later hB));have cL:=hid (λ r W (hB:Bw w W) hr hm hn hz=>ygn r W hr hm hn hz);have cE:=hid (λ g g2 x W (hB:Bw w W) hg h0 ac ab hG=>yfv (G (Z g 0 N)) 1 [ycJ r] g2 x W zs zs hg (λ h=>by cases h) (yj5 hn h0) (ycx (ybF h0)) ac ab hG (hT.later hB));clear hg ag m0 hr hm hn hT sm;go_enter Tryz.func3,Tryz.ntmps3
 go_upto_region 1 with fail
 rw [aq,E1];have ld:=ae.ldw;go_wp2_with fail
 refine zm (cG _) ?_;rintro w1 hB;have H1:=hid (zu H0 hB);have ar:=hid (ae.later hB);clear hB ld;have ld:=ar.ldw;go_wp2_with fail
 refine (cF _ H1).mono ?_;rintro e w2 ⟨hL,hB⟩;have H2:=hid (zu H1 hB);clear hB ld cF;rcases hL with ⟨h0,rfl⟩ | ⟨h0,g,rfl,-,af⟩
 ·generalize hc:ydw r=c at h0⊢
  have q:(c != 0)=true:=by simpa using h0
  clear hc h0;go_wp2_with fail
  refine zm (cV _ H2) ?_;rintro wz hB;have HF:=hid (zu H2 hB);clear hB;go_wp2;go_ret;exact ⟨rfl,HF⟩
 have am:=hid (cR g w2 H2 af h0);have ao:=hid af;have Hl:=hid h0;clear af h0 cR;go_wp2_with fail
 refine am.mono ?_;rintro e w3 ⟨hx,hB⟩;obtain ⟨x,rfl,aa,ab,al,hG⟩:=yh3 Hl hx;have H3:=hid (zu H2 hB);have aw:=hid (ao.below hB);have HG:=hid hG;have ap:=hid ab;have ay:=hid al;clear hB hx hG ab al ao am;obtain ⟨st,hR,hb,hz⟩:=ycH w3 x;obtain ⟨w4,hn⟩:=zx ((w3.alloc (J zl0 25)).setCells w3.heap.size 0 (yad x));rw [hn] at st hR hb hz;obtain ⟨bx,ah⟩:=zx w3.heap.size;have H4:=hid (zu H3 hb);have HX:=hid hR;rw [ah] at st HX;have aa:=aa.below hb;have ax:=hid aa;have av:=hid (aw.below hb);have az:=hid ah;clear hR hb hz hn ah aa;go_upto_region 7 with (rw [az])
 clear st;have ld:=HX.ld;have an:=hid (cL x w4 H4 ax ay.mil ap HG.co HG.e);clear cL;go_wp2_with fail
 refine an.mono ?_;rintro e w5 ⟨⟨g2,rfl,ac⟩,hB⟩;have H5:=hid (zu H4 hB);have au:=hid (cE g g2 x w5 H5 (av.below hB) Hl ac ap HG);have k3:=(HX.c.later hB).at 3 rfl;rw [HG.co] at k3;clear hB ac ld cE an;go_wp2_with fail
 refine zm au ?_;rintro w6 hB;have H6:=hid (zu H5 hB);clear hB k3;have hv:=ygB w6 35;have hb:Bw w6 (w6.alloc (J #[Xb true,E T 0,Xb false] 35)):=yaa (Ye _ _) zg;go_upto_region 11 with fail
 generalize hw:w6.alloc (J #[Xb true,E T 0,Xb false] 35)=w7 at hv hb⊢
 have HY:=hid (zu H6 hb);clear hw hb;go_wp2_with fail
 refine zm (cV _ HY) ?_;rintro wz hB;have HF:=hid (zu HY hB);clear hB;go_wp2;go_ret;exact ⟨rfl,HF⟩
end
