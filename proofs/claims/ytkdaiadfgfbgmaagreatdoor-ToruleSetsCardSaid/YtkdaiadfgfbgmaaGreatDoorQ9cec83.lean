/- What torule.Raise answers (plain). -/
import Derived.Test.YtkdaiadfgfbgmaaGreatDoorQ57e17d
set_option maxRecDepth 100000
set_option maxHeartbeats 25600000
set_option linter.unusedSimpArgs false
open Option renaming none -> N, some -> G
open Go.Value renaming int -> E, pointer -> R, slice -> Xs, bool -> Xb, func -> Xf, tuple -> Xt
open Go.IntKind renaming i64 -> T, u64 -> Y
open Go.Addr renaming mk -> Z
open Go renaming Calls -> H
open Go.Proofs.Tryz renaming prog -> I
open Go.Obj renaming cells -> J
open Go.Ending renaming returned -> Q
namespace Go.Proofs.YtkdaiadfgfbgmaaGreatDoor
open Go.RowKit Go.Maps
set_option linter.unusedVariables false
section
attribute [local irreducible] yal
variable {ev sq:Bool} {e:Ending} {fi la:Int} {l:List Cl} {u:Nat->Nat} {w w':World}
section
variable {l:List Cl} {u:Nat->Nat} {fi la n:Int} {ev sq:Bool} {g:Nat->Int}
theorem yzg {q:Nat} {c:Ru} (h5:mkN (u 3)≠ []) (hq:q<7) (h:c∈ofL u fi la g q):∃aa neg how,yvj q aa how/\c=cnd u fi la g q aa neg how:=by
 have e0:decide ((mkN (u 3)).length=0)=false:=zzd λ e=>h5 (YB e);have ab:∀hows:List Int,(∀x∈hows,(x=0\/ x=1\/ x=2)/\(x≠0->q=5\/ q=6))->q≠4->c∈ya9 u (ybX u fi la g q) hows->∃aa neg how,yvj q aa how/\c=cnd u fi la g q aa neg how:=λ hows hh h4 h=>by
  rw [ya9,YC,YA,YA] at h;have e:∀ds how,ypr u (ybX u fi la g q) ds how= {ybX u fi la g q with l5:=mkN (u 3),l6:=ds,l7:=ydE u how false}:=λ ds how=>by
   rw [ypr,show (ybX u fi la g q).l5=mkN (u 3) from rfl,e0]
  rcases h with ⟨x,hx,rfl⟩ | ⟨x,hx,rfl⟩
  ·exact ⟨false,false,x,⟨hq,(hh x hx).1,(hh x hx).2,λ h=>by cases h⟩,by rw [e,cnd,Yb h4] <;> rfl⟩
  ·exact ⟨false,true,x,⟨hq,(hh x hx).1,(hh x hx).2,λ h=>by cases h⟩,by rw [e,cnd,Yb h4] <;> rfl⟩
 have w3:q=5\/ q=6->∀x∈ [(0:Int),1,2],(x=0\/ x=1\/ x=2)/\(x≠0->q=5\/ q=6):=λ h x hx=>⟨by simpa using hx,λ _=>h⟩;rw [ofL] at h;split at h
 ·rename_i h4;rw [Yy] at h;subst h4;exact ⟨false,false,0,⟨hq, .inl rfl,λ h=>(h rfl).elim,λ h=>by cases h⟩,h⟩
 rename_i h4;split at h
 ·rename_i h5;exact ab _ (w3 (.inl h5)) h4 h
 split at h
 ·rename_i h6;rw [YC] at h;rcases h with h | h
  ·exact ab _ (w3 (.inr h6)) h4 h
  ·rw [ya9,YC,YA,YA] at h;rcases h with ⟨x,hx,rfl⟩ | ⟨x,hx,rfl⟩
   ·have ac:x=1\/ x=2:=(by simpa using hx);exact ⟨true,false,x,⟨hq, .inr ac,λ _=> .inr h6,λ _=>⟨h6,by omega⟩⟩,by rw [cnd,Yb h4] <;> rfl⟩
   ·have ac:x=1\/ x=2:=(by simpa using hx);exact ⟨true,true,x,⟨hq, .inr ac,λ _=> .inr h6,λ _=>⟨h6,by omega⟩⟩,by rw [cnd,Yb h4] <;> rfl⟩
 ·exact ab _ (λ x hx=>by rw [Yy] at hx;exact ⟨.inl hx,λ h=>(h hx).elim⟩) h4 h
theorem yzp {x:Ru} (h5:mkN (u 3)≠ []) (h:x∈ykY u fi la g):∃q aa neg how,yvj q aa how/\x=cnd u fi la g q aa neg how:=by
 rw [ykY,Zi] at h;obtain ⟨q,hq,h⟩:=h;rw [yhM,Y5] at h;exact ⟨q,yzg h5 (by simp only [qL,YF,ZF,or_false] at hq;omega) h.1⟩
end
structure yvd (r:Ru) (l:List Cl):Prop where
 e:ydw r=0
 co:r.co=0
 same:∀t,yaj [ycJ r] t=yaj l t
 st:∀t,yaj l t=true->yaj l r.st=true/\r.st<=t
theorem ync:ydw noneU=0:=by kernel_rfl
theorem ywz (t:Int):yaj [ycJ noneU] t=false:=by
 rw [<- ZG,ydn (ybF ync),yca,ycm];rintro ⟨⟨hw,-,⟨m1,m2,-⟩,-⟩,-⟩;have hw:=(ydG t).1 hw;obtain ⟨-,r2,r3,r4,-⟩:=ymJ (n:=t/86400) zo zo;obtain ⟨-,-,-,-,-,d1⟩:=yaO (n:=t/86400) zo zo;have e2:shF (t/86400) 2=2:=by simpa [yeJ,noneU] using m1
 have e3:shF (t/86400) 3=30\/ -shF (t/86400) 4=30:=by simpa [ye1,noneU,zRu] using m2
 change fMo (t/86400)=2 at e2
 change fD (t/86400)=30\/ _ at e3
 have lb:=ycs (fY (t/86400));rw [e2,ycy,Yd rfl] at d1;omega
theorem ykp (h:ycj l u fi la 0 ev sq) (t:Int):yaj l t=false:=by
 rw [<- ZG];intro ht;have:=List.length_pos_of_mem (yk1 ht).2.2.2;have e:(0:Int)= ((ykt l).length:Nat):=h.n;omega
theorem yrz {n:Int} (h:ycj l u fi la n ev sq) (hn:n≠0):∃t,yaj l t=true:=by
 have:=h.n;obtain ⟨D,hD⟩:=List.exists_mem_of_length_pos (l:=ykt l) (by show 0<(yaP _ _).length;omega);obtain ⟨t,ht,-⟩:=ygv.1 hD;exact ⟨t,ht⟩
theorem yzb (r:Ru) (k:Nat) (h:r.co=0):(yc3 r k).co=0:=yfy (P:=λ r=>r.co=0) (λ r h=>h) (λ r h=>h) (λ r h=>h) (λ r h=>h) (λ r h=>h) (λ r h=>h) (λ r h=>h) r k h
theorem yza (a:Int) (r:Ru) (k:Nat) (h:r.st=a):(yc3 r k).st=a:=yfy (P:=λ r=>r.st=a) (λ r h=>h) (λ r h=>h) (λ r h=>h) (λ r h=>h) (λ r h=>h) (λ r h=>h) (λ r h=>h) r k h
theorem ydF:zRu.Num/\zRu.Sm 5000:=⟨⟨by show yax 0;unfold yax;omega,by show yax 0;unfold yax;omega,by show yax 0;unfold yax;omega,by show yax 0;unfold yax;omega,by show yax 0;unfold yax;omega⟩,⟨by simp [zRu],by simp [zRu],by simp [zRu],by simp [zRu],by simp [zRu],by simp [zRu]⟩⟩
theorem ymR (h:ysj l w w' e):∃r Eq1,e=Q (Xt #[ruv r,E T Eq1])/\RuS w' r/\r.Num/\r.Sm 5000/\
  ((yag l≠0/\Eq1=yag l/\r=zRu)\/ (yag l=0/\((Eq1=0/\yvd r l)\/ (Eq1=15/\r=zRu/\∃u fi la n ev sq g,ycj l u fi la n ev sq/\n≠0/\BtP l g/\∀x∈ykY u fi la g,¬ycQ x l)))):=by
 obtain ⟨r,Eq1,he,hs,h⟩:=h;refine ⟨r,Eq1,he,hs,?_⟩;rcases h with ⟨h1,h2,h3⟩ | ⟨h1,u,fi,la,n,ev,sq,hF,⟨h2,h3,h4⟩ | ⟨h2,g,hg,⟨h3,j,x,r',hx,-,hE,hm,hr⟩ | ⟨h3,h4,h5⟩⟩⟩
 ·rw [h3];exact ⟨ydF.1,ydF.2, .inl ⟨h1,h2,rfl⟩⟩
 ·have z:noneU.Num/\noneU.Sm 5000:=⟨⟨by show yax 0;unfold yax;omega,by show yax 6;unfold yax;omega,by show yax 1;unfold yax;omega,by show yax 0;unfold yax;omega,by show yax (-1);unfold yax;omega⟩,⟨by simp [noneU],by simp [noneU],by simp [noneU,zRu],by simp [noneU,zRu],by simp [noneU,zRu],by simp [noneU,zRu]⟩⟩;subst h2;have hl:ycJ r=ycJ noneU:=by rw [h4];rfl
  have hE:ydw r=ydw noneU:=by rw [h4];rfl
  exact ⟨(h4.num ⟨z.1,rfl⟩).1,h4.sm z.2, .inr ⟨h1, .inl ⟨h3,hE.trans ync,by rw [h4];rfl,λ t=>by rw [hl,ywz,ykp hF],λ t ht=>by rw [ykp hF] at ht;cases ht⟩⟩⟩
 ·have ad:=YN hx;have ae:=yrz hF h2;obtain ⟨f1,f2,f3,f4,-⟩:=yeV (how:=0) hF ae;have w1:=yaI f1;have w2:=yaI f2;obtain ⟨n1,n2,n3⟩:=yr1 (fi:=fi) (la:=la) (by unfold yax;omega) (by unfold yax;omega) (λ q hq=>by have:=BtP.bd hg hq;unfold yax;omega) x ad;obtain ⟨q,aa,neg,how,hv,e⟩:=yzp (f4 3 zo) ad;have m':=(hE.mean l).2 hm;obtain ⟨es,-,-,ec,-⟩:=RuE.iff.1 hE;have c0:r.co=0:=by rw [hr];exact yb8 yzb (by rw [ec,e];rfl) 7
  have s0:r.st=fi:=by rw [hr];exact yb8 (yza fi) (by rw [es,e];rfl) 7
  have mr:ycQ r l:=by rw [hr];exact yhY m' 7
  refine ⟨by rw [hr];exact (yb8 ylN (hE.num n1) 7).1,by rw [hr];exact yb8 yrP (hE.sm n3) 7, .inr ⟨h1, .inl ⟨h3,mr.1,c0,yqL mr,λ t ht=>?_⟩⟩⟩;rw [s0];exact ⟨f1,(f3 t ht).1⟩
 ·rw [h4];exact ⟨ydF.1,ydF.2, .inr ⟨h1, .inr ⟨h3,rfl,u,fi,la,n,ev,sq,g,hF,h2,hg,h5⟩⟩⟩
theorem yh3 {Rq:Ru} (hR:ydw Rq=0) (h:ysj [ycJ Rq] w w' e):∃r,e=Q (Xt #[ruv r,E T 0])/\RuS w' r/\r.Num/\r.Sm 5000/\yvd r [ycJ Rq]:=by
 obtain ⟨r,Eq1,he,hs,hn,hm,h⟩:=ymR h;rcases h with ⟨h1,-⟩ | ⟨-,⟨rfl,h3⟩ | ⟨-,-,u,fi,la,n,ev,sq,g,hF,h2,hg,h5⟩⟩
 ·exact absurd (ycx (ybF hR)) h1
 ·exact ⟨r,he,hs,hn,hm,h3⟩
 ·obtain ⟨x,hx,af⟩:=yqe hR hF h2 hg;exact absurd af (h5 x hx)
def liveU:Ru:={zRu with st:=345600,fq:=4,iv:=4,un:=-1}
theorem ydp:ydw liveU=0:=by kernel_rfl
theorem ywM {r:Ru} (h:yvd r [ycJ liveU]):r.st=345600:=by
 have h0:yaj [ycJ liveU] 345600=true:=(ydn (ybF ydp) _).2 ⟨by kernel_rfl,by decide +kernel⟩;obtain ⟨h1,h2⟩:=h.st _ h0;have h3:=(yca.1 ((ydn (ybF ydp) _).1 h1).1).2.1.1;change 345600<=r.st at h3
 omega
theorem yy5 {la lb:List Cl} {y:Bool} {t:Int} {f:Bool} {er:Int} (h:yAj (λ p q=>p != q) la lb y t f er) (ha:yag la=0) (hb:yag lb=0) (hs:∀t,yaj la t=yaj lb t):er=0/\y=true/\t=0/\f=false:=by
 obtain ⟨h1,-,h3⟩:=h;have e:er=0:=by rw [h1,yhe,ha,hb];rfl
 rcases h3 e with ⟨-,k⟩ | ⟨⟨-,-,k,-⟩,-⟩
 ·exact ⟨e,k⟩
 ·rw [hs] at k;dsimp only at k;rw [bne_self_eq_false] at k;cases k
end
section
attribute [local irreducible] yal
attribute [local go_sem ↓] ya4 ya0
theorem Ru.Sm.mil {r:Ru} (h:r.Sm 5000):r.Sm 1000000:=h.up zd
theorem ygn (r:Ru) (w:World) (hr:RuS w r) (hm:r.Sm 1000000) (hn:r.Num) (hz:r.co=0) (h0:ydw r=0):H I 9 #[ruv r] w λ e w'=>(∃g,e=Q (Xt #[Xs (G (Z g 0 N)) 1 1,E T 0])/\Sl w' (G (Z g 0 N)) (cls [ycJ r]))/\Bw w w':=
 (yiw r w hr hm hn hz).mono λ e w' h=>⟨by
   rcases h.1 with ⟨h1,-⟩ | ⟨-,g,h1,-,h2⟩
   ·exact absurd h0 h1
   ·exact ⟨g,h1,h2⟩,h.2⟩
theorem yj5 {r:Ru} (hn:r.Num) (h0:ydw r=0):∀c∈ [ycJ r],c.Ok:=λ c hc=>by
 rw [Yy] at hc;rw [hc];exact ylu hn (ybF h0)
theorem yfv (a:Option Addr) (cap:Nat) (l:List Cl) (g:Nat) (r:Ru) (w:World) (hl:l.length<=1000) (av:l.length<=cap) (hs:Sl w a (cls l)) (au:a=N->cap=0) (ar:∀c∈l,c.Ok) (hf:yag l=0) (hg:Sl w (G (Z g 0 N)) (cls [ycJ r])) (hn:r.Num) (hG:yvd r l) (hT:Tab w) :
  H I 11 #[Xs a l.length cap,Xs (G (Z g 0 N)) 1 1] w λ e w'=>e=Q (Xt #[.agg #[Xb true,E T 0,Xb false],E T 0])/\Bw w w':=
 (yhs a cap l (G (Z g 0 N)) 1 [ycJ r] w hl av hs au ar zs zs hg (λ h=>by cases h) (yj5 hn hG.e) hT).mono λ e w' h=>⟨by
   obtain ⟨y,t,f,er,h1,h2⟩:=h.1;obtain ⟨rfl,rfl,rfl,rfl⟩:=yy5 h2 hf (ycx (ybF hG.e)) λ t=>(hG.same t).symm;exact h1,h.2⟩
theorem yyC (W:World):RuS W liveU:=⟨.inl rfl, .inl rfl, .inl rfl, .inl rfl, .inl rfl, .inl rfl⟩
theorem yyD:liveU.Sm 1000000:=⟨by simp [liveU,zRu],by simp [liveU,zRu],by simp [liveU,zRu],by simp [liveU,zRu],by simp [liveU,zRu],by simp [liveU,zRu]⟩
theorem yqW:liveU.Num:=⟨by show yax 345600;unfold yax;omega,by show yax 4;unfold yax;omega,by show yax 4;unfold yax;omega,by show yax 0;unfold yax;omega,by show yax (-1);unfold yax;omega⟩
theorem ygB (W:World) (Tq:TypeId):(W.alloc (J #[Xb true,E T 0,Xb false] Tq)).cell? (Z W.heap.size 0 N)=G (Xb true):=by simp [go_sem]
theorem yf1 (w:World) (hT:Tab w):H I 8 #[] w λ e w'=>e=Q (Xb true)/\Bw w w':=by
 obtain ⟨st,hR,hB,hs⟩:=ycH w liveU;obtain ⟨w0,ak⟩:=zx ((w.alloc (J zl0 25)).setCells w.heap.size 0 (yad liveU));rw [ak] at st hR hB hs;rw [show ruv liveU= .agg #[E T 345600,E T 4,E T 4,E T 0,E T (-1),Xs N 0 0,Xs N 0 0,Xs N 0 0,Xs N 0 0,Xs N 0 0,Xs N 0 0] from rfl] at st;have ld:=hR.ld;have cL:=hid (ygn liveU w0 (yyC w0) yyD yqW rfl ydp);have cA:=hid (λ W (h:Bw w W)=>hT.later h);have ai:=hid hB;clear hR hB hs ak hT;go_enter Tryz.func8,Tryz.ntmps8
 go_wp2_with fail
 refine cL.mono ?_;rintro e w1 ⟨⟨g,rfl,hg⟩,am⟩;have ah:=hid (zu ai am);have cR:=hid (yfE (G (Z g 0 N)) 1 [ycJ liveU] w1 zs zs hg (λ h=>by cases h) (yj5 yqW ydp) (cA _ ah));have Hg:=hid hg;clear ld st cL am hg ai;go_wp2_with fail
 refine cR.mono ?_;rintro e w2 ⟨hx,af⟩;obtain ⟨r,rfl,hs,hn,hm,hG⟩:=yh3 ydp hx;have aq:=hid (zu ah af);have al:=Hg.below af;obtain ⟨st,hR,ac,hz⟩:=ycH w2 r;obtain ⟨w3,aj⟩:=zx ((w2.alloc (J zl0 25)).setCells w2.heap.size 0 (yad r));rw [aj] at st hR ac hz;obtain ⟨bx,ae⟩:=zx w2.heap.size;have ld:=hR.ld;have ap:=hid (zu aq ac);have cL:=hid (ygn r w3 (hs.below ac) hm.mil hn hG.co hG.e);have Hg:=hid (al.below ac);have HR:=hid hR;have HG:=hid hG;have Hn:=hid hn;have Hz:=hid hz;have an:=hid ae;rw [ae] at ld st;clear hx af al hR ac hz hs hn hm hG aj cR ae;go_upto_region 4 with (rw [an])
 go_wp2_with fail
 refine cL.mono ?_;rintro e w4 ⟨⟨g2,rfl,h4⟩,ab⟩;have ag:=hid (zu ap ab);have cE:=hid (yfv (G (Z g 0 N)) 1 [ycJ liveU] g2 r w4 zs zs (Hg.below ab) (λ h=>by cases h) (yj5 yqW ydp) (ycx (ybF ydp)) h4 Hn HG (cA _ ag));have hk:=(ab.cell (p:=Z w2.heap.size 0 N) HR.lt).trans (HR.c.at 0 rfl);clear ld st cL h4;go_wp2_with fail
 refine zm cE ?_;rintro w5 ad;have hlt:=zH HR.lt ab.size;replace hk:=(ad.cell (p:=Z w2.heap.size 0 N) hlt).trans hk;have aa:=zH hlt ad.size;rw [ywM HG] at hk;have ao:=hid (zu ag ad);clear ab ad cE;have hv:=ygB w5 35;have hb:Bw w5 (w5.alloc (J #[Xb true,E T 0,Xb false] 35)):=yaa (Ye _ _) zg;replace hk:=(hb.cell (p:=Z w2.heap.size 0 N) aa).trans hk;go_upto_region 6 with fail
 generalize hw:w5.alloc (J #[Xb true,E T 0,Xb false] 35)=w6 at hv hb hk⊢
 have HF:=hid (zu ao hb);rw [an] at hk;clear hw hb hlt aa;go_wp2;go_ret;exact ⟨rfl,HF⟩
end
