/- What mask.Has, mask.Of, feriaref02.Has and feriare -/
import Derived.Test.YtkdaiadfgfbgmaaGreatDoorQ83b0e9
set_option maxRecDepth 100000
set_option maxHeartbeats 25600000
set_option linter.unusedSimpArgs false
open Option renaming none -> N, some -> G
open Go.Value renaming int -> E, pointer -> R, slice -> Xs, bool -> Xb, func -> Xf, tuple -> Xt
open Go.IntKind renaming i64 -> T, u64 -> Y
open Go.Addr renaming mk -> Z
open Go renaming Calls -> H
open Go.Proofs.Tryz renaming prog -> I
open Go.Obj renaming cells -> J
open Go.Ending renaming returned -> Q
namespace Go.Proofs.YtkdaiadfgfbgmaaGreatDoor
open Go.RowKit Go.Maps
set_option linter.unusedVariables false
theorem yjw (m:Nat) (n:Int) (w:World) (hm:m<18446744073709551616):H I 127 #[E Y m,E T n] w λ e w'=>e=Q (Xb (yaU m n))/\w=w':=by
 have Hm:=hid (λ i (hi:64<=i)=>ydh hm hi);by_cases h0:n<0
 ·have hr:Hid (yaU m n=false):=by show yaU m n=false;simp [yaU];omega
  go_enter Tryz.func127,Tryz.ntmps127
  go_wp2;go_ret;rw [hr];exact ⟨rfl,rfl⟩
 by_cases h1:63<n
 ·have hr:Hid (yaU m n=false):=by show yaU m n=false;rw [yaU,Hm n.toNat zo];simp
  go_enter Tryz.func127,Tryz.ntmps127
  go_wp2;go_ret;rw [hr];exact ⟨rfl,rfl⟩
 obtain ⟨k,rfl⟩:=Zo (by omega:0<=n);have hr:Hid (yaU m (k:Int)=m.testBit k):=by show yaU m (k:Int)=m.testBit k;simp [yaU]
 go_enter Tryz.func127,Tryz.ntmps127
 go_wp2;go_loop [0,5] (λ v i=>∃j:Nat,i=E T j/\j<=k/\v=E Y ((m/2 ^ j:Nat):Int)) (λ _ i=>k-(intOf i).toNat)
 case atStart=>exact ⟨0,rfl,by omega,by simp⟩
 case round=>
  obtain ⟨j,rfl,hj,rfl⟩:=hrel;obtain ⟨q,hq⟩:=zx (m/2 ^ j);have Hq:=hid hq;rw [hq];have ac:q<18446744073709551616:=by rw [<- hq];exact Nat.lt_of_le_of_lt (Nat.div_le_self _ _) hm
  clear hq;by_cases hlt:j<k
  ·go_wp2;refine ⟨⟨j+1,by go_num,by omega,?_⟩,by simp [intOf];omega⟩;rw [Nat.pow_succ,<- Nat.div_div_eq_div_mul,Hq];simp
  ·have aa:j=k:=zo;have ab:=hid aa;clear aa;go_wp2;go_ret;refine ⟨ybv ?_,rfl⟩;rw [hr,<- ab,Nat.testBit_eq_decide_div_mod_eq,Hq];rw [zze];simp;omega
theorem ytf (p:Nat->Bool) (n:Nat):yb9 (λ i=>p (n+i)) (64-n)<18446744073709551616:=
 zH (yg0 _ _) (Nat.pow_le_pow_right (n:=2) (i:=64-n) (j:=64) zo zo)
theorem yg1 (p:Nat->Bool):∀(n:Nat),yb9 p (n+1)=2*yb9 (λ i=>p (i+1)) n+(if p 0 then 1 else 0)
 | 0=>by simp [yb9]
 | n+1=>by
   rw [yb9,yg1 p n,yb9,Nat.pow_succ];by_cases h:p (n+1)=true
   ·rw [Yd h,Yd h];omega
   ·rw [Yb h,Yb h];omega
def upM (p:Nat->Bool) (n:Nat):Nat:=yb9 (λ i=>p (n+i)) (64-n)
theorem ymB (p:Nat->Bool) (n:Nat) (h:n<64):upM p n=2*upM p (n+1)+(if p n then 1 else 0):=by
 unfold upM;rw [show 64-n= (64-(n+1))+1 by omega,yg1];simp only [Nat.add_zero];congr 3
 funext i
 congr 1
 omega
theorem yx2 (p:Nat->Bool):upM p 64=0:=rfl
theorem yzN (p:Nat->Bool):upM p 0=mk p:=by unfold upM mk;congr 1;funext i;rw [zzn]
theorem yvr (p:Nat->Bool) (n:Nat):upM p n<18446744073709551616:=ytf p n
theorem ys7 (p:Nat->Bool) (n:Nat):2*upM p (n+1)<18446744073709551616\/ 64<=n:=by
 by_cases h:64<=n
 ·exact .inr h
 ·left
  have:=ymB p n zo;have h2:=yvr p n;split at this <;> omega
theorem yoG (i k:Nat):(ycM i).testBit k= (decide (k<64)&&decide (64*i+k<400)):=by
 rw [ycM,ybA,yaR,ydK,zze];simp only [zzX,zzY];omega
theorem yyS {s:Nat->Nat} (i:Nat) (h:s i<18446744073709551616):inW s i<18446744073709551616:=yfZ (b:=ycM i) h
theorem yrI (s t:Nat->Nat):eqW s t=true↔∀i,i<7->s i=t i:=by
 rw [eqW,List.all_eq_true];simp
theorem ysn (s:Nat->Nat) (n:Int) (w:World) (hs:∀i,i<7->s i<18446744073709551616) :
  H I 128 #[wv s,E T n] w λ e w'=>e=Q (Xb (ypv s n))/\Bw w w':=by
 unfold ypv;by_cases h0:0<=n
 ·by_cases h1:n<400
  ·have hb:yh9 n=true:=(by simp [yh9];omega);rw [hb];obtain ⟨k,rfl⟩:∃k:Nat,n=k:=⟨n.toNat,by omega⟩;have hk:k<400:=zo;have hc:=ycv w s 40;have e1:=hc (k/64) zo;have c2:=hid (λ W=>yjw (s (k/64)) ((k%64:Nat):Int) W (hs _ zo));rw [yeT,show ((k%64:Nat):Int)= (k:Int)%64 by simp] at c2;have ab:k/64%7=k/64:=zo;have hlt:k/64<7:=zo;have ae:(w.alloc (J #[E Y (s 0:Nat),E Y (s 1:Nat),E Y (s 2:Nat),E Y (s 3:Nat),E Y (s 4:Nat),E Y (s 5:Nat),E Y (s 6:Nat)] 40)).cell? ⟨w.heap.size,k/64%7,N⟩=G (E Y (s (k/64):Nat)):=(by rw [ab];exact e1);have aa:k/64%7<7:=zo;have ac:(k:Int)<400:=zo;have Hk:=hid hk;clear hc hb h0 h1 ab hk e1 hlt;by_cases ad:0<k;focus
    go_enter Tryz.func128,Tryz.ntmps128
    go_wp2_with fail
    refine (c2 _).mono ?_
   rotate_left;focus
    obtain rfl:k=0:=zo;have c3:Hid (∀W,H I 127 #[E Y (s 0:Nat),E T 0] W λ e w'=>e=Q (Xb ((s 0).testBit 0))/\W=w'):=λ W=>yjw (s 0) 0 W (hs 0 zo);have f1:=(ycv w s 40) 0 zo;clear ae aa c2 ac ad;go_enter Tryz.func128,Tryz.ntmps128
    go_wp2_with fail
    refine (c3 _).mono ?_
   rotate_left;all_goals
    rintro e w' ⟨rfl,rfl⟩;go_wp2;go_ret;exact ⟨by simp [ybq],yaa (Ye _ _) zg⟩
  ·have hb:yh9 n=false:=(by simp [yh9];omega);rw [hb];clear hb;go_enter Tryz.func128,Tryz.ntmps128
   go_wp2;go_ret;exact ⟨rfl,yaa (Ye _ _) zg⟩
 ·have hb:yh9 n=false:=by simp [yh9];omega
  rw [hb];clear hb;go_enter Tryz.func128,Tryz.ntmps128
  go_wp2;go_ret;exact ⟨rfl,yaa (Ye _ _) zg⟩
theorem yu1 (t:Int) (w:World):H I 39 #[E T t] w λ e w'=>e=Q (Xb (ybY t))/\w=w':=by
 rcases ycB t with ⟨e,h0,h1⟩ | ⟨e,h⟩
 ·rw [e];clear e;have h2:t<=12622780799:=zo;go_enter Tryz.func39,Tryz.ntmps39
  go_wp2;go_ret;exact ⟨by first | rfl | exact ybv (by simp;omega),rfl⟩
 ·rw [e];clear e;rcases h with h | h
  ·go_enter Tryz.func39,Tryz.ntmps39
   go_wp2;go_ret;exact ⟨rfl,rfl⟩
  ·have h0:0<=t:=zo;have h2:¬t<=12622780799:=zo;go_enter Tryz.func39,Tryz.ntmps39
   go_wp2;go_ret;exact ⟨by first | rfl | exact ybv (by simp;omega),rfl⟩
theorem ysk (u:Int) (w:World):H I 76 #[E T u] w λ e w'=>e=Q (Xb (unB u))/\w=w':=by
 rcases ygC u with ⟨e,h0,h1⟩ | ⟨e,h⟩;focus
  rw [e];clear e
 rotate_left;focus
  rw [e];clear e;rcases h with h | h;rotate_left;focus
   have h0:0<=u:=zo;have h2:¬u<=6:=zo
  rotate_left
 rotate_left 2;all_goals
  go_enter Tryz.func76,Tryz.ntmps76
  go_wp2;go_ret;exact ⟨by first | rfl | exact ybv (by simp;omega),rfl⟩
theorem ycf (m:Nat) (lo hi:Int) (w:World) (hm:m<18446744073709551616):H I 72 #[E Y m,E T lo,E T hi] w λ e w'=>e=Q (Xb (yaS m lo hi))/\w=w':=by
 have c1:=hid (λ (k:Nat) W=>yeT m k ▸ yjw m k W hm);go_enter Tryz.func72,Tryz.ntmps72
 go_wp2;go_loopw [7] (λ i wr=>∃k:Nat,i=E T k/\k<=64/\Hid (∀j,j<k->m.testBit j=true->lo<=(j:Int)/\(j:Int)<=hi)/\wr=w) (λ i _=>64-(intOf i).toNat)
 case atStart=>exact ⟨0,rfl,by omega,λ j hj=>by omega,rfl⟩
 case round=>
  obtain ⟨k,rfl,hk,hI,rfl⟩:=hrel;by_cases hlt:k<64
  ·have d1:=hid (c1 k wr);have ap:(k:Int)<64:=zo;have hr:Hid ((m.testBit k=true->¬(lo<=(k:Int)/\(k:Int)<=hi)->yaS m lo hi=false)):=λ h1 h2=>by
    cases hb:yaS m lo hi
    ·rfl
    ·exact absurd (bitsB_iff.mp hb k hlt h1) h2
   have ad:Hid ((m.testBit k=true->(lo<=(k:Int)/\(k:Int)<=hi))->∀j,j<k+1->m.testBit j=true->lo<=(j:Int)/\(j:Int)<=hi):=λ h j hj hb=>by
    by_cases e:j=k
    ·rw [e] at hb⊢;exact h hb
    ·exact hI j zo hb
   cases hb:m.testBit k
   ·rw [hb] at d1;have ac:=hid (ad (λ h=>by rw [hb] at h;cases h));clear ad hr hb;go_wp2_with fail
    refine zm d1 ?_;rintro w' rfl;go_wp2;exact ⟨⟨k+1,by go_num,by omega,ac,trivial⟩,by simp [intOf];omega⟩
   ·rw [hb] at d1;by_cases aw:(k:Int)<lo
    ·have aj:=hid (hr hb zo);clear ad hr hb;go_wp2_with fail
     refine zm d1 ?_;rintro w' rfl;go_wp2;go_ret;exact ⟨by rw [aj];rfl,by trivial⟩
    ·by_cases ay:hi<(k:Int)
     ·have aj:=hid (hr hb zo);clear ad hr hb;go_wp2_with fail
      refine zm d1 ?_;rintro w' rfl;go_wp2;go_ret;exact ⟨by rw [aj];rfl,by trivial⟩
     ·have ac:=hid (ad (λ _=>⟨by omega,by omega⟩));clear ad hr hb;go_wp2_with fail
      refine zm d1 ?_;rintro w' rfl;go_wp2;exact ⟨⟨k+1,by go_num,by omega,ac,trivial⟩,by simp [intOf];omega⟩
  ·have hr:Hid (yaS m lo hi=true):=bitsB_iff.mpr (λ j hj hb=>hI j zo hb);go_wp2;go_ret;exact ⟨by rw [hr];rfl,by trivial⟩
theorem ytB (w:World) (oin:Int) (oback:Bool) (od:Nat->Nat) (t:TypeId) (k:Nat) (hk:k<8) :
  (w.alloc (J #[E T oin,Xb oback,E Y (od 0:Nat),E Y (od 1:Nat),E Y (od 2:Nat),E Y (od 3:Nat),E Y (od 4:Nat),E Y (od 5:Nat),E Y (od 6:Nat),E Y (od 7:Nat)] t)).cell? (Z w.heap.size (2+k) N)=G (E Y (od k:Nat)):=by
 rcases yhK hk with rfl | rfl | rfl | rfl | rfl | rfl | rfl | rfl <;> simp [go_sem]
theorem yta (od:Nat->Nat) (aa:Int) (h0:od 0=0):ycS od aa=ysR 8 (λ i=>i==0||yaS (od i) 1 aa):=by
 rw [ycS,zzZ h0,zzo,zze,allR_iff,allR_iff];refine forall_congr' λ i=>forall_congr' λ hi=>?_;by_cases e:i=0
 ·subst e;rw [h0];simp only [beq_self_eq_true,Bool.true_or,iff_true];rw [bitsB_iff];intro k _ hk;rw [YV] at hk;cases hk
 ·simp [e]
theorem yd4 (aa o1:Int) (oback:Bool) (od:Nat->Nat) (w:World) (ab:(aa=5/\o1= (1:Int))\/ (aa=53/\o1=2)\/ (aa=0/\o1=0/\oback=false)) (h:∀i,i<8->od i<18446744073709551616) :
  H I 73 #[ymZ o1 oback od] w λ e w'=>e=Q (Xb (ycS od aa))/\Bw w w':=by
 have Hq:=hid h;have al:=h 0 zo;clear h;have c1:=hid (λ k (hk:k<8) W=>ycf (od k) 1 aa W (Hq k hk));have hB:Hid (Bw w (w.alloc (Obj.cells (yb2 o1 oback od).toArray 57))):=yaa (Ye _ _) zg;have an:=hid (λ k hk=>ytB w o1 oback od 57 k hk);obtain ⟨W1,ah⟩:=zx (w.alloc (Obj.cells (yb2 o1 oback od).toArray 57));have ao:=hid ah;rw [ah] at hB;have ak:Hid (∀k,k<8->W1.cell? (Z w.heap.size (2+k) N)=G (E Y (od k:Nat))):=λ k hk=>by rw [<- ah];exact an k hk
 clear ah an;by_cases hz:od 0=0
 ·have ae:(((od 0:Nat):Int) != 0)=false:=by simp;omega
  rw [yta od aa hz];obtain ⟨tb,ai⟩:∃tb:Nat->Bool,tb=λ i=>yaS (od i) 1 aa:=⟨_,rfl⟩;have au:Hid (∀k,k<8->∀W,H I 72 #[E Y (od k:Nat),E T 1,E T aa] W λ e w'=>e=Q (Xb (tb k))/\W=w'):=by rw [ai];exact c1
  rw [show (λ i=>i==0||yaS (od i) 1 aa)=λ i=>i==0||tb i by rw [ai]];have av:=hid ae;clear hz al ae ai c1;rcases ab with ⟨rfl,rfl⟩ | ⟨rfl,rfl⟩ | ⟨rfl,rfl,rfl⟩;all_goals
   have ae:=av.out;go_enter Tryz.func73,Tryz.ntmps73
   go_wp2_with fail
   rw [ao];clear ae;go_loopw [4] (λ i wr=>∃k:Nat,i=E T k/\1<=k/\k<=8/\Hid (∀j,j<k->(j==0||tb j)=true)/\wr=W1) (λ i _=>8-(intOf i).toNat)
   case atStart=>exact ⟨1,rfl,by omega,by omega,λ j hj=>by
    obtain rfl:j=0:=zo;rfl,rfl⟩
   case round=>
    obtain ⟨k,rfl,ax,hk,hI,rfl⟩:=hrel;by_cases hlt:k<8
    ·have e1:=ak k hlt;have d1:=hid (au k hlt wr);have ap:(k:Int)<8:=zo;have aq:Hid ((k==0)=false):=(by show _ = _;simp;omega);cases hb:tb k
     ·rw [hb] at d1;have am:¬(k==0||tb k)=true:=(by rw [aq,hb];simp);have hr:=hid (yr2 (p:=λ j=>j==0||tb j) hlt am);clear am hb;go_wp2_with fail
      refine zm d1 ?_;rintro w' rfl;go_wp2;go_ret;exact ⟨by rw [hr];rfl,hB⟩
     ·rw [hb] at d1;have af:(k==0||tb k)=true:=(by rw [hb];simp);have ar:=hid (yny (p:=λ j=>j==0||tb j) hI af);clear af hb;go_wp2_with fail
      refine zm d1 ?_;rintro w' rfl;go_wp2;exact ⟨⟨k+1,by go_num,by omega,by omega,ar,trivial⟩,by simp [intOf];omega⟩
    ·have hr:=hid (ynR (n:=8) (show 8<=k by omega) hI);go_wp2;go_ret;exact ⟨by rw [hr];rfl,hB⟩
 ·have hr:Hid (ycS od aa=false):=by show _ = _;rw [ycS,zzd hz,Yv]
  rw [hr];have ae:(((od 0:Nat):Int) != 0)=true:=by simp;omega
  clear hz al;rcases ab with ⟨rfl,rfl⟩ | ⟨rfl,rfl⟩ | ⟨rfl,rfl,rfl⟩;all_goals
   go_enter Tryz.func73,Tryz.ntmps73
   go_wp2;go_ret;rw [ao];exact ⟨rfl,hB⟩
theorem yo6 (oin:Int) (oback:Bool) (od:Nat->Nat) (w:World) (h0:yax oin) (h:∀i,i<8->od i<18446744073709551616) :
  H I 73 #[ymZ oin oback od] w λ e w'=>e=Q (Xb (yh6 oin oback od))/\Bw w w':=by
 have ag:oin=0\/ oin=1\/ oin=2\/ oin<0\/ 2<oin:=zo;rcases ag with rfl | rfl | rfl | hn | hn
 ·cases oback
  ·rw [show yh6 0 false od=ycS od 0 from rfl];exact yd4 0 0 false od w (.inr (.inr ⟨rfl,rfl,rfl⟩)) h
  ·rw [show yh6 0 true od=false from rfl];go_enter Tryz.func73,Tryz.ntmps73
   go_wp2;go_ret;exact ⟨rfl,yaa (Ye _ _) zg⟩
 ·exact yd4 5 1 oback od w (.inl ⟨rfl,rfl⟩) h
 ·exact yd4 53 2 oback od w (.inr (.inl ⟨rfl,rfl⟩)) h
 focus
  have hr:Hid (yh6 oin oback od=false):=by show _ = _;rw [yh6,Yb zo,Yb zo,Yb zo]
  rw [hr];clear h;have b0:(oin==0)=false:=by simp;omega
  have b2:(oin==2)=false:=by simp;omega
 rotate_left;focus
  have hr:Hid (yh6 oin oback od=false):=by show _ = _;rw [yh6,Yb zo,Yb zo,Yb zo]
  rw [hr];clear h;have b0:(oin==0)=false:=by simp;omega
  have b2:(oin==2)=false:=by simp;omega
  have b3:¬oin<0:=zo
 rotate_left;all_goals
  go_enter Tryz.func73,Tryz.ntmps73
  go_wp2;go_ret;exact ⟨rfl,yaa (Ye _ _) zg⟩
section
open Go.RowKit Go.ChangeShapes Go.WideShapes
section
variable {Hq:Type} {enc:TypeId × Value->Hq} {P:Program} {w:World} {base:Nat} {spare:Nat->Bool} {held:Bool}
end
theorem ycC {n:Int} (h:(Lit.int Y n).wf=true):∃m:Nat,n= (m:Int)/\m<18446744073709551616:=by
 have h1:IntKind.u64.min=0:=by decide
 have h3:IntKind.u64.max=18446744073709551615:=by decide
 have h2:=h;simp [Lit.wf,h1,h3] at h2;exact ⟨n.toNat,by omega,by omega⟩
end
def ymv (s:Nat->Nat):List Int:=sel (ybq s) 400
section
attribute [local go_sem] Yw
theorem yr9 (s:Nat->Nat) (w:World) (hs:∀i,i<7->s i<18446744073709551616) :
  H I 75 #[wv s] w λ e w'=>∃v,e=Q v/\w'.ownsRow w.heap.size 3 1 v (ymv s).length (yaJ (ymv s))/\Bw w w':=by
 have c1:=hid (λ n W=>ysn s n W hs);have aq:Bw w (w.alloc (J #[E Y (s 0:Nat),E Y (s 1:Nat),E Y (s 2:Nat),E Y (s 3:Nat),E Y (s 4:Nat),E Y (s 5:Nat),E Y (s 6:Nat)] 40)):=yaa (Ye _ _) zg;have aw:Hid (BoxS w s (w.alloc (J #[E Y (s 0:Nat),E Y (s 1:Nat),E Y (s 2:Nat),E Y (s 3:Nat),E Y (s 4:Nat),E Y (s 5:Nat),E Y (s 6:Nat)] 40))):=by
  obtain ⟨r0,r1,r2,r3,r4,r5,r6⟩:=(ycv w s 40).all;exact ⟨r0,r1,r2,r3,r4,r5,r6,aq,by simp [go_sem]⟩
 clear aq hs;go_enter Tryz.func75,Tryz.ntmps75
 go_wp2;go_loopw [3,4] (λ v i wr=>∃(n m cap:Nat) (a:Option Addr),i=E T n/\Hid (n<=400)/\v=Xs a m cap/\Hid (m= (sel (ybq s) n).length/\m<=n)/\Hid (wr.ownsRow (w.heap.size+1) 3 1 (Xs a m cap) m (yaJ (sel (ybq s) n)))/\Hid (BoxS w s wr)) (λ _ i _=>(400-intOf i).toNat)
 case atStart=>exact ⟨0,0,0,N,rfl,by show (0:Nat)<=400;omega,rfl,⟨rfl,zG _⟩,ZA _ _ _ _,aw⟩
 case round=>
  obtain ⟨n,m,cap,a,rfl,hn,rfl,ah,af,al⟩:=hrel;obtain ⟨z0,z1,z2,z3,z4,z5,z6,hB,ar⟩:=al.out;have HB:=hid hB;clear hB;by_cases hlt:(n:Int)<400
  ·have H2:Hid (H I 128 #[wv s,E T n] wr λ e w'=>e=Q (Xb (ybq s n))/\Bw wr w'):=by
    have:=c1 n wr;have e:ypv s (n:Int)=ybq s n:=(by simp [ypv,yh9];omega);rw [e] at this;exact this
   by_cases hb:ybq s n=true
   ·have Hy:=hid (ydL hb);rw [hb] at H2;clear hb;go_wp2_with fail
    refine zm H2 ?_;rintro w1 ae;have aa:=ycw af ae zg;have ag:=hid (al.keep ae);have hm:m<=400:=(by have:=ah.2;have:=hn.out;omega);have ay:=hid ae;have ax:=ae.size;clear ae z0 z1 z2 z3 z4 z5 z6;go_wp2_with (at_builtin;refine yAh yAc (.tmp 12) (.tmp 14) rfl rfl rfl rfl rfl aa rfl zo zo zo ?_)
    intro a' an w' ab au ad av;rw [<- ynn,<- yer,<- Hy] at ab;have ak:Hid (BoxS w s w'):=by
     obtain ⟨h0,h1,h2,h3,h4,h5,h6,h7,h8⟩:=ag.out;exact ⟨(ad.cell (p:=Z w.heap.size 0 N) zs).trans h0,(ad.cell (p:=Z w.heap.size 1 N) zs).trans h1,(ad.cell (p:=Z w.heap.size 2 N) zs).trans h2,(ad.cell (p:=Z w.heap.size 3 N) zs).trans h3,
      (ad.cell (p:=Z w.heap.size 4 N) zs).trans h4,(ad.cell (p:=Z w.heap.size 5 N) zs).trans h5,(ad.cell (p:=Z w.heap.size 6 N) zs).trans h6,h7.trans (ad.mono zo),zH h8 ad.size⟩
    have ai:=hid ab;clear ab au ad av aa;go_wp2;exact ⟨⟨n+1,m+1,an,a',by go_num,by show n+1<=400;omega,rfl,⟨by rw [Hy,YG,<- ah.1];rfl,by have:=ah.2;omega⟩,ai,ak⟩,by simp [intOf];omega⟩
   ·have am:ybq s n=false:=(by simpa using hb);have Hy:=hid (ygL am);rw [am] at H2;clear hb am;go_wp2_with fail
    refine zm H2 ?_;rintro w1 ae;have aa:=hid (ycw af ae zg);have ag:=hid (al.keep ae);clear ae z0 z1 z2 z3 z4 z5 z6;go_wp2;exact ⟨⟨n+1,m,cap,a,by go_num,by show n+1<=400;omega,rfl,⟨by rw [Hy];exact ah.1,by have:=ah.2;omega⟩,by rw [Hy];exact aa,ag⟩,by simp [intOf];omega⟩
  ·have ap:n=400:=(by have:=hn.out;omega);have ac:=af.out;have aj:=ah.1;rw [ap] at ac aj;have ao:=hid ac;have Hm:=hid aj;clear ap ac aj;go_wp2;go_ret;exact ⟨_,rfl,by have:=Hm.out;rw [show (ymv s).length=m from Hm.symm];exact yc8 ao zo,HB⟩
end
theorem yyT (l:List Int) (n j:Nat) (h:n<400):inL (l ++ [(n:Int)]) j=if j=n then true else inL l j:=by
 rw [inL,inL,zze];split
 ·simp;omega
 ·rename_i h;simp only [zzX,zzY,YC,Yy];constructor
  ·rintro ⟨h1 | h1,h2⟩
   ·exact ⟨h1,h2⟩
   ·omega
  ·rintro ⟨h1,h2⟩;exact ⟨.inl h1,h2⟩
theorem ywW (l:List Int) (x:Int) (h:yh9 x=false) (j:Nat):inL (l ++ [x]) j=inL l j:=by
 simp only [yh9,Bool.and_eq_false_iff,ZV] at h;rw [inL,inL,zze];simp only [zzX,zzY,YC,Yy];constructor
 ·rintro ⟨h1 | h1,h2⟩
  ·exact ⟨h1,h2⟩
  ·omega
 ·rintro ⟨h1,h2⟩;exact ⟨.inl h1,h2⟩
theorem yxS:Tryz.zeroCells205=Array.replicate 448 (Xb false):=by kernel_rfl
theorem ywX (w:World):InC (w.alloc (J Tryz.zeroCells205 205)) w.heap.size []:=λ j hj=>by
 rw [yxS];simp [go_sem,hj,inL]
def ysU (l:List Int) (i n:Nat) (j:Nat):Nat:=if j=i then upM (yjI l i) n else if j<i then wof l j else 0
theorem yu0 (a:Option Addr) (cap:Nat) (l:List Int) (w:World) (hl:l.length<=9223372036854775807) (hs:Sl w a (yaJ l)) :
  H I 74 #[Xs a l.length cap] w λ e w'=>e=Q (wv (wof l))/\Bw w w':=by
 have Hs:=hid hs;clear hs;obtain ⟨W0,ac⟩:=zx ((w.alloc (J zl6 40)).alloc (J Tryz.zeroCells205 205));have q1:W0.heap.size=w.heap.size+2:=by rw [<- ac];simp
 have q2:Bw w W0:=by rw [<- ac];exact yaa (yaa (Ye _ _) zg) zs
 have q3:InC W0 (w.heap.size+1) []:=by
  rw [<- ac];have:=ywX (w.alloc (J zl6 40));(try unfold Bw at this);rwa [zzN] at this
 have q4:WFree W0 (w.heap.size+1):=λ i=>by rw [<- ac,yxS];simp [go_sem]
 have q5:WCells W0 w.heap.size (λ _=>0):=by
  rw [<- ac];refine WCells.below (W:=w.alloc (J zl6 40)) (λ i hi=>?_) (yaa (Ye _ _) zg) zs;rcases yhD hi with rfl | rfl | rfl | rfl | rfl | rfl | rfl <;> simp [go_sem]
 have q6:WFree W0 w.heap.size:=by
  rw [<- ac];refine WFree.below (W:=w.alloc (J zl6 40)) (λ i=>by simp [go_sem]) (yaa (Ye _ _) zg) zs
 have aq:=hid ac;have HQ:=hid (Ya q2 (Ya q3 (Ya q4 (Ya q5 q6))));clear ac q2 q3 q4 q5 q6;go_enter Tryz.func74,Tryz.ntmps74
 go_wp2_with fail
 rw [aq];go_loopw [4] (λ i wr=>∃k:Nat,i=E T k/\k<=l.length/\wr.heap.size=w.heap.size+2/\Hid (InC wr (w.heap.size+1) (l.take k)/\WFree wr (w.heap.size+1)/\WCells wr w.heap.size (λ _=>0)/\WFree wr w.heap.size/\Bw w wr)) (λ i _=>l.length-(intOf i).toNat)
 case atStart=>exact ⟨0,rfl,by omega,q1,HQ.2.1,HQ.2.2.1,HQ.2.2.2.1,HQ.2.2.2.2,HQ.1⟩
 case round=>
  obtain ⟨k,rfl,hk,hsz,HI⟩:=hrel;by_cases hlt:k<l.length
  ·obtain ⟨b,off,rfl,hb,hc⟩:=Hs.atInt hlt;have e1:=(HI.2.2.2.2.cell (p:=Z b (off+k) N) hb).trans (hc k hlt);have ht:=hid (yak l k hlt);obtain ⟨x,hx⟩:=zx (l[k]);rw [hx] at e1 ht;clear hc hx;by_cases hm:yh9 x=true
   ·rw [yh9] at hm;simp at hm;obtain ⟨n,rfl⟩:∃n:Nat,x=n:=⟨x.toNat,by omega⟩;have hn:n<400:=zo;have ar:(n:Int)<400:=zo;have ab:n<448:=zo;have e2:=HI.1 n ab;have e3:=HI.2.1 n;have done:InC (wr.setCell (Z (w.heap.size+1) n N) (Xb true)) (w.heap.size+1) (l.take (k+1))/\WFree (wr.setCell (Z (w.heap.size+1) n N) (Xb true)) (w.heap.size+1)/\WCells (wr.setCell (Z (w.heap.size+1) n N) (Xb true)) w.heap.size (λ _=>0)/\
      WFree (wr.setCell (Z (w.heap.size+1) n N) (Xb true)) w.heap.size/\Bw w (wr.setCell (Z (w.heap.size+1) n N) (Xb true)):=by
     obtain ⟨d1,d2,d3,d4,d5⟩:=HI.out;refine ⟨λ j hj=>?_,d2.set _ _,λ j hj=>(zzJ (w:=wr) (a:=Z w.heap.size j N) (Ym _ _ _ _ zs)).trans (d3 j hj),d4.set _ _,yab d5 zo⟩;rw [ht,yyT _ _ _ hn];by_cases e:j=n
     ·subst e;simp [go_sem,d1 j hj]
     ·simp [go_sem,d1 j hj,e]
    have aa:=hid done;clear done hm hn ab;go_wp2;obtain ⟨d1,d2,d3,d4,d5⟩:=aa.out;exact ⟨⟨k+1,by go_num,by omega,by simpa [go_sem] using hsz,d1,d2,d3,d4,d5⟩,by simp [intOf];omega⟩
   ·have ah:yh9 x=false:=(by simpa using hm);have he:=hid (λ j=>ywW (l.take k) x ah j);have ao:Hid (InC wr (w.heap.size+1) (l.take (k+1))):=λ j hj=>(by rw [ht,he];exact HI.1 j hj);by_cases h0:0<=x;focus
     have h1:¬x<400:=by simp [yh9] at ah;omega
    rotate_left;rotate_left;all_goals
     clear hm ah;go_wp2;exact ⟨⟨k+1,by go_num,by omega,hsz,ao,HI.2⟩,by simp [intOf];omega⟩
  ·have ak:l.take k=l:=YU zo;have al:Hid (InC wr (w.heap.size+1) l):=(by rw [<- ak];exact HI.1);obtain ⟨W2,af⟩:=zx (wr.alloc (J zl6 40));have b2:Bw wr W2:=(by rw [<- af];exact yaa (Ye _ _) zg);have p1:Hid (InC W2 (w.heap.size+1) l):=al.below b2 zo;have p2:Hid (WCells W2 w.heap.size (λ _=>0)):=HI.2.2.1.below b2 zo;have p3:Hid (WFree W2 w.heap.size):=HI.2.2.2.1.below b2 zo;have p4:Hid (WCells W2 (w.heap.size+2) (λ _=>0)):=by
    show WCells _ _ _;rw [<- af,<- hsz];intro i hi;rcases yhD hi with rfl | rfl | rfl | rfl | rfl | rfl | rfl <;> simp [go_sem]
   have p5:Hid (WFree W2 (w.heap.size+2)):=λ i=>(by rw [<- af,<- hsz];simp [go_sem]);have p6:Hid (Bw w W2):=HI.2.2.2.2.trans (b2.mono zo);have ap:=hid af;clear ak al b2 af;go_wp2_with fail
   rw [ap];go_loopw [6,7] (λ i _ wq=>∃n:Nat,i=E T n/\n<=7/\Hid (WCells wq (w.heap.size+2) (λ j=>if j<n then wof l j else 0)/\WFree wq (w.heap.size+2)/\InC wq (w.heap.size+1) l/\WCells wq w.heap.size (λ _=>0)/\WFree wq w.heap.size/\Bw w wq)) (λ i _ _=>7-(intOf i).toNat)
   case atStart=>exact ⟨0,rfl,by omega,p4.congr (λ j hj=>by simp),p5,p1,p2,p3,p6⟩
   case round=>
    obtain ⟨n,rfl,hn,HJ⟩:=hrel;by_cases aj:n<7
    ·go_wp2_with fail
     go_loopw [7] (λ v wq=>∃m:Nat,m<=64/\v=E T ((m:Int)-1)/\Hid (WCells wq (w.heap.size+2) (ysU l n m)/\WFree wq (w.heap.size+2)/\InC wq (w.heap.size+1) l/\WCells wq w.heap.size (λ _=>0)/\WFree wq w.heap.size/\Bw w wq)) (λ v _=>(intOf v+1).toNat)
     case atStart=>exact ⟨64,by omega,by simp,HJ.1.congr (λ j hj=>by unfold ysU;rw [yx2];split <;> (try split) <;> first | rfl | omega),HJ.2⟩
     case round=>
      clear HJ;obtain ⟨m,hm,rfl,HJ⟩:=hrel;cases m with
      | zero=>
        have h0:Hid (∀W,WCells W (w.heap.size+2) (ysU l n 0)->WCells W (w.heap.size+2) (λ j=>if j<n+1 then wof l j else 0)):=λ W h=>h.congr (λ j hj=>by
         unfold ysU;rw [yzN];by_cases e:j=n
         ·subst e;simp [wof]
         ·have:(j<n+1)= (j<n):=by simp;omega
          simp [e,this])
        go_wp2;exact ⟨⟨n+1,by go_num,by omega,h0 _ HJ.1,HJ.2⟩,by simp [intOf];omega⟩
      | succ m=>
        have ag:m<64:=zo;have ad:=hid (ymB (yjI l n) m ag);have hh:=ys7 (yjI l n) m;have e1:((m+1:Nat):Int)-1= (m:Int):=zo;rw [e1];have c1:wr.cell? (Z (w.heap.size+2) n N)=G (E Y (upM (yjI l n) (m+1):Nat)):=(by have:=HJ.1 n aj;simpa [ysU] using this);have c2:=HJ.2.1 n;have c3:=HJ.2.2.1 (64*n+m) zo;have ae:inL l (64*n+m)=yjI l n m:=rfl;rw [ae] at c3;obtain ⟨M,hM⟩:=zx (upM (yjI l n) (m+1));rw [hM] at ad hh c1;have au:2*M<18446744073709551616:=zo;have ai:=yvr (yjI l n) m;have done:∀(v:Nat) (W':World),v=upM (yjI l n) m->WCells W' (w.heap.size+2) (λ j=>if j=n then v else ysU l n (m+1) j)->WCells W' (w.heap.size+2) (ysU l n m):=λ v W' hv h=>h.congr (λ j hj=>by
         by_cases e:j=n
         ·subst e;simp [ysU,hv]
         ·simp [ysU,e])
        have aa:=hid done;have s0:Hid (∀(W:World) (g:Nat->Nat) (v:Nat),WCells W (w.heap.size+2) g/\WFree W (w.heap.size+2)/\InC W (w.heap.size+1) l/\WCells W w.heap.size (λ _=>0)/\WFree W w.heap.size/\Bw w W->
          WCells (W.setCell (Z (w.heap.size+2) n N) (E Y v)) (w.heap.size+2) (λ j=>if j=n then v else g j)/\WFree (W.setCell (Z (w.heap.size+2) n N) (E Y v)) (w.heap.size+2)/\InC (W.setCell (Z (w.heap.size+2) n N) (E Y v)) (w.heap.size+1) l/\
          WCells (W.setCell (Z (w.heap.size+2) n N) (E Y v)) w.heap.size (λ _=>0)/\WFree (W.setCell (Z (w.heap.size+2) n N) (E Y v)) w.heap.size/\Bw w (W.setCell (Z (w.heap.size+2) n N) (E Y v))):=λ W g v ⟨d1,d2,d3,d4,d5,d6⟩=>
         ⟨d1.set aj,d2.set _ _,λ j hj=>(zzJ (w:=W) (a:=Z (w.heap.size+1) j N) (Ym _ _ _ _ zs)).trans (d3 j hj),λ j hj=>(zzJ (w:=W) (a:=Z w.heap.size j N) (Ym _ _ _ _ zs)).trans (d4 j hj),d5.set _ _,yab d6 zo⟩
        have e2:Hid ((2*(M:Int))= ((2*M:Nat):Int)):=(by show _ = _;simp);have e3:Hid ((2*(M:Int)+1)= ((2*M+1:Nat):Int)):=(by show _ = _;simp);obtain ⟨bt,an⟩:=zx (yjI l n m);rw [an] at c3 ad;clear done hM ae an e1;cases bt
        ·have hv:Hid (2*M=upM (yjI l n) m):=(by show _ = _;rw [ad];simp);go_wp2;rw [e2];obtain ⟨d1,d2⟩:=s0 wr _ (2*M) HJ;exact ⟨⟨m,by omega,rfl,aa _ _ hv d1,d2⟩,by simp [intOf]⟩
        ·have hv:Hid (2*M+1=upM (yjI l n) m):=(by show _ = _;rw [ad];simp);rw [ad] at ai;simp only [if_true] at ai;go_wp2;rw [e3,e2];obtain ⟨d1,d2⟩:=s0 _ _ (2*M+1) (s0 wr _ (2*M) HJ);exact ⟨⟨m,by omega,rfl,aa _ _ hv (d1.congr (λ j hj=>by by_cases e:j=n <;> simp [e])),d2⟩,by simp [intOf]⟩
    ·obtain rfl:n=7:=zo;have am:WCells wr (w.heap.size+2) (wof l):=HJ.1.congr (λ j hj=>by simp [hj]);obtain ⟨_,d1,d2,d3,d4,d5⟩:=HJ.out;obtain ⟨r0,r1,r2,r3,r4,r5,r6⟩:=am.all;obtain ⟨z0,z1,z2,z3,z4,z5,z6⟩:=d3.all;have f0:=d4 0;have f1:=d4 1;have f2:=d4 2;have f3:=d4 3;have f4:=d4 4;have f5:=d4 5;have f6:=d4 6;have D5:=hid d5;clear am d1 d2 d3 d4 d5 HJ;go_wp2;refine Yh (v:=wv (wof l)) (by simp [results,Tryz.results74,go_sem,z0,z1,z2,z3,z4,z5,z6]) rfl ⟨rfl,?_⟩;exact yab (yab (yab (yab (yab (yab (yab D5 zg) zg) zg) zg) zg) zg) zg
theorem ypB (s:Nat->Nat) (i:Nat) (hi:i<7) (hs:s i<18446744073709551616):wof (ymv s) i=inW s i:=by
 refine (yfw (yyS i hs) (λ k hk=>?_)).symm;rw [inW,Nat.testBit_and,yoG,yjI,zze];simp only [zzX,zzY,ymv,sel_mem];constructor
 ·rintro ⟨h1,_,h2⟩;exact ⟨⟨64*i+k,h2,by rw [ybq,show (64*i+k)/64=i by omega,show (64*i+k)%64=k by omega];exact h1,rfl⟩,h2⟩
 ·rintro ⟨⟨j,h1,h2,h3⟩,h4⟩;have:j=64*i+k:=zo
  subst this;rw [ybq,show (64*i+k)/64=i by omega,show (64*i+k)%64=k by omega] at h2;exact ⟨h2,hk,h4⟩
theorem yw9 (s:Nat->Nat) (hs:∀i,i<7->s i<18446744073709551616):eqW (wof (ymv s)) s=eqW (inW s) s:=by
 rw [zze,yrI,yrI];refine forall_congr' λ i=>forall_congr' λ hi=>?_;rw [ypB s i hi (hs i hi)]
theorem yo7 (c:Cl) (w:World) (hc:c.Ok):H I 28 #[clv c] w λ e w'=>e=Q (Xb (ybJ c))/\Bw w w':=by
 have hC:=hid (ydY w c 59);have ab:Hid (Bw w (w.alloc (J (yae c).toArray 59))):=yaa (Ye _ _) zg;have m0:=hid (λ W=>ycf (c.m 0) 0 59 W (hc.m 0 zo));have m1:=hid (λ W=>ycf (c.m 1) 0 59 W (hc.m 1 zo));have m2:=hid (λ W=>ycf (c.m 2) 0 23 W (hc.m 2 zo));have m3:=hid (λ W=>ycf (c.m 3) 1 12 W (hc.m 3 zo));have m4:=hid (λ W=>ycf (c.m 4) 1 31 W (hc.m 4 zo));have m5:=hid (λ W=>ycf (c.m 5) 1 31 W (hc.m 5 zo));have m6:=hid (λ W=>ycf (c.m 6) 1 7 W (hc.m 6 zo));have cO:=hid (λ W (h:RMS w c W)=>yap (yo6 c.oin c.oback c.od W hc.oin hc.od) (λ _=>h.keep));have cU:=hid (λ W (h:RMS w c W)=>yap (yc6 (ysk c.unit W)) (λ _=>h.keep));have cM:=hid (λ W (h:RMS w c W)=>yap (yc6 (yu1 c.anchor W)) (λ _=>h.keep));have cF:Hid (∀W (a:Option Addr) (cap:Nat),RMS w c W->Sl W a (yaJ (ymv c.ys))->H I 74 #[.slice a (ymv c.ys).length cap] W λ e w'=>e=Q (wv (wof (ymv c.ys)))/\RMS w c w'):=
  λ W a cap h hs=>yap (yu0 a cap (ymv c.ys) W (by have:=ydM (ybq c.ys) 400;rw [ymv];omega) hs) (λ _=>h.keep)
 have cL:Hid (∀W,RMS w c W->H I 75 #[wv c.ys] W λ e w'=>(∃a cap,e=Q (.slice a (ymv c.ys).length cap)/\Sl w' a (yaJ (ymv c.ys)))/\RMS w c w'):=λ W h=>
  (ydP (yr9 c.ys W hc.ys)).mono λ e w' ⟨a,n,cap,e1,e2,e3,_,e5⟩=>⟨⟨a,cap,by rw [e1,e2],e3⟩,h.keep e5⟩
 have af:=hid (λ W=>yh1 (wof (ymv c.ys)) c.ys W);rw [yw9 c.ys hc.ys] at af;have ae:Hid (ybJ c= (ydT c.m&&(yh6 c.oin c.oback c.od&&(eqW (inW c.ys) c.ys&&(unB c.unit&&(decide (1<=c.step)&&ybY c.anchor)))))):=rfl;rw [ae,ydT];obtain ⟨x0,ao⟩:=zx (yaS (c.m 0) 0 59);obtain ⟨x1,an⟩:=zx (yaS (c.m 1) 0 59);obtain ⟨x2,am⟩:=zx (yaS (c.m 2) 0 23);obtain ⟨x3,al⟩:=zx (yaS (c.m 3) 1 12);obtain ⟨x4,ak⟩:=zx (yaS (c.m 4) 1 31);obtain ⟨x5,aj⟩:=zx (yaS (c.m 5) 1 31);obtain ⟨x6,ai⟩:=zx (yaS (c.m 6) 1 7);obtain ⟨b2,av⟩:=zx (yh6 c.oin c.oback c.od);obtain ⟨b3,au⟩:=zx (eqW (inW c.ys) c.ys);obtain ⟨b4,ar⟩:=zx (unB c.unit);obtain ⟨b5,ag⟩:=zx (decide (1<=c.step));obtain ⟨b6,aq⟩:=zx (ybY c.anchor);rw [ao] at m0⊢;rw [an] at m1⊢;rw [am] at m2⊢;rw [al] at m3⊢;rw [ak] at m4⊢;rw [aj] at m5⊢;rw [ai] at m6⊢;rw [av] at cO⊢;rw [au] at af⊢;rw [ar] at cU⊢;rw [ag];rw [aq] at cM⊢;have ah:=hid ag;go_enter Tryz.func28,Tryz.ntmps28
 go_wp2_with fail
 refine zm (m0 _) ?_;rintro w' rfl;cases x0
 ·go_wp2;go_ret;exact ⟨rfl,ab⟩
 go_wp2_with fail
 refine zm (m1 _) ?_;rintro w' rfl;cases x1
 ·go_wp2;go_ret;exact ⟨rfl,ab⟩
 go_wp2_with fail
 refine zm (m2 _) ?_;rintro w' rfl;cases x2
 ·go_wp2;go_ret;exact ⟨rfl,ab⟩
 go_wp2_with fail
 refine zm (m3 _) ?_;rintro w' rfl;cases x3
 ·go_wp2;go_ret;exact ⟨rfl,ab⟩
 go_wp2_with fail
 refine zm (m4 _) ?_;rintro w' rfl;cases x4
 ·go_wp2;go_ret;exact ⟨rfl,ab⟩
 go_wp2_with fail
 refine zm (m5 _) ?_;rintro w' rfl;cases x5
 ·go_wp2;go_ret;exact ⟨rfl,ab⟩
 go_wp2_with fail
 refine zm (m6 _) ?_;rintro w' rfl;cases x6
 ·go_wp2;go_ret;exact ⟨rfl,ab⟩
 have ac:Hid (RMS w c (w.alloc (J (yae c).toArray 59)).drew):=RMS.of (hC.below (B:=w.heap.size+1) (Ye _ _).drew zo) ab.drew (by show _<(World.alloc _ _).heap.size;simp);have fin:Hid (∀W,RMS w c W->Bw w W):=λ W h=>h.2.2.2.2.1;have ap:=af.out;cases b2
 ·go_wp2_with fail
  refine Yj (S:=λ w'=>RMS w c w') zk ?_ (λ aa=>?_)
  ·exact ac
  refine zhB 0 ?_;refine zhB 1 ?_;refine zzK 2 (λ K hK=>?_);go_simp;refine zm (cO _ (by assumption)) ?_;rintro w' hS;(try go_wp2_with fail);refine hK _ _ (by assumption) (λ aa=>?_);refine zhB 3 ?_;refine zhS 4 ?_;refine zhS 5 ?_;refine zhS 6 ?_;refine zhS 7 ?_;refine zhS 8 ?_;refine zhS 9 ?_;refine zhS 10 ?_;refine zhB 11 ?_;refine zhB 12 ?_;refine zhS 13 ?_;refine zhS 14 ?_;refine zhS 15 ?_;refine zhB 16 ?_;refine zhB 17 ?_;refine zhS 18 ?_;refine zhS 19 ?_;refine zhS 20 ?_;refine zhB 21 ?_;refine zhB 22 ?_;refine zhS 23 ?_;refine zhS 24 ?_;refine zhS 25 ?_;refine zhB 26 ?_;refine zhB 27 ?_;refine Yt zk ?_ _;go_wp2;go_ret;exact ⟨rfl,fin _ (by assumption)⟩
 cases b3
 ·go_wp2_with fail
  refine Yj (S:=λ w'=>RMS w c w') zk ?_ (λ aa=>?_)
  ·exact ac
  refine zhB 0 ?_;refine zhB 1 ?_;refine zzK 2 (λ K hK=>?_);go_simp;refine zm (cO _ (by assumption)) ?_;rintro w' hS;(try go_wp2_with fail);refine hK _ _ (by assumption) (λ aa=>?_);refine zhB 3 ?_;refine zhB 4 ?_;refine zhB 5 ?_;refine zhB 8 ?_;refine zhB 9 ?_;refine zzK 6 (λ K hK=>?_);go_simp;refine (cL _ (by assumption)).mono ?_;rintro e w' ⟨⟨ga,gc,rfl,ad⟩,hS⟩;(try go_wp2_with fail);refine hK _ _ (by assumption) (λ aa=>?_);refine zzK 7 (λ K hK=>?_);go_simp;refine zm (cF _ _ _ (by assumption) (by assumption)) ?_;rintro w' hS;(try go_wp2_with fail);refine hK _ _ (by assumption) (λ aa=>?_);refine zhB 10 ?_;refine zhB 11 ?_;refine zhB 12 ?_;refine zhS 13 ?_;refine zhS 14 ?_;refine zhS 15 ?_;refine zhB 16 ?_;refine zhB 17 ?_;refine zhS 18 ?_;refine zhS 19 ?_;refine zhS 20 ?_;refine zhB 21 ?_;refine zhB 22 ?_;refine zhS 23 ?_;refine zhS 24 ?_;refine zhS 25 ?_;refine zhB 26 ?_;refine zhB 27 ?_;refine Yt zk ?_ _;go_wp2;go_ret;exact ⟨rfl,fin _ (by assumption)⟩
 cases b4
 ·go_wp2_with fail
  refine Yj (S:=λ w'=>RMS w c w') zk ?_ (λ aa=>?_)
  ·exact ac
  refine zhB 0 ?_;refine zhB 1 ?_;refine zzK 2 (λ K hK=>?_);go_simp;refine zm (cO _ (by assumption)) ?_;rintro w' hS;(try go_wp2_with fail);refine hK _ _ (by assumption) (λ aa=>?_);refine zhB 3 ?_;refine zhB 4 ?_;refine zhB 5 ?_;refine zhB 8 ?_;refine zhB 9 ?_;refine zzK 6 (λ K hK=>?_);go_simp;refine (cL _ (by assumption)).mono ?_;rintro e w' ⟨⟨ga,gc,rfl,ad⟩,hS⟩;(try go_wp2_with fail);refine hK _ _ (by assumption) (λ aa=>?_);refine zzK 7 (λ K hK=>?_);go_simp;refine zm (cF _ _ _ (by assumption) (by assumption)) ?_;rintro w' hS;(try go_wp2_with fail);refine hK _ _ (by assumption) (λ aa=>?_);refine zhB 10 ?_;refine zhB 11 ?_;refine zhB 12 ?_;refine zhB 13 ?_;refine zhB 14 ?_;refine zzK 15 (λ K hK=>?_);go_simp;refine zm (cU _ (by assumption)) ?_;rintro w' hS;(try go_wp2_with fail);refine hK _ _ (by assumption) (λ aa=>?_);refine zhB 16 ?_;refine zhB 17 ?_;refine zhS 18 ?_;refine zhS 19 ?_;refine zhS 20 ?_;refine zhB 21 ?_;refine zhB 22 ?_;refine zhS 23 ?_;refine zhS 24 ?_;refine zhS 25 ?_;refine zhB 26 ?_;refine zhB 27 ?_;refine Yt zk ?_ _;go_wp2;go_ret;exact ⟨rfl,fin _ (by assumption)⟩
 by_cases h1:1<=c.step;focus
  obtain rfl:true=b5:=by rw [<- ah,zzZ h1]
  go_wp2_with fail
  refine Yj (S:=λ w'=>RMS w c w') zk ?_ (λ aa=>?_)
  ·exact ac
  refine zhB 0 ?_;refine zhB 1 ?_;refine zzK 2 (λ K hK=>?_);go_simp;refine zm (cO _ (by assumption)) ?_;rintro w' hS;(try go_wp2_with fail);refine hK _ _ (by assumption) (λ aa=>?_);refine zhB 3 ?_;refine zhB 4 ?_;refine zhB 5 ?_;refine zhB 8 ?_;refine zhB 9 ?_;refine zzK 6 (λ K hK=>?_);go_simp;refine (cL _ (by assumption)).mono ?_;rintro e w' ⟨⟨ga,gc,rfl,ad⟩,hS⟩;(try go_wp2_with fail);refine hK _ _ (by assumption) (λ aa=>?_);refine zzK 7 (λ K hK=>?_);go_simp;refine zm (cF _ _ _ (by assumption) (by assumption)) ?_;rintro w' hS;(try go_wp2_with fail);refine hK _ _ (by assumption) (λ aa=>?_);refine zhB 10 ?_;refine zhB 11 ?_;refine zhB 12 ?_;refine zhB 13 ?_;refine zhB 14 ?_;refine zzK 15 (λ K hK=>?_);go_simp;refine zm (cU _ (by assumption)) ?_;rintro w' hS;(try go_wp2_with fail);refine hK _ _ (by assumption) (λ aa=>?_);refine zhB 16 ?_;refine zhB 17 ?_;refine zhB 18 ?_;refine zhB 19 ?_;refine zhB 20 ?_;refine zhB 21 ?_;refine zhB 22 ?_;refine zhB 23 ?_;refine zhB 24 ?_;refine zzK 25 (λ K hK=>?_);go_simp;refine zm (cM _ (by assumption)) ?_;rintro w' hS;(try go_wp2_with fail);refine hK _ _ (by assumption) (λ aa=>?_);clear hK K
 rotate_left;focus
  obtain rfl:false=b5:=by rw [<- ah,zzd h1]
  have hd:decide (1<=c.step)=false:=zzd h1;go_wp2_with fail
  refine Yj (S:=λ w'=>RMS w c w') zk ?_ (λ aa=>?_)
  ·exact ac
  refine zhB 0 ?_;refine zhB 1 ?_;refine zzK 2 (λ K hK=>?_);go_simp;refine zm (cO _ (by assumption)) ?_;rintro w' hS;(try go_wp2_with fail);refine hK _ _ (by assumption) (λ aa=>?_);refine zhB 3 ?_;refine zhB 4 ?_;refine zhB 5 ?_;refine zhB 8 ?_;refine zhB 9 ?_;refine zzK 6 (λ K hK=>?_);go_simp;refine (cL _ (by assumption)).mono ?_;rintro e w' ⟨⟨ga,gc,rfl,ad⟩,hS⟩;(try go_wp2_with fail);refine hK _ _ (by assumption) (λ aa=>?_);refine zzK 7 (λ K hK=>?_);go_simp;refine zm (cF _ _ _ (by assumption) (by assumption)) ?_;rintro w' hS;(try go_wp2_with fail);refine hK _ _ (by assumption) (λ aa=>?_);refine zhB 10 ?_;refine zhB 11 ?_;refine zhB 12 ?_;refine zhB 13 ?_;refine zhB 14 ?_;refine zzK 15 (λ K hK=>?_);go_simp;refine zm (cU _ (by assumption)) ?_;rintro w' hS;(try go_wp2_with fail);refine hK _ _ (by assumption) (λ aa=>?_);refine zhB 16 ?_;refine zhB 17 ?_;refine zhB 18 ?_;refine zhB 19 ?_;refine zhB 20 ?_;refine zhB 21 ?_;refine zhB 22 ?_;refine zhS 23 ?_;refine zhS 24 ?_;refine zS 25 ?_
 rotate_left;all_goals
  refine zhB 26 ?_;refine zhB 27 ?_;refine Yt zk ?_ _;go_wp2;go_ret;exact ⟨rfl,fin _ (by assumption)⟩
section
open Go.ChangeShapes Go.WideShapes Go.ChangeAt Go.RowKit
def yAK (x0 x1 x2 x3 x4 x5 x6:Nat) (i:Nat):Nat:=match i with | 0=>x0 | 1=>x1 | 2=>x2 | 3=>x3 | 4=>x4 | 5=>x5 | _=>x6
def yAJ (x0 x1 x2 x3 x4 x5 x6 x7:Nat) (i:Nat):Nat:=match i with | 0=>x0 | 1=>x1 | 2=>x2 | 3=>x3 | 4=>x4 | 5=>x5 | 6=>x6 | _=>x7
theorem ydQ:∀(a b:List Leaf) {cs:List Value},oks (a++b) cs->∃ca cb,cs=ca++cb/\oks a ca/\oks b cb
 | [],b,cs,h=>⟨[],cs,rfl,trivial,h⟩
 | k::a,b,[],h=>h.elim
 | k::a,b,v::cs,h=>by
   obtain ⟨ca,cb,e,h1,h2⟩:=ydQ a b h.2;exact ⟨v::ca,cb,by rw [e];rfl,⟨h.1,h1⟩,h2⟩
theorem yvB:∀{cs:List Value},oks [.int .u64, .int .u64, .int .u64, .int .u64, .int .u64, .int .u64, .int .u64] cs->∃s:Nat->Nat,cs= [.int .u64 (s 0:Nat), .int .u64 (s 1:Nat), .int .u64 (s 2:Nat), .int .u64 (s 3:Nat), .int .u64 (s 4:Nat), .int .u64 (s 5:Nat), .int .u64 (s 6:Nat)]/\∀i,i<7->s i<18446744073709551616
 | [_,_,_,_,_,_,_],⟨⟨y0,rfl,h0⟩,⟨y1,rfl,h1⟩,⟨y2,rfl,h2⟩,⟨y3,rfl,h3⟩,⟨y4,rfl,h4⟩,⟨y5,rfl,h5⟩,⟨y6,rfl,h6⟩,_⟩=>by
   obtain ⟨x0,rfl,g0⟩:=ycC h0;obtain ⟨x1,rfl,g1⟩:=ycC h1;obtain ⟨x2,rfl,g2⟩:=ycC h2;obtain ⟨x3,rfl,g3⟩:=ycC h3;obtain ⟨x4,rfl,g4⟩:=ycC h4;obtain ⟨x5,rfl,g5⟩:=ycC h5;obtain ⟨x6,rfl,g6⟩:=ycC h6;refine ⟨yAK x0 x1 x2 x3 x4 x5 x6,rfl,λ i hi=>?_⟩;rcases yhD hi with rfl | rfl | rfl | rfl | rfl | rfl | rfl
   ·exact g0
   ·exact g1
   ·exact g2
   ·exact g3
   ·exact g4
   ·exact g5
   ·exact g6
theorem yyq:∀{cs:List Value},oks [.int .u64, .int .u64, .int .u64, .int .u64, .int .u64, .int .u64, .int .u64, .int .u64] cs->∃s:Nat->Nat,cs= [.int .u64 (s 0:Nat), .int .u64 (s 1:Nat), .int .u64 (s 2:Nat), .int .u64 (s 3:Nat), .int .u64 (s 4:Nat), .int .u64 (s 5:Nat), .int .u64 (s 6:Nat), .int .u64 (s 7:Nat)]/\∀i,i<8->s i<18446744073709551616
 | [_,_,_,_,_,_,_,_],⟨⟨y0,rfl,h0⟩,⟨y1,rfl,h1⟩,⟨y2,rfl,h2⟩,⟨y3,rfl,h3⟩,⟨y4,rfl,h4⟩,⟨y5,rfl,h5⟩,⟨y6,rfl,h6⟩,⟨y7,rfl,h7⟩,_⟩=>by
   obtain ⟨x0,rfl,g0⟩:=ycC h0;obtain ⟨x1,rfl,g1⟩:=ycC h1;obtain ⟨x2,rfl,g2⟩:=ycC h2;obtain ⟨x3,rfl,g3⟩:=ycC h3;obtain ⟨x4,rfl,g4⟩:=ycC h4;obtain ⟨x5,rfl,g5⟩:=ycC h5;obtain ⟨x6,rfl,g6⟩:=ycC h6;obtain ⟨x7,rfl,g7⟩:=ycC h7;refine ⟨yAJ x0 x1 x2 x3 x4 x5 x6 x7,rfl,λ i hi=>?_⟩;rcases yhK hi with rfl | rfl | rfl | rfl | rfl | rfl | rfl | rfl
   ·exact g0
   ·exact g1
   ·exact g2
   ·exact g3
   ·exact g4
   ·exact g5
   ·exact g6
   ·exact g7
theorem yyr {cs:List Value} (h:oks [.int .i64, .int .i64, .int .i64, .int .i64, .int .i64] cs):∃a b c d e:Int,cs= [.int .i64 a, .int .i64 b, .int .i64 c, .int .i64 d, .int .i64 e]/\yax a/\yax b/\yax c/\yax d/\yax e:=by
 obtain ⟨_,_,rfl,k0,h⟩:=yb7 h;obtain ⟨_,_,rfl,k1,h⟩:=yb7 h;obtain ⟨_,_,rfl,k2,h⟩:=yb7 h;obtain ⟨_,_,rfl,k3,h⟩:=yb7 h;obtain ⟨_,_,rfl,k4,h⟩:=yb7 h;obtain rfl:=ylo h;obtain ⟨a,rfl,g0⟩:=yvC k0;obtain ⟨b,rfl,g1⟩:=yvC k1;obtain ⟨c,rfl,g2⟩:=yvC k2;obtain ⟨d,rfl,g3⟩:=yvC k3;obtain ⟨e,rfl,g4⟩:=yvC k4;exact ⟨a,b,c,d,e,rfl,g0,g1,g2,g3,g4⟩
theorem ywu {cs:List Value} (h:oks [.bool, .int .i64, .bool] cs):∃(a:Bool) (n:Int) (b:Bool),cs= [.bool a, .int .i64 n, .bool b]/\yax n:=by
 obtain ⟨_,_,rfl,⟨a,rfl⟩,h1⟩:=yb7 h;obtain ⟨_,_,rfl,k1,h2⟩:=yb7 h1;obtain ⟨_,_,rfl,⟨b,rfl⟩,h3⟩:=yb7 h2;obtain rfl:=ylo h3;obtain ⟨n,rfl,g⟩:=yvC k1;exact ⟨a,n,b,rfl,g⟩
abbrev ylz:List Leaf:= [.int .u64, .int .u64, .int .u64, .int .u64, .int .u64, .int .u64, .int .u64]++([.bool, .int .i64, .bool]++([.int .u64, .int .u64, .int .u64, .int .u64, .int .u64, .int .u64, .int .u64, .int .u64]++([.int .u64, .int .u64, .int .u64, .int .u64, .int .u64, .int .u64, .int .u64] ++ [.int .i64, .int .i64, .int .i64, .int .i64, .int .i64])))
theorem yyH:yeO I 6 59=G ylz:=by kernel_rfl
theorem yys {cs:List Value} (h:oks ylz cs):∃c:Cl,cs=yae c/\c.Ok:=by
 obtain ⟨c1,r1,rfl,h1,h⟩:=ydQ _ _ h;obtain ⟨c2,r2,rfl,h2,h⟩:=ydQ _ _ h;obtain ⟨c3,r3,rfl,h3,h⟩:=ydQ _ _ h;obtain ⟨c4,r4,rfl,h4,h5⟩:=ydQ _ _ h;obtain ⟨m,rfl,g1⟩:=yvB h1;obtain ⟨o,n,b,rfl,g2⟩:=ywu h2;obtain ⟨d,rfl,g3⟩:=yyq h3;obtain ⟨y,rfl,g4⟩:=yvB h4;obtain ⟨u,s,a,f,t,rfl,g5,g6,g7,g8,g9⟩:=yyr h5;exact ⟨{m:=m,or:=o,oin:=n,oback:=b,od:=d,ys:=y,unit:=u,step:=s,anchor:=a,fr:=f,un:=t},rfl,⟨g1,g3,g4,g2,g5,g6,g7,g8,g9⟩⟩
end
section
open Go.ChangeShapes Go.WideShapes Go.ChangeAt Go.RowKit
theorem yqx:∀{cells:List Value} {n:Nat},cells.length=n*30->(∀i,i<n->oks ylz ((cells.drop (i*30)).take 30))->∃l:List Cl,cells=cls l/\l.length=n/\∀c∈l,c.Ok
 | cells,0,h,_=>⟨[],by cases cells;rfl;simp at h,rfl,by simp⟩
 | cells,n+1,h,hk=>by
   obtain ⟨l,e,hl,hb⟩:=yqx (cells:=cells.drop 30) (n:=n) (by simp;omega) (λ i hi=>by
    have:=hk (i+1) zo;rw [List.drop_drop];rwa [show 30+i*30= (i+1)*30 by omega])
   have h0:=hk 0 zo;rw [ZJ,List.drop_zero] at h0;obtain ⟨c,ec,hc⟩:=yys h0;refine ⟨c::l,?_,by simp [hl],λ y hy=>?_⟩
   ·rw [show cls (c::l)=yae c++cls l by simp [cls],<- e,<- ec,Zg]
   ·rcases YF.1 hy with rfl | hy
    ·exact hc
    ·exact hb y hy
theorem cellsCl30:Tryz.prog.cellsOf 59=30:=by kernel_rfl
theorem ytD {Hq:Type} {enc:TypeId × Value->Hq} {W:World} {a:Option Addr} {len cap:Nat} {d:DataW Hq} {p:List MemPlace} (h:DataW.Trod enc I W 0 (λ _=>true) true 28 (Xs a len cap) d p) :
  ∃l:List Cl,len=l.length/\l.length<=cap/\cap<=maxLen/\Sl W a (cls l)/\(a=N->cap=0)/\∀c∈l,c.Ok:=by
 obtain ⟨ab,hf⟩:=h;obtain ⟨a',n,ac,cells,e,h1,h2,h3,h4,h6,h5⟩:=ygW Tryz.underlying28 yyH cellsCl30.symm zd (v:=Xs a len cap) (by simpa [Value.cells] using hf);cases e;obtain ⟨l,rfl,aa,hw⟩:=yqx h3 h5;subst aa;exact ⟨l,rfl,h1,h2,h4,h6,hw⟩
end
section
attribute [local go_sem ↓] yau
theorem yo8 (a:Option Addr) (cap:Nat) (l:List Cl) (w:World) (hl:l.length<=1000) (hs:Sl w a (cls l)) (aj:∀c∈l,c.Ok) :
  H I 12 #[Xs a l.length cap] w λ e w'=>e=Q (Xb (yeM l))/\Bw w w':=by
 have Hs:=hid hs;have ao:=hid aj;clear hs aj;go_enter Tryz.func12,Tryz.ntmps12
 go_wp2_with fail
 go_loopw [3] (λ i wr=>∃k:Nat,i=E T k/\k<=l.length/\k<=9/\Hid ((l.take k).all ybJ=true)/\Hid (Bw w wr)) (λ i _=>l.length-(intOf i).toNat)
 case atStart=>exact ⟨0,rfl,by omega,by omega,by show _ = _;rfl,Ye _ _⟩
 case round=>
  obtain ⟨k,rfl,hk,ap,aa,HB⟩:=hrel;by_cases hlt:k<l.length
  ·by_cases h9:k<9
   ·have ad:(k:Int)<l.length:=zo;have an:(k:Int)<9:=zo;obtain ⟨b,off,rfl,am,hr⟩:=Hs.atCl hlt;have ag:=ybs hr HB am;have ae:=hid (ao _ (zzr hlt));have ts:=hid (yak l k hlt);have ac:=hid (zzr hlt);obtain ⟨c,hc⟩:=zx (l[k]);rw [hc] at ag ae ts ac;have le:=ykd ag;have cM:=hid (λ W=>yo7 c W ae);cases hm:ybJ c
    ·rw [hm] at cM;have ab:Hid (yeM l=false):=by
      show _ = _;rw [yeM,show l.all ybJ=false by rw [List.all_eq_false];exact ⟨c,ac,by rw [hm];simp⟩,Y3]
     clear hr ag hc hm;go_wp2_with fail
     refine zm (cM _) ?_;rintro w1 af;have ai:=hid (zu HB af);clear af le;go_wp2;go_ret;rw [ab];exact ⟨rfl,ai⟩
    ·rw [hm] at cM;have ah:Hid ((l.take (k+1)).all ybJ=true):=(by show _ = _;rw [ts,List.all_append,aa,List.all_cons,hm];rfl);clear hr ag hc hm;go_wp2_with fail
     refine zm (cM _) ?_;rintro w1 af;have ai:=hid (zu HB af);clear af le;go_wp2;exact ⟨⟨k+1,by go_num,by omega,by omega,ah,ai⟩,by simp [intOf];omega⟩
   ·have ad:(k:Int)<l.length:=zo;have an:¬(k:Int)<9:=zo;have ab:Hid (yeM l=false):=(by show _ = _;rw [yeM,zzd zo];rfl);have aq:decide ((l.length:Int)<=8)=false:=zzd zo;have al:¬(l.length:Int)<=8:=zo;go_wp2;go_ret;rw [ab];exact ⟨rfl,HB⟩
  ·have ad:¬(k:Int)<l.length:=zo;have ak:l.take k=l:=YU zo;rw [ak] at aa;clear ak;by_cases h8:l.length<=8
   ·have ab:Hid (yeM l=true):=(by show _ = _;rw [yeM,zzZ h8,aa];rfl);have al:(l.length:Int)<=8:=zo;clear aa;go_wp2;go_ret;rw [ab];exact ⟨rfl,HB⟩
   ·have ab:Hid (yeM l=false):=(by show _ = _;rw [yeM,zzd h8];rfl);have al:¬(l.length:Int)<=8:=zo;clear aa;go_wp2;go_ret;rw [ab];exact ⟨rfl,HB⟩
end
abbrev hdv (r:Ru):Value:= .agg #[E T r.st,E T r.iv,E T r.co,E T r.un,E T r.fq]
theorem yyQ:(Tryz.prog.info? 97).map (·.size)=G 5:=by kernel_rfl
theorem yom (w:World) (x:Obj) (l:List Value) (t:TypeId):((w.alloc x).alloc (J l.toArray t)).rangeAt (w.heap.size+1) 0 l:=by
 have h:=yao (w.alloc x) l t;(try unfold Bw at h);rwa [zzN] at h
theorem yix (r:Ru) (w:World):H I 44 #[ruv r] w λ e w'=>e=Q (hdv r)/\Bw w w':=by
 go_enter Tryz.func44,Tryz.ntmps44
 go_wp2;exact Yh (yac rfl _ _ (w.heap.size+1) 0 _ _ rfl (yom w _ _ _) Tryz.underlying97 rfl yyQ) rfl ⟨rfl,yaa (yaa (Ye _ _) zg) zs⟩
theorem yd6 (a b:Option Addr) (cn cm:Nat) (x y:List Int) (w:World)
  (am:x.length<=9223372036854775807) (al:y.length<=9223372036854775807)
  (hx:Sl w a (yaJ x)) (hy:Sl w b (yaJ y)) :
   H I 45 #[Xs a x.length cn,Xs b y.length cm] w λ e w'=>e=Q (Xb (decide (x=y)))/\Bw w w':=by
 by_cases ab:x.length=y.length
 ·have ai:((x.length:Int) != (y.length:Int))=false:=by simp;omega
  have HH:=hid ab;clear ab;go_enter Tryz.func45,Tryz.ntmps45
  go_wp2;go_loopw [13] (λ i wr=>∃k:Nat,i=E T k/\k<=x.length/\x.take k=y.take k/\Bw w wr) (λ i _=>x.length-(intOf i).toNat)
  case atStart=>exact ⟨0,rfl,by omega,rfl,Ye _ _⟩
  case round=>
   obtain ⟨k,rfl,hk,ht,hB⟩:=hrel;by_cases hlt:k<x.length
   ·obtain ⟨b1,o1,rfl,ah,ad⟩:=hx.atInt hlt;have aa:k<y.length:=(by rw [<- HH];exact hlt);obtain ⟨b2,o2,rfl,ag,ac⟩:=hy.atInt aa;have e1:=(hB.cell (p:=Z b1 (o1+k) N) ah).trans (ad k hlt);have e2:=(hB.cell (p:=Z b2 (o2+k) N) ag).trans (ac k aa);have hT:=hid ht;clear ad ac ht hx hy;go_wp2;go_quiet (fail)
    go_wp2
    ·have af:(x[k] != y[k])=true:=(by assumption);go_ret;refine ⟨ybv ?_,ya7 hB _⟩;symm
     rw [ZV];intro e;subst e;simp at af
    ·have af:(x[k] != y[k])=false:=(by assumption);refine ⟨⟨k+1,by go_num,by omega,?_,ya7 hB _⟩,by simp [intOf];omega⟩;rw [yak _ _ hlt,yak _ _ aa,hT];simp at af;rw [af]
   ·have hT:=hid ht;clear ht hx hy;have ae:x.length<=k:=zo;go_wp2;go_ret;refine ⟨ybv ?_,hB⟩;symm
    rw [zzY];have:=hT.out;rwa [YU ae,YU (by rw [<- HH];exact ae)] at this
 ·have ai:((x.length:Int) != (y.length:Int))=true:=by simp;omega
  have hf:decide (x=y)=false:=by
   rw [ZV];intro e;subst e;exact ab rfl
  rw [hf];clear hf;go_enter Tryz.func45,Tryz.ntmps45
  go_wp2;go_ret;exact ⟨rfl,Ye _ _⟩
theorem ysE (a b:Option Addr) (cn cm:Nat) (x y:List (Int × Int)) (w:World)
  (am:x.length<=1000000000000) (al:y.length<=1000000000000)
  (hx:Sl w a (yeI x)) (hy:Sl w b (yeI y)) :
   H I 46 #[Xs a x.length cn,Xs b y.length cm] w λ e w'=>e=Q (Xb (decide (x=y)))/\Bw w w':=by
 by_cases ab:x.length=y.length
 ·have ai:((x.length:Int) != (y.length:Int))=false:=by simp;omega
  have HH:=hid ab;clear ab;go_enter Tryz.func46,Tryz.ntmps46
  go_wp2;go_loopw [13] (λ i wr=>∃k:Nat,i=E T k/\k<=x.length/\Hid (x.take k=y.take k)/\Bw w wr) (λ i _=>x.length-(intOf i).toNat)
  case atStart=>exact ⟨0,rfl,by omega,by rfl,Ye _ _⟩
  case round=>
   obtain ⟨k,rfl,hk,hT,hB⟩:=hrel;by_cases hlt:k<x.length
   ·obtain ⟨b1,o1,rfl,ah,ad⟩:=hx.atNth hlt;have aa:k<y.length:=(by rw [<- HH];exact hlt);obtain ⟨b2,o2,rfl,ag,ac⟩:=hy.atNth aa;have e1:=(hB.cell (p:=⟨b1,o1+k*2,N⟩) ah).trans (ad k hlt).1;have ao:=(hB.cell (p:=⟨b1,o1+k*2+1,N⟩) ah).trans (ad k hlt).2;have e2:=(hB.cell (p:=⟨b2,o2+k*2,N⟩) ag).trans (ac k aa).1;have an:=(hB.cell (p:=⟨b2,o2+k*2+1,N⟩) ag).trans (ac k aa).2;have ak:=hid (yak x k hlt);have aj:=hid (yak y k aa);obtain ⟨⟨u1,u2⟩,hu⟩:∃q,x[k]=q:=⟨_,rfl⟩;obtain ⟨⟨v1,v2⟩,hv⟩:∃q,y[k]=q:=⟨_,rfl⟩;have Hu:=hid hu;have Hv:=hid hv;rw [hu] at e1 ao ak;rw [hv] at e2 an aj;clear ad ac hx hy hu hv;by_cases g1:u1=v1
    ·by_cases g2:u2=v2
     ·have hf:Hid (x.take (k+1)=y.take (k+1)):=(by show _ = _;rw [ak,aj,hT,g1,g2]);subst g1 g2;go_wp2;go_quiet (fail)
      go_wp2;exact ⟨⟨k+1,by go_num,by omega,hf,ya7 hB _⟩,by simp [intOf];omega⟩
     ·have hf:Hid (decide (x=y)=false):=by
       show _ = _;rw [ZV];rintro rfl;exact g2 (Prod.mk.inj (Hu.symm.trans Hv)).2
      have gb:(u1==v1)=true:=(by simp [g1]);have ap:(u2==v2)=false:=(by simp [g2]);clear g1 g2;go_wp2;go_quiet (fail)
      go_wp2;go_ret;exact ⟨by rw [hf];rfl,ya7 hB _⟩
    ·have hf:Hid (decide (x=y)=false):=by
      show _ = _;rw [ZV];rintro rfl;exact g1 (Prod.mk.inj (Hu.symm.trans Hv)).1
     have gb:(u1==v1)=false:=(by simp [g1]);clear g1;go_wp2;go_quiet (fail)
     go_wp2;go_ret;exact ⟨by rw [hf];rfl,ya7 hB _⟩
   ·clear hx hy;have ae:x.length<=k:=zo;go_wp2;go_ret;refine ⟨ybv ?_,hB⟩;symm
    rw [zzY];have:=hT.out;rwa [YU ae,YU (by rw [<- HH];exact ae)] at this
 ·have ai:((x.length:Int) != (y.length:Int))=true:=by simp;omega
  have hf:decide (x=y)=false:=by
   rw [ZV];intro e;subst e;exact ab rfl
  rw [hf];clear hf;go_enter Tryz.func46,Tryz.ntmps46
  go_wp2;go_ret;exact ⟨rfl,Ye _ _⟩
section
def yfU (r s:Ru):Bool:=decide (r.st=s.st/\r.iv=s.iv/\r.co=s.co/\r.un=s.un/\r.fq=s.fq)
def ytn (r s:Ru):Bool:=yfU r s&&(decide (r.l5=s.l5)&&(decide (r.l6=s.l6)&&(decide (r.l7=s.l7)&&(decide (r.l8=s.l8)&&(decide (r.l9=s.l9)&&decide (r.lx=s.lx))))))
theorem yol (r:Ru):ytn r r=true:=by simp [ytn,yfU]
theorem yrX:Tryz.prog.cellsOf 97=5:=by kernel_rfl
theorem yz4:Tryz.prog.keyTypeAt 3 97=true:=by kernel_rfl
theorem yvO (r:Ru):(hdv r).formed I 97=true:=by
 unfold Value.formed;simp only [Tryz.underlying97,yrX];rfl
theorem yq0 (d:Nat) (r:Ru) (h:r.Num):Tryz.prog.keyLits (d+2) 97 [.int T r.st, .int T r.iv, .int T r.co, .int T r.un, .int T r.fq]=G [.int T r.st, .int T r.iv, .int T r.co, .int T r.un, .int T r.fq]:=by
 unfold Program.keyLits;simp only [Tryz.underlying97];simp [yrX,ynJ,ygs,ynl,ynk,h.st,h.fq,h.iv,h.co,h.un]
theorem yxb (r s:Ru) (hr:r.Num) (hs:s.Num) (w:World):(Op.equalIn 10000 97 (hdv r) (hdv s)).run I w= .ok (yfU r s) w:=by
 obtain ⟨q,hq,hi⟩:=run_equalIn_deep 9997 3 97 yz4 w 3 3 _ _ _ _ (yvO r) (yvO s) (yq0 1 r hr) (yq0 1 s hs);have e:q=yfU r s:=by
  rw [zze,hi,yfU,zzY];simp only [List.cons.injEq,ylx,and_true]
 rw [<- e];exact hq
theorem yy3 (r s:Ru) (hr:r.Num) (hs:s.Num) (w:World):(binOp .eql 97 (hdv r) (hdv s)).run I w= .ok (.bool (yfU r s)) w:=by
 rw [run_eql_struct,yxb r s hr hs w];rfl
attribute [local go_sem ↓] yrA
theorem yrF (r s:Ru) (hr:r.Num) (hs:s.Num) (w:World):(yvS (hdv r) (hdv s)).run I w= .ok (.bool (yfU r s)) w:=yy3 r s hr hs w
theorem ywl (w:World) (r s:Ru) (t:TypeId) (hr:RuS w r) (hs:RuS w s):SaF w r s ((w.alloc (J (yad r).toArray t)).alloc (J (yad s).toArray t)):=by
 have hb:Bw w ((w.alloc (J (yad r).toArray t)).alloc (J (yad s).toArray t)):=yaa (yaa (Ye _ _) zg) zs;have hn:Below (w.heap.size+1) (w.alloc (J (yad r).toArray t)) ((w.alloc (J (yad r).toArray t)).alloc (J (yad s).toArray t)):=yaa (Ye _ _) zs;have h2:=ybh (w.alloc (J (yad r).toArray t)) s t;(try unfold Bw at h2);rw [zzN] at h2
 exact ⟨(ybh w r t).below hn zo,h2,hr.below hb,hs.below hb,hb,by simp only [zzN];omega⟩
theorem yo4 (r s:Ru) (w:World) (hr:RuS w r) (hs:RuS w s) (hm:r.Sm 1000000) (ab:s.Sm 1000000) (hn:r.Num) (ac:s.Num) :
  H I 18 #[ruv r,ruv s] w λ e w'=>e=Q (.bool (ytn r s))/\Bw w w':=by
 have ae:=hid ((ywl w r s 25 hr hs).sas.keep (Ye _ _).drew);have kR:=hid (λ W (h:SaS w r s W)=>yap (yix r W) (λ _=>h.keep));have kS:=hid (λ W (h:SaS w r s W)=>yap (yix s W) (λ _=>h.keep));have kE:=hid (λ W=>yrF r s hn ac W);have k5:=hid (λ W (h:SaS w r s W)=>yap (yd6 r.a5 s.a5 r.c5 s.c5 r.l5 s.l5 W (zp hm.n5) (zp ab.n5) h.2.s1.s5 h.2.s2.s5) (λ _=>h.keep));have k6:=hid (λ W (h:SaS w r s W)=>yap (yd6 r.a6 s.a6 r.c6 s.c6 r.l6 s.l6 W (zp hm.n6) (zp ab.n6) h.2.s1.s6 h.2.s2.s6) (λ _=>h.keep));have k7:=hid (λ W (h:SaS w r s W)=>yap (ysE r.a7 s.a7 r.c7 s.c7 r.l7 s.l7 W (zp hm.n7) (zp ab.n7) h.2.s1.s7 h.2.s2.s7) (λ _=>h.keep));have k8:=hid (λ W (h:SaS w r s W)=>yap (yd6 r.a8 s.a8 r.c8 s.c8 r.l8 s.l8 W (zp hm.n8) (zp ab.n8) h.2.s1.s8 h.2.s2.s8) (λ _=>h.keep));have k9:=hid (λ W (h:SaS w r s W)=>yap (yd6 r.a9 s.a9 r.c9 s.c9 r.l9 s.l9 W (zp hm.n9) (zp ab.n9) h.2.s1.s9 h.2.s2.s9) (λ _=>h.keep));have kx:=hid (λ W (h:SaS w r s W)=>yap (yd6 r.ax s.ax r.cx s.cx r.lx s.lx W (zp hm.nx) (zp ab.nx) h.2.s1.sx h.2.s2.sx) (λ _=>h.keep));rw [ytn];obtain ⟨b0,g0⟩:=zx (yfU r s);obtain ⟨b5,g5⟩:=zx (decide (r.l5=s.l5));obtain ⟨b6,g6⟩:=zx (decide (r.l6=s.l6));obtain ⟨b7,g7⟩:=zx (decide (r.l7=s.l7));obtain ⟨b8,g8⟩:=zx (decide (r.l8=s.l8));obtain ⟨b9,g9⟩:=zx (decide (r.l9=s.l9));obtain ⟨bx,gx⟩:=zx (decide (r.lx=s.lx));rw [g0,g5,g6,g7,g8,g9,gx];rw [g0] at kE;rw [g5] at k5;rw [g6] at k6;rw [g7] at k7;rw [g8] at k8;rw [g9] at k9;rw [gx] at kx;clear g0 g5 g6 g7 g8 g9 gx hr hs hm ab hn ac;go_enter Tryz.func18,Tryz.ntmps18
 go_wp2_with fail
 refine Yj (S:=λ w'=>SaS w r s w') zk ae (λ aa=>?_);refine zhB 0 ?_;refine zhB 2 ?_;refine zzK 1 (λ K hK=>?_);go_simp;refine zm (kR _ (by assumption)) ?_;rintro wr hS;(try go_wp2_with fail);refine hK _ _ (by assumption) (λ aa=>?_);clear hK K;refine zzK 3 (λ K hK=>?_);go_simp;refine zm (kS _ (by assumption)) ?_;rintro wr hS;(try go_wp2_with fail);refine hK _ _ (by assumption) (λ aa=>?_);clear hK K;refine zT 4 (v:=?_) ?_ ?_;rotate_left
 ·intro w ad;(try dsimp only [RMS] at ad);go_simp;rw [kE,Zf]
 cases b0;focus
  refine zhB 5 ?_;refine zhS 6 ?_;refine zhS 7 ?_;refine zhS 8 ?_;refine zhS 9 ?_;refine zhS 10 ?_;refine zhB 11 ?_;refine zhB 12 ?_;refine zhS 13 ?_;refine zhS 14 ?_;refine zhS 15 ?_;refine zhS 16 ?_;refine zhS 17 ?_;refine zhB 18 ?_;refine zhB 19 ?_;refine zhS 20 ?_;refine zhS 21 ?_;refine zhS 22 ?_;refine zhS 23 ?_;refine zhS 24 ?_;refine zhB 25 ?_;refine zhB 26 ?_;refine zhS 27 ?_;refine zhS 28 ?_;refine zhS 29 ?_;refine zhS 30 ?_;refine zhS 31 ?_;refine zhB 32 ?_;refine zhB 33 ?_;refine zhS 34 ?_;refine zhS 35 ?_;refine zhS 36 ?_;refine zhS 37 ?_;refine zhS 38 ?_;refine zhB 39 ?_;refine zhB 40 ?_;refine zhS 41 ?_;refine zhS 42 ?_;refine zhS 43 ?_;refine zhS 44 ?_;refine zS 45 ?_
 rotate_left;focus
  refine zhB 5 ?_;refine zhB 6 ?_;refine zhB 7 ?_;refine zhB 8 ?_;refine zhB 9 ?_;refine zzK 10 (λ K hK=>?_);go_simp;refine zm (k5 _ (by assumption)) ?_;rintro wr hS;(try go_wp2_with fail);refine hK _ _ (by assumption) (λ aa=>?_);clear hK K;cases b5;focus
   refine zhB 11 ?_;refine zhB 12 ?_;refine zhS 13 ?_;refine zhS 14 ?_;refine zhS 15 ?_;refine zhS 16 ?_;refine zhS 17 ?_;refine zhB 18 ?_;refine zhB 19 ?_;refine zhS 20 ?_;refine zhS 21 ?_;refine zhS 22 ?_;refine zhS 23 ?_;refine zhS 24 ?_;refine zhB 25 ?_;refine zhB 26 ?_;refine zhS 27 ?_;refine zhS 28 ?_;refine zhS 29 ?_;refine zhS 30 ?_;refine zhS 31 ?_;refine zhB 32 ?_;refine zhB 33 ?_;refine zhS 34 ?_;refine zhS 35 ?_;refine zhS 36 ?_;refine zhS 37 ?_;refine zhS 38 ?_;refine zhB 39 ?_;refine zhB 40 ?_;refine zhS 41 ?_;refine zhS 42 ?_;refine zhS 43 ?_;refine zhS 44 ?_;refine zS 45 ?_
  rotate_left;focus
   refine zhB 11 ?_;refine zhB 12 ?_;refine zhB 13 ?_;refine zhB 14 ?_;refine zhB 15 ?_;refine zhB 16 ?_;refine zzK 17 (λ K hK=>?_);go_simp;refine zm (k6 _ (by assumption)) ?_;rintro wr hS;(try go_wp2_with fail);refine hK _ _ (by assumption) (λ aa=>?_);clear hK K;cases b6;focus
    refine zhB 18 ?_;refine zhB 19 ?_;refine zhS 20 ?_;refine zhS 21 ?_;refine zhS 22 ?_;refine zhS 23 ?_;refine zhS 24 ?_;refine zhB 25 ?_;refine zhB 26 ?_;refine zhS 27 ?_;refine zhS 28 ?_;refine zhS 29 ?_;refine zhS 30 ?_;refine zhS 31 ?_;refine zhB 32 ?_;refine zhB 33 ?_;refine zhS 34 ?_;refine zhS 35 ?_;refine zhS 36 ?_;refine zhS 37 ?_;refine zhS 38 ?_;refine zhB 39 ?_;refine zhB 40 ?_;refine zhS 41 ?_;refine zhS 42 ?_;refine zhS 43 ?_;refine zhS 44 ?_;refine zS 45 ?_
   rotate_left;focus
    refine zhB 18 ?_;refine zhB 19 ?_;refine zhB 20 ?_;refine zhB 21 ?_;refine zhB 22 ?_;refine zhB 23 ?_;refine zzK 24 (λ K hK=>?_);go_simp;refine zm (k7 _ (by assumption)) ?_;rintro wr hS;(try go_wp2_with fail);refine hK _ _ (by assumption) (λ aa=>?_);clear hK K;cases b7;focus
     refine zhB 25 ?_;refine zhB 26 ?_;refine zhS 27 ?_;refine zhS 28 ?_;refine zhS 29 ?_;refine zhS 30 ?_;refine zhS 31 ?_;refine zhB 32 ?_;refine zhB 33 ?_;refine zhS 34 ?_;refine zhS 35 ?_;refine zhS 36 ?_;refine zhS 37 ?_;refine zhS 38 ?_;refine zhB 39 ?_;refine zhB 40 ?_;refine zhS 41 ?_;refine zhS 42 ?_;refine zhS 43 ?_;refine zhS 44 ?_;refine zS 45 ?_
    rotate_left;focus
     refine zhB 25 ?_;refine zhB 26 ?_;refine zhB 27 ?_;refine zhB 28 ?_;refine zhB 29 ?_;refine zhB 30 ?_;refine zzK 31 (λ K hK=>?_);go_simp;refine zm (k8 _ (by assumption)) ?_;rintro wr hS;(try go_wp2_with fail);refine hK _ _ (by assumption) (λ aa=>?_);clear hK K;cases b8;focus
      refine zhB 32 ?_;refine zhB 33 ?_;refine zhS 34 ?_;refine zhS 35 ?_;refine zhS 36 ?_;refine zhS 37 ?_;refine zhS 38 ?_;refine zhB 39 ?_;refine zhB 40 ?_;refine zhS 41 ?_;refine zhS 42 ?_;refine zhS 43 ?_;refine zhS 44 ?_;refine zS 45 ?_
     rotate_left;focus
      refine zhB 32 ?_;refine zhB 33 ?_;refine zhB 34 ?_;refine zhB 35 ?_;refine zhB 36 ?_;refine zhB 37 ?_;refine zzK 38 (λ K hK=>?_);go_simp;refine zm (k9 _ (by assumption)) ?_;rintro wr hS;(try go_wp2_with fail);refine hK _ _ (by assumption) (λ aa=>?_);clear hK K;cases b9;focus
       refine zhB 39 ?_;refine zhB 40 ?_;refine zhS 41 ?_;refine zhS 42 ?_;refine zhS 43 ?_;refine zhS 44 ?_;refine zS 45 ?_
      rotate_left;focus
       refine zhB 39 ?_;refine zhB 40 ?_;refine zhB 41 ?_;refine zhB 42 ?_;refine zhB 43 ?_;refine zhB 44 ?_;refine zzK 45 (λ K hK=>?_);go_simp;refine zm (kx _ (by assumption)) ?_;rintro wr hS;(try go_wp2_with fail);refine hK _ _ (by assumption) (λ aa=>?_);clear hK K
      rotate_left
     rotate_left 2
    rotate_left 3
   rotate_left 4
  rotate_left 5
 rotate_left 6;all_goals
  refine zhB 46 ?_;refine zhB 47 ?_;refine Yt zk ?_ _;have HV:=hid ‹SaS w r s _›;go_wp2;go_ret;exact ⟨rfl,HV.2.be⟩
end
