/- Small functions over lists of numbers -/
import Derived.Test.YtkdaiadfgfbgmaaGreatDoorQ6eb9b1
import Derived.Deep.Fields
set_option maxRecDepth 100000
set_option maxHeartbeats 25600000
set_option linter.unusedSimpArgs false
open Option renaming none -> N, some -> G
open Go.Value renaming int -> E, pointer -> R, slice -> Xs, bool -> Xb, func -> Xf, tuple -> Xt
open Go.IntKind renaming i64 -> T, u64 -> Y
open Go.Addr renaming mk -> Z
open Go renaming Calls -> H
open Go.Proofs.Tryz renaming prog -> I
open Go.Obj renaming cells -> J
open Go.Ending renaming returned -> Q
namespace Go.Proofs.YtkdaiadfgfbgmaaGreatDoor
open Go.RowKit Go.Maps
set_option linter.unusedVariables false
def yht (lo hi n:Int):Bool:=decide (n<lo)||decide (hi<n)
def ycs (lo hi:Int) (l:List Int):Bool:=l.any (yht lo hi)
def ykf {α:Type} (p:α->Bool):List α->Int
 | []=>-1
 | x::l=>if p x then 0 else if ykf p l<0 then -1 else ykf p l+1
theorem ygi {α:Type} (p:α->Bool):∀l:List α,(decide (0<=ykf p l)=l.any p)/\-1<=ykf p l
 | []=>⟨rfl,Zv _⟩
 | x::l=>by
   obtain ⟨h,h1⟩:=ygi p l;rw [ykf,List.any_cons];by_cases hx:p x=true
   ·rw [Yd hx,hx];exact ⟨rfl,by omega⟩
   ·rw [Yb hx];have aj:p x=false:=(by simpa using hx);rw [aj,YR,<- h];by_cases h0:ykf p l<0
    ·rw [Yd h0,zzd (by omega:¬0<=ykf p l)];exact ⟨rfl,by omega⟩
    ·rw [Yb h0,zzZ (by omega:0<=ykf p l),zzZ (by omega:0<=ykf p l+1)];exact ⟨rfl,by omega⟩
theorem ylI {α:Type} {p:α->Bool} {l:List α}:∀{k:Nat} (hk:k<l.length),(∀x∈l.take k,p x=false)->p l[k]=true->ykf p l=k:=by
 induction l with
 | nil=>intro k hk;simp at hk
 | cons x l ih=>
   intro k hk h1 h2;cases k with
   | zero=>rw [ykf];simp only [zC] at h2;rw [Yd h2];rfl
   | succ k=>
     have af:k<l.length:=(by simpa using hk);have hx:p x=false:=h1 x zs;have:=ih af (λ y hy=>h1 y (by simp [hy])) (by simpa using h2);rw [ykf,hx,Yb zs,this,Yb zo];omega
theorem yeK {α:Type} {p:α->Bool}:∀{l:List α},(∀x∈l,p x=false)->ykf p l= -1
 | [],_=>rfl
 | x::l,h=>by
   rw [ykf,h x zs,Yb zs,yeK (λ y hy=>h y (by simp [hy])),Yd zo]
theorem yiT {α:Type} {p:α->Bool} {l:List α} {k:Nat} {y:α} (ht:l.take (k+1)=l.take k ++ [y]) (h:∀x∈l.take k,p x=false) (hy:p y=false):∀x∈l.take (k+1),p x=false:=by
 rw [ht];intro x hx;rcases YC.1 hx with hx | hx
 ·exact h x hx
 ·obtain rfl:=Yy.1 hx;exact hy
theorem yuS (n lo hi:Int) (b4 b5:Nat) (w:World) (h4:w.cell? (Z b4 0 N)=G (E T lo)) (h5:w.cell? (Z b5 0 N)=G (E T hi)) :
  H I 199 #[E T n,R (G (Z b4 0 N)),R (G (Z b5 0 N))] w λ e w'=>e=Q (Xb (yht lo hi n))/\w=w':=by
 rw [yht];by_cases h:n<lo
 ·have hd:decide (n<lo)=true:=zzZ h;rw [hd];clear hd;go_enter Tryz.func199,Tryz.ntmps199
  go_wp2;go_ret;exact ⟨rfl,rfl⟩
 ·have hd:decide (n<lo)=false:=zzd h;rw [hd];clear hd;go_enter Tryz.func199,Tryz.ntmps199
  go_wp2;go_ret;exact ⟨rfl,rfl⟩
theorem ypf (a:Option Addr) (cap:Nat) (l:List Int) (lo hi:Int) (b4 b5:Nat) (w:World) (hl:l.length<=9223372036854775807) (hs:Sl w a (yaR l))
  (h4:w.cell? (Z b4 0 N)=G (E T lo)) (h5:w.cell? (Z b5 0 N)=G (E T hi)) :
  H I 214 #[Xs a l.length cap,Xf (.func 199) #[] #[R (G (Z b4 0 N)),R (G (Z b5 0 N))]] w λ e w'=>e=Q (E T (ykf (yht lo hi) l))/\w=w':=by
 have Hs:=hid hs;have c1:=hid (λ n=>yuS n lo hi b4 b5 w h4 h5);have ae:(l.length:Int)<=9223372036854775807:=zo;clear hs hl h4 h5;go_enter Tryz.func214,Tryz.ntmps214
 go_wp2;go_loopw [8] (λ i wr=>∃k:Nat,i=E T k/\k<=l.length/\Hid (∀x∈l.take k,yht lo hi x=false)/\wr=w) (λ i _=>l.length-(intOf i).toNat)
 case atStart=>exact ⟨0,rfl,by omega,by show∀x,_;simp,rfl⟩
 case round=>
  obtain ⟨k,rfl,hk,hI,rfl⟩:=hrel;by_cases hlt:k<l.length
  ·obtain ⟨b,off,rfl,hb,hc⟩:=Hs.atInt hlt;have e1:=hc k hlt;have ht:=hid (yal l k hlt);have ac:=hid (λ h=>ylI (p:=yht lo hi) hlt hI h);obtain ⟨y,hy⟩:=zx (l[k]);rw [hy] at e1 ht ac;clear hc hy;obtain ⟨q,hq⟩:=zx (yht lo hi y);have c2:=hid (c1 y);rw [hq] at c2;have Hq:=hid hq;clear hq;cases q;all_goals
    go_wp2_with fail
    refine zm c2 ?_;rintro w1 rfl;go_wp2
   ·exact ⟨⟨k+1,by go_num,by omega,yiT ht hI Hq,by trivial⟩,by simp [intOf];omega⟩
   ·go_ret;exact ⟨by rw [ac Hq];rfl,by trivial⟩
  ·have aa:l.take k=l:=YU zo;rw [aa] at hI;have hr:=hid (yeK hI);clear aa;go_wp2;go_ret;exact ⟨by rw [hr];rfl,by trivial⟩
theorem yms (a:Option Addr) (cap:Nat) (l:List Int) (lo hi:Int) (b4 b5:Nat) (w:World) (hl:l.length<=9223372036854775807) (hs:Sl w a (yaR l))
  (h4:w.cell? (Z b4 0 N)=G (E T lo)) (h5:w.cell? (Z b5 0 N)=G (E T hi)) :
  H I 198 #[Xs a l.length cap,Xf (.func 199) #[] #[R (G (Z b4 0 N)),R (G (Z b5 0 N))]] w λ e w'=>e=Q (Xb (ycs lo hi l))/\w=w':=by
 have c1:=hid (ypf a cap l lo hi b4 b5 w hl hs h4 h5);have hr:=hid (ygi (yht lo hi) l).1;rw [ycs,<- hr];clear hs hl h4 h5;go_enter Tryz.func198,Tryz.ntmps198
 go_wp2_with fail
 refine zm c1 ?_;rintro w1 rfl;go_wp2;go_ret;exact ⟨rfl,rfl⟩
theorem ydo (a:Option Addr) (cap:Nat) (l:List Int) (lo hi:Int) (w:World) (hl:l.length<=9223372036854775807) (hs:Sl w a (yaR l)) :
  H I 161 #[Xs a l.length cap,E T lo,E T hi] w λ e w'=>e=Q (Xb (ycs lo hi l))/\Bw w w':=by
 have hB:Bw w ((w.alloc (J #[E T lo] 3)).alloc (J #[E T hi] 3)):=yaa (yaa (Ye _ _) zg) zs;have c1:=hid (yms a cap l lo hi w.heap.size (w.heap.size+1) _ hl (hs.below hB) (by simp [go_sem]) (by simp [go_sem]));have HB:=hid hB;clear hs hl hB;go_enter Tryz.func161,Tryz.ntmps161
 go_wp2_with fail
 refine zm c1 ?_;rintro w1 rfl;go_wp2;go_ret;exact ⟨rfl,HB⟩
def yxA (l:List Int):Nat:=l.countP (λ n=>decide (n<0))
def ywb (l:List Int):Nat:=l.countP (λ n=>decide (0<n))
def yk3 (l:List Int):Nat:=l.countP (λ n=>decide (n=0))
def yhq (l:List Int):Bool:=(decide (0<yxA l)&&decide (0<ywb l+yk3 l))||(decide (0<ywb l)&&decide (0<yk3 l))
theorem yen (p:Int->Bool) {l:List Int} {k:Nat} {y:Int} (ht:l.take (k+1)=l.take k ++ [y]):(l.take (k+1)).countP p= (l.take k).countP p+(if p y then 1 else 0):=by
 rw [ht,List.countP_append];simp [List.countP_cons]
theorem ykP (a:Option Addr) (cap:Nat) (l:List Int) (w:World) (hl:l.length<=1000000000000) (hs:Sl w a (yaR l)) :
  H I 204 #[Xs a l.length cap] w λ e w'=>e=Q (Xb (yhq l))/\w=w':=by
 have Hs:=hid hs;have ae:(l.length:Int)<=1000000000000:=zo;clear hs hl;go_enter Tryz.func204,Tryz.ntmps204
 go_wp2;go_loopw [3,4,5,10] (λ b c d i wr=>∃k x y z:Nat,i=E T k/\k<=l.length/\b=E T x/\c=E T y/\d=E T z/\Hid (x=yxA (l.take k)/\y=ywb (l.take k)/\z=yk3 (l.take k))/\(x<=k/\y<=k/\z<=k)/\wr=w) (λ _ _ _ i _=>l.length-(intOf i).toNat)
 case atStart=>exact ⟨0,0,0,0,rfl,by omega,rfl,rfl,rfl,⟨rfl,rfl,rfl⟩,⟨by omega,by omega,by omega⟩,rfl⟩
 case round=>
  obtain ⟨k,x,y,z,rfl,hk,rfl,rfl,rfl,hI,⟨hx,hy,hz⟩,rfl⟩:=hrel;by_cases hlt:k<l.length
  ·obtain ⟨b,off,rfl,hb,hc⟩:=Hs.atInt hlt;have e1:=hc k hlt;have ht:=hid (yal l k hlt);obtain ⟨v,hv⟩:=zx (l[k]);rw [hv] at e1 ht;clear hc hv;have n1:=hid (yen (λ n=>decide (n<0)) ht);have n2:=hid (yen (λ n=>decide (0<n)) ht);have n3:=hid (yen (λ n=>decide (n=0)) ht);have hr:∀a b c:Nat,(if decide (v<0)=true then 1 else 0)=a->(if decide (0<v)=true then 1 else 0)=b->(if decide (v=0)=true then 1 else 0)=c->x+a=yxA (l.take (k+1))/\y+b=ywb (l.take (k+1))/\z+c=yk3 (l.take (k+1)):=by
    rintro _ _ _ rfl rfl rfl;rw [yxA,n1,ywb,n2,yk3,n3,hI.1,hI.2.1,hI.2.2];exact ⟨rfl,rfl,rfl⟩
   have Hr:=hid hr;clear hr;have h3:v<0\/ 0<v\/ v=0:=zo;rcases h3 with h | h | h;rotate_left;have hn:¬v<0:=zo;rotate_left;have hn:¬v<0:=zo;have an:¬0<v:=zo;rotate_left;all_goals
    go_wp2
   ·exact ⟨⟨k+1,x+1,y,z,by go_num,by omega,by go_num,rfl,rfl,Hr 1 0 0 (by simp;omega) (by simp;omega) (by simp;omega),⟨by omega,by omega,by omega⟩,by trivial⟩,by simp [intOf];omega⟩
   ·exact ⟨⟨k+1,x,y+1,z,by go_num,by omega,rfl,by go_num,rfl,Hr 0 1 0 (by simp;omega) (by simp;omega) (by simp;omega),⟨by omega,by omega,by omega⟩,by trivial⟩,by simp [intOf];omega⟩
   ·exact ⟨⟨k+1,x,y,z+1,by go_num,by omega,rfl,rfl,by go_num,Hr 0 0 1 (by simp;omega) (by simp;omega) (by simp;omega),⟨by omega,by omega,by omega⟩,by trivial⟩,by simp [intOf];omega⟩
  ·have aa:l.take k=l:=YU zo;rw [aa] at hI;have hr:Hid (yhq l= ((decide (0<x)&&decide (0<y+z))||(decide (0<y)&&decide (0<z)))):=by
    show _ = _;rw [yhq,<- hI.1,<- hI.2.1,<- hI.2.2]
   clear aa hI;by_cases h1:0<x;by_cases h2:(0:Int)<y+z;rotate_left;have h3:¬0<y:=zo;rotate_left;by_cases h3:0<y;by_cases h4:0<z;all_goals
    go_wp2;go_ret;exact ⟨by rw [hr];simp;omega,by trivial⟩
def ypr (x:Int × Int):List Value:= [E T x.1,E T x.2]
def yeF (l:List (Int × Int)):List Value:=l.flatMap ypr
theorem ylt (l:List (Int × Int)):(yeF l).length=l.length*2:=by
 induction l with
 | nil=>rfl
 | cons x l ih=>simp only [yeF,ZZ,YG,Yu] at ih⊢;rw [ih];simp [ypr];omega
theorem ytw (l:List (Int × Int)):∀(k:Nat) (hk:k<l.length),(yeF l)[k*2]? =G (E T l[k].1)/\(yeF l)[k*2+1]? =G (E T l[k].2):=by
 induction l with
 | nil=>intro k hk;simp at hk
 | cons x l ih=>
   intro k hk;have e:yeF (x::l)=ypr x++yeF l:=(by simp [yeF]);cases k with
   | zero=>simp [e,ypr]
   | succ k=>
     have af:k<l.length:=(by simpa using hk);obtain ⟨h1,h2⟩:=ih k af;have hl:(ypr x).length=2:=rfl;refine ⟨?_,?_⟩
     ·rw [e,Yl (by rw [hl];omega),hl,show (k+1)*2-2=k*2 by omega,h1];simp
     ·rw [e,Yl (by rw [hl];omega),hl,show (k+1)*2+1-2=k*2+1 by omega,h2];simp
theorem Sl.atNth {w:World} {a:Option Addr} {l:List (Int × Int)} (h:Sl w a (yeF l)) {k:Nat} (hk:k<l.length) :
  ∃b off,a=G (Z b off N)/\b<w.heap.size/\∀j (h:j<l.length),w.cell? ⟨b,off+j*2,N⟩=G (E T l[j].1)/\w.cell? ⟨b,off+j*2+1,N⟩=G (E T l[j].2):=by
 obtain ⟨b,off,rfl,hlt,hc⟩:=Sl.at h (k:=k*2) (by rw [ylt];omega);refine ⟨b,off,rfl,hlt,λ j hj=>?_⟩;have hg:=ytw l j hj;have get:∀m v,(yeF l)[m]? =G v->w.cell? (Z b (off+m) N)=G v:=by
  intro m v hm;obtain ⟨al,hv⟩:=zzq.1 hm;rw [hc m al,hv]
 exact ⟨get _ _ hg.1,by rw [ZN];exact get _ _ hg.2⟩
def yjB (x:Int × Int):Bool:=decide (x.2<1)||decide (7<x.2)
theorem yoW (n d:Int) (w:World):H I 206 #[.agg #[E T n,E T d]] w λ e w'=>e=Q (Xb (yjB (n,d)))/\Bw w w':=by
 rw [yjB];have HB:Hid (Bw w (w.alloc (J #[E T n,E T d] 102))):=yaa (Ye _ _) zg;by_cases h:d<1;focus
  have hd:decide ((n,d).2<1)=true:=zzZ h
 rotate_left;focus
  have hd:decide ((n,d).2<1)=false:=zzd h
 rotate_left;all_goals
  rw [hd];clear hd;go_enter Tryz.func206,Tryz.ntmps206
  go_wp2;go_ret;exact ⟨rfl,HB⟩
theorem ypg (a:Option Addr) (cap:Nat) (l:List (Int × Int)) (w:World) (hl:l.length<=1000000000000) (hs:Sl w a (yeF l)) :
  H I 217 #[Xs a l.length cap,Xf (.func 206) #[] #[]] w λ e w'=>e=Q (E T (ykf yjB l))/\Bw w w':=by
 have Hs:=hid hs;have ae:(l.length:Int)<=1000000000000:=zo;clear hs hl;go_enter Tryz.func217,Tryz.ntmps217
 go_wp2;go_loopw [8] (λ i wr=>∃k:Nat,i=E T k/\k<=l.length/\Hid (∀x∈l.take k,yjB x=false)/\Hid (Bw w wr)) (λ i _=>l.length-(intOf i).toNat)
 case atStart=>exact ⟨0,rfl,by omega,by show∀x,_;simp,Ye _ _⟩
 case round=>
  obtain ⟨k,rfl,hk,hI,hB⟩:=hrel;by_cases hlt:k<l.length
  ·obtain ⟨b,off,rfl,hb,hc⟩:=Hs.atNth hlt;have e1:=(hB.cell (p:=⟨b,off+k*2,N⟩) hb).trans (hc k hlt).1;have e2:=(hB.cell (p:=⟨b,off+k*2+1,N⟩) hb).trans (hc k hlt).2;have ht:=hid (yal l k hlt);have ac:=hid (λ h=>ylI (p:=yjB) hlt hI h);obtain ⟨y,hy⟩:=zx (l[k]);rw [hy] at e1 e2 ht ac;clear hc hy;obtain ⟨q,hq⟩:=zx (yjB y);have c2:=hid (yoW y.1 y.2 wr);rw [show yjB (y.1,y.2)=yjB y from rfl,hq] at c2;have Hq:=hid hq;clear hq;cases q;all_goals
    go_wp2_with fail
    refine zm c2 ?_;rintro w1 ah;have ag:=hid (zu hB ah);clear ah;go_wp2
   ·exact ⟨⟨k+1,by go_num,by omega,yiT ht hI Hq,ag⟩,by simp [intOf];omega⟩
   ·go_ret;exact ⟨by rw [ac Hq];rfl,ag⟩
  ·have aa:l.take k=l:=YU zo;rw [aa] at hI;have hr:=hid (yeK hI);clear aa;go_wp2;go_ret;exact ⟨by rw [hr];rfl,hB⟩
theorem ymt (a:Option Addr) (cap:Nat) (l:List (Int × Int)) (w:World) (hl:l.length<=1000000000000) (hs:Sl w a (yeF l)) :
  H I 205 #[Xs a l.length cap,Xf (.func 206) #[] #[]] w λ e w'=>e=Q (Xb (l.any yjB))/\Bw w w':=by
 have c1:=hid (ypg a cap l w hl hs);have hr:=hid (ygi yjB l).1;rw [<- hr];clear hs hl;go_enter Tryz.func205,Tryz.ntmps205
 go_wp2_with fail
 refine zm c1 ?_;rintro w1 hB;have HB:=hid hB;clear hB;go_wp2;go_ret;exact ⟨rfl,HB⟩
theorem ypi (a:Option Addr) (cap:Nat) (l:List Int) (z:Int) (w:World) (hl:l.length<=9223372036854775807) (hs:Sl w a (yaR l)) :
  H I 216 #[Xs a l.length cap,E T z] w λ e w'=>e=Q (E T (ykf (λ n=>n==z) l))/\w=w':=by
 have Hs:=hid hs;have ae:(l.length:Int)<=9223372036854775807:=zo;clear hs hl;go_enter Tryz.func216,Tryz.ntmps216
 go_wp2;go_loopw [8] (λ i wr=>∃k:Nat,i=E T k/\k<=l.length/\Hid (∀x∈l.take k,(λ n=>n==z) x=false)/\wr=w) (λ i _=>l.length-(intOf i).toNat)
 case atStart=>exact ⟨0,rfl,by omega,by show∀x,_;simp,rfl⟩
 case round=>
  obtain ⟨k,rfl,hk,hI,rfl⟩:=hrel;by_cases hlt:k<l.length
  ·obtain ⟨b,off,rfl,hb,hc⟩:=Hs.atInt hlt;have e1:=hc k hlt;have ht:=hid (yal l k hlt);have ac:=hid (λ h=>ylI (p:=λ n=>n==z) hlt hI h);obtain ⟨y,hy⟩:=zx (l[k]);rw [hy] at e1 ht ac;clear hc hy;by_cases h:z=y
   ·have hz:(z==y)=true:=(by simpa using h);have ab:Hid ((λ n=>n==z) y=true):=(by show (y==z)=true;simpa using h.symm);clear h;go_wp2;go_ret;exact ⟨by rw [ac ab];rfl,by trivial⟩
   ·have hz:(z==y)=false:=(by simpa using h);have ab:Hid ((λ n=>n==z) y=false):=(by show (y==z)=false;simpa using λ e=>h (Zx e));clear h;go_wp2;exact ⟨⟨k+1,by go_num,by omega,yiT ht hI ab,by trivial⟩,by simp [intOf];omega⟩
  ·have aa:l.take k=l:=YU zo;rw [aa] at hI;have hr:=hid (yeK hI);clear aa;go_wp2;go_ret;exact ⟨by rw [hr];rfl,by trivial⟩
theorem ymu (a:Option Addr) (cap:Nat) (l:List Int) (z:Int) (w:World) (hl:l.length<=9223372036854775807) (hs:Sl w a (yaR l)) :
  H I 203 #[Xs a l.length cap,E T z] w λ e w'=>e=Q (Xb (l.any (λ n=>n==z)))/\w=w':=by
 have c1:=hid (ypi a cap l z w hl hs);have hr:=hid (ygi (λ n=>n==z) l).1;rw [<- hr];clear hs hl;go_enter Tryz.func203,Tryz.ntmps203
 go_wp2_with fail
 refine zm c1 ?_;rintro w1 rfl;go_wp2;go_ret;exact ⟨rfl,rfl⟩
def ybe (lo hi:Int) (l:List Int):Int:=if 64<l.length then 5 else if ycs lo hi l=true then 4 else 0
theorem yda (a:Option Addr) (cap:Nat) (l:List Int) (lo hi:Int) (w:World) (hl:l.length<=9223372036854775807) (hs:Sl w a (yaR l)) :
  H I 169 #[Xs a l.length cap,E T lo,E T hi] w λ e w'=>e=Q (E T (ybe lo hi l))/\Bw w w':=by
 have c1:=hid (ydo a cap l lo hi w hl hs);rw [ybe];generalize hq:ycs lo hi l=q at c1⊢
 clear hq hs hl;by_cases h:64<l.length
 ·rw [Yd h];have hI:(64:Int)<l.length:=zo;have HB:Hid (Bw w w):=Ye _ _;go_enter Tryz.func169,Tryz.ntmps169
  go_wp2;go_ret;exact ⟨rfl,HB⟩
 ·rw [Yb h];have hI:¬(64:Int)<l.length:=zo;clear h;go_enter Tryz.func169,Tryz.ntmps169
  go_wp2_with fail
  refine zm c1 ?_;rintro w1 hB;have HB:=hid hB;clear hB;cases q;all_goals
   go_wp2;go_ret;exact ⟨rfl,HB⟩
def sgP (x y:Int):Bool:=(decide (y<0) != decide (x<0))||((y==0) != (x==0))
def sgB:List Int->Bool
 | []=>false
 | x::l=>l.any (sgP x)
theorem yuq {p:Int->Bool} {l:List Int}:(0<l.countP p)↔∃x∈l,p x=true:=List.countP_pos_iff
theorem yxX (l:List Int):sgB l=yhq l:=by
 rw [zze,yhq];simp only [Ys,zzX,zzY];have hs:∀a b:Nat,0<a+b↔0<a\/ 0<b:=zo;rw [hs];unfold yxA ywb yk3;simp only [yuq,zzY];cases l with
 | nil=>simp [sgB]
 | cons x l=>
   rw [sgB,Yk];constructor
   ·rintro ⟨y,hy,h⟩;rw [sgP] at h;simp only [Ys,bne_iff_ne,ne_eq] at h;have hx:x∈x::l:=List.mem_cons_self;have ab:y∈x::l:=List.mem_cons_of_mem _ hy;have hc:(x<0\/ x=0\/ 0<x)/\(y<0\/ y=0\/ 0<y):=zo;obtain ⟨h1 | h1 | h1,h2 | h2 | h2⟩:=hc
    ·exfalso;rcases h with h | h
     ·apply h;rw [zzZ h1,zzZ h2]
     ·apply h;rw [zze];simp;omega
    ·exact .inl ⟨⟨x,hx,h1⟩, .inr ⟨y,ab,h2⟩⟩
    ·exact .inl ⟨⟨x,hx,h1⟩, .inl ⟨y,ab,h2⟩⟩
    ·exact .inl ⟨⟨y,ab,h2⟩, .inr ⟨x,hx,h1⟩⟩
    ·exfalso;rcases h with h | h
     ·apply h;rw [zzd (by omega:¬y<0),zzd (by omega:¬x<0)]
     ·apply h;rw [zze];simp;omega
    ·exact .inr ⟨⟨y,ab,h2⟩,⟨x,hx,h1⟩⟩
    ·exact .inl ⟨⟨y,ab,h2⟩, .inl ⟨x,hx,h1⟩⟩
    ·exact .inr ⟨⟨x,hx,h1⟩,⟨y,ab,h2⟩⟩
    ·exfalso;rcases h with h | h
     ·apply h;rw [zzd (by omega:¬y<0),zzd (by omega:¬x<0)]
     ·apply h;rw [zze];simp;omega
   ·intro h;have key:∃y∈x::l,sgP x y=true:=by
     have ad:∀y,(y<0/\¬x<0\/ ¬y<0/\x<0\/ y=0/\¬x=0\/ ¬y=0/\x=0)->sgP x y=true:=by
      intro y hy;rw [sgP,Ys,bne_iff_ne,bne_iff_ne];rcases hy with ⟨h1,h2⟩ | ⟨h1,h2⟩ | ⟨h1,h2⟩ | ⟨h1,h2⟩
      ·left;rw [zzZ h1,zzd h2];decide
      ·left;rw [zzd h1,zzZ h2];decide
      ·right;intro e;rw [zze] at e;simp at e;omega
      ·right;intro e;rw [zze] at e;simp at e;omega
     rcases h with ⟨⟨n,hn,am⟩,⟨p,hp,ak⟩ | ⟨z,hz,ai⟩⟩ | ⟨⟨p,hp,ak⟩,⟨z,hz,ai⟩⟩
     ·by_cases hx:x<0
      ·exact ⟨p,hp,ad p zo⟩
      ·exact ⟨n,hn,ad n zo⟩
     ·by_cases hx:x<0
      ·exact ⟨z,hz,ad z zo⟩
      ·exact ⟨n,hn,ad n zo⟩
     ·by_cases hx:x=0
      ·exact ⟨p,hp,ad p zo⟩
      ·exact ⟨z,hz,ad z zo⟩
    obtain ⟨y,hy,h⟩:=key;rcases YF.1 hy with rfl | hy
    ·rw [sgP] at h;simp at h
    ·exact ⟨y,hy,h⟩
theorem ys5 (x:Int):sgP x x=false:=by rw [sgP];simp
theorem yp6 (l:List Int):l.any (sgP (l.headD 0))=yhq l:=by
 rw [<- yxX];cases l with
 | nil=>rfl
 | cons x l=>rw [List.any_cons,List.headD_cons,ys5,YR];rfl
structure Ru where
 st:Int
 fq:Int
 iv:Int
 co:Int
 un:Int
 l5:List Int
 a5:Option Addr
 c5:Nat
 l6:List Int
 a6:Option Addr
 c6:Nat
 l7:List (Int × Int)
 a7:Option Addr
 c7:Nat
 l8:List Int
 a8:Option Addr
 c8:Nat
 l9:List Int
 a9:Option Addr
 c9:Nat
 lx:List Int
 ax:Option Addr
 cx:Nat
abbrev yad (r:Ru):List Value:= [E T r.st,E T r.fq,E T r.iv,E T r.co,E T r.un,Xs r.a5 r.l5.length r.c5,Xs r.a6 r.l6.length r.c6,Xs r.a7 r.l7.length r.c7,Xs r.a8 r.l8.length r.c8,Xs r.a9 r.l9.length r.c9,Xs r.ax r.lx.length r.cx]
abbrev ruv (r:Ru):Value:= .agg (yad r).toArray
structure RuS (W:World) (r:Ru):Prop where
 s5:Sl W r.a5 (yaR r.l5)
 s6:Sl W r.a6 (yaR r.l6)
 s7:Sl W r.a7 (yeF r.l7)
 s8:Sl W r.a8 (yaR r.l8)
 s9:Sl W r.a9 (yaR r.l9)
 sx:Sl W r.ax (yaR r.lx)
theorem RuS.below {W W':World} {r:Ru} (h:RuS W r) (hb:Bw W W'):RuS W' r:=
 ⟨h.s5.below hb,h.s6.below hb,h.s7.below hb,h.s8.below hb,h.s9.below hb,h.sx.below hb⟩
structure Ru.Sm (r:Ru) (m:Nat):Prop where
 n5:r.l5.length<=m
 n6:r.l6.length<=m
 n7:r.l7.length<=m
 n8:r.l8.length<=m
 n9:r.l9.length<=m
 nx:r.lx.length<=m
def yg1 (r:Ru):Bool:=decide (600<r.l5.length+r.l6.length+r.l7.length+r.l8.length+r.l9.length+r.lx.length)
theorem ytW {r:Ru} (h:yg1 r=false):r.Sm 600:=by
 rw [yg1,ZV] at h;exact ⟨by omega,by omega,by omega,by omega,by omega,by omega⟩
theorem ymd (r:Ru) (w:World) (hm:r.Sm 281474976710656):H I 7 #[ruv r] w λ e w'=>e=Q (Xb (yg1 r))/\Bw w w':=by
 obtain ⟨n5,n6,n7,n8,n9,nx⟩:=hm;have HB:Hid (Bw w (w.alloc (J (yad r).toArray 25))):=yaa (Ye _ _) zg;have hd:Hid (yg1 r=decide ((600:Int)<(r.l5.length:Int)+r.l6.length+r.l7.length+r.l8.length+r.l9.length+r.lx.length)):=by
  show _ = _;rw [yg1,Zu];omega
 rw [hd];clear hd;go_enter Tryz.func7,Tryz.ntmps7
 go_wp2;go_ret;exact ⟨rfl,HB⟩
abbrev nsL (r:Ru):List Int:=r.l7.map (·.1)
theorem ytH (l:List (Int × Int)) (k:Nat) (h:k<l.length):yaR ((l.map (·.1)).take (k+1))=yaR ((l.map (·.1)).take k) ++ [E T l[k].1]:=by
 rw [yal (l.map (·.1)) k (by rw [Yi];exact h),ygY,List.getElem_map];rfl
theorem yhf (r:Ru) (w:World) (hr:RuS w r) (hm:r.l7.length<=1000000) :
  H I 162 #[ruv r] w λ e w'=>∃v,e=Q v/\w'.ownsRow w.heap.size 3 1 v r.l7.length (yaR (nsL r))/\Bw w w':=by
 have Hs:=hid hr.s7;have ax:(r.l7.length:Int)<=1000000:=zo;have af:Bw w (w.alloc (J (yad r).toArray 25)):=yaa (Ye _ _) zg;have al:=hid (ytH r.l7);have ac:Hid ((nsL r).length=r.l7.length):=Yi _;obtain ⟨m,ag⟩:=zx (nsL r);rw [show r.l7.map (·.1)=nsL r from rfl] at al;rw [ag] at al ac⊢;have HB:=hid af;clear ag hr af;go_enter Tryz.func162,Tryz.ntmps162
 go_wp2;go_loopw [3,9] (λ v i wr=>∃(k cp:Nat) (ad:Option Addr),i=E T k/\k<=r.l7.length/\v=Xs ad k cp/\wr.ownsRow w.heap.size 3 1 (Xs ad k cp) k (yaR (m.take k))/\Bw w wr) (λ _ i _=>r.l7.length-(intOf i).toNat)
 case atStart=>exact ⟨0,0,N,rfl,by omega,rfl,ZA _ _ _ _,HB⟩
 case round=>
  obtain ⟨k,cp,ad,rfl,hk,rfl,aa,hB⟩:=hrel;by_cases hlt:k<r.l7.length
  ·obtain ⟨b,off,au,hb,hc⟩:=Hs.atNth hlt;have e1:=(hB.cell (p:=⟨b,off+k*2,N⟩) hb).trans (hc k hlt).1;have e2:=(hB.cell (p:=⟨b,off+k*2+1,N⟩) hb).trans (hc k hlt).2;have ht:=hid (al k hlt);have hsz:=hB.size;obtain ⟨y,hy⟩:=zx (r.l7[k]);rw [hy] at e1 e2 ht;rw [au];have ae:=yl0 wr (J #[E T y.1,E T y.2] 102) aa;have hn:=yaa (o:=J #[E T y.1,E T y.2] 102) hB hsz;have ai:w.heap.size<=(wr.alloc (J #[E T y.1,E T y.2] 102)).heap.size:=hn.size;clear hc hy;go_wp2_with (at_builtin;refine yAj yAf (.tmp 13) (.tmp 16) rfl rfl rfl rfl (by simp only [zzN]) ae rfl zo zo ai ?_)
   intro a' ak w' ab ay ar az;have ah:=hn.trans ar;rw [<- ht] at ab;go_wp2;exact ⟨⟨k+1,ak,a',by go_num,by omega,rfl,ab,ah⟩,by simp [intOf];omega⟩
  ·have an:k=r.l7.length:=zo;have ap:=hid an;clear an;go_wp2;go_ret;refine ⟨_,rfl,?_,hB⟩;have h:=aa;rw [ap,<- ac,YW,ac] at h;rw [ap];exact h
theorem ykM (r:Ru) (w:World) (hr:RuS w r) (hm:r.l7.length<=1000000) :
  H I 111 #[ruv r] w λ e w'=>e=Q (Xb (!ycs 0 0 (nsL r)))/\Bw w w':=by
 have aj:Bw w (w.alloc (J (yad r).toArray 25)):=yaa (Ye _ _) zg;have c1:=hid (yhf r _ (hr.below aj) hm);have c2:=hid (λ a cap W hl hs=>ydo a cap (nsL r) 0 0 W hl hs);have ac:Hid ((nsL r).length=r.l7.length):=Yi _;have af:=hid aj;have Hm:=hid hm;generalize ag:nsL r=m at c1 c2 ac⊢
 clear ag hr aj hm;go_enter Tryz.func111,Tryz.ntmps111
 go_wp2_with fail
 refine c1.mono ?_;rintro e w1 ⟨v,rfl,aa,ao⟩;obtain ⟨a,cap,rfl,am,-⟩:=ya5 aa;have aq:=hid (zu af ao);have av:=hid am;clear aa ao am;rw [<- ac];go_wp2_with fail
 refine (c2 a cap w1 (by have:=ac.out;have:=Hm.out;omega) av).mono ?_;rintro e w2 ⟨rfl,ah⟩;have aw:=hid (zu aq ah);clear ah;go_wp2;go_ret;exact ⟨rfl,aw⟩
section
variable {b:Nat} {W:World}
def RuB (W:World) (b:Nat) (r:Ru):Prop:=W.rangeAt b 0 (yad r)
theorem RuB.below {W':World} {B:Nat} {r:Ru} (h:RuB W b r) (hb:Below B W W') (hB:b<B):RuB W' b r:=λ j v hv=>(hb.cell (p:=Z b (0+j) N) hB).trans (h j v hv)
theorem ybk (w:World) (r:Ru) (t:TypeId):RuB (w.alloc (J (yad r).toArray t)) w.heap.size r:=yap w _ _
theorem RuB.at {r:Ru} (h:RuB W b r) (j:Nat) {v:Value} (hv:(yad r)[j]? =G v):W.cell? (Z b j N)=G v:=by
 have:=h j v hv;rwa [zzn] at this
theorem RuB.nums {r:Ru} (h:RuB W b r):W.cell? (Z b 0 N)=G (E T r.st)/\W.cell? (Z b 1 N)=G (E T r.fq)/\W.cell? (Z b 2 N)=G (E T r.iv)/\W.cell? (Z b 3 N)=G (E T r.co)/\W.cell? (Z b 4 N)=G (E T r.un):=
 ⟨h.at 0 rfl,h.at 1 rfl,h.at 2 rfl,h.at 3 rfl,h.at 4 rfl⟩
theorem RuB.lists {r:Ru} (h:RuB W b r):W.cell? (Z b 5 N)=G (Xs r.a5 r.l5.length r.c5)/\W.cell? (Z b 6 N)=G (Xs r.a6 r.l6.length r.c6)/\W.cell? (Z b 7 N)=G (Xs r.a7 r.l7.length r.c7)/\
  W.cell? (Z b 8 N)=G (Xs r.a8 r.l8.length r.c8)/\W.cell? (Z b 9 N)=G (Xs r.a9 r.l9.length r.c9)/\W.cell? (Z b 10 N)=G (Xs r.ax r.lx.length r.cx):=
 ⟨h.at 5 rfl,h.at 6 rfl,h.at 7 rfl,h.at 8 rfl,h.at 9 rfl,h.at 10 rfl⟩
def yf3 (r:Ru):Int:=
 if ycb r.st=false then 4 else if unB r.fq=false then 4 else if r.iv<1 then 4 else if 1000000000000000<r.iv then 4 else if r.co<0 then 4 else if 1000000000000000<r.co then 4 else
 if r.un= -1 then 0 else if ycb r.un=false then 4 else if 0<r.co then 12 else 0
theorem yu2 (r:Ru) (w:World):H I 167 #[ruv r] w λ e w'=>e=Q (E T (yf3 r))/\Bw w w':=by
 have cI:=hid (λ W=>yhj r.st W);have cU:=hid (λ W=>yhj r.un W);have cN:=hid (λ W=>ynT r.fq W);have ac:Hid (Bw w (w.alloc (J (yad r).toArray 25))):=yaa (Ye _ _) zg;have ae:=hid (ybk w r 25);have ad:Hid (w.heap.size<(w.alloc (J (yad r).toArray 25)).heap.size):=by show _<_;simp
 rw [yf3];obtain ⟨i,hi⟩:=zx (ycb r.st);obtain ⟨u,hu⟩:=zx (unB r.fq);obtain ⟨j,hj⟩:=zx (ycb r.un);rw [hi] at cI⊢;rw [hu] at cN⊢;rw [hj] at cU⊢;clear hi hu hj;cases i
 ·rw [Yd rfl];have aa:=ac;clear ac;go_enter Tryz.func167,Tryz.ntmps167
  go_wp2_with fail
  refine zm (cI _) ?_;rintro w1 rfl;go_wp2;go_ret;exact ⟨rfl,aa⟩
 rw [Yb zs];cases u;rw [Yd rfl];rotate_left;rw [Yb zs];by_cases h0:r.iv<1;rw [Yd h0];rotate_left;rw [Yb h0];by_cases h1:1000000000000000<r.iv;rw [Yd h1];rotate_left;rw [Yb h1];by_cases h2:r.co<0;rw [Yd h2];rotate_left;rw [Yb h2];by_cases h3:1000000000000000<r.co;rw [Yd h3];rotate_left;rw [Yb h3];by_cases h4:r.un= -1;rw [Yd h4];have hb:(r.un != -1)=false:=by simp [h4]
 clear h4;rotate_left;rw [Yb h4];have hb:(r.un != -1)=true:=by simp [h4]
 clear h4;cases j;rw [Yd rfl];rotate_left;rw [Yb zs];by_cases h5:0<r.co;rw [Yd h5];rotate_left;rw [Yb h5];rotate_left;all_goals
  go_enter Tryz.func167,Tryz.ntmps167
  go_wp2_with fail
  refine zm (cI _) ?_;rintro w1 rfl;go_wp2_with fail
  refine (cN _).mono ?_;rintro e w1 ⟨⟨s,rfl,hs⟩,ab⟩;have aa:=hid (ac.trans (ab.mono (YY ad)));obtain ⟨k0,k1,k2,k3,k4⟩:=(ae.below ab ad).nums;clear ab
 iterate 6
  ·go_wp2;go_ret;exact ⟨rfl,aa⟩
 all_goals
  go_wp2_with fail
  refine zm (cU _) ?_;rintro w2 rfl;go_wp2;go_ret;exact ⟨rfl,aa⟩
end
theorem ysm (r:Ru) (w:World) (hr:RuS w r) (hm:r.Sm 1000000):H I 168 #[ruv r] w λ e w'=>e=Q (E T (ybe 1 12 r.l5))/\Bw w w':=by
 have aa:Bw w (w.alloc (J (yad r).toArray 25)):=yaa (Ye _ _) zg;have c1:=hid (yda r.a5 r.c5 r.l5 1 12 _ (zp hm.n5) (hr.below aa).s5);have ac:=hid aa;clear aa hr hm;go_enter Tryz.func168,Tryz.ntmps168
 go_wp2_with fail
 refine zm c1 ?_;rintro w1 ab;have ad:=hid (zu ac ab);clear ab;go_wp2;go_ret;exact ⟨rfl,ad⟩
theorem ysl (r:Ru) (w:World) (hr:RuS w r) (hm:r.Sm 1000000):H I 172 #[ruv r] w λ e w'=>e=Q (E T (ybe 0 23 r.l8))/\Bw w w':=by
 have aa:Bw w (w.alloc (J (yad r).toArray 25)):=yaa (Ye _ _) zg;have c1:=hid (yda r.a8 r.c8 r.l8 0 23 _ (zp hm.n8) (hr.below aa).s8);have ac:=hid aa;clear aa hr hm;go_enter Tryz.func172,Tryz.ntmps172
 go_wp2_with fail
 refine zm c1 ?_;rintro w1 ab;have ad:=hid (zu ac ab);clear ab;go_wp2;go_ret;exact ⟨rfl,ad⟩
theorem ysk (r:Ru) (w:World) (hr:RuS w r) (hm:r.Sm 1000000):H I 173 #[ruv r] w λ e w'=>e=Q (E T (ybe 0 59 r.l9))/\Bw w w':=by
 have aa:Bw w (w.alloc (J (yad r).toArray 25)):=yaa (Ye _ _) zg;have c1:=hid (yda r.a9 r.c9 r.l9 0 59 _ (zp hm.n9) (hr.below aa).s9);have ac:=hid aa;clear aa hr hm;go_enter Tryz.func173,Tryz.ntmps173
 go_wp2_with fail
 refine zm c1 ?_;rintro w1 ab;have ad:=hid (zu ac ab);clear ab;go_wp2;go_ret;exact ⟨rfl,ad⟩
theorem ysj (r:Ru) (w:World) (hr:RuS w r) (hm:r.Sm 1000000):H I 174 #[ruv r] w λ e w'=>e=Q (E T (ybe 0 59 r.lx))/\Bw w w':=by
 have aa:Bw w (w.alloc (J (yad r).toArray 25)):=yaa (Ye _ _) zg;have c1:=hid (yda r.ax r.cx r.lx 0 59 _ (zp hm.nx) (hr.below aa).sx);have ac:=hid aa;clear aa hr hm;go_enter Tryz.func174,Tryz.ntmps174
 go_wp2_with fail
 refine zm c1 ?_;rintro w1 ab;have ad:=hid (zu ac ab);clear ab;go_wp2;go_ret;exact ⟨rfl,ad⟩
def yhy (r:Ru):Int:=
 if ybe (-31) 31 r.l6=0 then (if r.l6.any (λ n=>n==0)=true then 4 else if 0<r.l6.length/\r.fq=4 then 12 else if yhq r.l6=true then 12 else 0) else ybe (-31) 31 r.l6
theorem yo5 (r:Ru) (w:World) (hr:RuS w r) (hm:r.Sm 1000000):H I 170 #[ruv r] w λ e w'=>e=Q (E T (yhy r))/\Bw w w':=by
 have aa:Bw w (w.alloc (J (yad r).toArray 25)):=yaa (Ye _ _) zg;have c1:=hid (yda r.a6 r.c6 r.l6 (-31) 31 _ (zp hm.n6) (hr.below aa).s6);have c2:=hid (λ W hs=>ymu r.a6 r.c6 r.l6 0 W (zp hm.n6) hs);have c3:=hid (λ W hs=>ykP r.a6 r.c6 r.l6 W (zp hm.n6) hs);have ac:=hid aa;have al:=hid (ybk w r 25);have ak:Hid (w.heap.size<(w.alloc (J (yad r).toArray 25)).heap.size):=by show _<_;simp
 have H6:=hid (hr.below aa).s6;rw [yhy];obtain ⟨Eq1,hE⟩:=zx (ybe (-31) 31 r.l6);obtain ⟨p,hp⟩:=zx (r.l6.any (λ n=>n==0));obtain ⟨m,af⟩:=zx (yhq r.l6);rw [hE] at c1⊢;rw [hp] at c2⊢;rw [af] at c3⊢;clear hE hp af hr hm aa;by_cases ae:Eq1=0;rotate_left;rw [Yb ae];have hb:(Eq1 != 0)=true:=by simp [ae]
 clear ae;rotate_left;subst ae;rw [Yd rfl];cases p;rw [Yb zs];by_cases h0:0<r.l6.length;rotate_left;have aj:¬(0:Int)<r.l6.length:=zo;rw [Yb (λ h=>h0 h.1)];rotate_left;rw [Yd rfl];rotate_left 2;have aj:(0:Int)<r.l6.length:=zo;by_cases h4:r.fq=4;rw [Yd ⟨h0,h4⟩];have ai:(r.fq==4)=true:=by simp [h4]
 rotate_left;rw [Yb (λ h=>h4 h.2)];have ai:(r.fq==4)=false:=by simp [h4]
 all_goals
  go_enter Tryz.func170,Tryz.ntmps170
  go_wp2_with fail
  refine zm c1 ?_;rintro w1 ab;have ad:=hid (zu ac ab);have ag:=hid (al.below ab ak);have ah:=hid (H6.below ab);obtain ⟨k5,k6,k7,k8,k9,kx⟩:=ag.lists;obtain ⟨k0,k1,k2,k3,k4⟩:=ag.nums;clear ab;try
   go_wp2_with fail
   refine zm (c2 _ ah) ?_;rintro w2 rfl
 iterate 2
  focus
   go_wp2_with fail
   refine zm (c3 _ ah) ?_;rintro w2 rfl;cases m
  rotate_left 2
 all_goals
  go_wp2;go_ret;exact ⟨rfl,ad⟩
def ypF (o d m z f5 f6 n q:Bool):Int:=bif o||d then 4 else bif m||(z&&(!f5 && !f6)) then 12 else bif (f5||n)&&q then 4 else 0
def ydp (r:Ru):Int:=if 64<r.l7.length then 5 else ypF (ycs (-53) 53 (nsL r)) (r.l7.any yjB) (yhq (nsL r)) (ycs 0 0 (nsL r)) (r.fq==5) (r.fq==6) (decide (0<r.l5.length)) (ycs (-5) 5 (nsL r))
theorem RuB.all {W:World} {b:Nat} {r:Ru} (h:RuB W b r):(W.cell? (Z b 0 N)=G (E T r.st)/\W.cell? (Z b 1 N)=G (E T r.fq)/\W.cell? (Z b 2 N)=G (E T r.iv)/\W.cell? (Z b 3 N)=G (E T r.co)/\W.cell? (Z b 4 N)=G (E T r.un))/\
  W.cell? (Z b 5 N)=G (Xs r.a5 r.l5.length r.c5)/\W.cell? (Z b 6 N)=G (Xs r.a6 r.l6.length r.c6)/\W.cell? (Z b 7 N)=G (Xs r.a7 r.l7.length r.c7)/\
  W.cell? (Z b 8 N)=G (Xs r.a8 r.l8.length r.c8)/\W.cell? (Z b 9 N)=G (Xs r.a9 r.l9.length r.c9)/\W.cell? (Z b 10 N)=G (Xs r.ax r.lx.length r.cx):=⟨h.nums,h.lists⟩
structure WkS (w:World) (r:Ru) (a:Option Addr) (W:World):Prop where
 b:RuB W w.heap.size r
 s:RuS W r
 n:Sl W a (yaR (nsL r))
 be:Bw w W
 l:w.heap.size<W.heap.size
theorem WkS.keep {w W W':World} {r:Ru} {a:Option Addr} (h:WkS w r a W) (hb:Bw W W'):WkS w r a W':=
 ⟨h.b.below hb h.l,h.s.below hb,h.n.below hb,h.be.trans (hb.mono (YY h.l)),zH h.l hb.size⟩
theorem ymb (r:Ru) (w:World) (hr:RuS w r) (hm:r.Sm 1000000):H I 171 #[ruv r] w λ e w'=>e=Q (E T (ydp r))/\Bw w w':=by
 have aa:Bw w (w.alloc (J (yad r).toArray 25)):=yaa (Ye _ _) zg;by_cases ae:64<r.l7.length
 ·rw [ydp,Yd ae];have hI:(64:Int)<r.l7.length:=zo;have av:=hid aa;clear aa hr hm ae;go_enter Tryz.func171,Tryz.ntmps171
  go_wp2;go_ret;exact ⟨rfl,av⟩
 have hI:¬(64:Int)<r.l7.length:=zo;have ab:Hid ((nsL r).length=r.l7.length):=Yi _;have c1:=hid (yhf r _ (hr.below aa) hm.n7);have ap:∀a W,Below (w.alloc (J (yad r).toArray 25)).heap.size (w.alloc (J (yad r).toArray 25)) W->Sl W a (yaR (nsL r))->WkS w r a W:=λ a W hb hs=>
  ⟨(ybk w r _).below hb zs,(hr.below aa).below hb,hs,aa.trans (hb.mono zs),zH zs hb.size⟩
 have au:=hid ap;have kA:=hid (λ a cap W (h:WkS w r a W)=>yas (by have h':=ydo a cap (nsL r) (-53) 53 W (by have:=hm.n7;have:=ab.out;omega) h.n;rw [ab] at h';exact h') (λ _=>h.keep));have kB:=hid (λ a cap W (h:WkS w r a W)=>yas (by have h':=ydo a cap (nsL r) (-5) 5 W (by have:=hm.n7;have:=ab.out;omega) h.n;rw [ab] at h';exact h') (λ _=>h.keep));have kM:Hid (∀a cap W,WkS w r a W->H I 204 #[Xs a r.l7.length cap] W λ e w'=>e=Q (Xb (yhq (nsL r)))/\W=w'):=λ a cap W h=>by have h':=ykP a cap (nsL r) W (by have:=hm.n7;have:=ab.out;omega) h.n;rw [ab] at h';exact h'
 have kC:=hid (λ a W (h:WkS w r a W)=>yas (ymt r.a7 r.c7 r.l7 W (zp hm.n7) h.s.s7) (λ _=>h.keep));have kP:=hid (λ a W (h:WkS w r a W)=>yas (ykM r W h.s hm.n7) (λ _=>h.keep));rw [ydp,Yb ae];obtain ⟨n5,ag⟩:=zx (decide (0<r.l5.length));obtain ⟨f5,ao⟩:=zx ((r.fq==5));obtain ⟨f6,aj⟩:=zx ((r.fq==6));have ak:(r.fq != 5)= !f5:=by rw [bne,ao]
 have ai:(r.fq != 6)= !f6:=by rw [bne,aj]
 have af:decide ((0:Int)<r.l5.length)=n5:=by rw [<- ag,Zu];omega
 obtain ⟨o,ho⟩:=zx (ycs (-53) 53 (nsL r));obtain ⟨d,hd⟩:=zx (r.l7.any yjB);obtain ⟨m,ah⟩:=zx (yhq (nsL r));obtain ⟨z,hz⟩:=zx (ycs 0 0 (nsL r));obtain ⟨q,hq⟩:=zx (ycs (-5) 5 (nsL r));rw [ag,ao,aj,ho,hd,ah,hz,hq];rw [ho] at kA;rw [hd] at kC;rw [ah] at kM;rw [hz] at kP;rw [hq] at kB;clear hr hm ae aa ap ag aj ho hd ah hz hq;go_enter Tryz.func171,Tryz.ntmps171
 go_wp2_with fail
 refine c1.mono ?_;rintro e w1 ⟨v,rfl,ac,ar⟩;obtain ⟨a,cap,rfl,an,-⟩:=ya5 ac;have hS:=au a w1 ar an;clear ac ar an;obtain ⟨⟨k0,k1,k2,k3,k4⟩,k5,k6,k7,k8,k9,kx⟩:=hS.b.all;go_wp2_with fail
 refine zm (kA a cap w1 hS) ?_;rintro w2 am;clear k0 k1 k2 k3 k4 k5 k6 k7 k8 k9 kx;obtain ⟨⟨k0,k1,k2,k3,k4⟩,k5,k6,k7,k8,k9,kx⟩:=am.b.all;cases o;rotate_left
 ·go_wp2;go_ret;exact ⟨rfl,am.be⟩
 go_wp2_with fail
 refine zm (kC a w2 am) ?_;rintro w3 ad;clear k0 k1 k2 k3 k4 k5 k6 k7 k8 k9 kx;obtain ⟨⟨k0,k1,k2,k3,k4⟩,k5,k6,k7,k8,k9,kx⟩:=ad.b.all;cases d;rotate_left
 ·go_wp2;go_ret;exact ⟨rfl,ad.be⟩
 go_wp2_with fail
 refine zm (kM a cap w3 ad) ?_;rintro w4 rfl;cases m;rotate_left
 ·go_wp2;go_ret;exact ⟨rfl,ad.be⟩
 go_wp2_with fail
 refine zm (kP a w3 ad) ?_;rintro w4 al;clear k0 k1 k2 k3 k4 k5 k6 k7 k8 k9 kx;obtain ⟨⟨k0,k1,k2,k3,k4⟩,k5,k6,k7,k8,k9,kx⟩:=al.b.all;cases z <;> cases f5 <;> cases f6 <;> cases n5
 all_goals
  simp only [Bool.not_true,Bool.not_false] at ak ai;simp only [zzY,ZV] at af;first
   | (go_wp2;go_ret;exact ⟨rfl,al.be⟩)
   | (go_wp2_with fail
      refine zm (kB a cap w4 al) ?_;rintro w5 aq;cases q
      ·go_wp2;go_ret;exact ⟨rfl,aq.be⟩
      ·go_wp2;go_ret;exact ⟨rfl,aq.be⟩)
abbrev hdv (r:Ru):Value:= .agg #[E T r.st,E T r.iv,E T r.co,E T r.un,E T r.fq]
theorem yyz:(Tryz.prog.info? 97).map (·.size)=G 5:=by kernel_rfl
theorem yok (w:World) (x:Obj) (l:List Value) (t:TypeId):((w.alloc x).alloc (J l.toArray t)).rangeAt (w.heap.size+1) 0 l:=by
 have h:=yap (w.alloc x) l t;(try unfold Bw at h);rwa [zzN] at h
theorem yim (r:Ru) (w:World):H I 44 #[ruv r] w λ e w'=>e=Q (hdv r)/\Bw w w':=by
 go_enter Tryz.func44,Tryz.ntmps44
 go_wp2;exact Yh (yac rfl _ _ (w.heap.size+1) 0 _ _ rfl (yok w _ _ _) Tryz.underlying97 rfl yyz) rfl ⟨rfl,yaa (yaa (Ye _ _) zg) zs⟩
theorem ydR (a b:Option Addr) (cn cm:Nat) (x y:List Int) (w:World)
  (am:x.length<=9223372036854775807) (al:y.length<=9223372036854775807)
  (hx:Sl w a (yaR x)) (hy:Sl w b (yaR y)) :
   H I 45 #[Xs a x.length cn,Xs b y.length cm] w λ e w'=>e=Q (Xb (decide (x=y)))/\Bw w w':=by
 by_cases ab:x.length=y.length
 ·have ai:((x.length:Int) != (y.length:Int))=false:=by simp;omega
  have HH:=hid ab;clear ab;go_enter Tryz.func45,Tryz.ntmps45
  go_wp2;go_loopw [13] (λ i wr=>∃k:Nat,i=E T k/\k<=x.length/\x.take k=y.take k/\Bw w wr) (λ i _=>x.length-(intOf i).toNat)
  case atStart=>exact ⟨0,rfl,by omega,rfl,Ye _ _⟩
  case round=>
   obtain ⟨k,rfl,hk,ht,hB⟩:=hrel;by_cases hlt:k<x.length
   ·obtain ⟨b1,o1,rfl,ah,ad⟩:=hx.atInt hlt;have aa:k<y.length:=(by rw [<- HH];exact hlt);obtain ⟨b2,o2,rfl,ag,ac⟩:=hy.atInt aa;have e1:=(hB.cell (p:=Z b1 (o1+k) N) ah).trans (ad k hlt);have e2:=(hB.cell (p:=Z b2 (o2+k) N) ag).trans (ac k aa);have hT:=hid ht;clear ad ac ht hx hy;go_wp2;go_quiet (fail)
    go_wp2
    ·have af:(x[k] != y[k])=true:=(by assumption);go_ret;refine ⟨ycq ?_,ya9 hB _⟩;symm
     rw [ZV];intro e;subst e;simp at af
    ·have af:(x[k] != y[k])=false:=(by assumption);refine ⟨⟨k+1,by go_num,by omega,?_,ya9 hB _⟩,by simp [intOf];omega⟩;rw [yal _ _ hlt,yal _ _ aa,hT];simp at af;rw [af]
   ·have hT:=hid ht;clear ht hx hy;have ae:x.length<=k:=zo;go_wp2;go_ret;refine ⟨ycq ?_,hB⟩;symm
    rw [zzY];have:=hT.out;rwa [YU ae,YU (by rw [<- HH];exact ae)] at this
 ·have ai:((x.length:Int) != (y.length:Int))=true:=by simp;omega
  have hf:decide (x=y)=false:=by
   rw [ZV];intro e;subst e;exact ab rfl
  rw [hf];clear hf;go_enter Tryz.func45,Tryz.ntmps45
  go_wp2;go_ret;exact ⟨rfl,Ye _ _⟩
theorem ysy (a b:Option Addr) (cn cm:Nat) (x y:List (Int × Int)) (w:World)
  (am:x.length<=1000000000000) (al:y.length<=1000000000000)
  (hx:Sl w a (yeF x)) (hy:Sl w b (yeF y)) :
   H I 46 #[Xs a x.length cn,Xs b y.length cm] w λ e w'=>e=Q (Xb (decide (x=y)))/\Bw w w':=by
 by_cases ab:x.length=y.length
 ·have ai:((x.length:Int) != (y.length:Int))=false:=by simp;omega
  have HH:=hid ab;clear ab;go_enter Tryz.func46,Tryz.ntmps46
  go_wp2;go_loopw [13] (λ i wr=>∃k:Nat,i=E T k/\k<=x.length/\Hid (x.take k=y.take k)/\Bw w wr) (λ i _=>x.length-(intOf i).toNat)
  case atStart=>exact ⟨0,rfl,by omega,by rfl,Ye _ _⟩
  case round=>
   obtain ⟨k,rfl,hk,hT,hB⟩:=hrel;by_cases hlt:k<x.length
   ·obtain ⟨b1,o1,rfl,ah,ad⟩:=hx.atNth hlt;have aa:k<y.length:=(by rw [<- HH];exact hlt);obtain ⟨b2,o2,rfl,ag,ac⟩:=hy.atNth aa;have e1:=(hB.cell (p:=⟨b1,o1+k*2,N⟩) ah).trans (ad k hlt).1;have ao:=(hB.cell (p:=⟨b1,o1+k*2+1,N⟩) ah).trans (ad k hlt).2;have e2:=(hB.cell (p:=⟨b2,o2+k*2,N⟩) ag).trans (ac k aa).1;have an:=(hB.cell (p:=⟨b2,o2+k*2+1,N⟩) ag).trans (ac k aa).2;have ak:=hid (yal x k hlt);have aj:=hid (yal y k aa);obtain ⟨⟨u1,u2⟩,hu⟩:∃q,x[k]=q:=⟨_,rfl⟩;obtain ⟨⟨v1,v2⟩,hv⟩:∃q,y[k]=q:=⟨_,rfl⟩;have Hu:=hid hu;have Hv:=hid hv;rw [hu] at e1 ao ak;rw [hv] at e2 an aj;clear ad ac hx hy hu hv;by_cases g1:u1=v1
    ·by_cases g2:u2=v2
     ·have hf:Hid (x.take (k+1)=y.take (k+1)):=(by show _ = _;rw [ak,aj,hT,g1,g2]);subst g1 g2;go_wp2;go_quiet (fail)
      go_wp2;exact ⟨⟨k+1,by go_num,by omega,hf,ya9 hB _⟩,by simp [intOf];omega⟩
     ·have hf:Hid (decide (x=y)=false):=by
       show _ = _;rw [ZV];rintro rfl;exact g2 (Prod.mk.inj (Hu.symm.trans Hv)).2
      have gb:(u1==v1)=true:=(by simp [g1]);have ap:(u2==v2)=false:=(by simp [g2]);clear g1 g2;go_wp2;go_quiet (fail)
      go_wp2;go_ret;exact ⟨by rw [hf];rfl,ya9 hB _⟩
    ·have hf:Hid (decide (x=y)=false):=by
      show _ = _;rw [ZV];rintro rfl;exact g1 (Prod.mk.inj (Hu.symm.trans Hv)).1
     have gb:(u1==v1)=false:=(by simp [g1]);clear g1;go_wp2;go_quiet (fail)
     go_wp2;go_ret;exact ⟨by rw [hf];rfl,ya9 hB _⟩
   ·clear hx hy;have ae:x.length<=k:=zo;go_wp2;go_ret;refine ⟨ycq ?_,hB⟩;symm
    rw [zzY];have:=hT.out;rwa [YU ae,YU (by rw [<- HH];exact ae)] at this
 ·have ai:((x.length:Int) != (y.length:Int))=true:=by simp;omega
  have hf:decide (x=y)=false:=by
   rw [ZV];intro e;subst e;exact ab rfl
  rw [hf];clear hf;go_enter Tryz.func46,Tryz.ntmps46
  go_wp2;go_ret;exact ⟨rfl,Ye _ _⟩
section
variable {e:Int} {l:List Int} {k:Nat}
theorem yjT (w:World) (a:Addr) (m:Mode) (fn:Fn) (first aa:Array Value):(store a (.func fn first aa) m).run I w=stored I w a (.func fn first aa) m:=run_store I w a _ m rfl
attribute [local go_sem] yjT
def ybf:List Int->Int
 | []=>0
 | x::l=>if x=0 then ybf l else x
theorem yjd:∀(l:List Int) (k:Nat) (e:Int),l[k]? =G e->ybf (l.drop k)=if e=0 then ybf (l.drop (k+1)) else e
 | x::l,0,e,h=>by cases h;rfl
 | x::l,k+1,e,h=>yjd l k e (by simpa using h)
theorem yt4 (h:ybf l=ybf (l.drop k)) (h0:l[k]? =G 0):ybf l=ybf (l.drop (k+1)):=h.trans (yjd l k 0 h0)
theorem yt3 (h:ybf l=ybf (l.drop k)) (he:l[k]? =G e) (hz:¬e=0):ybf l=e:=(h.trans (yjd l k e he)).trans (Yb hz)
theorem yxg (h:e=0):(e != 0)=false:=by simp [h]
theorem yuy (h:¬e=0):(e != 0)=true:=by simp [h]
def ykp (r:Ru):List Int:= [yf3 r,ybe 1 12 r.l5,yhy r,ydp r,ybe 0 23 r.l8,ybe 0 59 r.l9,ybe 0 59 r.lx]
def yah (r:Ru):Int:=ybf (ykp r)
abbrev partL:List Value:= [(Xf (.func 167) #[] #[]),(Xf (.func 168) #[] #[]),(Xf (.func 170) #[] #[]),(Xf (.func 171) #[] #[]),(Xf (.func 172) #[] #[]),(Xf (.func 173) #[] #[]),(Xf (.func 174) #[] #[])]
theorem ysi (w:World):H I 119 #[] w λ e w'=>e=Q (Xs (G (Z w.heap.size 0 N)) 7 7)/\w' =w.alloc (J partL.toArray 196):=by
 go_enter Tryz.func119,Tryz.ntmps119
 go_wp2;go_ret;exact ⟨rfl,rfl⟩
abbrev PaC (W:World) (b:Nat):Prop:=W.cell? (Z b 0 N)=G (Xf (.func 167) #[] #[])/\W.cell? (Z b 1 N)=G (Xf (.func 168) #[] #[])/\W.cell? (Z b 2 N)=G (Xf (.func 170) #[] #[])/\W.cell? (Z b 3 N)=G (Xf (.func 171) #[] #[])/\W.cell? (Z b 4 N)=G (Xf (.func 172) #[] #[])/\W.cell? (Z b 5 N)=G (Xf (.func 173) #[] #[])/\W.cell? (Z b 6 N)=G (Xf (.func 174) #[] #[])
structure ChS (w:World) (r:Ru) (b:Nat) (W:World):Prop where
 rb:RuB W w.heap.size r
 s:RuS W r
 c:PaC W b
 be:Bw w W
 l:w.heap.size<W.heap.size/\b<W.heap.size
theorem ChS.keep {w W W':World} {r:Ru} {b:Nat} (h:ChS w r b W) (hb:Bw W W'):ChS w r b W':=by
 obtain ⟨c0,c1,c2,c3,c4,c5,c6⟩:=h.c;have hs:=hb.size;exact ⟨h.rb.below hb h.l.1,h.s.below hb,⟨(hb.cell (p:=Z b 0 N) h.l.2).trans c0,(hb.cell (p:=Z b 1 N) h.l.2).trans c1,(hb.cell (p:=Z b 2 N) h.l.2).trans c2,(hb.cell (p:=Z b 3 N) h.l.2).trans c3,(hb.cell (p:=Z b 4 N) h.l.2).trans c4,(hb.cell (p:=Z b 5 N) h.l.2).trans c5,(hb.cell (p:=Z b 6 N) h.l.2).trans c6⟩,h.be.trans (hb.mono (YY h.l.1)),zH h.l.1 hs,zH h.l.2 hs⟩
theorem ywf (w:World) (t:TypeId):PaC (w.alloc (J partL.toArray t)) w.heap.size:=by
 refine ⟨?_,?_,?_,?_,?_,?_,?_⟩ <;> simp [go_sem]
theorem yhn (r:Ru) (w:World) (hr:RuS w r) (hm:r.Sm 1000000):H I 58 #[ruv r] w λ e w'=>e=Q (E T (yah r))/\Bw w w':=by
 have ad:Bw w (w.alloc (J (yad r).toArray 25)):=yaa (Ye _ _) zg;have hn:Below (w.heap.size+1) (w.alloc (J (yad r).toArray 25)) ((w.alloc (J (yad r).toArray 25)).alloc (J partL.toArray 196)):=yaa (Ye _ _) zs;have hP:=ywf (w.alloc (J (yad r).toArray 25)) 196;(try unfold Bw at hP);rw [zzN] at hP
 have af:Hid (ChS w r (w.heap.size+1) ((w.alloc (J (yad r).toArray 25)).alloc (J partL.toArray 196))):=
  ⟨(ybk w r _).below hn zo,(hr.below ad).below (by (try unfold Bw);simpa only [zzN] using hn),hP,ad.trans (hn.mono zo),by simp only [zzN];omega,by simp only [zzN];omega⟩
 have k0:Hid (∀W,ChS w r (w.heap.size+1) W->H I 167 #[ruv r] W λ e w'=>e=Q (E T (yf3 r))/\ChS w r (w.heap.size+1) w'):=λ W h=>yas (yu2 r W) (λ _=>h.keep);have k1:Hid (∀W,ChS w r (w.heap.size+1) W->H I 168 #[ruv r] W λ e w'=>e=Q (E T (ybe 1 12 r.l5))/\ChS w r (w.heap.size+1) w'):=λ W h=>yas (ysm r W h.s hm) (λ _=>h.keep);have k2:Hid (∀W,ChS w r (w.heap.size+1) W->H I 170 #[ruv r] W λ e w'=>e=Q (E T (yhy r))/\ChS w r (w.heap.size+1) w'):=λ W h=>yas (yo5 r W h.s hm) (λ _=>h.keep);have k3:Hid (∀W,ChS w r (w.heap.size+1) W->H I 171 #[ruv r] W λ e w'=>e=Q (E T (ydp r))/\ChS w r (w.heap.size+1) w'):=λ W h=>yas (ymb r W h.s hm) (λ _=>h.keep);have k4:Hid (∀W,ChS w r (w.heap.size+1) W->H I 172 #[ruv r] W λ e w'=>e=Q (E T (ybe 0 23 r.l8))/\ChS w r (w.heap.size+1) w'):=λ W h=>yas (ysl r W h.s hm) (λ _=>h.keep);have k5:Hid (∀W,ChS w r (w.heap.size+1) W->H I 173 #[ruv r] W λ e w'=>e=Q (E T (ybe 0 59 r.l9))/\ChS w r (w.heap.size+1) w'):=λ W h=>yas (ysk r W h.s hm) (λ _=>h.keep);have k6:Hid (∀W,ChS w r (w.heap.size+1) W->H I 174 #[ruv r] W λ e w'=>e=Q (E T (ybe 0 59 r.lx))/\ChS w r (w.heap.size+1) w'):=λ W h=>yas (ysj r W h.s hm) (λ _=>h.keep);have cP:=hid (ysi (w.alloc (J (yad r).toArray 25)));(try unfold Bw at cP);rw [zzN] at cP
 rw [yah];have hq:ykp r= [yf3 r,ybe 1 12 r.l5,yhy r,ydp r,ybe 0 23 r.l8,ybe 0 59 r.l9,ybe 0 59 r.lx]:=rfl;rw [hq];obtain ⟨E0,h0⟩:=zx (yf3 r);obtain ⟨E1,h1⟩:=zx (ybe 1 12 r.l5);obtain ⟨E2,h2⟩:=zx (yhy r);obtain ⟨E3,h3⟩:=zx (ydp r);obtain ⟨E4,h4⟩:=zx (ybe 0 23 r.l8);obtain ⟨E5,h5⟩:=zx (ybe 0 59 r.l9);obtain ⟨E6,h6⟩:=zx (ybe 0 59 r.lx);rw [h0,h1,h2,h3,h4,h5,h6];rw [h0] at k0;rw [h1] at k1;rw [h2] at k2;rw [h3] at k3;rw [h4] at k4;rw [h5] at k5;rw [h6] at k6;clear h0 h1 h2 h3 h4 h5 h6 hr hm ad hn hP hq;go_enter Tryz.func58,Tryz.ntmps58
 go_wp2_with fail
 refine zm cP ?_;rintro w1 rfl;have af:=af;go_wp2_with fail
 go_loopw [8] (λ i wr=>∃k:Nat,i=E T k/\k<=7/\Hid (ybf [E0,E1,E2,E3,E4,E5,E6]=ybf ([E0,E1,E2,E3,E4,E5,E6].drop k))/\Hid (ChS w r (w.heap.size+1) wr)) (λ i _=>7-(intOf i).toNat)
 case atStart=>exact ⟨0,rfl,by omega,by rfl,af⟩
 case round=>
  obtain ⟨k,rfl,hk,hI,hS⟩:=hrel;have ag:k=0\/ k=1\/ k=2\/ k=3\/ k=4\/ k=5\/ k=6\/ k=7:=zo;obtain ⟨p0,p1,p2,p3,p4,p5,p6⟩:=hS.c;have ab:=hS.keep (yaa (o:=J #[partL.getD k (Xb false)] 196) (Ye wr.heap.size wr) zg);obtain ⟨⟨q0,q1,q2,q3,q4⟩,q5,q6,q7,q8,q9,qx⟩:=ab.rb.all;rcases ag with rfl | rfl | rfl | rfl | rfl | rfl | rfl | rfl;iterate 7
   ·simp only [List.getD_cons_zero,List.getD_cons_succ] at ab q0 q1 q2 q3 q4 q5 q6 q7 q8 q9 qx;go_wp2_with fail
    first
     | (refine zm (k0 _ ab) ?_;rintro w2 ac;by_cases hz:E0=0)
     | (refine zm (k1 _ ab) ?_;rintro w2 ac;by_cases hz:E1=0)
     | (refine zm (k2 _ ab) ?_;rintro w2 ac;by_cases hz:E2=0)
     | (refine zm (k3 _ ab) ?_;rintro w2 ac;by_cases hz:E3=0)
     | (refine zm (k4 _ ab) ?_;rintro w2 ac;by_cases hz:E4=0)
     | (refine zm (k5 _ ab) ?_;rintro w2 ac;by_cases hz:E5=0)
     | (refine zm (k6 _ ab) ?_;rintro w2 ac;by_cases hz:E6=0)
    ·have hb:=yxg hz;have hf:=hid (yt4 hI (by simp [hz]));have ae:=hid ac;clear hz q0 q1 q2 q3 q4 q5 q6 q7 q8 q9 qx p0 p1 p2 p3 p4 p5 p6 ab ac;go_wp2;exact ⟨⟨_,by go_num,by omega,hf,ae⟩,by simp [intOf]⟩
    ·have hb:=yuy hz;have hf:=hid (yt3 hI zs hz);have ae:=hid ac;clear hz q0 q1 q2 q3 q4 q5 q6 q7 q8 q9 qx p0 p1 p2 p3 p4 p5 p6 ab ac;go_wp2;go_ret;exact ⟨by rw [hf];rfl,ae.be⟩
  have hf:Hid (ybf [E0,E1,E2,E3,E4,E5,E6]=0):=hI.out;clear p0 p1 p2 p3 p4 p5 p6 ab q0 q1 q2 q3 q4 q5 q6 q7 q8 q9 qx;go_wp2;go_ret;exact ⟨by rw [hf];rfl,hS.be⟩
end
abbrev RcS (w:World) (r:Ru) (W:World):Prop:=
 ((W.cell? (Z w.heap.size 0 N)=G (E T r.st)/\W.cell? (Z w.heap.size 1 N)=G (E T r.fq)/\W.cell? (Z w.heap.size 2 N)=G (E T r.iv)/\W.cell? (Z w.heap.size 3 N)=G (E T r.co)/\W.cell? (Z w.heap.size 4 N)=G (E T r.un))/\
   W.cell? (Z w.heap.size 5 N)=G (Xs r.a5 r.l5.length r.c5)/\W.cell? (Z w.heap.size 6 N)=G (Xs r.a6 r.l6.length r.c6)/\W.cell? (Z w.heap.size 7 N)=G (Xs r.a7 r.l7.length r.c7)/\
   W.cell? (Z w.heap.size 8 N)=G (Xs r.a8 r.l8.length r.c8)/\W.cell? (Z w.heap.size 9 N)=G (Xs r.a9 r.l9.length r.c9)/\W.cell? (Z w.heap.size 10 N)=G (Xs r.ax r.lx.length r.cx))/\
 RuB W w.heap.size r/\RuS W r/\Bw w W/\w.heap.size<W.heap.size
theorem RcS.of {w W:World} {r:Ru} (h:RuB W w.heap.size r) (hs:RuS W r) (hb:Bw w W) (hl:w.heap.size<W.heap.size):RcS w r W:=⟨h.all,h,hs,hb,hl⟩
theorem RcS.keep {w W W':World} {r:Ru} (h:RcS w r W) (hb:Bw W W'):RcS w r W':=by
 obtain ⟨-,h1,h2,h3,h4⟩:=h;exact RcS.of (h1.below hb h4) (h2.below hb) (h3.trans (hb.mono (YY h4))) (zH h4 hb.size)
section
variable {W W' w:World}
def yfO (r s:Ru):Bool:=decide (r.st=s.st/\r.iv=s.iv/\r.co=s.co/\r.un=s.un/\r.fq=s.fq)
def ygE (r s:Ru):Bool:=yfO r s&&(decide (r.l5=s.l5)&&(decide (r.l6=s.l6)&&(decide (r.l7=s.l7)&&(decide (r.l8=s.l8)&&(decide (r.l9=s.l9)&&decide (r.lx=s.lx))))))
theorem yoi (r:Ru):ygE r r=true:=by simp [ygE,yfO]
structure Ru.Num (r:Ru):Prop where
 st:yaA r.st
 fq:yaA r.fq
 iv:yaA r.iv
 co:yaA r.co
 un:yaA r.un
theorem yrS:Tryz.prog.cellsOf 97=5:=by kernel_rfl
theorem yzJ:Tryz.prog.keyTypeAt 3 97=true:=by kernel_rfl
theorem yvz (r:Ru):(hdv r).formed I 97=true:=by
 unfold Value.formed;simp only [Tryz.underlying97,yrS];rfl
theorem yqZ (d:Nat) (r:Ru) (h:r.Num):Tryz.prog.keyLits (d+2) 97 [.int T r.st, .int T r.iv, .int T r.co, .int T r.un, .int T r.fq]=G [.int T r.st, .int T r.iv, .int T r.co, .int T r.un, .int T r.fq]:=by
 unfold Program.keyLits;simp only [Tryz.underlying97];simp [yrS,ynG,ygn,ynl,ynk,h.st,h.fq,h.iv,h.co,h.un]
theorem ywY (r s:Ru) (hr:r.Num) (hs:s.Num) (w:World):(Op.equalIn 10000 97 (hdv r) (hdv s)).run I w= .ok (yfO r s) w:=by
 obtain ⟨q,hq,hi⟩:=run_equalIn_deep 9997 3 97 yzJ w 3 3 _ _ _ _ (yvz r) (yvz s) (yqZ 1 r hr) (yqZ 1 s hs);have e:q=yfO r s:=by
  rw [zze,hi,yfO,zzY];simp only [List.cons.injEq,ylC,and_true]
 rw [<- e];exact hq
theorem yyK (r s:Ru) (hr:r.Num) (hs:s.Num) (w:World):(binOp .eql 97 (hdv r) (hdv s)).run I w= .ok (.bool (yfO r s)) w:=by
 rw [run_eql_struct,ywY r s hr hs w];rfl
def yvD (a b:Value):Sem Value:=binOp .eql 97 a b
theorem ywV (a b:Value):binOp .eql 97 a b=yvD a b:=rfl
attribute [local go_sem ↓] ywV
theorem yrA (r s:Ru) (hr:r.Num) (hs:s.Num) (w:World):(yvD (hdv r) (hdv s)).run I w= .ok (.bool (yfO r s)) w:=yyK r s hr hs w
abbrev RuC (W:World) (b:Nat) (r:Ru):Prop:=
 (W.cell? (Z b 0 N)=G (.int T r.st)/\W.cell? (Z b 1 N)=G (.int T r.fq)/\W.cell? (Z b 2 N)=G (.int T r.iv)/\W.cell? (Z b 3 N)=G (.int T r.co)/\W.cell? (Z b 4 N)=G (.int T r.un))/\
   W.cell? (Z b 5 N)=G (Xs r.a5 r.l5.length r.c5)/\W.cell? (Z b 6 N)=G (Xs r.a6 r.l6.length r.c6)/\W.cell? (Z b 7 N)=G (Xs r.a7 r.l7.length r.c7)/\
   W.cell? (Z b 8 N)=G (Xs r.a8 r.l8.length r.c8)/\W.cell? (Z b 9 N)=G (Xs r.a9 r.l9.length r.c9)/\W.cell? (Z b 10 N)=G (Xs r.ax r.lx.length r.cx)
structure SaF (w:World) (r s:Ru) (W:World):Prop where
 r1:RuB W w.heap.size r
 r2:RuB W (w.heap.size+1) s
 s1:RuS W r
 s2:RuS W s
 be:Bw w W
 l:w.heap.size+1<W.heap.size
abbrev SaS (w:World) (r s:Ru) (W:World):Prop:=(RuC W w.heap.size r/\RuC W (w.heap.size+1) s)/\SaF w r s W
theorem SaF.sas {r s:Ru} (h:SaF w r s W):SaS w r s W:=⟨⟨h.r1.all,h.r2.all⟩,h⟩
theorem SaF.keep {r s:Ru} (h:SaF w r s W) (hb:Bw W W'):SaF w r s W':=
 ⟨h.r1.below hb (zp h.l),h.r2.below hb h.l,h.s1.below hb,h.s2.below hb,h.be.trans (hb.mono (zp h.l)),zH h.l hb.size⟩
theorem SaS.keep {r s:Ru} (h:SaS w r s W) (hb:Bw W W'):SaS w r s W':=(h.2.keep hb).sas
theorem yv7 (w:World) (r s:Ru) (t:TypeId) (hr:RuS w r) (hs:RuS w s):SaF w r s ((w.alloc (J (yad r).toArray t)).alloc (J (yad s).toArray t)):=by
 have hb:Bw w ((w.alloc (J (yad r).toArray t)).alloc (J (yad s).toArray t)):=yaa (yaa (Ye _ _) zg) zs;have hn:Below (w.heap.size+1) (w.alloc (J (yad r).toArray t)) ((w.alloc (J (yad r).toArray t)).alloc (J (yad s).toArray t)):=yaa (Ye _ _) zs;have h2:=ybk (w.alloc (J (yad r).toArray t)) s t;(try unfold Bw at h2);rw [zzN] at h2
 exact ⟨(ybk w r t).below hn zo,h2,hr.below hb,hs.below hb,hb,by simp only [zzN];omega⟩
theorem yo4 (r s:Ru) (w:World) (hr:RuS w r) (hs:RuS w s) (hm:r.Sm 1000000) (ab:s.Sm 1000000) (hn:r.Num) (ac:s.Num) :
  H I 18 #[ruv r,ruv s] w λ e w'=>e=Q (.bool (ygE r s))/\Bw w w':=by
 have ae:=hid ((yv7 w r s 25 hr hs).sas.keep (Ye _ _).drew);have kR:=hid (λ W (h:SaS w r s W)=>yas (yim r W) (λ _=>h.keep));have kS:=hid (λ W (h:SaS w r s W)=>yas (yim s W) (λ _=>h.keep));have kE:=hid (λ W=>yrA r s hn ac W);have k5:=hid (λ W (h:SaS w r s W)=>yas (ydR r.a5 s.a5 r.c5 s.c5 r.l5 s.l5 W (zp hm.n5) (zp ab.n5) h.2.s1.s5 h.2.s2.s5) (λ _=>h.keep));have k6:=hid (λ W (h:SaS w r s W)=>yas (ydR r.a6 s.a6 r.c6 s.c6 r.l6 s.l6 W (zp hm.n6) (zp ab.n6) h.2.s1.s6 h.2.s2.s6) (λ _=>h.keep));have k7:=hid (λ W (h:SaS w r s W)=>yas (ysy r.a7 s.a7 r.c7 s.c7 r.l7 s.l7 W (zp hm.n7) (zp ab.n7) h.2.s1.s7 h.2.s2.s7) (λ _=>h.keep));have k8:=hid (λ W (h:SaS w r s W)=>yas (ydR r.a8 s.a8 r.c8 s.c8 r.l8 s.l8 W (zp hm.n8) (zp ab.n8) h.2.s1.s8 h.2.s2.s8) (λ _=>h.keep));have k9:=hid (λ W (h:SaS w r s W)=>yas (ydR r.a9 s.a9 r.c9 s.c9 r.l9 s.l9 W (zp hm.n9) (zp ab.n9) h.2.s1.s9 h.2.s2.s9) (λ _=>h.keep));have kx:=hid (λ W (h:SaS w r s W)=>yas (ydR r.ax s.ax r.cx s.cx r.lx s.lx W (zp hm.nx) (zp ab.nx) h.2.s1.sx h.2.s2.sx) (λ _=>h.keep));rw [ygE];obtain ⟨b0,g0⟩:=zx (yfO r s);obtain ⟨b5,g5⟩:=zx (decide (r.l5=s.l5));obtain ⟨b6,g6⟩:=zx (decide (r.l6=s.l6));obtain ⟨b7,g7⟩:=zx (decide (r.l7=s.l7));obtain ⟨b8,g8⟩:=zx (decide (r.l8=s.l8));obtain ⟨b9,g9⟩:=zx (decide (r.l9=s.l9));obtain ⟨bx,gx⟩:=zx (decide (r.lx=s.lx));rw [g0,g5,g6,g7,g8,g9,gx];rw [g0] at kE;rw [g5] at k5;rw [g6] at k6;rw [g7] at k7;rw [g8] at k8;rw [g9] at k9;rw [gx] at kx;clear g0 g5 g6 g7 g8 g9 gx hr hs hm ab hn ac;go_enter Tryz.func18,Tryz.ntmps18
 go_wp2_with fail
 refine Yj (S:=λ w'=>SaS w r s w') zk ae (λ aa=>?_);refine zhB 0 ?_;refine zhB 2 ?_;refine zzK 1 (λ K hK=>?_);go_simp;refine zm (kR _ (by assumption)) ?_;rintro wr hS;(try go_wp2_with fail);refine hK _ _ (by assumption) (λ aa=>?_);clear hK K;refine zzK 3 (λ K hK=>?_);go_simp;refine zm (kS _ (by assumption)) ?_;rintro wr hS;(try go_wp2_with fail);refine hK _ _ (by assumption) (λ aa=>?_);clear hK K;refine zT 4 (v:=?_) ?_ ?_;rotate_left
 ·intro w ad;(try dsimp only [RMS] at ad);go_simp;rw [kE,Zf]
 cases b0;focus
  refine zhB 5 ?_;refine zhS 6 ?_;refine zhS 7 ?_;refine zhS 8 ?_;refine zhS 9 ?_;refine zhS 10 ?_;refine zhB 11 ?_;refine zhB 12 ?_;refine zhS 13 ?_;refine zhS 14 ?_;refine zhS 15 ?_;refine zhS 16 ?_;refine zhS 17 ?_;refine zhB 18 ?_;refine zhB 19 ?_;refine zhS 20 ?_;refine zhS 21 ?_;refine zhS 22 ?_;refine zhS 23 ?_;refine zhS 24 ?_;refine zhB 25 ?_;refine zhB 26 ?_;refine zhS 27 ?_;refine zhS 28 ?_;refine zhS 29 ?_;refine zhS 30 ?_;refine zhS 31 ?_;refine zhB 32 ?_;refine zhB 33 ?_;refine zhS 34 ?_;refine zhS 35 ?_;refine zhS 36 ?_;refine zhS 37 ?_;refine zhS 38 ?_;refine zhB 39 ?_;refine zhB 40 ?_;refine zhS 41 ?_;refine zhS 42 ?_;refine zhS 43 ?_;refine zhS 44 ?_;refine zS 45 ?_
 rotate_left;focus
  refine zhB 5 ?_;refine zhB 6 ?_;refine zhB 7 ?_;refine zhB 8 ?_;refine zhB 9 ?_;refine zzK 10 (λ K hK=>?_);go_simp;refine zm (k5 _ (by assumption)) ?_;rintro wr hS;(try go_wp2_with fail);refine hK _ _ (by assumption) (λ aa=>?_);clear hK K;cases b5;focus
   refine zhB 11 ?_;refine zhB 12 ?_;refine zhS 13 ?_;refine zhS 14 ?_;refine zhS 15 ?_;refine zhS 16 ?_;refine zhS 17 ?_;refine zhB 18 ?_;refine zhB 19 ?_;refine zhS 20 ?_;refine zhS 21 ?_;refine zhS 22 ?_;refine zhS 23 ?_;refine zhS 24 ?_;refine zhB 25 ?_;refine zhB 26 ?_;refine zhS 27 ?_;refine zhS 28 ?_;refine zhS 29 ?_;refine zhS 30 ?_;refine zhS 31 ?_;refine zhB 32 ?_;refine zhB 33 ?_;refine zhS 34 ?_;refine zhS 35 ?_;refine zhS 36 ?_;refine zhS 37 ?_;refine zhS 38 ?_;refine zhB 39 ?_;refine zhB 40 ?_;refine zhS 41 ?_;refine zhS 42 ?_;refine zhS 43 ?_;refine zhS 44 ?_;refine zS 45 ?_
  rotate_left;focus
   refine zhB 11 ?_;refine zhB 12 ?_;refine zhB 13 ?_;refine zhB 14 ?_;refine zhB 15 ?_;refine zhB 16 ?_;refine zzK 17 (λ K hK=>?_);go_simp;refine zm (k6 _ (by assumption)) ?_;rintro wr hS;(try go_wp2_with fail);refine hK _ _ (by assumption) (λ aa=>?_);clear hK K;cases b6;focus
    refine zhB 18 ?_;refine zhB 19 ?_;refine zhS 20 ?_;refine zhS 21 ?_;refine zhS 22 ?_;refine zhS 23 ?_;refine zhS 24 ?_;refine zhB 25 ?_;refine zhB 26 ?_;refine zhS 27 ?_;refine zhS 28 ?_;refine zhS 29 ?_;refine zhS 30 ?_;refine zhS 31 ?_;refine zhB 32 ?_;refine zhB 33 ?_;refine zhS 34 ?_;refine zhS 35 ?_;refine zhS 36 ?_;refine zhS 37 ?_;refine zhS 38 ?_;refine zhB 39 ?_;refine zhB 40 ?_;refine zhS 41 ?_;refine zhS 42 ?_;refine zhS 43 ?_;refine zhS 44 ?_;refine zS 45 ?_
   rotate_left;focus
    refine zhB 18 ?_;refine zhB 19 ?_;refine zhB 20 ?_;refine zhB 21 ?_;refine zhB 22 ?_;refine zhB 23 ?_;refine zzK 24 (λ K hK=>?_);go_simp;refine zm (k7 _ (by assumption)) ?_;rintro wr hS;(try go_wp2_with fail);refine hK _ _ (by assumption) (λ aa=>?_);clear hK K;cases b7;focus
     refine zhB 25 ?_;refine zhB 26 ?_;refine zhS 27 ?_;refine zhS 28 ?_;refine zhS 29 ?_;refine zhS 30 ?_;refine zhS 31 ?_;refine zhB 32 ?_;refine zhB 33 ?_;refine zhS 34 ?_;refine zhS 35 ?_;refine zhS 36 ?_;refine zhS 37 ?_;refine zhS 38 ?_;refine zhB 39 ?_;refine zhB 40 ?_;refine zhS 41 ?_;refine zhS 42 ?_;refine zhS 43 ?_;refine zhS 44 ?_;refine zS 45 ?_
    rotate_left;focus
     refine zhB 25 ?_;refine zhB 26 ?_;refine zhB 27 ?_;refine zhB 28 ?_;refine zhB 29 ?_;refine zhB 30 ?_;refine zzK 31 (λ K hK=>?_);go_simp;refine zm (k8 _ (by assumption)) ?_;rintro wr hS;(try go_wp2_with fail);refine hK _ _ (by assumption) (λ aa=>?_);clear hK K;cases b8;focus
      refine zhB 32 ?_;refine zhB 33 ?_;refine zhS 34 ?_;refine zhS 35 ?_;refine zhS 36 ?_;refine zhS 37 ?_;refine zhS 38 ?_;refine zhB 39 ?_;refine zhB 40 ?_;refine zhS 41 ?_;refine zhS 42 ?_;refine zhS 43 ?_;refine zhS 44 ?_;refine zS 45 ?_
     rotate_left;focus
      refine zhB 32 ?_;refine zhB 33 ?_;refine zhB 34 ?_;refine zhB 35 ?_;refine zhB 36 ?_;refine zhB 37 ?_;refine zzK 38 (λ K hK=>?_);go_simp;refine zm (k9 _ (by assumption)) ?_;rintro wr hS;(try go_wp2_with fail);refine hK _ _ (by assumption) (λ aa=>?_);clear hK K;cases b9;focus
       refine zhB 39 ?_;refine zhB 40 ?_;refine zhS 41 ?_;refine zhS 42 ?_;refine zhS 43 ?_;refine zhS 44 ?_;refine zS 45 ?_
      rotate_left;focus
       refine zhB 39 ?_;refine zhB 40 ?_;refine zhB 41 ?_;refine zhB 42 ?_;refine zhB 43 ?_;refine zhB 44 ?_;refine zzK 45 (λ K hK=>?_);go_simp;refine zm (kx _ (by assumption)) ?_;rintro wr hS;(try go_wp2_with fail);refine hK _ _ (by assumption) (λ aa=>?_);clear hK K
      rotate_left
     rotate_left 2
    rotate_left 3
   rotate_left 4
  rotate_left 5
 rotate_left 6;all_goals
  refine zhB 46 ?_;refine zhB 47 ?_;refine Yt zk ?_ _;have HV:=hid ‹SaS w r s _›;go_wp2;go_ret;exact ⟨rfl,HV.2.be⟩
end
section
variable {b:Nat} {v0 v1 v2 v3 v4 v5:Value} {W:World}
abbrev yz9 (y mo d h m s:Int):List Value:= [E T y,E T mo,E T d,E T h,E T m,E T s]
abbrev yxx (y mo d h m s:Int):Value:= .agg (yz9 y mo d h m s).toArray
theorem ylH:(Tryz.prog.info? 184).map (·.size)=G 6:=by kernel_rfl
theorem yp4 (h:W.there b 0 6) (v0 v1 v2 v3 v4 v5:Value) :
  ((((((W.setCell (Z b 0 N) v0).setCell (Z b 1 N) v1).setCell (Z b 2 N) v2).setCell (Z b 3 N) v3).setCell (Z b 4 N) v4).setCell (Z b 5 N) v5).rangeAt b 0 [v0,v1,v2,v3,v4,v5]:=
 Zd W b 0 [v0,v1,v2,v3,v4,v5] h
abbrev Six (W:World) (b:Nat) (v0 v1 v2 v3 v4 v5:Value):Prop:=
 (W.cell? (Z b 0 N)=G v0/\W.cell? (Z b 1 N)=G v1/\W.cell? (Z b 2 N)=G v2/\W.cell? (Z b 3 N)=G v3/\W.cell? (Z b 4 N)=G v4/\W.cell? (Z b 5 N)=G v5)/\
 (W.frozen? (Z b 0 N)=false/\W.frozen? (Z b 1 N)=false/\W.frozen? (Z b 2 N)=false/\W.frozen? (Z b 3 N)=false/\W.frozen? (Z b 4 N)=false/\W.frozen? (Z b 5 N)=false)
theorem Six.below {W':World} {B:Nat} (h:Six W b v0 v1 v2 v3 v4 v5) (hb:Below B W W') (hB:b<B):Six W' b v0 v1 v2 v3 v4 v5:=by
 obtain ⟨⟨a0,a1,a2,a3,a4,a5⟩,f0,f1,f2,f3,f4,f5⟩:=h;exact ⟨⟨(hb.cell (p:=Z b 0 N) hB).trans a0,(hb.cell (p:=Z b 1 N) hB).trans a1,(hb.cell (p:=Z b 2 N) hB).trans a2,(hb.cell (p:=Z b 3 N) hB).trans a3,(hb.cell (p:=Z b 4 N) hB).trans a4,(hb.cell (p:=Z b 5 N) hB).trans a5⟩,
  (hb.frozen (p:=Z b 0 N) hB).trans f0,(hb.frozen (p:=Z b 1 N) hB).trans f1,(hb.frozen (p:=Z b 2 N) hB).trans f2,(hb.frozen (p:=Z b 3 N) hB).trans f3,(hb.frozen (p:=Z b 4 N) hB).trans f4,(hb.frozen (p:=Z b 5 N) hB).trans f5⟩
theorem ye7 (w:World) (v0 v1 v2 v3 v4 v5:Value) (t:TypeId):Six (w.alloc (J #[v0,v1,v2,v3,v4,v5] t)) w.heap.size v0 v1 v2 v3 v4 v5:=by
 refine ⟨⟨?_,?_,?_,?_,?_,?_⟩,?_,?_,?_,?_,?_,?_⟩ <;> simp [go_sem]
theorem Six.there (h:Six W b v0 v1 v2 v3 v4 v5):W.there b 0 6:=λ j hj=>by
 obtain ⟨⟨a0,a1,a2,a3,a4,a5⟩,f0,f1,f2,f3,f4,f5⟩:=h;have ah:j=0\/ j=1\/ j=2\/ j=3\/ j=4\/ j=5:=zo;rw [zzn];rcases ah with rfl | rfl | rfl | rfl | rfl | rfl
 ·exact ⟨by rw [a0];rfl,f0⟩
 ·exact ⟨by rw [a1];rfl,f1⟩
 ·exact ⟨by rw [a2];rfl,f2⟩
 ·exact ⟨by rw [a3];rfl,f3⟩
 ·exact ⟨by rw [a4];rfl,f4⟩
 ·exact ⟨by rw [a5];rfl,f5⟩
def yfG (t:Int):Value:=if ycb t=true then yxx (fY (t/86400)) (fMo (t/86400)) (fD (t/86400)) (t%86400/3600) (t%86400/60%60) (t%86400%60) else yxx 0 0 0 0 0 0
theorem ysc (t:Int) (w:World):H I 159 #[E T t] w λ e w'=>e=Q (Xt #[yfG t,Xb (ycb t)])/\Bw w w':=by
 have HX:=hid (ye7 w (E T 0) (E T 0) (E T 0) (E T 0) (E T 0) (E T 0) 184);have ag:Hid (Bw w (w.alloc (J #[E T 0,E T 0,E T 0,E T 0,E T 0,E T 0] 184))):=yaa (Ye _ _) zg;have ae:Hid (w.heap.size<(w.alloc (J #[E T 0,E T 0,E T 0,E T 0,E T 0,E T 0] 184)).heap.size):=by show _<_;simp
 rw [yfG];rcases ycY t with ⟨hw,h0,h1⟩ | ⟨hw,h⟩
 ·rw [hw,Yd rfl];have cS:=hid (λ W=>yb0 t W h0 h1);have cD:=hid (λ W=>yhp (t/86400) W zo zo);have cP:=hid (λ W=>yhg (t%86400) W zo zo);obtain ⟨n,hn⟩:=zx (t/86400);obtain ⟨k,hk⟩:=zx (t%86400);rw [hn] at cS cD⊢;rw [hk] at cS cP⊢;obtain ⟨y,hy⟩:=zx (fY n);obtain ⟨m,hm⟩:=zx (fMo n);obtain ⟨d,hd⟩:=zx (fD n);rw [hy,hm,hd] at cD⊢;obtain ⟨p1,ad⟩:=zx (k/3600);obtain ⟨p2,ac⟩:=zx (k/60%60);obtain ⟨p3,ab⟩:=zx (k%60);rw [ad,ac,ab] at cP⊢;clear hw h0 h1 hn hk hy hm hd ad ac ab;go_enter Tryz.func159,Tryz.ntmps159
  go_wp2_with fail
  refine zm (cS _) ?_;rintro w1 rfl;go_wp2_with fail
  refine zm (cD _) ?_;rintro w1 aa;have af:=hid (HX.below aa ae);have ai:=hid (ag.trans (aa.mono (YY ae)));obtain ⟨⟨a0,a1,a2,a3,a4,a5⟩,f0,f1,f2,f3,f4,f5⟩:=af.out;clear aa;go_wp2_with fail
  refine zm (cP _) ?_;rintro w2 rfl;go_wp2;exact Yh (yaq rfl _ _ w.heap.size 0 _ _ rfl (yp4 af.there _ _ _ _ _ _) Tryz.underlying184 rfl ylH) rfl ⟨rfl,yab (yab (yab (yab (yab (yab ai zg) zg) zg) zg) zg) zg⟩
 ·rw [hw,Yb zs];have cS:=hid (λ W=>ygr t W hw);clear hw h;go_enter Tryz.func159,Tryz.ntmps159
  go_wp2_with fail
  refine zm (cS _) ?_;rintro w1 rfl;go_wp2;exact Yh (yaq rfl _ _ w.heap.size 0 _ _ rfl (yap w _ _) Tryz.underlying184 rfl ylH) rfl ⟨rfl,ag⟩
end
section
variable {d h m mo s y:Int} {b:Nat} {W W' w:World}
theorem ybn (w:World) (a b:Addr) (v:Value):(w.setCell a v).frozen? b=w.frozen? b:=by simp [go_sem]
structure BgF (w:World) (r:Ru) (b:Nat) (y mo d h m s:Int) (W:World):Prop where
 rb:RuB W w.heap.size r
 six:Six W b (E T y) (E T mo) (E T d) (E T h) (E T m) (E T s)
 be:Bw w W
 l:w.heap.size+1<b/\b<W.heap.size
abbrev BgS (w:World) (r:Ru) (b:Nat) (y mo d h m s:Int) (W:World):Prop:=
 RuC W w.heap.size r/\Six W b (E T y) (E T mo) (E T d) (E T h) (E T m) (E T s)/\BgF w r b y mo d h m s W
theorem BgF.sas {r:Ru} (k:BgF w r b y mo d h m s W):BgS w r b y mo d h m s W:=⟨k.rb.all,k.six,k⟩
theorem BgF.keep {r:Ru} (k:BgF w r b y mo d h m s W) (hb:Bw W W'):BgF w r b y mo d h m s W':=by
 have hs:=hb.size;have l:=k.l;exact ⟨k.rb.below hb zo,k.six.below hb l.2,k.be.trans (hb.mono zo),l.1,by omega⟩
theorem BgS.keep {r:Ru} (k:BgS w r b y mo d h m s W) (hb:Bw W W'):BgS w r b y mo d h m s W':=(k.2.2.keep hb).sas
theorem BgS.set {r:Ru} (k:BgS w r b y mo d h m s W) (o:Nat) (v:Value):BgS w r b y mo d h m s (W.setCell (Z (w.heap.size+1) o N) v):=by
 obtain ⟨h1,⟨⟨a0,a1,a2,a3,a4,a5⟩,f0,f1,f2,f3,f4,f5⟩,h3,h4⟩:=k.2.2;have hb:Below (w.heap.size+1) W (W.setCell (Z (w.heap.size+1) o N) v):=yab (Ye _ _) zg;have hs:(W.setCell (Z (w.heap.size+1) o N) v).heap.size=W.heap.size:=Yx _ _ _;have ne:∀i,((Z b i N):Addr)≠(Z (w.heap.size+1) o N):=λ i e=>by injection e with e _ _;omega
 have ec:∀i,(W.setCell (Z (w.heap.size+1) o N) v).cell? (Z b i N)=W.cell? (Z b i N):=λ i=>zzL _ _ _ _ (ne i).symm;exact BgF.sas ⟨h1.below hb zo,⟨⟨(ec 0).trans a0,(ec 1).trans a1,(ec 2).trans a2,(ec 3).trans a3,(ec 4).trans a4,(ec 5).trans a5⟩,by rw [ybn];exact f0,by rw [ybn];exact f1,by rw [ybn];exact f2,by rw [ybn];exact f3,by rw [ybn];exact f4,by rw [ybn];exact f5⟩,
  yab h3 zo,h4.1,by rw [hs];exact h4.2⟩
theorem yb4 (t:Int):∃y mo d h m s:Int,yfG t=yxx y mo d h m s:=by
 rw [yfG];split <;> exact ⟨_,_,_,_,_,_,rfl⟩
theorem ycN (r:Ru) (w:World) (hr:RuS w r) (hm:r.Sm 1000000):H I 109 #[ruv r] w λ e w'=>e=Q (Xt #[yfG r.st,Xb (yah r==0)])/\Bw w w':=by
 have cS:=hid (λ W=>ysc r.st W);obtain ⟨y,mo,d,h,m,s,ae⟩:=yb4 r.st;rw [ae] at cS⊢;have cC:Hid (∀b W,BgS w r b y mo d h m s W->H I 58 #[ruv r] W λ e w'=>e=Q (E T (yah r))/\BgS w r b y mo d h m s w'/\Bw W w'):=λ b W k=>
  (yhn r W (hr.below k.2.2.be) hm).mono λ e w' ⟨he,hb⟩=>⟨he,k.keep hb,hb⟩
 generalize hE:yah r=Eq1 at cC⊢
 obtain ⟨i,hi⟩:=zx (ycb r.st);rw [hi] at cS;have aj:Hid (Bw w ((w.alloc (J (yad r).toArray 25)).alloc (J #[E T 0,E T 0,E T 0,E T 0,E T 0,E T 0] 184))):=yaa (yaa (Ye _ _) zg) zs;have ag:RuB ((w.alloc (J (yad r).toArray 25)).alloc (J #[E T 0,E T 0,E T 0,E T 0,E T 0,E T 0] 184)) w.heap.size r:=(ybk w r _).below (yaa (Ye _ _) zg) zs;have ai:=hid ag;have hX:=ye7 (w.alloc (J (yad r).toArray 25)) (E T 0) (E T 0) (E T 0) (E T 0) (E T 0) (E T 0) 184;(try unfold Bw at hX);rw [zzN] at hX
 have HX:=hid hX;have ac:Hid (((w.alloc (J (yad r).toArray 25)).alloc (J #[E T 0,E T 0,E T 0,E T 0,E T 0,E T 0] 184)).heap.size=w.heap.size+1+1):=by show _ = _;simp
 clear hr hm ae hE hi ag hX;go_enter Tryz.func109,Tryz.ntmps109
 go_wp2_with fail
 refine zm (cS _) ?_;rintro w1 ab;have hz:=ab.size;rw [ac] at hz;have hn:=yaa (o:=J #[E T y,E T mo,E T d,E T h,E T m,E T s] 184) (Ye w1.heap.size w1) zg;have af:=(HX.below ab (by rw [ac];omega)).below hn zo;have HF:=hid (BgF.sas (b:=w1.heap.size) ⟨((ai.below ab (by rw [ac];omega)).below hn zo),ye7 w1 (E T y) (E T mo) (E T d) (E T h) (E T m) (E T s) 184,(aj.trans (ab.mono (by rw [ac];omega))).trans (hn.mono zo),by omega,by simp only [zzN];omega⟩);have ak:=hid (af.below (Ye (w.heap.size+1+1) _).drew zo);have al:=hid (HF.keep (Ye _ _).drew);have ad:w.heap.size+1<w1.heap.size:=zo;have am:=hid ad;clear ab hn af ai HX aj ac hz ad HF;go_wp2_with fail
 refine Yj (S:=λ w'=>BgS w r w1.heap.size y mo d h m s w') zk al (λ aa=>?_);refine zhB 0 ?_;refine zhB 1 ?_;refine zzK 2 (λ K hK=>?_);go_simp;refine zm (cC _ _ (by assumption)) ?_;rintro w2 ⟨hS,hB⟩;have ah:=hid (ak.below hB (zp aa.2.2.l));clear hB;(try go_wp2_with fail);refine hK _ _ hS (λ aa=>?_);clear hK K;refine zhB 3 ?_;obtain ⟨⟨a0,a1,a2,a3,a4,a5⟩,f0,f1,f2,f3,f4,f5⟩:=ah.out;refine zzK 4 (λ K hK=>?_);go_simp;(try go_wp2_with fail);refine hK _ _ ((((((hS.set 0 _).set 1 _).set 2 _).set 3 _).set 4 _).set 5 _) (λ aa=>?_);clear hK K;refine zhB 5 ?_;refine Yt zk ?_ _;have HV:=hid (((((((hS.set 0 (E T y)).set 1 (E T mo)).set 2 (E T d)).set 3 (E T h)).set 4 (E T m)).set 5 (E T s)).2.2.be);go_wp2;exact Yh (yaq rfl _ _ (w.heap.size+1) 0 _ _ rfl (yp4 ah.there _ _ _ _ _ _) Tryz.underlying184 rfl ylH) rfl ⟨rfl,HV⟩
end
section
variable {l:List Int} {B b:Nat} {v0 v1 v2 v3 v4 v5 v6 v7 v8 v9:Value} {W:World}
theorem yt6 (h:ybf l=0):∀x∈l,x=0:=by
 induction l with
 | nil=>simp
 | cons x l ih=>
   rw [ybf] at h;intro y hy;by_cases hx:x=0
   ·rw [Yd hx] at h;rcases YF.1 hy with rfl | hy
    ·exact hx
    ·exact ih h y hy
   ·rw [Yb hx] at h;exact absurd h hx
structure Ru.Ok (r:Ru):Prop where
 h:yf3 r=0
 e5:ybe 1 12 r.l5=0
 e6:yhy r=0
 e7:ydp r=0
 e8:ybe 0 23 r.l8=0
 e9:ybe 0 59 r.l9=0
 ex:ybe 0 59 r.lx=0
theorem yaY {r:Ru} (h:yah r=0):r.Ok:=by
 have k:=yt6 h;unfold ykp at k;exact ⟨k _ zs,k _ zs,k _ zs,k _ zs,k _ zs,k _ zs,k _ zs⟩
theorem ycW {r:Ru} (h:yf3 r=0):ycb r.st=true/\unB r.fq=true:=by
 unfold yf3 at h;split at h
 ·cases h
 ·split at h
  ·cases h
  ·rename_i a b;simp only [Bool.not_eq_false] at a b;exact ⟨a,b⟩
theorem ygT {lo hi:Int} (h:ybe lo hi l=0):l.length<=64/\∀x∈l,lo<=x/\x<=hi:=by
 unfold ybe at h;split at h
 ·cases h
 ·split at h
  ·cases h
  ·rename_i a b;refine ⟨by omega,λ x hx=>?_⟩;rw [ycs,Yk] at b;have:¬yht lo hi x=true:=λ e=>b ⟨x,hx,e⟩
   simp only [yht,Ys,zzY] at this;omega
theorem ydS {r:Ru} (h:ydp r=0):r.l7.length<=64/\(∀x∈r.l7,(-53<=x.1/\x.1<=53)/\1<=x.2/\x.2<=7)/\yhq (nsL r)=false/\(ycs 0 0 (nsL r)=true->r.fq=5\/ r.fq=6)/\(r.fq=5\/ 0<r.l5.length->ycs (-5) 5 (nsL r)=false):=by
 unfold ydp at h;split at h
 ·cases h
 ·rename_i a;unfold ypF at h;cases ho:ycs (-53) 53 (nsL r) <;> cases hd:r.l7.any yjB <;> rw [ho,hd] at h <;> try (exact absurd (show (4:Int)=0 from h) zd)
  cases hm:yhq (nsL r) <;> rw [hm] at h <;> try (exact absurd (show (12:Int)=0 from h) zd)
  refine ⟨by omega,λ x hx=>⟨?_,?_⟩,rfl,?_,?_⟩
  ·have:¬ycs (-53) 53 (nsL r)=true:=by rw [ho];simp
   rw [ycs,Yk] at this;have:¬yht (-53) 53 x.1=true:=λ e=>this ⟨x.1,Zs hx,e⟩
   simp only [yht,Ys,zzY] at this;omega
  ·have:¬r.l7.any yjB=true:=by rw [hd];simp
   rw [Yk] at this;have:¬yjB x=true:=λ e=>this ⟨x,hx,e⟩
   simp only [yjB,Ys,zzY] at this;omega
  ·intro hz;rw [hz] at h;by_cases h5:r.fq=5
   ·exact .inl h5
   ·by_cases h6:r.fq=6
    ·exact .inr h6
    ·rw [show (r.fq==5)=false by simp [h5],show (r.fq==6)=false by simp [h6]] at h;simp at h
  ·intro hc;cases hq:ycs (-5) 5 (nsL r)
   ·rfl
   ·rw [hq] at h;have e:((r.fq==5)||decide (0<r.l5.length))=true:=by
     rcases hc with hc | hc
     ·rw [show (r.fq==5)=true by simp [hc]];rfl
     ·rw [zzZ hc,Bool.or_true]
    rw [e] at h;cases hz:ycs 0 0 (nsL r) <;> cases h5:(r.fq==5) <;> cases h6:(r.fq==6) <;> rw [hz,h5,h6] at h <;> simp at h
abbrev TenX (W:World) (b:Nat) (v0 v1 v2 v3 v4 v5 v6 v7 v8 v9:Value):Prop:=
 (W.cell? (Z b 0 N)=G v0/\W.cell? (Z b 1 N)=G v1/\W.cell? (Z b 2 N)=G v2/\W.cell? (Z b 3 N)=G v3/\W.cell? (Z b 4 N)=G v4/\W.cell? (Z b 5 N)=G v5/\W.cell? (Z b 6 N)=G v6/\W.cell? (Z b 7 N)=G v7/\W.cell? (Z b 8 N)=G v8/\W.cell? (Z b 9 N)=G v9)/\
 (W.frozen? (Z b 0 N)=false/\W.frozen? (Z b 1 N)=false/\W.frozen? (Z b 2 N)=false/\W.frozen? (Z b 3 N)=false/\W.frozen? (Z b 4 N)=false/\W.frozen? (Z b 5 N)=false/\W.frozen? (Z b 6 N)=false/\W.frozen? (Z b 7 N)=false/\W.frozen? (Z b 8 N)=false/\W.frozen? (Z b 9 N)=false)
theorem ypU (h:W.rangeAt b 0 [v0,v1,v2,v3,v4,v5,v6,v7,v8,v9]) (ht:W.there b 0 10):TenX W b v0 v1 v2 v3 v4 v5 v6 v7 v8 v9:=by
 have g:∀j v,[v0,v1,v2,v3,v4,v5,v6,v7,v8,v9][j]? =G v->W.cell? (Z b j N)=G v:=λ j v e=>by have:=h j v e;rwa [zzn] at this
 have k:∀j,j<10->W.frozen? (Z b j N)=false:=λ j hj=>by have:=(ht j hj).2;rwa [zzn] at this
 exact ⟨⟨g 0 _ rfl,g 1 _ rfl,g 2 _ rfl,g 3 _ rfl,g 4 _ rfl,g 5 _ rfl,g 6 _ rfl,g 7 _ rfl,g 8 _ rfl,g 9 _ rfl⟩,k 0 zo,k 1 zo,k 2 zo,k 3 zo,k 4 zo,k 5 zo,k 6 zo,k 7 zo,k 8 zo,k 9 zo⟩
theorem yvh {j:Nat} (h:j<10):j=0\/ j=1\/ j=2\/ j=3\/ j=4\/ j=5\/ j=6\/ j=7\/ j=8\/ j=9:=zo
theorem TenX.there (h:TenX W b v0 v1 v2 v3 v4 v5 v6 v7 v8 v9):W.there b 0 10:=λ j hj=>by
 obtain ⟨⟨a0,a1,a2,a3,a4,a5,a6,a7,a8,a9⟩,f0,f1,f2,f3,f4,f5,f6,f7,f8,f9⟩:=h;rw [zzn];rcases yvh hj with rfl | rfl | rfl | rfl | rfl | rfl | rfl | rfl | rfl | rfl
 ·exact ⟨by rw [a0];rfl,f0⟩
 ·exact ⟨by rw [a1];rfl,f1⟩
 ·exact ⟨by rw [a2];rfl,f2⟩
 ·exact ⟨by rw [a3];rfl,f3⟩
 ·exact ⟨by rw [a4];rfl,f4⟩
 ·exact ⟨by rw [a5];rfl,f5⟩
 ·exact ⟨by rw [a6];rfl,f6⟩
 ·exact ⟨by rw [a7];rfl,f7⟩
 ·exact ⟨by rw [a8];rfl,f8⟩
 ·exact ⟨by rw [a9];rfl,f9⟩
theorem TenX.range (h:TenX W b v0 v1 v2 v3 v4 v5 v6 v7 v8 v9):W.rangeAt b 0 [v0,v1,v2,v3,v4,v5,v6,v7,v8,v9]:=λ j v hv=>by
 obtain ⟨⟨a0,a1,a2,a3,a4,a5,a6,a7,a8,a9⟩,-⟩:=h;have hj:j<10:=(zzq.1 hv).1;rw [zzn];rcases yvh hj with rfl | rfl | rfl | rfl | rfl | rfl | rfl | rfl | rfl | rfl <;> (cases hv;assumption)
theorem TenX.below {W':World} (h:TenX W b v0 v1 v2 v3 v4 v5 v6 v7 v8 v9) (hb:Below B W W') (hB:b<B):TenX W' b v0 v1 v2 v3 v4 v5 v6 v7 v8 v9:=
 ypU (λ j v hv=>(hb.cell (p:=Z b (0+j) N) hB).trans (h.range j v hv)) (λ j hj=>by
  obtain ⟨k1,k2⟩:=h.there j hj;exact ⟨by rw [hb.cell (p:=Z b (0+j) N) hB];exact k1,(hb.frozen (p:=Z b (0+j) N) hB).trans k2⟩)
theorem yiy (w:World) (v0 v1 v2 v3 v4 v5 v6 v7 v8 v9:Value) (t:TypeId):TenX (w.alloc (J #[v0,v1,v2,v3,v4,v5,v6,v7,v8,v9] t)) w.heap.size v0 v1 v2 v3 v4 v5 v6 v7 v8 v9:=
 ypU (yap w [v0,v1,v2,v3,v4,v5,v6,v7,v8,v9] t) (yaL w #[v0,v1,v2,v3,v4,v5,v6,v7,v8,v9] t)
abbrev ymU (W:World) (b:Nat) (v0 v1 v2 v3 v4 v5 v6 v7 v8 v9:Value):World:=
 (((((((((W.setCell (Z b 0 N) v0).setCell (Z b 1 N) v1).setCell (Z b 2 N) v2).setCell (Z b 3 N) v3).setCell (Z b 4 N) v4).setCell (Z b 5 N) v5).setCell (Z b 6 N) v6).setCell (Z b 7 N) v7).setCell (Z b 8 N) v8).setCell (Z b 9 N) v9
theorem yey (h:W.there b 0 10) (v0 v1 v2 v3 v4 v5 v6 v7 v8 v9:Value):(ymU W b v0 v1 v2 v3 v4 v5 v6 v7 v8 v9).rangeAt b 0 [v0,v1,v2,v3,v4,v5,v6,v7,v8,v9]:=
 Zd W b 0 [v0,v1,v2,v3,v4,v5,v6,v7,v8,v9] h
theorem ycZ {a:World} (h:Below B a W) (hb:B<=b) (v0 v1 v2 v3 v4 v5 v6 v7 v8 v9:Value):Below B a (ymU W b v0 v1 v2 v3 v4 v5 v6 v7 v8 v9):=
 yaB hb [v0,v1,v2,v3,v4,v5,v6,v7,v8,v9] 0 W h
theorem yfm:(Tryz.prog.info? 57).map (·.size)=G 10:=by kernel_rfl
theorem ybc {P:Program} {fn:Func} {p t:Tmp} {ty:TypeId} (h:fn.results= #[.tmp t, .cell p ty]) (tmps:Array Value) (w:World) (b o:Nat) (cs:List Value) (d:TypeDesc)
  (hp:tmps.getD p undef=R (G (Z b o N))) (hc:w.rangeAt b o cs) (hu:P.underlying ty=G d) (hd:d.isRow=true) (hi:(P.info? ty).map (·.size)=G cs.length) :
  (results fn tmps).run P w= .ok (Xt #[tmps.getD t undef, .agg cs.toArray]) w:=by
 have aa:tmps[p]?.getD undef=R (G (Z b o N)):=by simpa using hp
 simp [results,h,aa,asAddr,run_loadVar_mid w b o ty cs d hc hu hd hi]
def wkM (l:List (Int × Int)):Nat:=l.foldl (λ m x=>m|||ofM [x.2]) 0
def wkD (l:List (Int × Int)) (j:Nat):Nat:=l.foldl (λ m x=>if x.2= (j:Int) then m|||ofM [max x.1 (-x.1)] else m) 0
end
theorem yeY (x:Int) (W:World) (t:TypeId):H I 92 #[Xs (G (Z W.heap.size 0 N)) 1 1] (W.alloc (J #[E T x] t)) λ e w'=>e=Q (E Y (ofM [x]))/\Bw W w':=by
 have hb:Bw W (W.alloc (J #[E T x] t)):=yaa (Ye _ _) zg;exact (yev (G (Z W.heap.size 0 N)) 1 [x] (W.alloc (J #[E T x] t)) zs (ybV (yap W [E T x] t) zs)).mono λ e w' ⟨he,h⟩=>⟨he,zu hb h⟩
theorem ymC {t:Int} (h:ycb t=true):0<=t/\t<12622780800:=by
 rcases ycY t with ⟨-,h0,h1⟩ | ⟨e,-⟩
 ·exact ⟨h0,h1⟩
 ·rw [h] at e;cases e
theorem yfo (F:Cl) (W:World):(Instr.field 59 (clv F) 6).run I W= .ok (E Y (F.m 6:Nat)) W:=by kernel_rfl
structure WeF (w:World) (r:Ru) (W:World):Prop where
 rb:RuB W w.heap.size r
 z:TenX W (w.heap.size+1) (E T 0) (Xb false) (E Y 0) (E Y 0) (E Y 0) (E Y 0) (E Y 0) (E Y 0) (E Y 0) (E Y 0)
 be:Bw w W
 l:w.heap.size+1<W.heap.size
theorem WeF.keep {w W W':World} {r:Ru} (k:WeF w r W) (hb:Bw W W'):WeF w r W':=by
 have hs:=hb.size;have l:=k.l;exact ⟨k.rb.below hb zo,k.z.below hb l,k.be.trans (hb.mono zo),by omega⟩
theorem ye2 (w:World) (r:Ru) (t t':TypeId):WeF w r ((w.alloc (J (yad r).toArray t)).alloc (J #[E T 0,Xb false,E Y 0,E Y 0,E Y 0,E Y 0,E Y 0,E Y 0,E Y 0,E Y 0] t')):=by
 have h:=yiy (w.alloc (J (yad r).toArray t)) (E T 0) (Xb false) (E Y 0) (E Y 0) (E Y 0) (E Y 0) (E Y 0) (E Y 0) (E Y 0) (E Y 0) t';(try unfold Bw at h);rw [zzN] at h
 exact ⟨(ybk w r t).below (yaa (Ye _ _) zg) zs,h,yaa (yaa (Ye _ _) zg) zs,by simp only [zzN];omega⟩
def wdI (n:Int):Int:=(n%7+3)%7+1
abbrev yit:Value:= .agg #[E T 0,Xb false,E Y 0,E Y 0,E Y 0,E Y 0,E Y 0,E Y 0,E Y 0,E Y 0]
def ycA (r:Ru):Nat:=if yah r=0 then (if r.l7= [] then (if r.fq=4 then ofM [wdI (r.st/86400)] else fullCl.m 6) else if ycs 0 0 (nsL r)=true then fullCl.m 6 else wkM r.l7) else 0
def yba (r:Ru):Int:=if r.fq=6/\r.l5.length=0 then 2 else 1
def ydA (r:Ru):Bool:=decide ((nsL r).headD 0<0)
def yfY (r:Ru):Value:=if yah r=0/\ycs 0 0 (nsL r)=true then ypp (yba r) (ydA r) (wkD r.l7) else yit
theorem yxn (r:Ru) (w:World) (hr:RuS w r) (hm:r.Sm 1000000) (hc:¬yah r=0):H I 53 #[ruv r] w λ e w'=>e=Q (Xt #[E Y (ycA r:Nat),yfY r])/\Bw w w':=by
 have ae:=(ye2 w r 25 57).be;have ag:=hid (ye2 w r 25 57);have cB:=hid (ycN r _ (hr.below ae) hm);have cF:=hid (λ W=>ycR W);have ai:∀W,(Instr.field 59 (clv fullCl) 6).run I W= .ok (E Y (fullCl.m 6:Nat)) W:=λ W=>yfo fullCl W;obtain ⟨y,mo,d,h,m,s,ad⟩:=yb4 r.st;rw [ad] at cB;have e1:ycA r=0:=by rw [ycA,Yb hc]
 have e2:yfY r=yit:=by rw [yfY,Yb (λ h=>hc h.1)]
 rw [e1,e2];clear e1 e2;have hb:(yah r==0)=false:=by simpa using hc
 rw [hb] at cB;clear hr hm ad ae hb hc;go_enter Tryz.func53,Tryz.ntmps53
 go_wp2_with fail
 refine zm cB ?_;rintro w1 ac;have af:=hid ((ag.keep ac).keep (yaa (o:=J #[E T y,E T mo,E T d,E T h,E T m,E T s] 184) (Ye w1.heap.size w1) zg));clear ac;go_wp2_with fail
 refine zm (cF _) ?_;rintro w2 ab;have aa:=hid (af.keep ab);clear ab;obtain ⟨⟨k0,k1,k2,k3,k4⟩,k5,k6,k7,k8,k9,kx⟩:=aa.rb.all;obtain ⟨⟨z0,z1,z2,z3,z4,z5,z6,z7,z8,z9⟩,f0,f1,f2,f3,f4,f5,f6,f7,f8,f9⟩:=aa.z;go_wp2;exact Yh (ybc rfl _ _ (w.heap.size+1) 0 _ _ rfl (yey aa.z.there _ _ _ _ _ _ _ _ _ _) Tryz.underlying57 rfl yfm) rfl ⟨rfl,ycZ aa.be zo _ _ _ _ _ _ _ _ _ _⟩
theorem yuI (r:Ru) (w:World) (hr:RuS w r) (hm:r.Sm 1000000) (hc:yah r=0) (h7:r.l7= []):H I 53 #[ruv r] w λ e w'=>e=Q (Xt #[E Y (ycA r:Nat),yfY r])/\Bw w w':=by
 have hn:nsL r= []:=by rw [nsL,h7];rfl
 have ae:=(ye2 w r 25 57).be;have ag:=hid (ye2 w r 25 57);have cB:=hid (ycN r _ (hr.below ae) hm);have cF:=hid (λ W=>ycR W);have ai:∀W,(Instr.field 59 (clv fullCl) 6).run I W= .ok (E Y (fullCl.m 6:Nat)) W:=λ W=>yfo fullCl W;obtain ⟨y,mo,d,h,m,s,ad⟩:=yb4 r.st;rw [ad] at cB;have e1:ycA r=if r.fq=4 then ofM [wdI (r.st/86400)] else fullCl.m 6:=by rw [ycA,Yd hc,Yd h7]
 have e2:yfY r=yit:=by rw [yfY,Yb (λ h=>by have h2:=h.2;rw [hn] at h2;cases h2)]
 rw [e1,e2];clear e1 e2;have hb:(yah r==0)=true:=by simpa using hc
 rw [hb] at cB;have hl:((r.l7.length:Int)==0)=true:=by rw [h7];rfl
 obtain ⟨h0,h1⟩:=ymC (ycW (yaY hc).h).1;have cD:=hid (λ W=>yky (r.st/86400) W zo);rw [show (r.st/86400%7+3)%7+1=wdI (r.st/86400) from rfl] at cD;generalize hx:wdI (r.st/86400)=x at cD⊢
 have cO:=hid (λ W=>yeY x W 3);generalize hM:ofM [x]=M at cO⊢
 generalize hF:fullCl=F at cF ai⊢
 clear hr hm ad ae hb hc h7 hn hx hM hF;by_cases h4:r.fq=4
 ·rw [Yd h4];have ak:(r.fq==4)=true:=by simpa using h4
  clear h4;go_enter Tryz.func53,Tryz.ntmps53
  go_wp2_with fail
  refine zm cB ?_;rintro w1 ac;have af:=hid ((ag.keep ac).keep (yaa (o:=J #[E T y,E T mo,E T d,E T h,E T m,E T s] 184) (Ye w1.heap.size w1) zg));clear ac;go_wp2_with fail
  refine zm (cF _) ?_;rintro w2 ab;have aa:=hid (af.keep ab);clear ab;obtain ⟨⟨k0,k1,k2,k3,k4⟩,k5,k6,k7,k8,k9,kx⟩:=aa.rb.all;obtain ⟨⟨z0,z1,z2,z3,z4,z5,z6,z7,z8,z9⟩,f0,f1,f2,f3,f4,f5,f6,f7,f8,f9⟩:=aa.z;go_wp2_with fail
  refine zm (cD _) ?_;rintro w3 rfl;go_wp2_with fail
  refine zm (cO _) ?_;rintro w4 aj;have ah:=hid (aa.keep aj);clear aj k0 k1 k2 k3 k4 k5 k6 k7 k8 k9 kx z0 z1 z2 z3 z4 z5 z6 z7 z8 z9 f0 f1 f2 f3 f4 f5 f6 f7 f8 f9;obtain ⟨⟨z0,z1,z2,z3,z4,z5,z6,z7,z8,z9⟩,f0,f1,f2,f3,f4,f5,f6,f7,f8,f9⟩:=ah.z;go_wp2;exact Yh (ybc rfl _ _ (w.heap.size+1) 0 _ _ rfl (yey ah.z.there _ _ _ _ _ _ _ _ _ _) Tryz.underlying57 rfl yfm) rfl ⟨rfl,ycZ ah.be zo _ _ _ _ _ _ _ _ _ _⟩
 ·rw [Yb h4];have ak:(r.fq==4)=false:=by simpa using h4
  clear h4;go_enter Tryz.func53,Tryz.ntmps53
  go_wp2_with fail
  refine zm cB ?_;rintro w1 ac;have af:=hid ((ag.keep ac).keep (yaa (o:=J #[E T y,E T mo,E T d,E T h,E T m,E T s] 184) (Ye w1.heap.size w1) zg));clear ac;go_wp2_with fail
  refine zm (cF _) ?_;rintro w2 ab;have aa:=hid (af.keep ab);clear ab;obtain ⟨⟨k0,k1,k2,k3,k4⟩,k5,k6,k7,k8,k9,kx⟩:=aa.rb.all;obtain ⟨⟨z0,z1,z2,z3,z4,z5,z6,z7,z8,z9⟩,f0,f1,f2,f3,f4,f5,f6,f7,f8,f9⟩:=aa.z;go_wp2;exact Yh (ybc rfl _ _ (w.heap.size+1) 0 _ _ rfl (yey aa.z.there _ _ _ _ _ _ _ _ _ _) Tryz.underlying57 rfl yfm) rfl ⟨rfl,ycZ aa.be zo _ _ _ _ _ _ _ _ _ _⟩
section
variable {k:Bool} {i x0 y1:Int} {b b' ad b8 j o off:Nat} {D:Nat->Nat} {r:Ru} {W W' w:World}
theorem yhi (x:Int) (W:World) (t:TypeId):H I 92 #[Xs (G (Z W.heap.size 0 N)) 1 1] (W.alloc (J #[E T x] t)).drew λ e w'=>e=Q (E Y (ofM [x]))/\Bw W w':=by
 have hb:Bw W (W.alloc (J #[E T x] t)):=yaa (Ye _ _) zg;have hd:Below (W.alloc (J #[E T x] t)).heap.size (W.alloc (J #[E T x] t)) (W.alloc (J #[E T x] t)).drew:=(Ye _ _).drew;exact (yev (G (Z W.heap.size 0 N)) 1 [x] (W.alloc (J #[E T x] t)).drew zs ((ybV (yap W [E T x] t) zs).below hd)).mono λ e w' ⟨he,h⟩=>⟨he,(zu hb hd).trans (h.mono (zI hb.size hd.size))⟩
theorem WeF.set {v:Value} (k:WeF w r W) (hb:w.heap.size+1<b):WeF w r (W.setCell (Z b o N) v):=by
 have hB:Below b W (W.setCell (Z b o N) v):=yab (Ye _ _) zg;exact ⟨k.rb.below hB zo,k.z.below hB hb,yab k.be zo,by rw [Yx];exact k.l⟩
abbrev RgS (w:World) (r:Ru) (b off:Nat) (x0:Int) (W:World):Prop:=
 (W.cell? (Z w.heap.size 7 N)=G (Xs (G (Z b off N)) r.l7.length r.c7)/\W.cell? (Z b off N)=G (E T x0))/\WeF w r W/\b<w.heap.size
theorem RgS.keep (k:RgS w r b off x0 W) (hb:Bw W W'):RgS w r b off x0 W':=by
 obtain ⟨⟨h1,h2⟩,h3,h4⟩:=k;have:=h3.l;exact ⟨⟨(hb.cell (p:=Z w.heap.size 7 N) (by show w.heap.size<W.heap.size;omega)).trans h1,(hb.cell (p:=Z b off N) (by show b<W.heap.size;omega)).trans h2⟩,h3.keep hb,h4⟩
theorem RgS.set (k:RgS w r b off x0 W) (ac:w.heap.size+1<b') (o:Nat) (v:Value):RgS w r b off x0 (W.setCell (Z b' o N) v):=by
 obtain ⟨⟨h1,h2⟩,h3,h4⟩:=k;have hB:Below b' W (W.setCell (Z b' o N) v):=yab (Ye _ _) zg;exact ⟨⟨(hB.cell (p:=Z w.heap.size 7 N) (by show w.heap.size<b';omega)).trans h1,(hB.cell (p:=Z b off N) (by show b<b';omega)).trans h2⟩,h3.set ac,h4⟩
abbrev OrdT (W:World) (b:Nat) (i:Int) (k:Bool) (D:Nat->Nat):Prop:=
 TenX W b (E T i) (Xb k) (E Y (D 0:Nat)) (E Y (D 1:Nat)) (E Y (D 2:Nat)) (E Y (D 3:Nat)) (E Y (D 4:Nat)) (E Y (D 5:Nat)) (E Y (D 6:Nat)) (E Y (D 7:Nat))
theorem OrdT.get (h:OrdT W b i k D) (hj:j<8):W.cell? (Z b (2+j) N)=G (E Y (D j:Nat))/\W.frozen? (Z b (2+j) N)=false:=by
 obtain ⟨⟨a0,a1,a2,a3,a4,a5,a6,a7,a8,a9⟩,f0,f1,f2,f3,f4,f5,f6,f7,f8,f9⟩:=h;rcases ykq hj with rfl | rfl | rfl | rfl | rfl | rfl | rfl | rfl
 ·exact ⟨a2,f2⟩
 ·exact ⟨a3,f3⟩
 ·exact ⟨a4,f4⟩
 ·exact ⟨a5,f5⟩
 ·exact ⟨a6,f6⟩
 ·exact ⟨a7,f7⟩
 ·exact ⟨a8,f8⟩
 ·exact ⟨a9,f9⟩
theorem ylq (h0:W.cell? (Z b 0 N)=G (E T i)) (h1:W.cell? (Z b 1 N)=G (Xb k)) (h:∀j,j<8->W.cell? (Z b (2+j) N)=G (E Y (D j:Nat))) (hf:∀j,j<10->W.frozen? (Z b j N)=false):OrdT W b i k D:=
 ⟨⟨h0,h1,h 0 zo,h 1 zo,h 2 zo,h 3 zo,h 4 zo,h 5 zo,h 6 zo,h 7 zo⟩,hf 0 zo,hf 1 zo,hf 2 zo,hf 3 zo,hf 4 zo,hf 5 zo,hf 6 zo,hf 7 zo,hf 8 zo,hf 9 zo⟩
theorem TenX.fz {v0 v1 v2 v3 v4 v5 v6 v7 v8 v9:Value} (h:TenX W b v0 v1 v2 v3 v4 v5 v6 v7 v8 v9) (hj:j<10):W.frozen? (Z b j N)=false:=by
 have:=(h.there j hj).2;rwa [zzn] at this
theorem OrdT.upd {D':Nat->Nat} (h:OrdT W b i k D) (hj:j<8) {v:Nat} (hv:D' j=v) (hD:∀n,n≠j->D' n=D n):OrdT (W.setCell (Z b (2+j) N) (E Y (v:Nat))) b i k D':=by
 have ne:∀n,n≠2+j->((Z b (2+j) N):Addr)≠(Z b n N):=λ n hn e=>by injection e with _ e _;exact hn e.symm
 refine ylq ?_ ?_ (λ n hn=>?_) (λ n hn=>?_)
 ·rw [zzL _ _ _ _ (ne 0 zo)];exact h.1.1
 ·rw [zzL _ _ _ _ (ne 1 zo)];exact h.1.2.1
 ·by_cases e:n=j
  ·subst e;rw [hv];exact zzW _ _ _ (h.get hn).1
  ·rw [zzL _ _ _ _ (ne (2+n) zo),hD n e];exact (h.get hn).1
 ·rw [ybn];exact TenX.fz h hn
theorem RgS.put (k:RgS w r b off x0 W) (ac:w.heap.size+1<b') (v0 v1 v2 v3 v4 v5 v6 v7 v8 v9:Value):RgS w r b off x0 (ymU W b' v0 v1 v2 v3 v4 v5 v6 v7 v8 v9):=
 (((((((((k.set ac 0 v0).set ac 1 v1).set ac 2 v2).set ac 3 v3).set ac 4 v4).set ac 5 v5).set ac 6 v6).set ac 7 v7).set ac 8 v8).set ac 9 v9
theorem OrdT.set0 {i':Int} (h:OrdT W b i k D):OrdT (W.setCell (Z b 0 N) (E T i')) b i' k D:=by
 have ne:∀n,n≠0->((Z b 0 N):Addr)≠(Z b n N):=λ n hn e=>by injection e with _ e _;exact hn e.symm
 refine ylq (zzW _ _ _ h.1.1) ?_ (λ n hn=>?_) (λ n hn=>?_)
 ·rw [zzL _ _ _ _ (ne 1 zo)];exact h.1.2.1
 ·rw [zzL _ _ _ _ (ne (2+n) zo)];exact (h.get hn).1
 ·rw [ybn];exact TenX.fz h hn
theorem ysN (l:List (Int × Int)) (x:Int × Int):wkM (l ++ [x])=wkM l|||ofM [x.2]:=by rw [wkM,Zp];rfl
theorem ymA (l:List (Int × Int)) (x:Int × Int) (j:Nat):wkD (l ++ [x]) j=if x.2= (j:Int) then wkD l j|||ofM [max x.1 (-x.1)] else wkD l j:=by rw [wkD,Zp];rfl
theorem yjc {α:Type} (f:Nat->α->Nat) (hf:∀m x,m<18446744073709551616->f m x<18446744073709551616):∀(l:List α) (m:Nat),m<18446744073709551616->l.foldl f m<18446744073709551616
 | [],_,h=>h
 | x::l,m,h=>yjc f hf l (f m x) (hf m x h)
theorem yvc (l:List (Int × Int)):wkM l<18446744073709551616:=yjc _ (λ m x h=>ZY (n:=64) h (yaG _)) l 0 zo
theorem ypA (l:List (Int × Int)) (j:Nat):wkD l j<18446744073709551616:=yjc _ (λ m x h=>by
 show (if x.2= (j:Int) then m|||ofM [max x.1 (-x.1)] else m)<18446744073709551616;split
 ·exact ZY (n:=64) h (yaG _)
 ·exact h) l 0 zo
abbrev RyS (w:World) (b8:Nat) (i:Int) (k:Bool) (D:Nat->Nat) (W:World):Prop:=OrdT W b8 i k D/\w.heap.size+1<b8/\Bw w W
theorem RyS.set (h:RyS w b8 i k D W) (o:Nat) (v:Value):RyS w b8 i k D (W.setCell (Z (w.heap.size+1) o N) v):=by
 obtain ⟨h1,h2,h3⟩:=h;have ne:∀n,((Z (w.heap.size+1) o N):Addr)≠(Z b8 n N):=λ n e=>by injection e with e _ _;omega
 refine ⟨ylq ?_ ?_ (λ n hn=>?_) (λ n hn=>?_),h2,yab h3 zo⟩
 ·rw [zzL _ _ _ _ (ne 0)];exact h1.1.1
 ·rw [zzL _ _ _ _ (ne 1)];exact h1.1.2.1
 ·rw [zzL _ _ _ _ (ne (2+n))];exact (h1.get hn).1
 ·rw [ybn];exact TenX.fz h1 hn
theorem RyS.dr (h:RyS w b8 i k D W):RyS w b8 i k D W.drew:=⟨h.1.below (Ye (b8+1) _).drew (Nat.lt_succ_self _),h.2.1,h.2.2.drew⟩
theorem ytf {cs:List Value} (h:W.rangeAt b o cs):W.drew.rangeAt b o cs:=λ j v hv=>((Ye (b+1) W).drew.cell (p:=Z b (o+j) N) (Nat.lt_succ_self _)).trans (h j v hv)
theorem RyS.put (h:RyS w b8 i k D W) (v0 v1 v2 v3 v4 v5 v6 v7 v8 v9:Value):RyS w b8 i k D (ymU W (w.heap.size+1) v0 v1 v2 v3 v4 v5 v6 v7 v8 v9):=
 (((((((((h.set 0 v0).set 1 v1).set 2 v2).set 3 v3).set 4 v4).set 5 v5).set 6 v6).set 7 v7).set 8 v8).set 9 v9
structure WeL (w:World) (r:Ru) (b8:Nat) (i:Int) (k:Bool) (D:Nat->Nat) (W:World):Prop where
 f:WeF w r W
 t:OrdT W b8 i k D
 l:w.heap.size+1<b8/\b8<W.heap.size
theorem WeL.keep (h:WeL w r b8 i k D W) (hb:Bw W W'):WeL w r b8 i k D W':=
 ⟨h.f.keep hb,h.t.below hb h.l.2,h.l.1,zH h.l.2 hb.size⟩
abbrev RxS (w:World) (r:Ru) (b8 ad:Nat) (y1:Int) (j:Nat) (W:World):Prop:=
 (W.cell? (Z ad 0 N)=G (E T y1)/\W.cell? (Z ad 1 N)=G (E T (j:Int)))/\WeF w r W/\w.heap.size+1<b8/\b8<ad/\ad<W.heap.size
theorem RxS.keep (k:RxS w r b8 ad y1 j W) (hb:Bw W W'):RxS w r b8 ad y1 j W':=by
 obtain ⟨⟨h1,h2⟩,h3,h4,h5,h6⟩:=k;exact ⟨⟨(hb.cell (p:=Z ad 0 N) h6).trans h1,(hb.cell (p:=Z ad 1 N) h6).trans h2⟩,h3.keep hb,h4,h5,zH h6 hb.size⟩
theorem RxS.set (k:RxS w r b8 ad y1 j W) (o:Nat) (v:Value):RxS w r b8 ad y1 j (W.setCell (Z b8 o N) v):=by
 obtain ⟨⟨h1,h2⟩,h3,h4,h5,h6⟩:=k;have ne:∀n,((Z b8 o N):Addr)≠(Z ad n N):=λ n e=>by injection e with e _ _;omega
 exact ⟨⟨(zzL _ _ _ _ (ne 0)).trans h1,(zzL _ _ _ _ (ne 1)).trans h2⟩,h3.set h4,h4,h5,by rw [Yx];exact h6⟩
theorem yr2 (r:Ru) (w:World) (hr:RuS w r) (hm:r.Sm 1000000) (hc:yah r=0) (h7:r.l7≠ []):H I 53 #[ruv r] w λ e w'=>e=Q (Xt #[E Y (ycA r:Nat),yfY r])/\Bw w w':=by
 have al:0<r.l7.length:=List.length_pos_iff.2 h7;have aQ:=(ye2 w r 25 57).be;have aW:=hid (ye2 w r 25 57);have cB:=hid (ycN r _ (hr.below aQ) hm);have cF:=hid (λ W=>ycR W);have aY:∀W,(Instr.field 59 (clv fullCl) 6).run I W= .ok (E Y (fullCl.m 6:Nat)) W:=λ W=>yfo fullCl W;obtain ⟨y,mo,d,h,m,s,aF⟩:=yb4 r.st;rw [aF] at cB;have hb:(yah r==0)=true:=by simpa using hc
 rw [hb] at cB;have hl:((r.l7.length:Int)==0)=false:=by simp;omega
 have aX:(0:Int)<r.l7.length:=zo;have bk:(r.l7.length:Int)<=64:=by have:=(ydS (yaY hc).e7).1;omega
 have HD:=hid (ydS (yaY hc).e7).2.1;have Hs:=hid hr.s7;have HR:=hid hr;have cP:=hid (λ W (h:RuS W r)=>ykM r W h hm.n7);have e1:ycA r=if ycs 0 0 (nsL r)=true then fullCl.m 6 else wkM r.l7:=by rw [ycA,Yd hc,Yb h7]
 have e2:yfY r=if ycs 0 0 (nsL r)=true then ypp (yba r) (ydA r) (wkD r.l7) else yit:=by rw [yfY];simp only [hc,true_and]
 rw [e1,e2];obtain ⟨P,hP⟩:=zx (ycs 0 0 (nsL r));rw [hP] at cP⊢;obtain ⟨F,hF⟩:=zx fullCl;rw [hF] at cF aY⊢;obtain ⟨b,off,aL,aw,aK⟩:=hr.s7.atNth al;have ao:=(aK 0 al).1;rw [ZJ,Nat.add_zero] at ao;have av:ydA r=decide (r.l7[0].1<0):=by
  rw [ydA];obtain ⟨l,aI⟩:=zx r.l7;simp only [nsL,aI];cases l with
  | nil=>exact absurd aI h7
  | cons y t=>rfl
 obtain ⟨x0,hx⟩:=zx (r.l7[0].1);rw [hx] at ao av;have aR:=hid ao;have bc:=hid aL;rw [av];clear hr hm aF aQ hb hc h7 e1 e2 hP hF aK hx ao av aL;go_enter Tryz.func53,Tryz.ntmps53
 go_wp2_with fail
 refine zm cB ?_;rintro w1 aP;have aV:=hid ((aW.keep aP).keep (yaa (o:=J #[E T y,E T mo,E T d,E T h,E T m,E T s] 184) (Ye w1.heap.size w1) zg));clear aP;go_wp2_with fail
 refine zm (cF _) ?_;rintro w2 aO;have aj:=hid (aV.keep aO);clear aO;obtain ⟨⟨k0,k1,k2,k3,k4⟩,k5,k6,k7,k8,k9,kx⟩:=aj.rb.all;obtain ⟨⟨z0,z1,z2,z3,z4,z5,z6,z7,z8,z9⟩,f0,f1,f2,f3,f4,f5,f6,f7,f8,f9⟩:=aj.z;rw [bc] at k7;have aA:Hid (RgS w r b off x0 w2):=⟨⟨k7,(aj.be.cell (p:=Z b off N) aw).trans aR⟩,aj,aw⟩;have aT:Hid (RgS w r b off x0 w2.drew):=aA.keep (Ye _ _).drew;have aB:Hid (RgS w r b off x0 (w2.alloc (J #[E T 1,Xb (decide (x0<0)),E Y 0,E Y 0,E Y 0,E Y 0,E Y 0,E Y 0,E Y 0,E Y 0] 57)).drew):=(aA.keep (yaa (Ye _ _) zg)).keep (Ye _ _).drew;have aS:Hid (OrdT (w2.alloc (J #[E T 1,Xb (decide (x0<0)),E Y 0,E Y 0,E Y 0,E Y 0,E Y 0,E Y 0,E Y 0,E Y 0] 57)).drew w2.heap.size 1 (decide (x0<0)) (wkD [])):=TenX.below (B:=w2.heap.size+1) (yiy w2 (E T 1) (Xb (decide (x0<0))) (E Y 0) (E Y 0) (E Y 0) (E Y 0) (E Y 0) (E Y 0) (E Y 0) (E Y 0) 57) (Ye _ _).drew zo;go_upto_region 9 with fail
 refine Yj (S:=λ w'=>RgS w r b off x0 w') zk aT (λ aa=>?_);refine zhB 0 ?_;refine zhB 1 ?_;refine zhB 2 ?_;refine zhB 3 ?_;refine zhB 4 ?_;refine zhB 5 ?_;refine zhB 6 ?_;have aG:=yaa (o:=J #[E T 0,Xb false,E Y 0,E Y 0,E Y 0,E Y 0,E Y 0,E Y 0,E Y 0,E Y 0] 57) (Ye w2.drew.heap.size w2.drew) zg;have az:=hid (yiy w2.drew (E T 0) (Xb false) (E Y 0) (E Y 0) (E Y 0) (E Y 0) (E Y 0) (E Y 0) (E Y 0) (E Y 0) 57);rw [YK] at az;refine zzK 7 (λ K hK=>?_);go_simp;refine hK _ _ (RgS.keep (by assumption) aG) (λ aa=>?_);clear hK K;refine zhB 8 ?_;obtain ⟨⟨a0,a1,a2,a3,a4,a5,a6,a7,a8,a9⟩,g0,g1,g2,g3,g4,g5,g6,g7,g8,g9⟩:=az.out;have aZ:w.heap.size+1<w2.heap.size:=aj.l;refine zzK 9 (λ K hK=>?_);go_simp;(try go_wp2_with fail);refine hK _ _ aB (λ aa=>?_);clear hK K;refine Yt zk ?_ _;have af:Hid (WeL w r w2.heap.size 1 (decide (x0<0)) (wkD []) (w2.alloc (J #[E T 1,Xb (decide (x0<0)),E Y 0,E Y 0,E Y 0,E Y 0,E Y 0,E Y 0,E Y 0,E Y 0] 57)).drew):=⟨aB.2.1,aS,aj.l,by show _<(World.alloc _ _).heap.size;simp⟩;obtain ⟨Yq,hY⟩:=zx ((w2.alloc (J #[E T 1,Xb (decide (x0<0)),E Y 0,E Y 0,E Y 0,E Y 0,E Y 0,E Y 0,E Y 0,E Y 0] 57)).drew);obtain ⟨b8,ai⟩:=zx w2.heap.size;obtain ⟨K0,ap⟩:=zx (decide (x0<0));rw [hY,ai,ap] at af;have HK:=hid ap;rw [hY,ai];(try rw [ap]);clear hY ai ap aS aB aT aA az aG aZ a0 a1 a2 a3 a4 a5 a6 a7 a8 a9 g0 g1 g2 g3 g4 g5 g6 g7 g8 g9 k0 k1 k2 k3 k4 k5 k6 k7 k8 k9 kx z0 z1 z2 z3 z4 z5 z6 z7 z8 z9 f0 f1 f2 f3 f4 f5 f6 f7 f8 f9 aW aV aj aR aw;have au:Hid (yba r=if r.fq=6/\r.l5.length=0 then 2 else 1):=rfl;obtain ⟨⟨k0,k1,k2,k3,k4⟩,k5,k6,k7,k8,k9,kx⟩:=af.f.rb.all;obtain ⟨⟨a0,-⟩,g0,-⟩:=af.t;by_cases h6:r.fq=6;focus
  have ba:(r.fq==6)=true:=by simpa using h6
  by_cases h5:r.l5.length=0;focus
   have bb:((r.l5.length:Int)==0)=true:=(by simpa using h5);have hw:Hid (yba r=2):=(by show _ = _;rw [au,Yd ⟨h6,h5⟩]);have aD:Hid (WeL w r b8 (yba r) K0 (wkD []) (Yq.setCell (Z b8 0 N) (E T 2))):=by
    rw [hw];exact ⟨af.f.set af.l.1,af.t.set0,af.l.1,by rw [Yx];exact af.l.2⟩
  rotate_left;focus
   have bb:((r.l5.length:Int)==0)=false:=(by simpa using h5);have hw:Hid (yba r=1):=(by show _ = _;rw [au,Yb (λ h=>h5 h.2)]);have aD:Hid (WeL w r b8 (yba r) K0 (wkD []) Yq):=by rw [hw];exact af
  rotate_left;all_goals
   clear h6 h5
 rotate_left 2;focus
  have ba:(r.fq==6)=false:=by simpa using h6
  have hw:Hid (yba r=1):=by show _ = _;rw [au,Yb (λ h=>h6 h.1)]
  have aD:Hid (WeL w r b8 (yba r) K0 (wkD []) Yq):=by rw [hw];exact af
  clear h6
 rotate_left;all_goals
  have HV:=aD;go_wp2_with fail
  go_loopw [7,66] (λ v i wr=>∃k:Nat,i=E T k/\k<=r.l7.length/\v=E Y (wkM (r.l7.take k):Nat)/\Hid (WeL w r b8 (yba r) K0 (wkD (r.l7.take k)) wr)) (λ _ i _=>r.l7.length-(intOf i).toNat)
  case atStart=>exact ⟨0,rfl,by omega,rfl,HV⟩
  case round=>
   obtain ⟨k,rfl,hk,rfl,HL⟩:=hrel;by_cases hlt:k<r.l7.length
   ·obtain ⟨d,o7,ha,hb,hc⟩:=Hs.atNth hlt;have e1:=(HL.f.be.cell (p:=⟨d,o7+k*2,N⟩) hb).trans (hc k hlt).1;have e2:=(HL.f.be.cell (p:=⟨d,o7+k*2+1,N⟩) hb).trans (hc k hlt).2;have ht:=hid (yal r.l7 k hlt);have am:=HD _ (zzr hlt);obtain ⟨⟨y1,y2⟩,hy⟩:∃q,r.l7[k]=q:=⟨_,rfl⟩;rw [hy] at e1 e2 ht am;obtain ⟨⟨d0,d1⟩,d2,d3⟩:=am;obtain ⟨j,rfl⟩:∃j:Nat,y2= (j:Int):=⟨y2.toNat,by have:1<=y2:=d2;omega⟩;have hj:j<8:=(by have:(j:Int)<=7:=d3;omega);have bl:(j:Int)<8:=zo;have hM:=ybD (yvc (r.l7.take k)) (yaG (inB [(j:Int)]));rw [show mk (inB [(j:Int)])=ofM [(j:Int)] from rfl,<- show wkM (r.l7.take (k+1))=wkM (r.l7.take k)|||ofM [(j:Int)] by rw [ht,ysN]] at hM;have ax:=ybD (ypA (r.l7.take k) j) (yaG (inB [max y1 (-y1)]));rw [show mk (inB [max y1 (-y1)])=ofM [max y1 (-y1)] from rfl,<- show wkD (r.l7.take (k+1)) j=wkD (r.l7.take k) j|||ofM [max y1 (-y1)] by rw [ht,ymA,Yd rfl]] at ax;have bi:Hid (∀n,n≠j->wkD (r.l7.take (k+1)) n=wkD (r.l7.take k) n):=λ n hn=>(by rw [ht,ymA,Yb (by intro e;have:(j:Int)= (n:Int):=e;omega)]);rw [ha];clear hc hy;have aM:=HL.keep (yaa (o:=J #[E T y1,E T (j:Int)] 102) (Ye wr.heap.size wr) zg);have cO:=hid (yeY (j:Int) (wr.alloc (J #[E T y1,E T (j:Int)] 102)) 3);(try unfold Bw at cO);rw [zzN] at cO
    have bf:=hid aM;have aE:(wr.alloc (J #[E T y1,E T (j:Int)] 102)).cell? (Z wr.heap.size 0 N)=G (E T y1)/\(wr.alloc (J #[E T y1,E T (j:Int)] 102)).cell? (Z wr.heap.size 1 N)=G (E T (j:Int)):=(by constructor <;> simp [go_sem]);have aq:=hid aE;clear aM aE;go_wp2_with fail
    refine zm cO ?_;rintro w4 ah;have ag:=hid (bf.keep (by (try unfold Bw);rw [zzN];exact ah));have bd:Hid (RxS w r b8 wr.heap.size y1 j w4.drew):=RxS.keep ⟨⟨(ah.cell (p:=Z wr.heap.size 0 N) (by show wr.heap.size<wr.heap.size+1;omega)).trans aq.1,(ah.cell (p:=Z wr.heap.size 1 N) (by show wr.heap.size<wr.heap.size+1;omega)).trans aq.2⟩,ag.f,ag.l.1,HL.l.2,by have:=ah.size;(try unfold Bw at this);rw [zzN] at this;omega⟩ (Ye _ _).drew;have ar:Hid (RxS w r b8 wr.heap.size y1 j w4):=⟨⟨(ah.cell (p:=Z wr.heap.size 0 N) (by show wr.heap.size<wr.heap.size+1;omega)).trans aq.1,(ah.cell (p:=Z wr.heap.size 1 N) (by show wr.heap.size<wr.heap.size+1;omega)).trans aq.2⟩,ag.f,ag.l.1,HL.l.2,by have:=ah.size;(try unfold Bw at this);rw [zzN] at this;omega⟩;have bh:=hid (ag.keep (Ye _ _).drew);clear ah e1 e2;go_upto_region 16 with fail
    refine Yj (S:=λ w'=>RxS w r b8 wr.heap.size y1 j w') zk bd (λ aa=>?_);have bj:IntKind.i64.wrap (-y1)= -y1:=Yn (-y1) zo;rw [show max y1 (-y1)= (if y1 < -y1 then -y1 else y1) by split <;> omega] at ax;refine zhB 0 ?_;refine zhB 1 ?_;refine zhB 2 ?_;refine zhB 3 ?_;refine zhB 5 ?_;refine zhB 6 ?_;refine zhB 7 ?_;refine zhB 8 ?_;refine zhB 9 ?_;refine zhB 10 ?_;refine zhB 14 ?_;obtain ⟨mx,aH⟩:=zx ((if y1 < -y1 then -y1 else y1));rw [aH] at ax⊢;clear aH;have ay:=hid (yhi (mx) w4 3);have aC:Hid (WeL w r b8 (yba r) K0 (wkD (r.l7.take k)) ((w4.alloc (J #[E T (mx)] 3)).drew)):=(ag.keep (yaa (Ye _ _) zg)).keep (Ye _ _).drew;have an:Hid (RxS w r b8 wr.heap.size y1 j ((w4.alloc (J #[E T (mx)] 3)).drew)):=(ar.keep (yaa (Ye _ _) zg)).keep (Ye _ _).drew;obtain ⟨gc,gf⟩:=bh.t.get hj;refine wpAnyH_ready (rs:= [4,11]) zk zs ?_;refine AllReadyH.cons rfl (λ K hK=>?_) (AllReadyH.cons rfl (λ K hK=>?_) AllReadyH.nil);focus
     go_simp;(try go_wp2_with fail);refine hK _ _ (by assumption) (λ aa=>?_);clear hK K gc gf;refine zzK 11 (λ K hK=>?_);go_simp;refine hK _ _ an (λ aa=>?_);clear hK K;refine zzK 12 (λ K hK=>?_);go_simp;refine zm ay ?_;rintro w5 ae;have ab:=hid (ag.keep ae);have ak:=hid (ar.keep ae);clear ae;(try go_wp2_with fail);refine hK _ _ ak (λ aa=>?_);clear hK K
    rotate_left;focus
     clear gc gf;go_simp;refine hK _ _ an (λ aa=>?_);clear hK K;obtain ⟨gc,gf⟩:=aC.t.get hj;refine wpAnyH_ready (rs:= [4,12]) zk zs ?_;refine AllReadyH.cons rfl (λ K hK=>?_) (AllReadyH.cons rfl (λ K hK=>?_) AllReadyH.nil);focus
      go_simp;(try go_wp2_with fail);refine hK _ _ (by assumption) (λ aa=>?_);clear hK K gc gf;refine zzK 12 (λ K hK=>?_);go_simp;refine zm ay ?_;rintro w5 ae;have ab:=hid (ag.keep ae);have ak:=hid (ar.keep ae);clear ae;(try go_wp2_with fail);refine hK _ _ ak (λ aa=>?_);clear hK K
     rotate_left;focus
      clear gc gf;go_simp;refine zm ay ?_;rintro w5 ae;have ab:=hid (ag.keep ae);have ak:=hid (ar.keep ae);clear ae;(try go_wp2_with fail);refine hK _ _ ak (λ aa=>?_);clear hK K;obtain ⟨gc,gf⟩:=ab.t.get hj;refine zzK 4 (λ K hK=>?_);go_simp;(try go_wp2_with fail);refine hK _ _ (by assumption) (λ aa=>?_);clear hK K gc gf
     rotate_left
    rotate_left 2;all_goals
     refine zhB 13 ?_;refine zhB 15 ?_;obtain ⟨gc,gf⟩:=ab.t.get hj;refine zzK 16 (λ K hK=>?_);go_simp;(try go_wp2_with fail);refine hK _ _ (RxS.set ak _ _) (λ aa=>?_);clear hK K;refine Yt zk ?_ _;have bg:Hid (WeL w r b8 (yba r) K0 (wkD (r.l7.take (k+1))) (w5.setCell (Z b8 (2+j) N) (E Y (wkD (r.l7.take (k+1)) j:Nat)))):=⟨ab.f.set ab.l.1,ab.t.upd hj rfl bi,ab.l.1,by rw [Yx];exact ab.l.2⟩;clear gc gf;go_wp2;exact ⟨⟨k+1,by go_num,by omega,rfl,bg⟩,by simp [intOf];omega⟩
   ·have aJ:r.l7.take k=r.l7:=YU zo;rw [aJ] at HL⊢;clear aJ;obtain ⟨⟨k0,k1,k2,k3,k4⟩,k5,k6,k7,k8,k9,kx⟩:=HL.f.rb.all;go_wp2_with fail
    refine zm (cP _ (HR.below HL.f.be)) ?_;rintro w6 aN;have ab:=hid (HL.keep aN);clear aN k0 k1 k2 k3 k4 k5 k6 k7 k8 k9 kx;obtain ⟨⟨z0,z1,z2,z3,z4,z5,z6,z7,z8,z9⟩,f0,f1,f2,f3,f4,f5,f6,f7,f8,f9⟩:=ab.f.z;cases P
    ·go_wp2;exact Yh (ybc rfl _ _ (w.heap.size+1) 0 _ _ rfl (yey ab.f.z.there _ _ _ _ _ _ _ _ _ _) Tryz.underlying57 rfl yfm) rfl ⟨rfl,ycZ ab.f.be zo _ _ _ _ _ _ _ _ _ _⟩
    ·obtain ⟨⟨t0,t1,t2,t3,t4,t5,t6,t7,t8,t9⟩,-⟩:=ab.t;have HO:Hid (RyS w b8 (yba r) K0 (wkD r.l7) w6.drew):=⟨(ab.keep (Ye _ _).drew).t,ab.l.1,(ab.keep (Ye _ _).drew).f.be⟩;have aU:Hid (RyS w b8 (yba r) K0 (wkD r.l7) w6):=⟨ab.t,ab.l.1,ab.f.be⟩;clear t0 t1 t2 t3 t4 t5 t6 t7 t8 t9;go_upto_region 20 with fail
     refine Yj (S:=λ w'=>RyS w b8 (yba r) K0 (wkD r.l7) w') zk HO (λ aa=>?_);refine zhB 0 ?_;refine zhB 1 ?_;refine zhB 2 ?_;refine zzK 3 (λ K hK=>?_);go_simp;(try go_wp2_with fail);refine hK _ _ (RyS.dr (RyS.put aU (E T (yba r)) (Xb K0) (E Y (wkD r.l7 0:Nat)) (E Y (wkD r.l7 1:Nat)) (E Y (wkD r.l7 2:Nat)) (E Y (wkD r.l7 3:Nat)) (E Y (wkD r.l7 4:Nat)) (E Y (wkD r.l7 5:Nat)) (E Y (wkD r.l7 6:Nat)) (E Y (wkD r.l7 7:Nat)))) (λ aa=>?_);clear hK K;refine Yt zk ?_ _;go_wp2;exact Yh (ybc rfl _ _ (w.heap.size+1) 0 _ _ rfl (ytf (yey ab.f.z.there (E T (yba r)) (Xb K0) (E Y (wkD r.l7 0:Nat)) (E Y (wkD r.l7 1:Nat)) (E Y (wkD r.l7 2:Nat)) (E Y (wkD r.l7 3:Nat)) (E Y (wkD r.l7 4:Nat)) (E Y (wkD r.l7 5:Nat)) (E Y (wkD r.l7 6:Nat)) (E Y (wkD r.l7 7:Nat)))) Tryz.underlying57 rfl yfm) rfl ⟨by rw [HK];rfl,(ycZ aU.2.2 zo (E T (yba r)) (Xb K0) (E Y (wkD r.l7 0:Nat)) (E Y (wkD r.l7 1:Nat)) (E Y (wkD r.l7 2:Nat)) (E Y (wkD r.l7 3:Nat)) (E Y (wkD r.l7 4:Nat)) (E Y (wkD r.l7 5:Nat)) (E Y (wkD r.l7 6:Nat)) (E Y (wkD r.l7 7:Nat))).drew⟩
theorem yuJ (r:Ru) (w:World) (hr:RuS w r) (hm:r.Sm 1000000):H I 53 #[ruv r] w λ e w'=>e=Q (Xt #[E Y (ycA r:Nat),yfY r])/\Bw w w':=by
 by_cases hc:yah r=0
 ·by_cases h7:r.l7= []
  ·exact yuI r w hr hm hc h7
  ·exact yr2 r w hr hm hc h7
 ·exact yxn r w hr hm hc
end
section
attribute [local go_sem ↓] ya3
attribute [local go_sem] yaE
variable {F:Cl} {d h m mo s y:Int} {b5 b8:Nat} {r:Ru} {W W' w:World}
theorem ymW (W:World) (b:Nat) (cs:List Value):(yaV W b cs).heap.size=W.heap.size:=by
 have h:∀(vs:List Value) (o:Nat) (W:World),(W.setCells b o vs).heap.size=W.heap.size:=by
  intro vs;induction vs with
  | nil=>intro o W;rfl
  | cons v vs ih=>intro o W;rw [World.setCells,ih,Yx]
 exact h cs 0 W
theorem ye5 {t:Int} (h:ycb t=true):yfG t=yxx (fY (t/86400)) (fMo (t/86400)) (fD (t/86400)) (t%86400/3600) (t%86400/60%60) (t%86400%60):=by rw [yfG,Yd h]
def ym0 (l:List Int) (at' ab:Int) (ac:Nat) (fq:Int):Nat:=if 0<l.length then ofM l else if ab<=fq then ofM [at'] else ac
theorem yfw (a:Option Addr) (cap:Nat) (l:List Int) (at' ab:Int) (ac:Nat) (fq:Int) (b1:Nat) (w:World) (hl:l.length<=9223372036854775807) (hs:Sl w a (yaR l)) (h1:w.cell? (Z b1 1 N)=G (E T fq)) :
  H I 112 #[Xs a l.length cap,E T at',E T ab,E Y (ac:Nat),R (G (Z b1 0 N))] w λ e w'=>e=Q (E Y (ym0 l at' ab ac fq:Nat))/\Bw w w':=by
 have c1:=hid (yev a cap l w hl hs);have c2:=hid (yeY at' w 3);rw [ym0];obtain ⟨M,hM⟩:=zx (ofM l);obtain ⟨Nq,hN⟩:=zx (ofM [at']);rw [hM] at c1⊢;rw [hN] at c2⊢;clear hM hN hs hl;by_cases h:0<l.length
 ·rw [Yd h];have hI:(0:Int)<l.length:=zo;go_enter Tryz.func112,Tryz.ntmps112
  go_wp2_with fail
  refine zm c1 ?_;rintro w1 hB;have HB:=hid hB;clear hB;go_wp2;go_ret;exact ⟨rfl,HB⟩
 ·rw [Yb h];have hI:¬(0:Int)<l.length:=zo;clear h;by_cases h2:ab<=fq
  ·rw [Yd h2];go_enter Tryz.func112,Tryz.ntmps112
   go_wp2_with fail
   refine zm c2 ?_;rintro w1 hB;have HB:=hid hB;clear hB;go_wp2;go_ret;exact ⟨rfl,HB⟩
  ·rw [Yb h2];go_enter Tryz.func112,Tryz.ntmps112
   go_wp2;go_ret;exact ⟨rfl,Ye _ _⟩
structure TmF (w:World) (r:Ru) (b5 b8:Nat) (y mo d h m s:Int) (F:Cl) (W:World):Prop where
 rb:RuB W w.heap.size r
 six:Six W b5 (E T y) (E T mo) (E T d) (E T h) (E T m) (E T s)
 cl:ClB W b8 F
 be:Bw w W
 l:w.heap.size<W.heap.size/\b5<W.heap.size/\b8<W.heap.size
abbrev TmS (w:World) (r:Ru) (b5 b8:Nat) (y mo d h m s:Int) (F:Cl) (W:World):Prop:=
 RuC W w.heap.size r/\Six W b5 (E T y) (E T mo) (E T d) (E T h) (E T m) (E T s)/\(W.cell? (Z b8 0 N)=G (E Y (F.m 0:Nat))/\W.cell? (Z b8 1 N)=G (E Y (F.m 1:Nat))/\W.cell? (Z b8 2 N)=G (E Y (F.m 2:Nat)))/\TmF w r b5 b8 y mo d h m s F W
theorem TmF.sas (k:TmF w r b5 b8 y mo d h m s F W):TmS w r b5 b8 y mo d h m s F W:=⟨k.rb.all,k.six,⟨k.cl.at 0 rfl,k.cl.at 1 rfl,k.cl.at 2 rfl⟩,k⟩
theorem TmF.keep (k:TmF w r b5 b8 y mo d h m s F W) (hb:Bw W W'):TmF w r b5 b8 y mo d h m s F W':=by
 have hs:=hb.size;obtain ⟨l1,l2,l3⟩:=k.l;exact ⟨k.rb.below hb l1,k.six.below hb l2,k.cl.below hb l3,k.be.trans (hb.mono zo),by omega,by omega,by omega⟩
theorem TmS.keep (k:TmS w r b5 b8 y mo d h m s F W) (hb:Bw W W'):TmS w r b5 b8 y mo d h m s F W':=(k.2.2.2.keep hb).sas
def tmH (r:Ru):Nat:=if yah r=0 then ym0 r.l8 (r.st%86400/3600) 3 (fullCl.m 2) r.fq else 0
def tmM (r:Ru):Nat:=if yah r=0 then ym0 r.l9 (r.st%86400/60%60) 2 (fullCl.m 1) r.fq else 0
def tmS (r:Ru):Nat:=if yah r=0 then ym0 r.lx (r.st%86400%60) 1 (fullCl.m 0) r.fq else 0
theorem ymc (r:Ru) (w:World) (hr:RuS w r) (hm:r.Sm 1000000):H I 54 #[ruv r] w λ e w'=>e=Q (Xt #[E Y (tmH r:Nat),E Y (tmM r:Nat),E Y (tmS r:Nat)])/\Bw w w':=by
 have ag:Bw w (w.alloc (J (yad r).toArray 25)):=yaa (Ye _ _) zg;have cB:=hid (ycN r _ (hr.below ag) hm);have am:=hid ag;have ap:=hid (ybk w r 25);rw [tmH,tmM,tmS];by_cases hc:yah r=0;rotate_left
 ·rw [Yb hc,Yb hc,Yb hc];have hb:(yah r==0)=false:=by simpa using hc
  rw [hb] at cB;obtain ⟨y,mo,d,h,m,s,an⟩:=yb4 r.st;rw [an] at cB;clear hc hb an hr hm ag;go_enter Tryz.func54,Tryz.ntmps54
  go_wp2_with fail
  refine zm cB ?_;rintro w1 ad;have al:=hid ((am.trans (ad.mono (by simp only [zzN];omega))).trans ((yaa (o:=J #[E T y,E T mo,E T d,E T h,E T m,E T s] 184) (Ye w1.heap.size w1) zg).mono (by have:=ad.size;simp only [zzN] at this;omega)));clear ad;go_wp2;exact Yh (v:=Xt #[E Y 0,E Y 0,E Y 0]) (by simp [results,Tryz.results54,go_sem]) rfl ⟨rfl,al⟩
 rw [Yd hc,Yd hc,Yd hc];have hb:(yah r==0)=true:=by simpa using hc
 rw [hb,ye5 (ycW (yaY hc).h).1] at cB;obtain ⟨y,hy⟩:=zx (fY (r.st/86400));obtain ⟨mo,ao⟩:=zx (fMo (r.st/86400));obtain ⟨d,hd⟩:=zx (fD (r.st/86400));obtain ⟨h,hh⟩:=zx (r.st%86400/3600);obtain ⟨m,ak⟩:=zx (r.st%86400/60%60);obtain ⟨s,aj⟩:=zx (r.st%86400%60);rw [hy,ao,hd,hh,ak,aj] at cB;rw [hh,ak,aj];have cF:=hid (λ W=>ycR W);generalize hF:fullCl=F at cF⊢
 have k8:=hid (λ b5 b8 W (k:TmS w r b5 b8 y mo d h m s F W)=>yas (yfw r.a8 r.c8 r.l8 h 3 (F.m 2) r.fq w.heap.size W (zp hm.n8) (hr.below k.2.2.2.be).s8 k.1.1.2.1) (λ _=>k.keep));have k9:=hid (λ b5 b8 W (k:TmS w r b5 b8 y mo d h m s F W)=>yas (yfw r.a9 r.c9 r.l9 m 2 (F.m 1) r.fq w.heap.size W (zp hm.n9) (hr.below k.2.2.2.be).s9 k.1.1.2.1) (λ _=>k.keep));have kx:=hid (λ b5 b8 W (k:TmS w r b5 b8 y mo d h m s F W)=>yas (yfw r.ax r.cx r.lx s 1 (F.m 0) r.fq w.heap.size W (zp hm.nx) (hr.below k.2.2.2.be).sx k.1.1.2.1) (λ _=>k.keep));obtain ⟨p8,e8⟩:=zx (ym0 r.l8 h 3 (F.m 2) r.fq);obtain ⟨p9,e9⟩:=zx (ym0 r.l9 m 2 (F.m 1) r.fq);obtain ⟨px,ex⟩:=zx (ym0 r.lx s 1 (F.m 0) r.fq);rw [e8] at k8⊢;rw [e9] at k9⊢;rw [ex] at kx⊢;clear hc hb hr hm ag hy ao hd hh ak aj hF e8 e9 ex;go_enter Tryz.func54,Tryz.ntmps54
 go_wp2_with fail
 refine zm cB ?_;rintro w1 ad;have ai:=ad.size;(try unfold Bw at ai);rw [zzN] at ai
 have hn:=yaa (o:=J #[E T y,E T mo,E T d,E T h,E T m,E T s] 184) (Ye w1.heap.size w1) zg;have al:=hid ((am.trans (ad.mono (by rw [zzN];omega))).trans (hn.mono zo));have aw:=hid ((ap.below ad (by rw [zzN];omega)).below hn zo);have au:=hid (ye7 w1 (E T y) (E T mo) (E T d) (E T h) (E T m) (E T s) 184);have ar:Hid (w.heap.size<w1.heap.size):=by show _<_;omega
 clear ad hn ai ap am;go_wp2_with fail
 refine zm (cF _) ?_;rintro w2 ae;have ah:=ae.size;(try unfold Bw at ah);rw [zzN] at ah
 have aq:(w2.alloc (J zL.toArray 59)).there w2.heap.size 0 30:=yaL w2 zL.toArray 59;have af:Bw w2 (yaV (w2.alloc (J zL.toArray 59)) w2.heap.size (yae F)):=yaD (yaa (Ye _ _) zg) zg _;have hsz:(yaV (w2.alloc (J zL.toArray 59)) w2.heap.size (yae F)).heap.size=w2.heap.size+1:=by rw [ymW,zzN]
 have av:Hid (TmS w r w1.heap.size w2.heap.size y mo d h m s F (yaV (w2.alloc (J zL.toArray 59)) w2.heap.size (yae F)).drew):=by
  have h1:=ar.out;refine TmS.keep (TmF.sas ⟨(aw.below ae (by rw [zzN];omega)).below af zo,(au.below ae (by rw [zzN];omega)).below af zo,yaI _ rfl aq,(al.trans (ae.mono (by rw [zzN];omega))).trans (af.mono zo),by rw [hsz];omega,by rw [hsz];omega,by rw [hsz];omega⟩) (Ye _ _).drew
 clear ae af hsz ah;go_upto_region 6 with fail
 refine Yj (S:=λ w'=>TmS w r w1.heap.size w2.heap.size y mo d h m s F w') zk av (λ aa=>?_);refine zhB 0 ?_;refine zhB 1 ?_;refine zhB 2 ?_;refine zhB 3 ?_;refine zhB 4 ?_;refine zhB 5 ?_;refine zhB 6 ?_;refine zhB 8 ?_;refine zhB 9 ?_;refine zhB 10 ?_;refine zhB 11 ?_;refine zhB 12 ?_;refine zhB 13 ?_;refine zhB 14 ?_;refine zhB 16 ?_;refine zhB 17 ?_;refine zhB 18 ?_;refine zhB 19 ?_;refine zhB 20 ?_;refine zhB 21 ?_;refine zhB 22 ?_;refine zzK 7 (λ K hK=>?_);go_simp;refine zm (k8 _ _ _ (by assumption)) ?_;rintro wr hS;(try go_wp2_with fail);refine hK _ _ (by assumption) (λ aa=>?_);clear hK K;refine zzK 15 (λ K hK=>?_);go_simp;refine zm (k9 _ _ _ (by assumption)) ?_;rintro wr hS;(try go_wp2_with fail);refine hK _ _ (by assumption) (λ aa=>?_);clear hK K;refine zzK 23 (λ K hK=>?_);go_simp;refine zm (kx _ _ _ (by assumption)) ?_;rintro wr hS;(try go_wp2_with fail);refine hK _ _ (by assumption) (λ aa=>?_);clear hK K;refine zhB 24 ?_;refine zhB 25 ?_;refine zhB 26 ?_;refine Yt zk ?_ _;have HV:=hid ‹TmS w r w1.heap.size w2.heap.size y mo d h m s F _›;go_wp2;exact Yh (v:=Xt #[E Y (p8:Nat),E Y (p9:Nat),E Y (px:Nat)]) (by simp [results,Tryz.results54,go_sem]) rfl ⟨rfl,HV.2.2.2.be⟩
end
structure MoF (w:World) (r:Ru) (b3:Nat) (y mo d h m s:Int) (W:World):Prop where
 rb:RuB W w.heap.size r
 six:Six W b3 (E T y) (E T mo) (E T d) (E T h) (E T m) (E T s)
 be:Bw w W
 l:w.heap.size<W.heap.size/\b3<W.heap.size
theorem MoF.keep {w W W':World} {r:Ru} {b3:Nat} {y mo d h m s:Int} (k:MoF w r b3 y mo d h m s W) (hb:Bw W W'):MoF w r b3 y mo d h m s W':=by
 have hs:=hb.size;obtain ⟨l1,l2⟩:=k.l;exact ⟨k.rb.below hb l1,k.six.below hb l2,k.be.trans (hb.mono zo),by omega,by omega⟩
def ybL (r:Ru):Nat:=if yah r=0 then (if 0<r.l5.length then ofM r.l5 else if r.fq=6/\r.l6.length=0/\r.l7.length=0 then ofM [fMo (r.st/86400)] else fullCl.m 3) else 0
theorem yoL (F:Cl) (W:World):(Instr.field 59 (clv F) 3).run I W= .ok (E Y (F.m 3:Nat)) W:=by kernel_rfl
theorem yo8 (r:Ru) (w:World) (hr:RuS w r) (hm:r.Sm 1000000):H I 51 #[ruv r] w λ e w'=>e=Q (E Y (ybL r:Nat))/\Bw w w':=by
 have ag:Bw w (w.alloc (J (yad r).toArray 25)):=yaa (Ye _ _) zg;have cB:=hid (ycN r _ (hr.below ag) hm);have ap:=hid ag;have ao:=hid (ybk w r 25);have HR:=hid hr;have cF:=hid (λ W=>ycR W);have cM:=hid (λ W (h:RuS W r)=>yev r.a5 r.c5 r.l5 W (zp hm.n5) h.s5);have ak:∀W,(Instr.field 59 (clv fullCl) 3).run I W= .ok (E Y (fullCl.m 3:Nat)) W:=λ W=>yoL fullCl W;have cO:=hid (λ x W=>yeY x W 3);rw [ybL];have ai:yah r=0->yfG r.st=yxx (fY (r.st/86400)) (fMo (r.st/86400)) (fD (r.st/86400)) (r.st%86400/3600) (r.st%86400/60%60) (r.st%86400%60):=λ hc=>ye5 (ycW (yaY hc).h).1;obtain ⟨y,mo,d,h,m,s,af⟩:=yb4 r.st;have aj:yah r=0->fMo (r.st/86400)=mo:=λ hc=>by
  have e:=ai hc;rw [af] at e;simp only [yxx,yz9,Value.agg.injEq,Array.mk.injEq,List.cons.injEq,Value.int.injEq,true_and,and_true] at e;exact e.2.1.symm
 rw [af] at cB;generalize hF:fullCl=F at cF ak⊢
 generalize hM:ofM r.l5=M at cM⊢
 rcases (Decidable.em (yah r=0)).symm with hc | hc;rw [Yb hc];have hb:(yah r==0)=false:=by simpa using hc
 rw [hb] at cB;clear hc hb;rotate_left;rw [Yd hc,aj hc];have hb:(yah r==0)=true:=by simpa using hc
 rw [hb] at cB;clear hc hb;by_cases h5:0<r.l5.length;rw [Yd h5];have hI:(0:Int)<r.l5.length:=zo;clear h5;rotate_left;rw [Yb h5];have hI:¬(0:Int)<r.l5.length:=zo;clear h5;rcases (Decidable.em (r.fq=6)).symm with h6 | h6;rw [Yb (λ h=>h6 h.1)];have an:(r.fq==6)=false:=by simpa using h6
 clear h6;rotate_left;have an:(r.fq==6)=true:=by simpa using h6
 rcases (Decidable.em (r.l6.length=0)).symm with h7 | h7;rw [Yb (λ h=>h7 h.2.1)];have am:((r.l6.length:Int)==0)=false:=by simpa using h7
 clear h6 h7;rotate_left;have am:((r.l6.length:Int)==0)=true:=by simpa using h7
 rcases (Decidable.em (r.l7.length=0)).symm with h8 | h8;rw [Yb (λ h=>h8 h.2.2)];have al:((r.l7.length:Int)==0)=false:=by simpa using h8
 clear h6 h7 h8;rotate_left;rw [Yd ⟨h6,h7,h8⟩];have al:((r.l7.length:Int)==0)=true:=by simpa using h8
 clear h6 h7 h8;rotate_left;all_goals
  clear ai af aj hF hM hr hm ag;go_enter Tryz.func51,Tryz.ntmps51
  go_wp2_with fail
  refine zm cB ?_;rintro w1 ad;have ae:=ad.size;(try unfold Bw at ae);rw [zzN] at ae
  have hn:=yaa (o:=J #[E T y,E T mo,E T d,E T h,E T m,E T s] 184) (Ye w1.heap.size w1) zg;have ab:Hid (MoF w r w1.heap.size y mo d h m s (w1.alloc (J #[E T y,E T mo,E T d,E T h,E T m,E T s] 184))):=⟨(ao.below ad (by rw [zzN];omega)).below hn zo,ye7 w1 (E T y) (E T mo) (E T d) (E T h) (E T m) (E T s) 184,(ap.trans (ad.mono (by rw [zzN];omega))).trans (hn.mono zo),by rw [zzN];omega,by rw [zzN];omega⟩;obtain ⟨⟨k0,k1,k2,k3,k4⟩,k5,k6,k7,k8,k9,kx⟩:=ab.rb.all;clear ad hn ae
 ·go_wp2;go_ret;exact ⟨rfl,ab.be⟩
 ·go_wp2_with fail
  refine zm (cM _ (HR.below ab.be)) ?_;rintro w2 aa;have ac:=hid (ab.keep aa);clear aa;go_wp2;go_ret;exact ⟨rfl,ac.be⟩
 iterate 3
  ·go_wp2_with fail
   refine zm (cF _) ?_;rintro w2 aa;have ac:=hid (ab.keep aa);clear aa;go_wp2;go_ret;exact ⟨rfl,ac.be⟩
 obtain ⟨⟨s0,s1,s2,s3,s4,s5⟩,-⟩:=ab.six;have ah:=hid (cO mo (w1.alloc (J #[E T y,E T mo,E T d,E T h,E T m,E T s] 184)));(try unfold Bw at ah);rw [zzN] at ah
 go_wp2_with fail
 refine zm ah ?_;rintro w2 aa;have ac:=hid (ab.keep (by (try unfold Bw);rw [zzN];exact aa));clear aa;go_wp2;go_ret;exact ⟨rfl,ac.be⟩
def ycE (l:List Int) (at' aa fq x:Int):Bool:=(decide (l.length=0)&&(decide (fq<aa)||decide (x=at')))||decide (x∈l)
theorem ycU {l:List Int} {x:Int} (h0:0<=x) (h1:x<64):ya8 (ofM l) x=decide (x∈l):=by
 rw [ya8,zzZ h0,zzo,ofM,yaW,zzZ (by omega:x.toNat<64),zzo,inB,Zu];rw [Ze h0]
theorem yiN {l:List Int} {at' aa fq x:Int} {ab:Nat} (h0:0<=x) (h1:x<64) (hf:ya8 ab x=true):ya8 (ym0 l at' aa ab fq) x=ycE l at' aa fq x:=by
 rw [ym0,ycE];by_cases h:0<l.length
 ·rw [Yd h,ycU h0 h1,zzd (by omega:¬l.length=0),Yv,YR]
 ·have hl:l= []:=YB zo;subst hl;rw [Yb h];by_cases h2:aa<=fq
  ·rw [Yd h2,ycU h0 h1,zzd (by omega:¬fq<aa)];simp
  ·rw [Yb h2,hf,zzZ (by omega:fq<aa)];simp
theorem yi9:(∀n:Nat,n<24->(fullCl.m 2).testBit n=true)/\(∀n:Nat,n<60->(fullCl.m 1).testBit n=true)/\(∀n:Nat,n<60->(fullCl.m 0).testBit n=true):=by
 refine ⟨?_,?_,?_⟩ <;> decide +kernel
theorem yg0 {m:Nat} {x:Int} {k:Nat} (h:∀n:Nat,n<k->m.testBit n=true) (h0:0<=x) (h1:x<k):ya8 m x=true:=by
 rw [ya8,zzZ h0,zzo];exact h _ zo
def yjK (r:Ru) (n:Int):Bool:=ycE r.l8 (r.st%86400/3600) 3 r.fq (n/3600)&&(ycE r.l9 (r.st%86400/60%60) 2 r.fq (n%3600/60)&&ycE r.lx (r.st%86400%60) 1 r.fq (n%60))
theorem ysZ {r:Ru} {n:Int} (hc:yah r=0) (h0:0<=n) (h1:n<86400):(ya8 (tmH r) (n/3600)&&(ya8 (tmM r) (n%3600/60)&&ya8 (tmS r) (n%60)))=yjK r n:=by
 rw [tmH,tmM,tmS,Yd hc,Yd hc,Yd hc,yjK,
  yiN zo zo (yg0 yi9.1 zo zo),
  yiN zo zo (yg0 yi9.2.1 zo zo),
  yiN zo zo (yg0 yi9.2.2 zo zo)]
section
variable {x:Int} {l:List Int} {r:Ru}
def yhz (r:Ru):Bool:=decide (r.l6.length=0)&&decide (r.l7.length=0)
def yeG (r:Ru) (x:Int):Bool:=(decide (r.l5.length=0)&&(decide (r.fq≠6)||(!yhz r||decide (x=fMo (r.st/86400)))))||decide (x∈r.l5)
theorem yeN:(∀n:Nat,n<13->1<=n->(fullCl.m 3).testBit n=true)/\(∀n:Nat,n<32->1<=n->(fullCl.m 4).testBit n=true)/\(∀n:Nat,n<32->1<=n->(fullCl.m 5).testBit n=true):=by
 refine ⟨?_,?_,?_⟩ <;> decide +kernel
theorem ycy {m:Nat} {k:Nat} (h:∀n:Nat,n<k->1<=n->m.testBit n=true) (h0:1<=x) (h1:x<k):ya8 m x=true:=by
 rw [ya8,zzZ (by omega:0<=x),zzo];exact h _ zo zo
theorem yqF (hc:yah r=0) (h0:1<=x) (h1:x<=12):ya8 (ybL r) x=yeG r x:=by
 rw [ybL,Yd hc,yeG];by_cases h:0<r.l5.length
 ·rw [Yd h,ycU zo zo,zzd (by omega:¬r.l5.length=0),Yv,YR]
 ·have hl:r.l5= []:=YB zo;rw [Yb h,hl];by_cases h2:r.fq=6/\r.l6.length=0/\r.l7.length=0
  ·rw [Yd h2,ycU zo zo,yhz,zzZ h2.2.1,zzZ h2.2.2,show decide (r.fq≠6)=false from zzd (λ c=>c h2.1)];simp
  ·rw [Yb h2,ycy yeN.1 h0 zo];have e:(decide (r.fq≠6)||(!yhz r||decide (x=fMo (r.st/86400))))=true:=by
    by_cases a:r.fq=6
    ·have:yhz r=false:=by
      rw [yhz];by_cases b:r.l6.length=0
      ·rw [zzd (λ c=>h2 ⟨a,b,c⟩),Y3]
      ·rw [zzd b,Yv]
     rw [this];simp
    ·rw [zzZ a];rfl
   rw [e];simp
def yps (l:List Int):Nat:=l.foldl (λ m n=>m|||ofM [-n]) 0
def yfS (r:Ru):Nat:=if yah r=0 then (if r.l6.headD 0<0 then fullCl.m 4 else if 0<r.l6.length then ofM r.l6 else if r.l7.length=0/\(r.fq=5\/ r.fq=6) then ofM [fD (r.st/86400)] else fullCl.m 4) else 0
def yfQ (r:Ru):Nat:=if yah r=0 then (if r.l6.headD 0<0 then yps r.l6 else fullCl.m 5) else 0
theorem yne (x:Int) (h0:0<=x) (h1:x<64):∀(l:List Int) (m:Nat),(l.foldl (λ m n=>m|||ofM [-n]) m).testBit x.toNat= (m.testBit x.toNat||decide (-x∈l))
 | [],m=>by simp
 | n::l,m=>by
   rw [List.foldl_cons,yne x h0 h1 l];have e:(ofM [-n]).testBit x.toNat=decide (x= -n):=by
    have:=ycU (l:= [-n]) h0 h1;rw [ya8,zzZ h0,zzo] at this;rw [this];simp
   rw [Y2,e,Bool.or_assoc];congr 1
   rw [zze];simp only [Ys,zzY,YF];constructor
   ·rintro (h | h)
    ·exact .inl zo
    ·exact .inr h
   ·rintro (h | h)
    ·exact .inl zo
    ·exact .inr h
theorem yqC (h0:0<=x) (h1:x<64):ya8 (yps l) x=decide (-x∈l):=by
 rw [ya8,zzZ h0,zzo,yps,yne x h0 h1,YV,YR]
theorem yfq (h:yhy r=0):(r.l6.length<=64/\∀x∈r.l6,(-31<=x/\x<=31)/\x≠0)/\yhq r.l6=false/\(0<r.l6.length->r.fq≠4):=by
 unfold yhy at h;split at h
 ·rename_i hl;obtain ⟨n,hx⟩:=ygT hl;split at h
  ·cases h
  ·rename_i hz;split at h
   ·cases h
   ·rename_i h4;split at h
    ·cases h
    ·rename_i hm;refine ⟨⟨n,λ x aa=>⟨hx x aa,λ e=>hz (Yk.2 ⟨x,aa,by simp [e]⟩)⟩⟩,by simpa using hm,λ a b=>h4 ⟨a,b⟩⟩
 ·rename_i hl;exact absurd h hl
theorem yiP (hz:∀x∈l,x≠0) (hm:yhq l=false):(l.headD 0<0->∀x∈l,x<0)/\(¬l.headD 0<0->∀x∈l,0<x):=by
 rw [<- yp6] at hm;have key:∀x∈l,sgP (l.headD 0) x=false:=λ x hx=>by
  rw [<- ZG];intro e;have:l.any (sgP (l.headD 0))=true:=Yk.2 ⟨x,hx,e⟩
  rw [hm] at this;cases this
 have two:∀x∈l,(x<0↔l.headD 0<0):=λ x hx=>by
  have:=key x hx;rw [sgP,Bool.or_eq_false_iff,bne_eq_false_iff_eq] at this;exact Zu.1 this.1
 exact ⟨λ h x hx=>(two x hx).2 h,λ h x hx=>by
  have h1:=hz x hx;have h2:¬x<0:=λ e=>h ((two x hx).1 e);omega⟩
def yeT (r:Ru) (x b:Int):Bool:=(decide (r.l6.length=0)&&(decide (r.fq<5)||(!yhz r||decide (x=fD (r.st/86400)))))||(decide (x∈r.l6)||decide (-b∈r.l6))
theorem yw1 {b:Int} (hc:yah r=0) (h0:1<=x) (h1:x<=31) (h2:1<=b) (h3:b<=31):(ya8 (yfS r) x&&ya8 (yfQ r) b)=yeT r x b:=by
 obtain ⟨⟨-,hx⟩,hm,-⟩:=yfq (yaY hc).e6;obtain ⟨sn,sp⟩:=yiP (λ y hy=>(hx y hy).2) hm;have hu:0<=r.fq/\r.fq<=6:=by simpa only [unB,zzY] using (ycW (yaY hc).h).2
 rw [yfS,yfQ,Yd hc,Yd hc,yeT];by_cases hn:r.l6.headD 0<0
 ·have ac:r.l6.length≠0:=λ e=>by rw [YB e] at hn;exact absurd hn zs
  rw [Yd hn,Yd hn,ycy yeN.2.1 h0 zo,zzo,yqC zo zo,zzd ac,Yv,YR,
   zzd (λ e=>by have:=sn hn x e;omega:¬x∈r.l6),YR]
 ·rw [Yb hn,Yb hn,ycy yeN.2.2 h2 zo,Y7];have hb:decide (-b∈r.l6)=false:=zzd (λ e=>by have:=sp hn (-b) e;omega);rw [hb,Bool.or_false];by_cases h:0<r.l6.length
  ·rw [Yd h,ycU zo zo,zzd (by omega:¬r.l6.length=0),Yv,YR]
  ·have hl:r.l6= []:=YB zo;have ab:r.l6.length=0:=zo;rw [Yb h,zzZ ab,zzo,zzd (by rw [hl];simp:¬x∈r.l6),Bool.or_false,yhz,zzZ ab,zzo];by_cases h7:r.l7.length=0/\(r.fq=5\/ r.fq=6)
   ·rw [Yd h7,ycU zo zo,zzZ h7.1,zzd (by omega:¬r.fq<5)];simp
   ·rw [Yb h7,ycy yeN.2.1 h0 zo];by_cases a:r.l7.length=0
    ·rw [zzZ (by omega:r.fq<5)];rfl
    ·rw [zzd a];simp
end
theorem ymz (x:Int) (h0:0<=x) (h1:x<64):∀(l:List (Int × Int)) (m:Nat),(l.foldl (λ m n=>m|||ofM [n.2]) m).testBit x.toNat= (m.testBit x.toNat||l.any λ n=>decide (n.2=x))
 | [],m=>by simp
 | n::l,m=>by
   rw [List.foldl_cons,ymz x h0 h1 l];have e:(ofM [n.2]).testBit x.toNat=decide (n.2=x):=by
    have:=ycU (l:= [n.2]) h0 h1;rw [ya8,zzZ h0,zzo] at this;rw [this];simp [eq_comm]
   rw [Y2,e,List.any_cons,Bool.or_assoc]
theorem ypz {l:List (Int × Int)} {x:Int} (h0:0<=x) (h1:x<64):ya8 (wkM l) x=l.any λ n=>decide (n.2=x):=by
 rw [ya8,zzZ h0,zzo,wkM,ymz x h0 h1,YV,YR]
theorem ymB (j:Nat) (x:Int) (h0:0<=x) (h1:x<64):∀(l:List (Int × Int)) (m:Nat),(l.foldl (λ m n=>if n.2= (j:Int) then m|||ofM [max n.1 (-n.1)] else m) m).testBit x.toNat= (m.testBit x.toNat||l.any λ n=>decide (n.2= (j:Int))&&decide (max n.1 (-n.1)=x))
 | [],m=>by simp
 | n::l,m=>by
   rw [List.foldl_cons,ymB j x h0 h1 l,List.any_cons];by_cases hj:n.2= (j:Int)
   ·have e:(ofM [max n.1 (-n.1)]).testBit x.toNat=decide (max n.1 (-n.1)=x):=by
     have:=ycU (l:= [max n.1 (-n.1)]) h0 h1;rw [ya8,zzZ h0,zzo] at this;rw [this];simp [eq_comm]
    rw [Yd hj,Y2,e,zzZ hj,zzo,Bool.or_assoc]
   ·rw [Yb hj,zzd hj,Yv,YR]
theorem yk6 {l:List (Int × Int)} {j:Nat} {x:Int} (h0:0<=x) (h1:x<64):ya8 (wkD l j) x=l.any λ n=>decide (n.2= (j:Int))&&decide (max n.1 (-n.1)=x):=by
 rw [ya8,zzZ h0,zzo,wkD,ymB j x h0 h1,YV,YR]
def atW (r:Ru) (s:Nat->Int) (n:Int):Int:=if 0<n then (if r.fq=6/\r.l5.length=0 then s 8 else s 6) else if n<0 then (if r.fq=6/\r.l5.length=0 then -s 9 else -s 7) else 0
def yix (r:Ru) (s:Nat->Int):Bool:=if r.l7.length=0 then decide (r.fq≠4)||decide (s 5=wdI (r.st/86400)) else r.l7.any λ x=>decide (x.2=s 5)&&decide (x.1=atW r s x.1)
def woI (r:Ru):Int:=if yah r=0/\ycs 0 0 (nsL r)=true then yba r else 0
def woB (r:Ru):Bool:=if yah r=0/\ycs 0 0 (nsL r)=true then ydA r else false
def woD (r:Ru) (j:Nat):Nat:=if yah r=0/\ycs 0 0 (nsL r)=true then wkD r.l7 j else 0
theorem ypH (r:Ru):yfY r=ypp (woI r) (woB r) (woD r):=by
 unfold yfY woI woB woD;by_cases h:yah r=0/\ycs 0 0 (nsL r)=true
 ·simp only [Yd h]
 ·simp only [Yb h];rfl
theorem yee {l:List Int} (hm:yhq l=false):(∀x∈l,x<0)\/ (∀x∈l,x=0)\/ (∀x∈l,0<x):=by
 rw [<- yp6] at hm;have key:∀x∈l,sgP (l.headD 0) x=false:=λ x hx=>by
  rw [<- ZG];intro e;have:l.any (sgP (l.headD 0))=true:=Yk.2 ⟨x,hx,e⟩
  rw [hm] at this;cases this
 have two:∀x∈l,(x<0↔l.headD 0<0)/\(x=0↔l.headD 0=0):=λ x hx=>by
  have:=key x hx;rw [sgP,Bool.or_eq_false_iff,bne_eq_false_iff_eq,bne_eq_false_iff_eq] at this;refine ⟨Zu.1 this.1,?_⟩;have h2:=this.2;rw [zze] at h2;simpa using h2
 rcases Int.lt_trichotomy (l.headD 0) 0 with h | h | h
 ·exact .inl λ x hx=>(two x hx).1.2 h
 ·exact .inr (.inl λ x hx=>(two x hx).2.2 h)
 ·refine .inr (.inr λ x hx=>?_);have:=two x hx;have a:¬x<0:=λ e=>by have:=this.1.1 e;omega
  have b:¬x=0:=λ e=>by have:=this.2.1 e;omega
  omega
theorem ykj:∀n:Nat,n<8->1<=n->(fullCl.m 6).testBit n=true:=by decide +kernel
theorem yib {α:Type} {l:List α} {p q:α->Bool} (h:∀x∈l,p x=q x):l.any p=l.any q:=by
 rw [zze,Yk,Yk];constructor
 ·rintro ⟨x,hx,e⟩;exact ⟨x,hx,by rw [<- h x hx];exact e⟩
 ·rintro ⟨x,hx,e⟩;exact ⟨x,hx,by rw [h x hx];exact e⟩
theorem ysU {r:Ru} {s:Nat->Int} (hc:yah r=0) (h5:1<=s 5/\s 5<=7) (h6:1<=s 6/\s 6<64) (h7:1<=s 7/\s 7<64) (h8:1<=s 8/\s 8<64) (h9:1<=s 9/\s 9<64) :
  (ya8 (ycA r) (s 5)&&ypq (woI r) (woB r) (woD r) s)=yix r s:=by
 obtain ⟨-,hx,hm,-,-⟩:=ydS (yaY hc).e7;rw [ycA,Yd hc,yix];by_cases hn:r.l7= []
 ·have af:ycs 0 0 (nsL r)=false:=by rw [nsL,hn];rfl
  have ag:¬(yah r=0/\ycs 0 0 (nsL r)=true):=λ e=>by rw [af] at e;cases e.2
  rw [Yd hn,Yd (show r.l7.length=0 by rw [hn];rfl),ypq,woI,Yb ag,Yd rfl,Y7];by_cases h4:r.fq=4
  ·rw [Yd h4,ycU zo zo,zzd (λ e=>e h4:¬r.fq≠4),YR];simp
  ·rw [Yb h4,ycy ykj h5.1 zo,zzZ (show r.fq≠4 from h4),Bool.true_or]
 ·have hl:¬r.l7.length=0:=λ e=>hn (YB e);rw [Yb hn,Yb hl];cases ho:ycs 0 0 (nsL r)
  ·have ag:¬(yah r=0/\ycs 0 0 (nsL r)=true):=λ e=>(by rw [ho] at e;cases e.2);rw [Yb zs,ypz zo zo,ypq,woI,Yb ag,Yd rfl,Y7];apply yib;intro x ad;have h0:x.1=0:=by
    have:¬ycs 0 0 (nsL r)=true:=by rw [ho];simp
    rw [ycs,Yk] at this;have:¬yht 0 0 x.1=true:=λ e=>this ⟨x.1,Zs ad,e⟩
    simp only [yht,Ys,zzY] at this;omega
   rw [h0,show atW r s 0=0 by simp [atW],zzZ (rfl:(0:Int)=0),Y7]
  ·have ab:yah r=0/\ycs 0 0 (nsL r)=true:=⟨hc,ho⟩;have ai:yba r≠0:=(by unfold yba;split <;> simp);have hD:∀x,0<=x->x<64->ya8 (woD r (s 5).toNat) x=r.l7.any λ n=>decide (n.2=s 5)&&decide (max n.1 (-n.1)=x):=λ x a b=>by
    rw [woD,Yd ab,yk6 a b,Ze zo]
   have hr:1<=yxz (yba r) (ydA r) s/\yxz (yba r) (ydA r) s<64:=by
    unfold yxz;split <;> split <;> omega
   rw [Yd rfl,ycy ykj h5.1 zo,zzo,ypq,woI,Yd ab,Yb ai,woB,Yd ab,hD _ zo hr.2];apply yib;intro x ad;have aa:x.1∈nsL r:=Zs ad;have ac:nsL r≠ []:=λ e=>(by rw [e] at aa;cases aa);congr 1
   rw [Zu];have ah:(nsL r).headD 0∈nsL r:=by
    cases h:nsL r with
    | nil=>exact absurd h ac
    | cons a l=>simp
   rcases yee hm with hs | hs | hs
   ·have hb:ydA r=true:=(by rw [ydA];exact zzZ (hs _ ah));have ae:=hs _ aa;rw [hb,atW,Yb zo,Yd ae];unfold yxz yba;by_cases hf:r.fq=6/\r.l5.length=0
    ·rw [Yd hf,Yd hf];simp only [Yb (by decide:¬(2:Int)=1),if_true];omega
    ·rw [Yb hf,Yb hf];simp only [if_true];omega
   ·exfalso
    have:ycs 0 0 (nsL r)=false:=by
     rw [<- ZG];intro e;rw [ycs,Yk] at e;obtain ⟨y,hy,hp⟩:=e;have:=hs y hy;simp only [yht,Ys,zzY] at hp;omega
    rw [ho] at this;cases this
   ·have hb:ydA r=false:=(by rw [ydA];exact zzd (zp (hs _ ah)));have ae:=hs _ aa;rw [hb,atW,Yd ae];unfold yxz yba;by_cases hf:r.fq=6/\r.l5.length=0
    ·rw [Yd hf,Yd hf];simp only [Yb (by decide:¬(2:Int)=1)];simp;omega
    ·rw [Yb hf,Yb hf];simp;omega
structure RkF (w:World) (r:Ru) (s:Nat->Int) (W:World):Prop where
 rb:RuB W w.heap.size r
 sh:ShS W (w.heap.size+1) s
 be:Bw w W
 l:w.heap.size+1<W.heap.size
theorem RkF.keep {w W W':World} {r:Ru} {s:Nat->Int} (h:RkF w r s W) (hb:Bw W W'):RkF w r s W':=by
 have hs:=hb.size;have hl:=h.l;exact ⟨h.rb.below hb zo,h.sh.below hb hl,h.be.trans (hb.mono zo),by omega⟩
def yks (r:Ru) (s:Nat->Int):Bool:=yeG r (s 2)&&(yeT r (s 3) (s 4)&&yix r s)
section
attribute [local go_sem ↓] ya3
attribute [local go_sem] yaE
variable {F:Cl} {d h m mo s y:Int} {b5 b8:Nat} {r:Ru} {W w:World}
abbrev DvS (w:World) (r:Ru) (b5 b8:Nat) (y mo d h m s:Int) (F:Cl) (W:World):Prop:=
 RuC W w.heap.size r/\Six W b5 (E T y) (E T mo) (E T d) (E T h) (E T m) (E T s)/\(W.cell? (Z b8 4 N)=G (E Y (F.m 4:Nat))/\W.cell? (Z b8 5 N)=G (E Y (F.m 5:Nat)))/\TmF w r b5 b8 y mo d h m s F W
theorem TmF.dvs (k:TmF w r b5 b8 y mo d h m s F W):DvS w r b5 b8 y mo d h m s F W:=⟨k.rb.all,k.six,⟨k.cl.at 4 rfl,k.cl.at 5 rfl⟩,k⟩
theorem DvS.keep {W':World} (k:DvS w r b5 b8 y mo d h m s F W) (hb:Bw W W'):DvS w r b5 b8 y mo d h m s F W':=(k.2.2.2.keep hb).dvs
theorem yu4 (r:Ru) (w:World) (hr:RuS w r) (hm:r.Sm 1000000) (hc:¬yah r=0):H I 52 #[ruv r] w λ e w'=>e=Q (Xt #[E Y (yfS r:Nat),E Y (yfQ r:Nat)])/\Bw w w':=by
 have ab:Bw w (w.alloc (J (yad r).toArray 25)):=yaa (Ye _ _) zg;have cB:=hid (ycN r _ (hr.below ab) hm);have ae:=hid ab;rw [show yfS r=0 by rw [yfS,Yb hc],show yfQ r=0 by rw [yfQ,Yb hc]];have hb:(yah r==0)=false:=by simpa using hc
 rw [hb] at cB;obtain ⟨y,mo,d,h,m,s,ac⟩:=yb4 r.st;rw [ac] at cB;clear hc hb ac hr hm ab;go_enter Tryz.func52,Tryz.ntmps52
 go_wp2_with fail
 refine zm cB ?_;rintro w1 aa;have ad:=hid ((ae.trans (aa.mono (by simp only [zzN];omega))).trans ((yaa (o:=J #[E T y,E T mo,E T d,E T h,E T m,E T s] 184) (Ye w1.heap.size w1) zg).mono (by have:=aa.size;simp only [zzN] at this;omega)));clear aa;go_wp2;go_ret2
 exact ⟨rfl,ad⟩
end
section
attribute [local go_sem ↓] ya3
attribute [local go_sem] yaE
theorem yqD (l:List Int) (x:Int):yps (l ++ [x])=yps l|||ofM [-x]:=by rw [yps,Zp];rfl
theorem yqE (l:List Int):yps l<18446744073709551616:=yjc _ (λ m x h=>ZY (n:=64) h (yaG _)) l 0 zo
theorem ynz {r:Ru} (hc:yah r=0) (h:r.l6.headD 0<0):yfS r=fullCl.m 4/\yfQ r=yps r.l6:=by rw [yfS,yfQ,Yd hc,Yd hc,Yd h,Yd h];exact ⟨rfl,rfl⟩
theorem ykr {r:Ru} (hc:yah r=0) (h:¬r.l6.headD 0<0) (h2:0<r.l6.length):yfS r=ofM r.l6/\yfQ r=fullCl.m 5:=by rw [yfS,yfQ,Yd hc,Yd hc,Yb h,Yb h,Yd h2];exact ⟨rfl,rfl⟩
theorem ygl {r:Ru} (hc:yah r=0) (h:r.l6= []) (h2:r.l7.length=0/\(r.fq=5\/ r.fq=6)):yfS r=ofM [fD (r.st/86400)]/\yfQ r=fullCl.m 5:=by rw [yfS,yfQ,Yd hc,Yd hc,h,Yb (by decide:¬([]:List Int).headD 0<0),Yb (by decide:¬([]:List Int).headD 0<0),Yb (by decide:¬0<([]:List Int).length),Yd h2];exact ⟨rfl,rfl⟩
theorem yeQ {r:Ru} (hc:yah r=0) (h:r.l6= []) (h2:¬(r.l7.length=0/\(r.fq=5\/ r.fq=6))):yfS r=fullCl.m 4/\yfQ r=fullCl.m 5:=by rw [yfS,yfQ,Yd hc,Yd hc,h,Yb (by decide:¬([]:List Int).headD 0<0),Yb (by decide:¬([]:List Int).headD 0<0),Yb (by decide:¬0<([]:List Int).length),Yb h2];exact ⟨rfl,rfl⟩
theorem yfP {l:List Int} (h:0<l.length):l[0]=l.headD 0:=by
 cases l with
 | nil=>cases h
 | cons a l=>rfl
theorem yoP (r:Ru):(r.l6.headD 0<0/\0<r.l6.length)\/ (¬r.l6.headD 0<0/\0<r.l6.length)\/ (r.l6= []/\r.l7.length=0/\r.fq=5)\/ (r.l6= []/\r.l7.length=0/\r.fq=6)\/
  (r.l6= []/\r.l7.length=0/\¬r.fq=5/\¬r.fq=6)\/ (r.l6= []/\¬r.l7.length=0):=by
 by_cases h:r.l6= []
 ·have h0:¬0<r.l6.length:=by rw [h];decide
  simp only [h,true_and];by_cases h7:r.l7.length=0 <;> by_cases h5:r.fq=5 <;> by_cases h6:r.fq=6 <;> simp [h7,h5,h6]
 ·have:=List.length_pos_iff.2 h;omega
theorem ysA (r:Ru) (w:World) (hr:RuS w r) (hm:r.Sm 1000000) (hc:yah r=0):H I 52 #[ruv r] w λ e w'=>e=Q (Xt #[E Y (yfS r:Nat),E Y (yfQ r:Nat)])/\Bw w w':=by
 have aw:Bw w (w.alloc (J (yad r).toArray 25)):=yaa (Ye _ _) zg;have cB:=hid (ycN r _ (hr.below aw) hm);have aG:=hid aw;have aF:=hid (ybk w r 25);have HR:=hid hr;have hb:(yah r==0)=true:=by simpa using hc
 rw [hb,ye5 (ycW (yaY hc).h).1] at cB;obtain ⟨y,hy⟩:=zx (fY (r.st/86400));obtain ⟨mo,aB⟩:=zx (fMo (r.st/86400));obtain ⟨d,hd⟩:=zx (fD (r.st/86400));obtain ⟨h,hh⟩:=zx (r.st%86400/3600);obtain ⟨m,aC⟩:=zx (r.st%86400/60%60);obtain ⟨s,aA⟩:=zx (r.st%86400%60);rw [hy,aB,hd,hh,aC,aA] at cB;have cF:=hid (λ W=>ycR W);obtain ⟨F,hF⟩:=zx fullCl;rw [hF] at cF;rcases yoP r with ⟨hn,aa⟩ | ⟨hn,aa⟩ | ⟨hl,h7,hf⟩ | ⟨hl,h7,hf⟩ | ⟨hl,h7,h5,h6⟩ | ⟨hl,h7⟩;rw [(ynz hc hn).1,(ynz hc hn).2,hF];have au:(0:Int)<r.l6.length:=zo;have HD:=hid (yfq (yaY hc).e6).1.2;have aR:(r.l6.length:Int)<=64:=by have:=(yfq (yaY hc).e6).1.1;omega
 have Hs:=hid hr.s6;obtain ⟨b,off,af,ad,ai⟩:=hr.s6.atInt aa;have ac:=ai 0 aa;rw [Nat.add_zero] at ac;have ag:=yfP aa;rw [ag] at ac;obtain ⟨x0,hx⟩:=zx (r.l6.headD 0);rw [hx] at ac hn;have ax:=hid ac;have am:=hid af;have ay:=hid ad;clear hx ag af ac ai ad;rotate_left;rw [(ykr hc hn aa).1,(ykr hc hn aa).2,hF];have au:(0:Int)<r.l6.length:=zo;obtain ⟨b,off,af,ad,ai⟩:=hr.s6.atInt aa;have ac:=ai 0 aa;rw [Nat.add_zero] at ac;have ag:=yfP aa;rw [ag] at ac;obtain ⟨x0,hx⟩:=zx (r.l6.headD 0);rw [hx] at ac hn;have ax:=hid ac;have am:=hid af;have ay:=hid ad;have cM:=hid (λ b5 b8 W (k:DvS w r b5 b8 y mo d h m s F W)=>yas (yev r.a6 r.c6 r.l6 W (zp hm.n6) (hr.below k.2.2.2.be).s6) (λ _=>k.keep));generalize hM:ofM r.l6=M at cM⊢
 rw [af] at cM;have aQ:decide (x0<0)=false:=zzd hn;clear hx ag af ac ai ad hM hn;rotate_left;rw [(ygl hc hl ⟨h7, .inl hf⟩).1,(ygl hc hl ⟨h7, .inl hf⟩).2,hF,hd];have cO:=hid (λ W=>yhi d W 3);generalize hM:ofM [d]=M at cO⊢
 have al:Hid (r.l6.length=0):=by show _ = _;rw [hl];rfl
 have av:((r.l7.length:Int)==0)=true:=by simpa using h7
 have aE:(r.fq==5)=true:=by simpa using hf
 clear hl h7 hM hf;rotate_left;rw [(ygl hc hl ⟨h7, .inr hf⟩).1,(ygl hc hl ⟨h7, .inr hf⟩).2,hF,hd];have cO:=hid (λ W=>yhi d W 3);generalize hM:ofM [d]=M at cO⊢
 have al:Hid (r.l6.length=0):=by show _ = _;rw [hl];rfl
 have av:((r.l7.length:Int)==0)=true:=by simpa using h7
 have aE:(r.fq==5)=false:=by rw [hf];rfl
 have ad:(r.fq==6)=true:=by simpa using hf
 clear hl h7 hM hf;rotate_left;rw [(yeQ hc hl zo).1,(yeQ hc hl zo).2,hF];have al:Hid (r.l6.length=0):=by show _ = _;rw [hl];rfl
 have av:((r.l7.length:Int)==0)=true:=by simpa using h7
 have aE:(r.fq==5)=false:=by simpa using h5
 have ad:(r.fq==6)=false:=by simpa using h6
 clear hl h7 h5 h6;rotate_left;rw [(yeQ hc hl zo).1,(yeQ hc hl zo).2,hF];have al:Hid (r.l6.length=0):=by show _ = _;rw [hl];rfl
 have av:((r.l7.length:Int)==0)=false:=by simpa using h7
 clear hl h7;rotate_left;all_goals
  clear hc hb hr hm aw hy aB hd hh aC aA hF;go_enter Tryz.func52,Tryz.ntmps52
  go_wp2_with fail
  refine zm cB ?_;rintro w1 ap;have ar:=ap.size;(try unfold Bw at ar);rw [zzN] at ar
  have hn:=yaa (o:=J #[E T y,E T mo,E T d,E T h,E T m,E T s] 184) (Ye w1.heap.size w1) zg;have aP:=hid ((aG.trans (ap.mono (by rw [zzN];omega))).trans (hn.mono zo));have aL:=hid ((aF.below ap (by rw [zzN];omega)).below hn zo);have aK:=hid (ye7 w1 (E T y) (E T mo) (E T d) (E T h) (E T m) (E T s) 184);have aJ:Hid (w.heap.size<w1.heap.size):=by show _<_;omega
  clear ap hn ar aF aG;go_wp2_with fail
  refine zm (cF _) ?_;rintro w2 ak;have aq:=ak.size;(try unfold Bw at aq);rw [zzN] at aq
  have aH:(w2.alloc (J zL.toArray 59)).there w2.heap.size 0 30:=yaL w2 zL.toArray 59;have ao:Bw w2 (yaV (w2.alloc (J zL.toArray 59)) w2.heap.size (yae F)):=yaD (yaa (Ye _ _) zg) zg _;have hsz:(yaV (w2.alloc (J zL.toArray 59)) w2.heap.size (yae F)).heap.size=w2.heap.size+1:=by rw [ymW,zzN]
  have az:Hid (TmF w r w1.heap.size w2.heap.size y mo d h m s F (yaV (w2.alloc (J zL.toArray 59)) w2.heap.size (yae F))):=by
   have h1:=aJ.out;exact ⟨(aL.below ak (by rw [zzN];omega)).below ao zo,(aK.below ak (by rw [zzN];omega)).below ao zo,yaI _ rfl aH,(aP.trans (ak.mono (by rw [zzN];omega))).trans (ao.mono zo),by rw [hsz];omega,by rw [hsz];omega,by rw [hsz];omega⟩
  have ae:=hid az.dvs;clear ak ao hsz aq;obtain ⟨⟨⟨k0,k1,k2,k3,k4⟩,k5,k6,k7,k8,k9,kx⟩,⟨⟨s0,s1,s2,s3,s4,s5⟩,-⟩,⟨f4,f5⟩,-⟩:=ae.out
 ·rw [am] at k6;have ac:=(az.be.cell (p:=Z b off N) ay).trans ax.out;go_upto_region 6 with fail
  go_wp2_with fail
  go_loopw [3,32] (λ v i wr=>∃k:Nat,i=E T k/\k<=r.l6.length/\v=E Y (yps (r.l6.take k):Nat)/\Hid (DvS w r w1.heap.size w2.heap.size y mo d h m s F wr)) (λ _ i _=>r.l6.length-(intOf i).toNat)
  case atStart=>exact ⟨0,rfl,by omega,rfl,ae⟩
  case round=>
   obtain ⟨k,rfl,hk,rfl,HL⟩:=hrel;clear k0 k1 k2 k3 k4 k5 k6 k7 k8 k9 kx s0 s1 s2 s3 s4 s5 f4 f5 ac;by_cases hlt:k<r.l6.length
   ·obtain ⟨b',o6,ha,hb,hc⟩:=Hs.atInt hlt;have e1:=(HL.2.2.2.be.cell (p:=Z b' (o6+k) N) hb).trans (hc k hlt);have he:=am.symm.trans ha;simp only [Option.some.injEq,Addr.mk.injEq,and_true] at he;obtain ⟨rfl,rfl⟩:=he;have ht:=hid (yal r.l6 k hlt);have ah:=HD _ (zzr hlt);obtain ⟨x,hx⟩:=zx (r.l6[k]);rw [hx] at e1 ht ah;obtain ⟨⟨d0,d1⟩,-⟩:=ah;have hM:=ybD (yqE (r.l6.take k)) (yaG (inB [-x]));rw [show mk (inB [-x])=ofM [-x] from rfl,<- show yps (r.l6.take (k+1))=yps (r.l6.take k)|||ofM [-x] by rw [ht,yqD]] at hM;have cO:=hid (yeY (-x) wr 3);clear hc hx ha hb;go_wp2_with fail
    refine zm cO ?_;rintro w4 aj;have aO:=hid (HL.keep aj);clear aj e1;go_wp2;exact ⟨⟨k+1,by go_num,by omega,rfl,aO⟩,by simp [intOf];omega⟩
   ·have aD:r.l6.take k=r.l6:=YU zo;rw [aD];clear aD;obtain ⟨f4,f5⟩:=HL.2.2.1;go_wp2;go_ret2
    exact ⟨rfl,HL.2.2.2.be⟩
 ·rw [am] at k6;have ac:=(az.be.cell (p:=Z b off N) ay).trans ax.out;have an:Hid (DvS w r w1.heap.size w2.heap.size y mo d h m s F (yaV (w2.alloc (J zL.toArray 59)) w2.heap.size (yae F)).drew):=ae.keep (Ye _ _).drew;go_upto_region 13 with fail
  refine Yj (S:=λ w'=>DvS w r w1.heap.size w2.heap.size y mo d h m s F w') zk an (λ ab=>?_);have hA:=am.out;refine zhB 0 ?_;refine zT 1 (v:=?_) ?_ ?_;rotate_left
  ·intro w aI;(try dsimp only [RMS] at aI);go_simp;(try rw [hA]);(try with_reducible rfl)
  refine zhB 3 ?_;refine zhB 4 ?_;refine zzK 2 (λ K hK=>?_);go_simp;refine zm (cM _ _ _ (by assumption)) ?_;rintro wr hS;(try go_wp2_with fail);refine hK _ _ (by assumption) (λ ab=>?_);clear hK K;refine zhB 5 ?_;refine zhB 6 ?_;refine Yt zk ?_ _;have HV:=hid ‹DvS w r w1.heap.size w2.heap.size y mo d h m s F _›;go_wp2;go_ret2
  exact ⟨rfl,HV.2.2.2.be⟩
 iterate 2
  ·rw [al] at k6;have an:Hid (DvS w r w1.heap.size w2.heap.size y mo d h m s F (yaV (w2.alloc (J zL.toArray 59)) w2.heap.size (yae F)).drew):=ae.keep (Ye _ _).drew;go_upto_region 15 with fail
   refine Yj (S:=λ w'=>DvS w r w1.heap.size w2.heap.size y mo d h m s F w') zk an (λ ab=>?_);refine zhB 0 ?_;refine zhB 1 ?_;refine zhB 4 ?_;refine zhB 5 ?_;have aN:Hid (DvS w r w1.heap.size w2.heap.size y mo d h m s F ((yaV (w2.alloc (J zL.toArray 59)) w2.heap.size (yae F)).alloc (J #[E T d] 3)).drew):=(ae.keep (yaa (Ye _ _) zg)).keep (Ye _ _).drew;refine zzK 2 (λ K hK=>?_);go_simp;refine hK _ _ aN (λ ab=>?_);clear hK K;refine zzK 3 (λ K hK=>?_);go_simp;refine zm (cO _) ?_;rintro wr aj;have aM:=hid (ae.keep aj);clear aj;(try go_wp2_with fail);refine hK _ _ aM (λ ab=>?_);clear hK K;refine zhB 6 ?_;refine zhB 7 ?_;refine Yt zk ?_ _;have HV:=hid ‹DvS w r w1.heap.size w2.heap.size y mo d h m s F _›;go_wp2;go_ret2
   exact ⟨rfl,HV.2.2.2.be⟩
 iterate 2
  ·rw [al] at k6;have an:Hid (DvS w r w1.heap.size w2.heap.size y mo d h m s F (yaV (w2.alloc (J zL.toArray 59)) w2.heap.size (yae F)).drew):=ae.keep (Ye _ _).drew;go_upto_region 16 with fail
   refine Yj (S:=λ w'=>DvS w r w1.heap.size w2.heap.size y mo d h m s F w') zk an (λ ab=>?_);refine zhB 0 ?_;refine zhB 1 ?_;refine zhB 2 ?_;refine zhB 3 ?_;refine zhB 4 ?_;refine zhB 5 ?_;refine Yt zk ?_ _;have HV:=hid ‹DvS w r w1.heap.size w2.heap.size y mo d h m s F _›;go_wp2;go_ret2
   exact ⟨rfl,HV.2.2.2.be⟩
theorem yu3 (r:Ru) (w:World) (hr:RuS w r) (hm:r.Sm 1000000):H I 52 #[ruv r] w λ e w'=>e=Q (Xt #[E Y (yfS r:Nat),E Y (yfQ r:Nat)])/\Bw w w':=by
 by_cases hc:yah r=0
 ·exact ysA r w hr hm hc
 ·exact yu4 r w hr hm hc
end
section
variable {oB:Bool} {n oI:Int} {b9:Nat} {oD:Nat->Nat} {r:Ru} {W W' w:World}
def yrz (a b:Value):Sem Value:=binOp .eql 57 a b
theorem yue (a b:Value):binOp .eql 57 a b=yrz a b:=rfl
attribute [local go_sem ↓] yue
theorem ylQ (W:World):(yrz (.agg #[E T 0,Xb false,E Y 0,E Y 0,E Y 0,E Y 0,E Y 0,E Y 0,E Y 0,E Y 0]) (.agg #[E T 0,Xb false,E Y 0,E Y 0,E Y 0,E Y 0,E Y 0,E Y 0,E Y 0,E Y 0])).run I W= .ok (Xb true) W:=
 ywU 0 false (λ _=>0) 0 false (λ _=>0) W ⟨by decide,by decide⟩ (λ i _=>by show 0<_;decide) ⟨by decide,by decide⟩ (λ i _=>by show 0<_;decide)
attribute [local go_sem] ylQ
theorem ymL (h0:0<=n) (h1:n<146097):(∀i,0<=shF n i/\shF n i<=1000000)/\(1<=shF n 2/\shF n 2<=12)/\(1<=shF n 3/\shF n 3<=31)/\(1<=shF n 4/\shF n 4<=31)/\(1<=shF n 6/\shF n 6<64)/\(1<=shF n 7/\shF n 7<64)/\(1<=shF n 8/\shF n 8<64)/\(1<=shF n 9/\shF n 9<64):=by
 obtain ⟨y0,y1,m0,m1,d0,d1⟩:=yaQ h0 h1;obtain ⟨-,g2,g3⟩:=ynv h0 h1;obtain ⟨l0,l1⟩:=ycV (fY n) (fMo n);have lp:=ycu (fY n);have e0:shF n 0=n:=rfl;have e1:shF n 1=fY n:=rfl;have e2:shF n 2=fMo n:=rfl;have e3:shF n 3=fD n:=rfl;have e4:shF n 4=ycx (fY n) (fMo n)-fD n+1:=rfl;have e5:shF n 5= (n%7+3)%7+1:=rfl;have e6:shF n 6= (fD n-1)/7+1:=rfl;have e7:shF n 7= (ycx (fY n) (fMo n)-fD n)/7+1:=rfl;have e8:shF n 8= (fOr n-1)/7+1:=rfl;have e9:∀i,9<=i->shF n i= (365+ybs (fY n)-fOr n)/7+1:=λ i hi=>by
  match i,hi with
  | (k+9),_=>rfl
 have ab:=e9 9 zo;refine ⟨λ i=>?_,by omega,by omega,by omega,by omega,by omega,by omega,by omega⟩;by_cases h:9<=i
 ·have:=e9 i h;omega
 ·have:i=0\/ i=1\/ i=2\/ i=3\/ i=4\/ i=5\/ i=6\/ i=7\/ i=8:=zo
  rcases this with rfl | rfl | rfl | rfl | rfl | rfl | rfl | rfl | rfl <;> omega
theorem yzw (r:Ru):ybL r<18446744073709551616/\yfS r<18446744073709551616/\yfQ r<18446744073709551616/\ycA r<18446744073709551616/\∀j,j<8->woD r j<18446744073709551616:=by
 refine ⟨?_,?_,?_,?_,λ j _=>?_⟩
 ·rw [ybL];repeat' split
  all_goals first | exact yaG _ | decide +kernel | omega
 ·rw [yfS];repeat' split
  all_goals first | exact yaG _ | decide +kernel | omega
 ·rw [yfQ];repeat' split
  all_goals first | exact yqE _ | decide +kernel | omega
 ·rw [ycA];repeat' split
  all_goals first | exact yaG _ | exact yvc _ | decide +kernel | omega
 ·rw [woD];split
  ·exact ypA _ _
  ·omega
theorem yxI (r:Ru):woI r=0\/ woI r=1\/ woI r=2:=by
 rw [woI];split
 ·rw [yba];split
  ·exact .inr (.inr rfl)
  ·exact .inr (.inl rfl)
 ·exact .inl rfl
theorem yw0 (hc:yah r=0) (h0:0<=n) (h1:n<146097):yks r (shF n)= (ya8 (ybL r) (shF n 2)&&(ya8 (yfS r) (shF n 3)&&(ya8 (yfQ r) (shF n 4)&&(ya8 (ycA r) (shF n 5)&&ypq (woI r) (woB r) (woD r) (shF n))))):=by
 obtain ⟨-,b2,b3,b4,b6,b7,b8,b9⟩:=ymL h0 h1;rw [yks,yqF hc b2.1 b2.2,<- yw1 hc b3.1 b3.2 b4.1 b4.2,<- ysU hc (ygA n) b6 b7 b8 b9,Bool.and_assoc]
structure DwF (w:World) (r:Ru) (b9:Nat) (oI:Int) (oB:Bool) (oD:Nat->Nat) (W:World):Prop where
 rc:RcS w r W
 ot:OrdT W b9 oI oB oD
 l:b9<W.heap.size
theorem DwF.keep (h:DwF w r b9 oI oB oD W) (hb:Bw W W'):DwF w r b9 oI oB oD W':=
 ⟨h.rc.keep hb,h.ot.below hb h.l,zH h.l hb.size⟩
structure DxF (w:World) (r:Ru) (b9:Nat) (oI:Int) (oB:Bool) (oD:Nat->Nat) (aa:Nat) (s:Nat->Int) (W:World):Prop where
 dw:DwF w r b9 oI oB oD W
 sh:ShS W aa s
 l:aa<W.heap.size
theorem DxF.keep {aa:Nat} {s:Nat->Int} (h:DxF w r b9 oI oB oD aa s W) (hb:Bw W W'):DxF w r b9 oI oB oD aa s W':=
 ⟨h.dw.keep hb,h.sh.below hb h.l,zH h.l hb.size⟩
end
section
attribute [local irreducible] yak
variable {hi lo:Int} {l:List Int} {r:Ru}
def yzf (r:Ru) (i:Nat):Nat:=if i=0 then tmS r else if i=1 then tmM r else if i=2 then tmH r else if i=3 then ybL r else if i=4 then yfS r else if i=5 then yfQ r else ycA r
def ydu (r:Ru):Cl:={m:=yzf r,or:=false,oin:=woI r,oback:=woB r,od:=woD r,ys:=yc6,unit:=r.fq,step:=r.iv,anchor:=r.st,fr:=r.st,un:=if r.un= -1 then 12622780799 else r.un}
def yc3 (r:Ru) (t:Int):Bool:=ycb t&&((decide (r.st<=t)&&(decide (r.un= -1)||decide (t<=r.un)))&&(yks r (shF (t/86400))&&(yjK r (t%86400)&&onB r.fq r.iv r.st t)))
def ycH (r:Ru):Int:=if yah r=0 then (if 100000000000<r.iv\/ 1000000<r.co then 14 else 0) else yah r
theorem yeL (h:yf3 r=0):1<=r.iv/\0<=r.co/\(r.un= -1\/ ycb r.un=true):=by
 rw [yf3] at h;split at h
 ·cases h
 ·split at h
  ·cases h
  ·split at h
   ·cases h
   ·split at h
    ·cases h
    ·split at h
     ·cases h
     ·split at h
      ·cases h
      ·split at h
       ·exact ⟨by omega,by omega, .inl (by assumption)⟩
       ·split at h
        ·cases h
        ·rename_i hw;refine ⟨by omega,by omega, .inr ?_⟩;cases e:ycb r.un
         ·exact absurd e hw
         ·rfl
theorem yzu (l:List Int) (i:Nat):(ofM l).testBit i= (decide (i<64)&&decide ((i:Int)∈l)):=by rw [ofM,yaW,inB]
theorem yjo (h:∀x∈l,lo<=x/\x<=hi):ybw (ofM l) lo hi=true:=yc9.2 λ k _ hb=>by
 rw [yzu,zzX,zzY,zzY] at hb;exact h _ hb.2
theorem ygo {x:Int} (h:lo<=x/\x<=hi):ybw (ofM [x]) lo hi=true:=yjo λ y hy=>by
 have:y=x:=by simpa using hy
 rw [this];exact h
theorem yrp:ybw (fullCl.m 0) 0 59=true/\ybw (fullCl.m 1) 0 59=true/\ybw (fullCl.m 2) 0 23=true/\ybw (fullCl.m 3) 1 12=true/\ybw (fullCl.m 4) 1 31=true/\ybw (fullCl.m 5) 1 31=true/\ybw (fullCl.m 6) 1 7=true:=by
 have h:=ynf;simp only [yb2,yeH,zzX] at h;exact h.1
theorem yiQ {at' af fq:Int} {ab:Nat} (h:∀x∈l,lo<=x/\x<=hi) (ha:lo<=at'/\at'<=hi) (hf:ybw ab lo hi=true):ybw (ym0 l at' af ab fq) lo hi=true:=by
 rw [ym0];split
 ·exact yjo h
 ·split
  ·exact ygo ha
  ·exact hf
theorem ytC (h:∀x∈l,-31<=x/\x<=-1):ybw (yps l) 1 31=true:=yc9.2 λ k hk hb=>by
 have e:=yqC (l:=l) (x:=(k:Int)) zo zo;rw [ya8,zzZ zo,zzo,YL,hb] at e;have:=h _ (Y8 e.symm);omega
theorem ysO {l:List (Int × Int)} (h:∀x∈l,1<=x.2/\x.2<=7):ybw (wkM l) 1 7=true:=yc9.2 λ k hk hb=>by
 have e:=ypz (l:=l) (x:=(k:Int)) zo zo;rw [ya8,zzZ zo,zzo,YL,hb] at e;obtain ⟨x,hx,e2⟩:=Yk.1 e.symm;have:=h x hx;have:=Y8 e2;omega
theorem ysP {l:List (Int × Int)} {j:Nat} {aa:Int} (h:∀x∈l,x.2= (j:Int)->1<=max x.1 (-x.1)/\max x.1 (-x.1)<=aa):ybw (wkD l j) 1 aa=true:=yc9.2 λ k hk hb=>by
 have e:=yk6 (l:=l) (j:=j) (x:=(k:Int)) zo zo;rw [ya8,zzZ zo,zzo,YL,hb] at e;obtain ⟨x,hx,e2⟩:=Yk.1 e.symm;rw [zzX,zzY,zzY] at e2;have:=h x hx e2.1;omega
theorem ymY (h:ycs lo hi l=false):∀x∈l,lo<=x/\x<=hi:=λ x hx=>by
 have e:yht lo hi x=false:=by
  cases e:yht lo hi x
  ·rfl
  ·have:ycs lo hi l=true:=Yk.2 ⟨x,hx,e⟩
   rw [h] at this;cases this
 rw [yht,Bool.or_eq_false_iff,ZV,ZV] at e;omega
theorem yqB (hm:yhq (nsL r)=false) (ho:ycs 0 0 (nsL r)=true):∀x∈r.l7,x.1≠0:=λ x hx e=>by
 obtain ⟨y,hy,e2⟩:=Yk.1 ho;have ag:x.1∈nsL r:=YA.2 ⟨x,hx,rfl⟩;rw [yht,Ys,zzY,zzY] at e2;rcases yee hm with h | h | h
 ·have:=h _ ag;omega
 ·have:=h _ hy;omega
 ·have:=h _ ag;omega
theorem yqN (hc:yah r=0):yeH (yzf r)=true:=by
 have ok:=yaY hc;obtain ⟨hw,hu⟩:=ycW ok.h;obtain ⟨h0,h1⟩:=ymC hw;obtain ⟨f0,f1,f2,f3,f4,f5,f6⟩:=yrp;obtain ⟨y0,y1,m0,m1,d0,d1⟩:=yaQ (n:=r.st/86400) zo zo;obtain ⟨l0,l1⟩:=ycV (fY (r.st/86400)) (fMo (r.st/86400));obtain ⟨⟨-,hd⟩,ae,-⟩:=yfq ok.e6;obtain ⟨-,ad,ai,-,-⟩:=ydS ok.e7;have ah:=yiP (λ x hx=>(hd x hx).2) ae;simp only [yeH,zzX];refine ⟨?_,?_,?_,?_,?_,?_,?_⟩
 ·show ybw (tmS r) 0 59=true;rw [tmS,Yd hc];exact yiQ (ygT ok.ex).2 zo f0
 ·show ybw (tmM r) 0 59=true;rw [tmM,Yd hc];exact yiQ (ygT ok.e9).2 zo f1
 ·show ybw (tmH r) 0 23=true;rw [tmH,Yd hc];exact yiQ (ygT ok.e8).2 zo f2
 ·show ybw (ybL r) 1 12=true;rw [ybL,Yd hc];split
  ·exact yjo (ygT ok.e5).2
  ·split
   ·exact ygo ⟨m0,m1⟩
   ·exact f3
 ·show ybw (yfS r) 1 31=true;rw [yfS,Yd hc];split
  ·exact f4
  ·rename_i hn;split
   ·exact yjo λ x hx=>by have:=ah.2 hn x hx;have:=hd x hx;omega
   ·split
    ·exact ygo ⟨d0,by omega⟩
    ·exact f4
 ·show ybw (yfQ r) 1 31=true;rw [yfQ,Yd hc];split
  ·rename_i hn;exact ytC λ x hx=>by have:=ah.1 hn x hx;have:=hd x hx;omega
  ·exact f5
 ·show ybw (ycA r) 1 7=true;rw [ycA,Yd hc];split
  ·split
   ·refine ygo ?_;rw [wdI];omega
   ·exact f6
  ·split
   ·exact f6
   ·exact ysO λ x hx=>(ad x hx).2
theorem yww (hc:yah r=0):yqs (woI r) (woB r) (woD r)=true:=by
 obtain ⟨-,ad,ai,aj,h5⟩:=ydS (yaY hc).e7;by_cases ho:ycs 0 0 (nsL r)=true
 ·have hp:yah r=0/\ycs 0 0 (nsL r)=true:=⟨hc,ho⟩;have hz:=yqB ai ho;have e0:wkD r.l7 0=0:=by
   apply Nat.eq_of_testBit_eq;intro k;rw [YV];by_cases hk:k<64
   ·have e:=yk6 (l:=r.l7) (j:=0) (x:=(k:Int)) zo zo;rw [ya8,zzZ zo,zzo,YL] at e;rw [e];cases ha:r.l7.any λ n=>decide (n.2= ((0:Nat):Int))&&decide (max n.1 (-n.1)= (k:Int))
    ·rfl
    ·obtain ⟨x,hx,e2⟩:=Yk.1 ha;rw [zzX,zzY] at e2;have:=(ad x hx).2;omega
   ·exact Nat.testBit_lt_two_pow (zH (ypA r.l7 0) (Nat.pow_le_pow_right (n:=2) zo (show 64<=k by omega)))
  have ac:∀aa,(∀x∈r.l7,max x.1 (-x.1)<=aa)->yd8 (wkD r.l7) aa=true:=λ aa hm=>by
   rw [yd8,zzX,zzY,allR_iff];exact ⟨e0,λ j _=>ysP λ x hx _=>⟨by have:=hz x hx;omega,hm x hx⟩⟩
  have eD:woD r=wkD r.l7:=funext λ j=>by rw [woD,Yd hp]
  rw [woI,Yd hp,woB,Yd hp,eD,yba,yqs];by_cases h6:r.fq=6/\r.l5.length=0
  ·rw [Yd h6,Yb zd,Yb zd,Yd rfl];exact ac 53 λ x hx=>by have:=(ad x hx).1;omega
  ·rw [Yb h6,Yb zd,Yd rfl];have ak:r.fq=5\/ 0<r.l5.length:=by
    rcases aj ho with e | e
    ·exact .inl e
    ·exact .inr zo
   have:=ymY (h5 ak);exact ac 5 λ x hx=>by have:=this x.1 (YA.2 ⟨x,hx,rfl⟩);omega
 ·have hn:¬(yah r=0/\ycs 0 0 (nsL r)=true):=λ e=>ho e.2;have eD:woD r=λ _=>0:=funext λ j=>by rw [woD,Yb hn]
  rw [woI,Yb hn,woB,Yb hn,eD];decide
theorem yiX (hc:yah r=0):yb2 (ydu r)=true:=by
 have ok:=yaY hc;obtain ⟨hw,hu⟩:=ycW ok.h;simp only [yb2,zzX,zzY];refine ⟨yqN hc,yww hc,?_,hu,(yeL ok.h).1,hw⟩;have h:=ynf;simp only [yb2,zzX] at h;exact h.2.2.1
theorem yqM (hn:r.Num):(ydu r).Ok:=by
 obtain ⟨l3,l4,l5,l6,lo⟩:=yzw r;refine ⟨λ i hi=>?_,lo,λ i hi=>?_,?_,hn.fq,hn.iv,hn.st,hn.st,?_⟩
 ·show yzf r i<_;have one:∀(l:List Int) (a f:Int) (ab:Nat) (fq:Int),ab<18446744073709551616->ym0 l a f ab fq<18446744073709551616:=λ l a f ab fq h=>by
   rw [ym0];split
   ·exact yaG _
   ·split
    ·exact yaG _
    ·exact h
  rcases ylf hi with rfl | rfl | rfl | rfl | rfl | rfl | rfl
  ·show tmS r<_;rw [tmS];split
   ·exact one _ _ _ _ _ (by decide +kernel)
   ·omega
  ·show tmM r<_;rw [tmM];split
   ·exact one _ _ _ _ _ (by decide +kernel)
   ·omega
  ·show tmH r<_;rw [tmH];split
   ·exact one _ _ _ _ _ (by decide +kernel)
   ·omega
  ·exact l3
  ·exact l4
  ·exact l5
  ·exact l6
 ·show yc6 i<_;rw [yc6];exact yaG _
 ·have:=yxI r;show yaA (woI r);unfold yaA;omega
 ·show yaA (if r.un= -1 then 12622780799 else r.un);split
  ·unfold yaA;omega
  ·exact hn.un
theorem yly (hc:yah r=0) (t:Int):yhv (ydu r) t=yc3 r t:=by
 have ok:=yaY hc;obtain ⟨hw,hu⟩:=ycW ok.h;have hi:=(yeL ok.h).1;rw [yhv,yc3];by_cases ht:ycb t=true
 ·obtain ⟨t0,t1⟩:=ymC ht;rw [ht,yiX hc,zzo,zzo,zzo];have e1:ycf (ydu r).fr (ydu r).un t= (decide (r.st<=t)&&(decide (r.un= -1)||decide (t<=r.un))):=by
   show ycf r.st (if r.un= -1 then 12622780799 else r.un) t= _;rw [ycf];by_cases h:r.un= -1
   ·rw [Yd h,zzZ h,zzZ (show t<=12622780799 by omega),Bool.true_or]
   ·rw [Yb h,zzd h,YR]
  have e2:ydc (t%86400) ((ydu r).m 2) ((ydu r).m 1) ((ydu r).m 0)=yjK r (t%86400):=by
   rw [<- ysZ hc (show 0<=t%86400 by omega) (show t%86400<86400 by omega),show t%86400%3600/60=t%86400/60%60 by omega];show ydc (t%86400) (tmH r) (tmM r) (tmS r)= _;rw [ydc,yxD,zzZ zo,zzo]
  have hy:=yaQ (n:=t/86400) zo zo;have e3:yrI (ydu r) (shF (t/86400))=yks r (shF (t/86400)):=by
   rw [yw0 hc zo zo,yrI,yzh];show ((if false=true then _ else ya8 (yfS r) (shF (t/86400) 3)&&ya8 (ycA r) (shF (t/86400) 5))&&(ya8 (ybL r) (shF (t/86400) 2)&&(ya8 (yfQ r) (shF (t/86400) 4)&&(yvw yc6 (shF (t/86400) 1-1970)&&ypq (woI r) (woB r) (woD r) (shF (t/86400))))))= _;rw [yrl (show 0<=shF (t/86400) 1-1970 by show 0<=fY (t/86400)-1970;omega) (show shF (t/86400) 1-1970<400 by show fY (t/86400)-1970<400;omega),Yb zd,zzo];ac_rfl
  rw [e1,e2,yk0,yiX hc,zzo,e3];show (_&&(_&&(onB r.fq r.iv r.st t&&(_&&ydx r.fq r.iv r.st (t/86400)))))= _;cases ho:onB r.fq r.iv r.st t
  ·simp
  ·rw [yyc hu hw hi t0 t1 ho];simp only [zzo,Y7];ac_rfl
 ·have e:ycb t=false:=by simpa using ht
  rw [e,Yv,Yv]
end
section
open Go.ChangeShapes Go.WideShapes Go.ChangeAt Go.RowKit Go.Deep
variable {ab:Nat} {v:Value} {W:World}
theorem ym2:∀{cells:List Value} {n:Nat},cells.length=n*2->(∀i,i<n->oks [.int .i64, .int .i64] ((cells.drop (i*2)).take 2))->∃l:List (Int × Int),cells=yeF l/\l.length=n
 | cells,0,h,_=>⟨[],by cases cells;rfl;simp at h,rfl⟩
 | cells,n+1,h,hk=>by
   obtain ⟨l,e,hl⟩:=ym2 (cells:=cells.drop 2) (n:=n) (by simp;omega) (λ i hi=>by
    have:=hk (i+1) zo;rw [List.drop_drop];rwa [show 2+i*2= (i+1)*2 by omega])
   have h0:=hk 0 zo;rw [ZJ,List.drop_zero] at h0;obtain ⟨x,y,ec,-,-⟩:=ywh h0;refine ⟨(x,y)::l,?_,by simp [hl]⟩;rw [show yeF ((x,y)::l)= [.int .i64 x, .int .i64 y]++yeF l by simp [yeF,ypr],<- e,<- ec,Zg]
theorem yc2 {Hq:Type} {enc:TypeId × Value->Hq} {y:DataW Hq × List MemPlace} (h:DataW.trod enc I W 0 (λ _=>true) true ab 22 [v]=G y) :
  ∃(a:Option Addr) (cap:Nat) (l:List Int),v=Xs a l.length cap/\(l.length=0\/ ∃aa spare,y.1= .slice aa spare/\aa.length=l.length)/\Sl W a (yaR l):=by
 obtain ⟨a,n,cap,cells,rfl,h1,h2,h3,h4,h6,h5⟩:=yj1 (m:=1) (ks:= [.int .i64]) Tryz.underlying22 zk zk zd h;obtain ⟨l,rfl,rfl,-⟩:=ym3 h3 h5;refine ⟨a,cap,l,rfl,?_,h4⟩;rcases Go.Deep.open_slice Tryz.underlying22 h with ⟨e,-⟩ | ⟨a',len,ae,m,nn,D,Pl,e,-,-,-,-,rfl,-⟩
 ·left
  simp only [List.cons.injEq,Value.slice.injEq] at e;exact e.1.2.1
 ·right
  simp only [List.cons.injEq,Value.slice.injEq] at e;exact ⟨_,_,rfl,by rw [Yi,ZB];exact e.1.2.1.symm⟩
theorem yos {Hq:Type} {enc:TypeId × Value->Hq} {y:DataW Hq × List MemPlace} (h:DataW.trod enc I W 0 (λ _=>true) true ab 23 [v]=G y) :
  ∃(a:Option Addr) (cap:Nat) (l:List (Int × Int)),v=Xs a l.length cap/\(l.length=0\/ ∃aa spare,y.1= .slice aa spare/\aa.length=l.length)/\Sl W a (yeF l):=by
 obtain ⟨a,n,cap,cells,rfl,h1,h2,h3,h4,h6,h5⟩:=yj1 (m:=3) (ks:= [.int .i64, .int .i64]) Tryz.underlying23 zk zk zd h;obtain ⟨l,rfl,rfl⟩:=ym2 h3 h5;refine ⟨a,cap,l,rfl,?_,h4⟩;rcases Go.Deep.open_slice Tryz.underlying23 h with ⟨e,-⟩ | ⟨a',len,ae,m,nn,D,Pl,e,-,-,-,-,rfl,-⟩
 ·left
  simp only [List.cons.injEq,Value.slice.injEq] at e;exact e.1.2.1
 ·right
  simp only [List.cons.injEq,Value.slice.injEq] at e;exact ⟨_,_,rfl,by rw [Yi,ZB];exact e.1.2.1.symm⟩
theorem yeE {Hq:Type} {enc:TypeId × Value->Hq} {y:DataW Hq × List MemPlace} (h:DataW.trod enc I W 0 (λ _=>true) true ab 2 [v]=G y):∃n,v= .int .i64 n/\yaA n:=by
 obtain ⟨k,-⟩:=ydI 1 (show yfN I 1 2=G [.int .i64] by kernel_rfl) h;exact yAa k
theorem yqu {Hq:Type} {enc:TypeId × Value->Hq} {y:DataW Hq × List MemPlace} (h:DataW.trod enc I W 0 (λ _=>true) true ab 3 [v]=G y):∃n,v= .int .i64 n/\yaA n:=by
 obtain ⟨k,-⟩:=ydI 1 (show yfN I 1 3=G [.int .i64] by kernel_rfl) h;exact yAa k
theorem ywg:∃fs,Tryz.prog.underlying 25=G (.struct fs)/\oneCellFields I fs=true/\(fs.map (·.type)).toList= [2,3,2,2,2,22,22,23,22,22,22]:=⟨_,Tryz.underlying25,by kernel_rfl,by kernel_rfl⟩
theorem yrR:Tryz.prog.cellsOf 25=11:=by kernel_rfl
theorem yqt {Hq:Type} {enc:TypeId × Value->Hq} {rc:Reach} {b0:Nat} {d:DataW Hq} {p:List MemPlace} (hv:Value.okWide I W rc b0 25 v) (h:DataW.Trod enc I W 0 (λ _=>true) true 25 v d p)
  (hz:(DataW.weights I 25 d).all (·<=reachBytes)=true) :
  ∃r:Ru,v=ruv r/\RuS W r/\r.Num/\r.Sm 281474976710656:=by
 obtain ⟨fs,hs,ad,ai⟩:=ywg;obtain ⟨cs,rfl,hsz⟩:=okWide_struct hs hv;obtain ⟨l⟩:=cs;match l,hsz.trans yrR with
 | [c0,c1,c2,c3,c4,c5,c6,c7,c8,c9,c10],_=>
   obtain ⟨ab,hf⟩:=h;obtain ⟨xs,n,_,hx,_,an,hg⟩:=DataW.trod_struct hs hf;obtain rfl:d= .agg (xs.map (·.1)):=(by injection hx);have hw:(DataW.weightsEach I [2,3,2,2,2,22,22,23,22,22,22] (xs.map (·.1))).all (·<=reachBytes)=true:=by
    have e:fs.toList.map (·.type)= [2,3,2,2,2,22,22,23,22,22,22]:=(by rw [<- ai,Array.toList_map]);rw [<- e];simpa only [DataW.weights,hs] using hz
   have key:∀(i:Nat) (t:TypeId) (c:Value),[2,3,2,2,2,22,22,23,22,22,22][i]? =G t-> [c0,c1,c2,c3,c4,c5,c6,c7,c8,c9,c10][i]? =G c->∃y,DataW.trod enc I W 0 (λ _=>true) true n t [c]=G y/\(xs.map (·.1))[i]? =G y.1:=by
    intro i t c ht hc;rw [<- ai] at ht;have ap:∃f,fs[i]? =G f/\f.type=t:=by
     simp only [Array.toList_map,Y9,Option.map_eq_some_iff] at ht;obtain ⟨f,ac,aq⟩:=ht;exact ⟨f,by simpa using ac,aq⟩
    obtain ⟨f,ac,rfl⟩:=ap;obtain ⟨o,k⟩:=hone_of ad i f ac;have g:=hg i f ac;rw [o,k] at g;have aw:i<fs.size:=(YZ.1 ac).1;have ah:i<xs.length:=zo;refine ⟨xs[i],?_,by rw [Y9,zzp ah];rfl⟩;rw [zzp ah] at g;have e:(((Value.agg [c0,c1,c2,c3,c4,c5,c6,c7,c8,c9,c10].toArray).cells.toList.drop i).take 1)= [c]:=by
     show ([c0,c1,c2,c3,c4,c5,c6,c7,c8,c9,c10].drop i).take 1= [c];obtain ⟨ao,ar⟩:=zzq.1 hc;rw [Zw ao,ar];rfl
    rw [e] at g;exact g
   obtain ⟨z0,t0,u0⟩:=key 0 _ _ rfl rfl;obtain ⟨z1,t1,u1⟩:=key 1 _ _ rfl rfl;obtain ⟨z2,t2,u2⟩:=key 2 _ _ rfl rfl;obtain ⟨z3,t3,u3⟩:=key 3 _ _ rfl rfl;obtain ⟨z4,t4,u4⟩:=key 4 _ _ rfl rfl;obtain ⟨z5,t5,u5⟩:=key 5 _ _ rfl rfl;obtain ⟨z6,t6,u6⟩:=key 6 _ _ rfl rfl;obtain ⟨z7,t7,u7⟩:=key 7 _ _ rfl rfl;obtain ⟨z8,t8,u8⟩:=key 8 _ _ rfl rfl;obtain ⟨z9,t9,u9⟩:=key 9 _ _ rfl rfl;obtain ⟨z10,aj,af⟩:=key 10 _ _ rfl rfl;obtain ⟨n0,rfl,g0⟩:=yeE t0;obtain ⟨n1,rfl,g1⟩:=yqu t1;obtain ⟨n2,rfl,g2⟩:=yeE t2;obtain ⟨n3,rfl,g3⟩:=yeE t3;obtain ⟨n4,rfl,g4⟩:=yeE t4;obtain ⟨a5,k5,l5,rfl,q5,s5⟩:=yc2 t5;have g5:l5.length<=281474976710656:=by
    rcases q5 with q | ⟨aa,spare,q,qe⟩
    ·omega
    ·rw [q] at u5;have:=sized_slice hw (j:=5) rfl u5 Tryz.underlying22;rw [show Tryz.prog.bytesOf 3=8 by kernel_rfl] at this;simp only [reachBytes] at this;omega
   obtain ⟨a6,k6,l6,rfl,q6,s6⟩:=yc2 t6;have g6:l6.length<=281474976710656:=by
    rcases q6 with q | ⟨aa,spare,q,qe⟩
    ·omega
    ·rw [q] at u6;have:=sized_slice hw (j:=6) rfl u6 Tryz.underlying22;rw [show Tryz.prog.bytesOf 3=8 by kernel_rfl] at this;simp only [reachBytes] at this;omega
   obtain ⟨a7,k7,l7,rfl,q7,s7⟩:=yos t7;have g7:l7.length<=281474976710656:=by
    rcases q7 with q | ⟨aa,spare,q,qe⟩
    ·omega
    ·rw [q] at u7;have:=sized_slice hw (j:=7) rfl u7 Tryz.underlying23;rw [show Tryz.prog.bytesOf 102=16 by kernel_rfl] at this;simp only [reachBytes] at this;omega
   obtain ⟨a8,k8,l8,rfl,q8,s8⟩:=yc2 t8;have g8:l8.length<=281474976710656:=by
    rcases q8 with q | ⟨aa,spare,q,qe⟩
    ·omega
    ·rw [q] at u8;have:=sized_slice hw (j:=8) rfl u8 Tryz.underlying22;rw [show Tryz.prog.bytesOf 3=8 by kernel_rfl] at this;simp only [reachBytes] at this;omega
   obtain ⟨a9,k9,l9,rfl,q9,s9⟩:=yc2 t9;have g9:l9.length<=281474976710656:=by
    rcases q9 with q | ⟨aa,spare,q,qe⟩
    ·omega
    ·rw [q] at u9;have:=sized_slice hw (j:=9) rfl u9 Tryz.underlying22;rw [show Tryz.prog.bytesOf 3=8 by kernel_rfl] at this;simp only [reachBytes] at this;omega
   obtain ⟨av,am,ag,rfl,al,ak⟩:=yc2 aj;have au:ag.length<=281474976710656:=by
    rcases al with q | ⟨aa,spare,q,qe⟩
    ·omega
    ·rw [q] at af;have:=sized_slice hw (j:=10) rfl af Tryz.underlying22;rw [show Tryz.prog.bytesOf 3=8 by kernel_rfl] at this;simp only [reachBytes] at this;omega
   exact ⟨{st:=n0,fq:=n1,iv:=n2,co:=n3,un:=n4,l5:=l5,a5:=a5,c5:=k5,l6:=l6,a6:=a6,c6:=k6,l7:=l7,a7:=a7,c7:=k7,l8:=l8,a8:=a8,c8:=k8,l9:=l9,a9:=a9,c9:=k9,lx:=ag,ax:=av,cx:=am},rfl,⟨s5,s6,s7,s8,s9,ak⟩,⟨g0,g1,g2,g3,g4⟩,⟨g5,g6,g7,g8,g9,au⟩⟩
end
