/- Arguments that came in, opened -/
import Derived.Test.YtkdaiadfgfbgmaaGreatDoorQ83b0e9
set_option maxRecDepth 100000
set_option maxHeartbeats 25600000
set_option linter.unusedSimpArgs false
open Option renaming none -> N, some -> G
open Go.Value renaming int -> E, pointer -> R, slice -> Xs, bool -> Xb, func -> Xf, tuple -> Xt
open Go.IntKind renaming i64 -> T, u64 -> Y
open Go.Addr renaming mk -> Z
open Go renaming Calls -> H
open Go.Proofs.Tryz renaming prog -> I
open Go.Obj renaming cells -> J
open Go.Ending renaming returned -> Q
namespace Go.Proofs.YtkdaiadfgfbgmaaGreatDoor
open Go.RowKit Go.Maps
set_option linter.unusedVariables false
section
open Go.RowKit Go.ChangeShapes Go.WideShapes
section
variable {Hq:Type} {enc:TypeId × Value->Hq} {P:Program} {w:World} {base:Nat} {spare:Nat->Bool} {held:Bool}
end
theorem ym3:∀{cells:List Value} {n:Nat},cells.length=n*1->(∀i,i<n->oks [.int T] ((cells.drop (i*1)).take 1))->∃l:List Int,cells=yaJ l/\l.length=n/\∀x∈l,-9223372036854775808<=x/\x<=9223372036854775807
 | [],n,h,_=>⟨[],rfl,by simp at h;simp [h],by simp⟩
 | v::cells,0,h,_=>by simp at h
 | v::cells,n+1,h,hk=>by
   obtain ⟨l,e,hl,hb⟩:=ym3 (cells:=cells) (n:=n) (by simp at h⊢;omega) (λ i hi=>by have:=hk (i+1) zo;simpa using this);have h0:=hk 0 zo;simp at h0;obtain ⟨⟨x,rfl,hw⟩,_⟩:=h0;exact ⟨x::l,by rw [e];rfl,by simp [hl],λ y hy=>by
    rcases YF.1 hy with rfl | hy
    ·exact yvp hw
    ·exact hb y hy⟩
end
section
open Go.ChangeShapes Go.WideShapes Go.ChangeAt Go.RowKit
end
section
open Go.ChangeShapes Go.WideShapes Go.ChangeAt Go.RowKit
theorem yws {k k':IntKind} {cs:List Value} (h:oks [.int k, .int k'] cs):∃x y:Int,cs= [.int k x, .int k' y]/\(Lit.int k x).wf=true/\(Lit.int k' y).wf=true:=by
 obtain ⟨_,_,rfl,⟨x,rfl,g1⟩,h1⟩:=yb7 h;obtain ⟨_,_,rfl,⟨y,rfl,g2⟩,h2⟩:=yb7 h1;obtain rfl:=ylo h2;exact ⟨x,y,rfl,g1,g2⟩
end
section
variable {f n u:Int} {cs:List Cl} {ds:List Int} {k:Nat}
def yil (cs:List Cl) (f u:Int) (ds:List Int) (k:Nat):Nat:=(ydB cs f u (ds.take k)).length
theorem ykr (cs:List Cl) (f u:Int) (ds:List Int):yil cs f u ds 0=0:=rfl
theorem yuC (cs:List Cl) (f u:Int) (ds:List Int):yil cs f u ds ds.length= (ydB cs f u ds).length:=by rw [yil,YW]
theorem yrS (h:ds[k]? =G n):yil cs f u ds (k+1)=yil cs f u ds k+(ypx cs f u n).length:=by
 obtain ⟨hk,rfl⟩:=zzq.1 h;rw [yil,yak ds k hk,ydB,ZE,YG,yil,ydB];simp
theorem yoD (h:ds[k]? =G n):ydB cs f u ds=ydB cs f u (ds.take k)++(ypx cs f u n++ydB cs f u (ds.drop (k+1))):=by
 obtain ⟨hk,rfl⟩:=zzq.1 h;rw [ydB,ydB,ydB];conv=>lhs;rw [<- Zg k ds,Zw hk]
 rw [ZE,ZZ]
theorem ywT {x:Int} {p:Nat} (h:ds[k]? =G n) (hx:(ypx cs f u n)[p]? =G x):(ydB cs f u ds)[yil cs f u ds k+p]? =G x:=by
 rw [yoD h,Yl (by rw [yil];omega),yil,show (ydB cs f u (ds.take k)).length+p-(ydB cs f u (ds.take k)).length=p by omega,Yo (zzq.1 hx).1,hx]
end
theorem yoS (cs:List Cl) {f u n:Int} (h1:f<=86400*n) (h2:86400*n+86399<=u):(ypx cs f u n).length= (yal (yay cs n)).length:=by
 have e:yxM cs n u (max 0 (f-86400*n))=yal (yay cs n):=by
  refine yed (ygP _ _ _ _) (yaM _ _) (λ x=>?_);rw [ygi,yal,sel_mem];constructor
  ·rintro ⟨k,g1,g2,g3,-⟩;exact ⟨k,g1,g3,g2⟩
  ·rintro ⟨k,g1,g3,g2⟩;exact ⟨k,g1,g2,g3,by omega,by omega⟩
 rw [ypx,Yi,e]
theorem yuy (cs:List Cl) {f u n:Int} (h1:f<=86400*n) (h2:86400*n+86399<=u):ypx cs f u n= (yal (yay cs n)).map λ x=>86400*n+x:=by
 have e:yxM cs n u (max 0 (f-86400*n))=yal (yay cs n):=by
  refine yed (ygP _ _ _ _) (yaM _ _) (λ x=>?_);rw [ygi,yal,sel_mem];constructor
  ·rintro ⟨k,g1,g2,g3,-⟩;exact ⟨k,g1,g3,g2⟩
  ·rintro ⟨k,g1,g3,g2⟩;exact ⟨k,g1,g2,g3,by omega,by omega⟩
 rw [ypx,e]
theorem yty {P:Program} {w:World} {tp te:TypeId} {j:TypeInfo} (hp:P.underlying tp=G (.pointer te)) (ac:P.info? te=G j) (hsz:j.size≠0) {d x:Nat} (cd:(w.cell? (Z d 0 N)).isSome=true) (cx:(w.cell? (Z x 0 N)).isSome=true) (hd:∀i,w.frozen? (Z d i N)=false) (hx:∀i,w.frozen? (Z x i N)=false) :
  (binOp .neq tp (R (G (Z d 0 N))) (R (G (Z x 0 N)))).run P w= .ok (Xb (decide (d≠x))) w:=by
 have hs:(sameAddr (Z d 0 N) (Z x 0 N)).run P w= .ok (decide (d=x)) w:=by
  by_cases aa:d=x
  ·subst aa;rw [run_sameAddr_same];simp
  ·rw [yeG cd cx hd hx aa];simp [aa]
 have h:∀n:Nat,(Op.equalIn (n+1) tp (R (G (Z d 0 N))) (R (G (Z x 0 N)))).run P w= .ok (decide (d=x)) w:=λ n=>by
  simp [Op.equalIn,run_underlying hp,sizeOf,typeInfo,ac,hsz,hs]
 simp only [binOp];simp [Op.equal,Op.maxDepth,h 9999]
theorem ynF {w:World} {d x:Nat} {q q':Nat->Bool} (hd:DiscAt w d q) (hx:DiscAt w x q'):(binOp .neq 84 (R (G (Z d 0 N))) (R (G (Z x 0 N)))).run I w= .ok (Xb (decide (d≠x))) w:=by
 have hi:((Tryz.prog.info? 163).map λ i=>decide (i.size≠0))=G true:=by kernel_rfl
 obtain ⟨f,h1,h2,-⟩:=hd;obtain ⟨g,g1,g2,-⟩:=hx;cases hj:Tryz.prog.info? 163 with
 | none=>rw [hj] at hi;cases hi
 | some j=>
   rw [hj] at hi;exact yty Tryz.underlying84 hj (by simpa using hi) (by rw [h1 0 zo];rfl) (by rw [g1 0 zo];rfl) h2 g2
abbrev yAA (bl:Nat):Value:=Xf (.func 113) #[] #[R (G (Z bl 0 N)),R (G (Z (bl+1) 0 N))]
theorem ymn (w:World):H I 55 #[] w λ e w'=>e=Q (Xf (.func 113) #[] #[R (G (Z w.heap.size 0 N)),R (G (Z (w.heap.size+1) 0 N))])/\w' = (w.alloc (J #[R N] 84)).alloc (J #[E T 0] 2):=by
 go_enter Tryz.func55,Tryz.ntmps55
 go_wp2;go_ret;exact ⟨rfl,rfl⟩
theorem yxG (bl d:Nat) (q:Nat->Bool) (c:Option Nat) (m:Int) (W:World) (h:ysS bl c m W) (hk:∀x,c=G x->∃q,DiscAt W x q/\m= ((yal q).length:Nat)) (hd:DiscAt W d q) :
  H I 113 #[R (G (Z d 0 N)),R (G (Z bl 0 N)),R (G (Z (bl+1) 0 N))] W λ e W'=>e=Q (E T ((yal q).length:Nat))/\Eff (λ b=>b=bl\/ b=bl+1) W W'/\ysS bl (G d) ((yal q).length:Nat) W':=by
 have cL:=hid (ykS (G d) q W hd);have hl:=ygh q;have hu:∀q',DiscAt W d q'->(yal q').length= (yal q).length:=λ q' h'=>by
  have e:(List.range 86400).filter q' = (List.range 86400).filter q:=List.filter_congr λ k hk=>DiscAt.unique h' hd k (YT.1 hk);rw [yal,yal,sel,sel,e]
 by_cases hc:c=G d
 ·subst hc;obtain ⟨q',h1,rfl⟩:=hk d rfl;have e:=hu q' h1;have hb:=ynF hd h1;rw [show decide (d≠d)=false by simp] at hb;have Hq:=hid h;rw [e] at Hq;obtain ⟨c1,c2,f1,f2,-⟩:=h;rw [e] at c2;replace c1:W.cell? (Z bl 0 N)=G (R (G (Z d 0 N))):=c1;generalize (yal q).length=L at *
  clear hd hu cL h1 e hk;go_enter Tryz.func113,Tryz.ntmps113
  go_wp2;go_ret;exact ⟨rfl,Eff.refl _ _,Hq⟩
 ·have hX:=hid (h.set (c':=G d) (m':=((yal q).length:Nat)));have hE:Hid (Eff (λ b=>b=bl\/ b=bl+1) W ((W.setCell (Z bl 0 N) (yby (G d))).setCell (Z (bl+1) 0 N) (E T ((yal q).length:Nat)))):=((Eff.refl _ W).set (.inl rfl) _ _).set (.inr rfl) _ _;obtain ⟨c1,c2,f1,f2,-⟩:=h;generalize (yal q).length=L at *
  have ad:IntKind.i64.wrap (L:Int)=L:=Yn (L:Int) zo;clear hu;cases c with
  | none=>
    clear hd hk;replace c1:W.cell? (Z bl 0 N)=G (R N):=c1;go_enter Tryz.func113,Tryz.ntmps113
    go_wp2_with fail
    refine zm cL ?_;rintro w1 rfl;go_wp2;go_ret;exact ⟨rfl,hE,hX⟩
  | some x=>
    have hx:x≠d:=λ e=>hc (by rw [e]);have ab:d≠x:=λ e=>hx e.symm;obtain ⟨q',h1,-⟩:=hk x rfl;have hb:=ynF hd h1;rw [zzZ ab] at hb;clear h1 hd hk;replace c1:W.cell? (Z bl 0 N)=G (R (G (Z x 0 N))):=c1;go_enter Tryz.func113,Tryz.ntmps113
    go_wp2_with fail
    refine zm cL ?_;rintro w1 rfl;go_wp2;go_ret;exact ⟨rfl,hE,hX⟩
def yhc (r:Ru):Bool:=decide (600<r.l5.length+r.l6.length+r.l7.length+r.l8.length+r.l9.length+r.lx.length)
theorem yt7 {r:Ru} (h:yhc r=false):r.Sm 600:=by
 rw [yhc,ZV] at h;exact ⟨by omega,by omega,by omega,by omega,by omega,by omega⟩
theorem yl8 (r:Ru) (w:World) (hm:r.Sm 281474976710656):H I 7 #[ruv r] w λ e w'=>e=Q (Xb (yhc r))/\Bw w w':=by
 obtain ⟨n5,n6,n7,n8,n9,nx⟩:=hm;have HB:Hid (Bw w (w.alloc (J (yad r).toArray 25))):=yaa (Ye _ _) zg;have hd:Hid (yhc r=decide ((600:Int)<(r.l5.length:Int)+r.l6.length+r.l7.length+r.l8.length+r.l9.length+r.lx.length)):=by
  show _ = _;rw [yhc,Zu];omega
 rw [hd];clear hd;go_enter Tryz.func7,Tryz.ntmps7
 go_wp2;go_ret;exact ⟨rfl,HB⟩
section
open Go.ChangeShapes Go.WideShapes Go.ChangeAt Go.RowKit Go.Deep
variable {ab:Nat} {v:Value} {W:World}
theorem ym2:∀{cells:List Value} {n:Nat},cells.length=n*2->(∀i,i<n->oks [.int .i64, .int .i64] ((cells.drop (i*2)).take 2))->∃l:List (Int × Int),cells=yeI l/\l.length=n
 | cells,0,h,_=>⟨[],by cases cells;rfl;simp at h,rfl⟩
 | cells,n+1,h,hk=>by
   obtain ⟨l,e,hl⟩:=ym2 (cells:=cells.drop 2) (n:=n) (by simp;omega) (λ i hi=>by
    have:=hk (i+1) zo;rw [List.drop_drop];rwa [show 2+i*2= (i+1)*2 by omega])
   have h0:=hk 0 zo;rw [ZJ,List.drop_zero] at h0;obtain ⟨x,y,ec,-,-⟩:=yws h0;refine ⟨(x,y)::l,?_,by simp [hl]⟩;rw [show yeI ((x,y)::l)= [.int .i64 x, .int .i64 y]++yeI l by simp [yeI,ypt],<- e,<- ec,Zg]
theorem yc9 {Hq:Type} {enc:TypeId × Value->Hq} {y:DataW Hq × List MemPlace} (h:DataW.trod enc I W 0 (λ _=>true) true ab 22 [v]=G y) :
  ∃(a:Option Addr) (cap:Nat) (l:List Int),v=Xs a l.length cap/\(l.length=0\/ ∃aa spare,y.1= .slice aa spare/\aa.length=l.length)/\Sl W a (yaJ l):=by
 obtain ⟨a,n,cap,cells,rfl,h1,h2,h3,h4,h6,h5⟩:=ygW (m:=1) (ks:= [.int .i64]) Tryz.underlying22 zk zk zd h;obtain ⟨l,rfl,rfl,-⟩:=ym3 h3 h5;refine ⟨a,cap,l,rfl,?_,h4⟩;rcases Go.Deep.open_slice Tryz.underlying22 h with ⟨e,-⟩ | ⟨a',len,ae,m,nn,D,Pl,e,-,-,-,-,rfl,-⟩
 ·left
  simp only [List.cons.injEq,Value.slice.injEq] at e;exact e.1.2.1
 ·right
  simp only [List.cons.injEq,Value.slice.injEq] at e;exact ⟨_,_,rfl,by rw [Yi,ZB];exact e.1.2.1.symm⟩
theorem yos {Hq:Type} {enc:TypeId × Value->Hq} {y:DataW Hq × List MemPlace} (h:DataW.trod enc I W 0 (λ _=>true) true ab 23 [v]=G y) :
  ∃(a:Option Addr) (cap:Nat) (l:List (Int × Int)),v=Xs a l.length cap/\(l.length=0\/ ∃aa spare,y.1= .slice aa spare/\aa.length=l.length)/\Sl W a (yeI l):=by
 obtain ⟨a,n,cap,cells,rfl,h1,h2,h3,h4,h6,h5⟩:=ygW (m:=3) (ks:= [.int .i64, .int .i64]) Tryz.underlying23 zk zk zd h;obtain ⟨l,rfl,rfl⟩:=ym2 h3 h5;refine ⟨a,cap,l,rfl,?_,h4⟩;rcases Go.Deep.open_slice Tryz.underlying23 h with ⟨e,-⟩ | ⟨a',len,ae,m,nn,D,Pl,e,-,-,-,-,rfl,-⟩
 ·left
  simp only [List.cons.injEq,Value.slice.injEq] at e;exact e.1.2.1
 ·right
  simp only [List.cons.injEq,Value.slice.injEq] at e;exact ⟨_,_,rfl,by rw [Yi,ZB];exact e.1.2.1.symm⟩
theorem yeH {Hq:Type} {enc:TypeId × Value->Hq} {y:DataW Hq × List MemPlace} (h:DataW.trod enc I W 0 (λ _=>true) true ab 2 [v]=G y):∃n,v= .int .i64 n/\yax n:=by
 obtain ⟨k,-⟩:=ydV 1 (show yeO I 1 2=G [.int .i64] by kernel_rfl) h;exact yvC k
theorem yqv {Hq:Type} {enc:TypeId × Value->Hq} {y:DataW Hq × List MemPlace} (h:DataW.trod enc I W 0 (λ _=>true) true ab 3 [v]=G y):∃n,v= .int .i64 n/\yax n:=by
 obtain ⟨k,-⟩:=ydV 1 (show yeO I 1 3=G [.int .i64] by kernel_rfl) h;exact yvC k
theorem ywr:∃fs,Tryz.prog.underlying 25=G (.struct fs)/\oneCellFields I fs=true/\(fs.map (·.type)).toList= [2,3,2,2,2,22,22,23,22,22,22]:=⟨_,Tryz.underlying25,by kernel_rfl,by kernel_rfl⟩
theorem yrW:Tryz.prog.cellsOf 25=11:=by kernel_rfl
theorem yqu {Hq:Type} {enc:TypeId × Value->Hq} {rc:Reach} {b0:Nat} {d:DataW Hq} {p:List MemPlace} (hv:Value.okWide I W rc b0 25 v) (h:DataW.Trod enc I W 0 (λ _=>true) true 25 v d p)
  (hz:(DataW.weights I 25 d).all (·<=reachBytes)=true) :
  ∃r:Ru,v=ruv r/\RuS W r/\r.Num/\r.Sm 281474976710656:=by
 obtain ⟨fs,hs,ad,ai⟩:=ywr;obtain ⟨cs,rfl,hsz⟩:=okWide_struct hs hv;obtain ⟨l⟩:=cs;match l,hsz.trans yrW with
 | [c0,c1,c2,c3,c4,c5,c6,c7,c8,c9,c10],_=>
   obtain ⟨ab,hf⟩:=h;obtain ⟨xs,n,_,hx,_,an,hg⟩:=DataW.trod_struct hs hf;obtain rfl:d= .agg (xs.map (·.1)):=(by injection hx);have hw:(DataW.weightsEach I [2,3,2,2,2,22,22,23,22,22,22] (xs.map (·.1))).all (·<=reachBytes)=true:=by
    have e:fs.toList.map (·.type)= [2,3,2,2,2,22,22,23,22,22,22]:=(by rw [<- ai,Array.toList_map]);rw [<- e];simpa only [DataW.weights,hs] using hz
   have key:∀(i:Nat) (t:TypeId) (c:Value),[2,3,2,2,2,22,22,23,22,22,22][i]? =G t-> [c0,c1,c2,c3,c4,c5,c6,c7,c8,c9,c10][i]? =G c->∃y,DataW.trod enc I W 0 (λ _=>true) true n t [c]=G y/\(xs.map (·.1))[i]? =G y.1:=by
    intro i t c ht hc;rw [<- ai] at ht;have ap:∃f,fs[i]? =G f/\f.type=t:=by
     simp only [Array.toList_map,Y9,Option.map_eq_some_iff] at ht;obtain ⟨f,ac,aq⟩:=ht;exact ⟨f,by simpa using ac,aq⟩
    obtain ⟨f,ac,rfl⟩:=ap;obtain ⟨o,k⟩:=hone_of ad i f ac;have g:=hg i f ac;rw [o,k] at g;have aw:i<fs.size:=(YZ.1 ac).1;have ah:i<xs.length:=zo;refine ⟨xs[i],?_,by rw [Y9,zzp ah];rfl⟩;rw [zzp ah] at g;have e:(((Value.agg [c0,c1,c2,c3,c4,c5,c6,c7,c8,c9,c10].toArray).cells.toList.drop i).take 1)= [c]:=by
     show ([c0,c1,c2,c3,c4,c5,c6,c7,c8,c9,c10].drop i).take 1= [c];obtain ⟨ao,ar⟩:=zzq.1 hc;rw [Zw ao,ar];rfl
    rw [e] at g;exact g
   obtain ⟨z0,t0,u0⟩:=key 0 _ _ rfl rfl;obtain ⟨z1,t1,u1⟩:=key 1 _ _ rfl rfl;obtain ⟨z2,t2,u2⟩:=key 2 _ _ rfl rfl;obtain ⟨z3,t3,u3⟩:=key 3 _ _ rfl rfl;obtain ⟨z4,t4,u4⟩:=key 4 _ _ rfl rfl;obtain ⟨z5,t5,u5⟩:=key 5 _ _ rfl rfl;obtain ⟨z6,t6,u6⟩:=key 6 _ _ rfl rfl;obtain ⟨z7,t7,u7⟩:=key 7 _ _ rfl rfl;obtain ⟨z8,t8,u8⟩:=key 8 _ _ rfl rfl;obtain ⟨z9,t9,u9⟩:=key 9 _ _ rfl rfl;obtain ⟨z10,aj,af⟩:=key 10 _ _ rfl rfl;obtain ⟨n0,rfl,g0⟩:=yeH t0;obtain ⟨n1,rfl,g1⟩:=yqv t1;obtain ⟨n2,rfl,g2⟩:=yeH t2;obtain ⟨n3,rfl,g3⟩:=yeH t3;obtain ⟨n4,rfl,g4⟩:=yeH t4;obtain ⟨a5,k5,l5,rfl,q5,s5⟩:=yc9 t5;have g5:l5.length<=281474976710656:=by
    rcases q5 with q | ⟨aa,spare,q,qe⟩
    ·omega
    ·rw [q] at u5;have:=sized_slice hw (j:=5) rfl u5 Tryz.underlying22;rw [show Tryz.prog.bytesOf 3=8 by kernel_rfl] at this;simp only [reachBytes] at this;omega
   obtain ⟨a6,k6,l6,rfl,q6,s6⟩:=yc9 t6;have g6:l6.length<=281474976710656:=by
    rcases q6 with q | ⟨aa,spare,q,qe⟩
    ·omega
    ·rw [q] at u6;have:=sized_slice hw (j:=6) rfl u6 Tryz.underlying22;rw [show Tryz.prog.bytesOf 3=8 by kernel_rfl] at this;simp only [reachBytes] at this;omega
   obtain ⟨a7,k7,l7,rfl,q7,s7⟩:=yos t7;have g7:l7.length<=281474976710656:=by
    rcases q7 with q | ⟨aa,spare,q,qe⟩
    ·omega
    ·rw [q] at u7;have:=sized_slice hw (j:=7) rfl u7 Tryz.underlying23;rw [show Tryz.prog.bytesOf 102=16 by kernel_rfl] at this;simp only [reachBytes] at this;omega
   obtain ⟨a8,k8,l8,rfl,q8,s8⟩:=yc9 t8;have g8:l8.length<=281474976710656:=by
    rcases q8 with q | ⟨aa,spare,q,qe⟩
    ·omega
    ·rw [q] at u8;have:=sized_slice hw (j:=8) rfl u8 Tryz.underlying22;rw [show Tryz.prog.bytesOf 3=8 by kernel_rfl] at this;simp only [reachBytes] at this;omega
   obtain ⟨a9,k9,l9,rfl,q9,s9⟩:=yc9 t9;have g9:l9.length<=281474976710656:=by
    rcases q9 with q | ⟨aa,spare,q,qe⟩
    ·omega
    ·rw [q] at u9;have:=sized_slice hw (j:=9) rfl u9 Tryz.underlying22;rw [show Tryz.prog.bytesOf 3=8 by kernel_rfl] at this;simp only [reachBytes] at this;omega
   obtain ⟨av,am,ag,rfl,al,ak⟩:=yc9 aj;have au:ag.length<=281474976710656:=by
    rcases al with q | ⟨aa,spare,q,qe⟩
    ·omega
    ·rw [q] at af;have:=sized_slice hw (j:=10) rfl af Tryz.underlying22;rw [show Tryz.prog.bytesOf 3=8 by kernel_rfl] at this;simp only [reachBytes] at this;omega
   exact ⟨{st:=n0,fq:=n1,iv:=n2,co:=n3,un:=n4,l5:=l5,a5:=a5,c5:=k5,l6:=l6,a6:=a6,c6:=k6,l7:=l7,a7:=a7,c7:=k7,l8:=l8,a8:=a8,c8:=k8,l9:=l9,a9:=a9,c9:=k9,lx:=ag,ax:=av,cx:=am},rfl,⟨s5,s6,s7,s8,s9,ak⟩,⟨g0,g1,g2,g3,g4⟩,⟨g5,g6,g7,g8,g9,au⟩⟩
end
