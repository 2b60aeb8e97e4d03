/-
  ferialaw32.RuleDays answers true.
  span.Held, span.In, clause.Span and feriaref09.Held.
  The least number of a mask above another one is the first such one of its list.
  Arguments that came in, opened: of a type that is flat (integers, bools, structs and arrays of them) the cells are what its leaves say; a slice of flat elements is a row of such cells. No condition.
  mask.All makes a function that has captured the box of what is in all of the masks.
  Function values that are called back: a closure, or a loop's yield; and who owns which block.
  The function that mask.All makes tells the numbers of its mask, rising, as long as more are wanted.
-/
import Derived.Test.YtjahgimnfliooaaGreatDoorQaeb5bd
import Derived.Test.YtjahgimnfliooaaGreatDoorQ0deb77
import Derived.Test.YtjahgimnfliooaaGreatDoorQe55767
import Derived.Test.YtjahgimnfliooaaGreatDoorQ3bc6b4
import Derived.Test.YtjahgimnfliooaaGreatDoorQ4c06b4
import Derived.Test.YtjahgimnfliooaaGreatDoorQc1e868
import Derived.OpenShut
import Derived.Deep.Slices
import Derived.ChangeOld
import Derived.ShutString
import Derived.RangeFuncNested
import Derived.RangeFuncBound
import Derived.RangeFuncCalls
import Derived.RangeFuncLeaves
import Derived.OwnWalkIn
import Derived.TacticsInMore
import Derived.LoopNIn
import Derived.LoopIn
set_option maxRecDepth 100000
set_option maxHeartbeats 25600000
namespace Go.Proofs.YtjahgimnfliooaaGreatDoor
set_option linter.unusedVariables false
section
open Go.RowKit
def eqlOrdS (a b:Value):Sem Value:=binOp .eql 31 a b
theorem eql_ordS (a b:Value):binOp .eql 31 a b=eqlOrdS a b:=rfl
attribute [local go_sem ↓] eql_ordS
theorem yid (W:World):(eqlOrdS (.agg #[.int .i64 0, .bool false, .int .u64 0, .int .u64 0, .int .u64 0, .int .u64 0, .int .u64 0, .int .u64 0, .int .u64 0, .int .u64 0]) (.agg #[.int .i64 0, .bool false, .int .u64 0, .int .u64 0, .int .u64 0, .int .u64 0, .int .u64 0, .int .u64 0, .int .u64 0, .int .u64 0])).run Tryz.prog W= .ok (.bool true) W:=
 eql_ord 0 false (fun _=>0) 0 false (fun _=>0) W ⟨by decide,by decide⟩ (fun i _=>by show 0 < _; decide) ⟨by decide,by decide⟩ (fun i _=>by show 0 < _; decide)
attribute [local go_sem] yid
theorem shF_bd {n:Int} (h0:0≤n) (h1:n < 146097):(∀i,0≤shF n i∧shF n i≤1000000)∧(1≤shF n 2∧shF n 2≤12)∧(1≤shF n 3∧shF n 3≤31)∧(1≤shF n 4∧shF n 4≤31)∧(1≤shF n 6∧shF n 6 < 64)∧(1≤shF n 7∧shF n 7 < 64)∧(1≤shF n 8∧shF n 8 < 64)∧(1≤shF n 9∧shF n 9 < 64):=by
 obtain ⟨y0,y1,m0,m1,d0,d1⟩:=yaL h0 h1
 obtain ⟨-,g2,g3⟩:=yhh h0 h1
 obtain ⟨l0,l1⟩:=ybm (fY n) (fMo n)
 have lp:=ybn (fY n)
 have e0:shF n 0=n:=rfl
 have e1:shF n 1=fY n:=rfl
 have e2:shF n 2=fMo n:=rfl
 have e3:shF n 3=fD n:=rfl
 have e4:shF n 4=lenI (fY n) (fMo n) - fD n+1:=rfl
 have e5:shF n 5= (n % 7+3) % 7+1:=rfl
 have e6:shF n 6= (fD n - 1) / 7+1:=rfl
 have e7:shF n 7= (lenI (fY n) (fMo n) - fD n) / 7+1:=rfl
 have e8:shF n 8= (fOr n - 1) / 7+1:=rfl
 have e9:∀i,9≤i→shF n i= (365+yaO (fY n) - fOr n) / 7+1:=fun i hi=>by
  match i,hi with
  | (k+9),_=>rfl
 have e9':=e9 9 (by omega)
 refine ⟨fun i=>?_,by omega,by omega,by omega,by omega,by omega,by omega,by omega⟩
 by_cases h:9≤i
 ·have:=e9 i h; omega
 ·have:i=0∨i=1∨i=2∨i=3∨i=4∨i=5∨i=6∨i=7∨i=8:=by omega
  rcases this with rfl | rfl | rfl | rfl | rfl | rfl | rfl | rfl | rfl <;> omega
theorem rd_lt (r:Ru):ya7 r < 18446744073709551616∧domV r < 18446744073709551616∧endV r < 18446744073709551616∧ybE r < 18446744073709551616∧∀j,j < 8→woD r j < 18446744073709551616:=by
 refine ⟨?_,?_,?_,?_,fun j _=>?_⟩
 ·rw [ya7]; repeat' split
  all_goals first | exact yaP _ | decide +kernel | omega
 ·rw [domV]; repeat' split
  all_goals first | exact yaP _ | decide +kernel | omega
 ·rw [endV]; repeat' split
  all_goals first | exact yh5 _ | decide +kernel | omega
 ·rw [ybE]; repeat' split
  all_goals first | exact yaP _ | exact ygM _ | decide +kernel | omega
 ·rw [woD]; split
  ·exact yeK _ _
  ·omega
theorem woI_in (r:Ru):woI r=0∨woI r=1∨woI r=2:=by
 rw [woI]; split
 ·rw [yal]; split
  ·exact .inr (.inr rfl)
  ·exact .inr (.inl rfl)
 ·exact .inl rfl
theorem days_eq {r:Ru} {n:Int} (hc:yaf r=0) (h0:0≤n) (h1:n < 146097):yfD r (shF n)= (hasB (ya7 r) (shF n 2) && (hasB (domV r) (shF n 3) && (hasB (endV r) (shF n 4) && (hasB (ybE r) (shF n 5) && nthB (woI r) (woB r) (woD r) (shF n))))):=by
 obtain ⟨-,b2,b3,b4,b6,b7,b8,b9⟩:=shF_bd h0 h1
 rw [yfD,month_law hc b2.1 b2.2,←day_law hc b3.1 b3.2 b4.1 b4.2,←week_law hc (shF_wk n) b6 b7 b8 b9,Bool.and_assoc]
structure DwF (w:World) (r:Ru) (b9:Nat) (oI:Int) (oB:Bool) (oD:Nat→Nat) (W:World):Prop where
 rc:RcS w r W
 ot:OrdT W b9 oI oB oD
 l:b9 < W.heap.size
theorem DwF.keep {w W W':World} {r:Ru} {b9:Nat} {oI:Int} {oB:Bool} {oD:Nat→Nat} (h:DwF w r b9 oI oB oD W) (hb:Below W.heap.size W W'):DwF w r b9 oI oB oD W':=
 ⟨h.rc.keep hb,h.ot.below hb h.l,zH h.l hb.size⟩
structure DxF (w:World) (r:Ru) (b9:Nat) (oI:Int) (oB:Bool) (oD:Nat→Nat) (b10:Nat) (s:Nat→Int) (W:World):Prop where
 dw:DwF w r b9 oI oB oD W
 sh:ShS W b10 s
 l:b10 < W.heap.size
theorem DxF.keep {w W W':World} {r:Ru} {b9:Nat} {oI:Int} {oB:Bool} {oD:Nat→Nat} {b10:Nat} {s:Nat→Int} (h:DxF w r b9 oI oB oD b10 s W) (hb:Below W.heap.size W W'):DxF w r b9 oI oB oD b10 s W':=
 ⟨h.dw.keep hb,h.sh.below hb h.l,zH h.l hb.size⟩
end
section
open Go.RowKit
def yaz (f u:Int):Bool:=decide (max f 0≤min u 12622780799)
def yaq (f u:Int):Int:=if yaz f u then max f 0 else 0
def yap (f u:Int):Int:=if yaz f u then min u 12622780799 else -1
abbrev spv (f u:Int):Value:= .agg #[.int .i64 f, .int .i64 u]
theorem ya2 (f u:Int):(yaq f u=max f 0∧yap f u=min u 12622780799∧max f 0≤min u 12622780799)∨(yaq f u=0∧yap f u= -1∧¬max f 0≤min u 12622780799):=by
 unfold yaq yap yaz
 by_cases h:max f 0≤min u 12622780799
 ·left; rw [zzZ h]; exact ⟨rfl,rfl,h⟩
 ·right; rw [zzd h]; exact ⟨rfl,rfl,h⟩
theorem yfd:(Tryz.prog.info? 84).map (·.size)=some 2:=by kernel_rfl
theorem yhy (w:World):Calls Tryz.prog 127 #[] w fun e w'=>e= .returned (spv 0 (-1))∧Below w.heap.size w w':=by
 go_enter Tryz.func127,Tryz.ntmps127
 go_wp2
 refine bodyPost_ret (yad rfl _ _ w.heap.size 0 _ _ rfl (yau w _ _) Tryz.underlying84 rfl yfd) rfl ⟨rfl,yaa (Below.refl _ _) (zG _)⟩
theorem yc2 (w:World) (x:Obj) (l:List Value) (t:TypeId):((w.alloc x).alloc (.cells l.toArray t)).rangeAt (w.heap.size+1) 0 l:=by
 have h:=yau (w.alloc x) l t
 rwa [zzN] at h
theorem ycG {W:World} {b:Nat} {x y u0 u1:Value} (h0:W.cell? ⟨b,0,none⟩=some u0) (h1:W.cell? ⟨b,1,none⟩=some u1):((W.setCell ⟨b,0,none⟩ x).setCell ⟨b,1,none⟩ y).rangeAt b 0 [x,y]:=fun j v hv=>by
 have hne:(⟨b,1,none⟩:Addr)≠⟨b,0,none⟩:=by intro e; injection e with _ e _; cases e
 match j with
 | 0=>
   have e:x=v:=by simpa using hv
   rw [←e,zzL _ _ _ _ hne]
   exact zzW _ _ _ h0
 | 1=>
   have e:y=v:=by simpa using hv
   rw [←e]
   exact zzW _ _ _ (by rw [zzL _ _ _ _ hne.symm]; exact h1)
 | n+2=>simp at hv
theorem ret_sp {a b c d:Int} (h:a=c) (k:b=d):Ending.returned (spv a b)= .returned (spv c d):=by rw [h,k]
theorem ycj (f u:Int) (w:World):Calls Tryz.prog 80 #[spv f u] w fun e w'=>e= .returned (spv (yaq f u) (yap f u))∧Below w.heap.size w w':=by
 have c0:=hid (fun W=>yhy W)
 have h1:f < 0∨f=0∨0 < f:=by omega
 have h2:u < 12622780799∨u=12622780799∨12622780799 < u:=by omega
 rcases ya2 f u with ⟨e1,e2,h3⟩ | ⟨e1,e2,h3⟩
 ·rw [e1,e2]
  clear e1 e2
  rcases h1 with h1 | rfl | h1 <;> rcases h2 with h2 | rfl | h2
  all_goals
   go_enter Tryz.func80,Tryz.ntmps80
   go_wp2
   exact bodyPost_ret (yad rfl _ _ (w.heap.size+1) 0 _ _ rfl (yc2 w _ _ _) Tryz.underlying84 rfl yfd) rfl ⟨ret_sp (by omega) (by omega),yaa (yaa (Below.refl _ _) (zG _)) (by simp)⟩
 ·rw [e1,e2]
  clear e1 e2
  rcases h1 with h1 | rfl | h1 <;> rcases h2 with h2 | rfl | h2
  all_goals try (exfalso; omega)
  all_goals
   first
    | (have h4:u < 0:=(by omega); clear h3)
    | (have h4:u < f:=(by omega); clear h3)
    | (have h4:12622780799 < f:=(by omega); clear h3)
   go_enter Tryz.func80,Tryz.ntmps80
   go_wp2_with fail
   refine (c0.out _).mono ?_
   rintro e w1 ⟨rfl,hB1⟩
   have c1:=(hB1.cell (p:=⟨w.heap.size+1,0,none⟩) (by simp)).trans (show _ =some (.int .i64 0) by simp [go_sem])
   have c2:=(hB1.cell (p:=⟨w.heap.size+1,1,none⟩) (by simp)).trans (show _ =some (.int .i64 0) by simp [go_sem])
   have f1:=(hB1.frozen (p:=⟨w.heap.size+1,0,none⟩) (by simp)).trans (show _ =false by simp [go_sem])
   have f2:=(hB1.frozen (p:=⟨w.heap.size+1,1,none⟩) (by simp)).trans (show _ =false by simp [go_sem])
   have HB1:Hid (Below w.heap.size w w1):=(yaa (yaa (Below.refl _ _) (zG _)) (by simp)).trans (hB1.mono (by simp only [zzN]; omega))
   clear hB1
   go_wp2
   exact bodyPost_ret (yad rfl _ _ (w.heap.size+1) 0 _ _ rfl (ycG c1 c2) Tryz.underlying84 rfl yfd) rfl ⟨rfl,yab (yab HB1.out (by omega)) (by omega)⟩
def inSp (f u t:Int):Bool:=decide (yaq f u≤t) && decide (t≤yap f u)
theorem inSp_win {f u t:Int} (h0:0≤t) (h1:t < 12622780800):inSp f u t= (decide (f≤t) && decide (t≤u)):=by
 rw [inSp,zze]
 simp only [zzX,zzY]
 rcases ya2 f u with ⟨e1,e2,h3⟩ | ⟨e1,e2,h3⟩ <;> rw [e1,e2] <;> omega
theorem SIn_any (f u t:Int) (w:World):Calls Tryz.prog 40 #[spv f u, .int .i64 t] w fun e w'=>e= .returned (.bool (inSp f u t))∧Below w.heap.size w w':=by
 have c0:=hid (fun W=>ycj f u W)
 rw [inSp]
 obtain ⟨a,ha⟩:∃a,yaq f u=a:=⟨_,rfl⟩
 obtain ⟨b,hb⟩:∃b,yap f u=b:=⟨_,rfl⟩
 rw [ha,hb] at c0⊢
 clear ha hb
 by_cases h:a≤t
 ·have hd:decide (a≤t)=true:=zzZ h
  rw [hd]
  go_enter Tryz.func40,Tryz.ntmps40
  go_wp2_with fail
  refine (c0.out _).mono ?_
  rintro e w1 ⟨rfl,hB1⟩
  have c1:=(hB1.cell (p:=⟨w.heap.size,0,none⟩) (by simp)).trans (show _ =some (.int .i64 f) by simp [go_sem])
  have c2:=(hB1.cell (p:=⟨w.heap.size,1,none⟩) (by simp)).trans (show _ =some (.int .i64 u) by simp [go_sem])
  have f1:=(hB1.frozen (p:=⟨w.heap.size,0,none⟩) (by simp)).trans (show _ =false by simp [go_sem])
  have f2:=(hB1.frozen (p:=⟨w.heap.size,1,none⟩) (by simp)).trans (show _ =false by simp [go_sem])
  have HB1:Hid (Below w.heap.size w w1):=(yaa (Below.refl _ _) (zG _)).trans (hB1.mono (by simp))
  clear hB1
  go_wp2
  go_ret
  exact ⟨by simp,yab (yab HB1.out (zG _)) (zG _)⟩
 ·have hd:decide (a≤t)=false:=zzd h
  rw [hd]
  go_enter Tryz.func40,Tryz.ntmps40
  go_wp2_with fail
  refine (c0.out _).mono ?_
  rintro e w1 ⟨rfl,hB1⟩
  have c1:=(hB1.cell (p:=⟨w.heap.size,0,none⟩) (by simp)).trans (show _ =some (.int .i64 f) by simp [go_sem])
  have c2:=(hB1.cell (p:=⟨w.heap.size,1,none⟩) (by simp)).trans (show _ =some (.int .i64 u) by simp [go_sem])
  have f1:=(hB1.frozen (p:=⟨w.heap.size,0,none⟩) (by simp)).trans (show _ =false by simp [go_sem])
  have f2:=(hB1.frozen (p:=⟨w.heap.size,1,none⟩) (by simp)).trans (show _ =false by simp [go_sem])
  have HB1:Hid (Below w.heap.size w w1):=(yaa (Below.refl _ _) (zG _)).trans (hB1.mono (by simp))
  clear hB1
  go_wp2
  go_ret
  exact ⟨by simp,yab (yab HB1.out (zG _)) (zG _)⟩
end
section
open Go.RowKit
theorem yeT (p:Nat→Bool) (k:Nat) (hk:p k=true):∀N,k < N→∃bs,sel p N=sel p k ++ (k:Int) :: bs
 | 0,h=>by omega
 | N+1,h=>by
   by_cases e:k=N
   ·subst e; exact ⟨[],ydj hk⟩
   ·obtain ⟨bs,hb⟩:=yeT p k hk N (by omega)
    by_cases hp:p N=true
    ·exact ⟨bs ++ [(N:Int)],by rw [ydj hp,hb]; simp⟩
    ·exact ⟨bs,by rw [yfJ (by simpa using hp),hb]⟩
theorem yf8 {p:Nat→Bool} {n:Nat} (h:∀i,i < n→p i=false):sel p n= []:=by
 cases e:sel p n with
 | nil=>rfl
 | cons x xs=>
   have hx:x∈sel p n:=by rw [e]; simp
   obtain ⟨k,hk,hp,_⟩:=sel_mem.mp hx
   rw [h k hk] at hp; cases hp
def ycE (n:Int):List Int→Int
 | []=>-1
 | x :: xs=>if n < x then x else ycE n xs
theorem yfG (n:Int):∀l:List Int,(∀x∈l,¬n < x)→ycE n l= -1
 | [],_=>rfl
 | x :: xs,h=>by rw [ycE,if_neg (h x (by simp)),yfG n xs (fun y hy=>h y (by simp [hy]))]
theorem yiH (n y:Int) (bs:List Int) (hy:n < y):∀l:List Int,(∀x∈l,¬n < x)→ycE n (l ++ y :: bs)=y
 | [],_=>by simp [ycE,hy]
 | x :: xs,h=>by
   rw [List.cons_append,ycE,if_neg (h x (by simp)),yiH n y bs hy xs (fun z hz=>h z (by simp [hz]))]
theorem want_no {m:Nat} (n:Int) (hm:m < 18446744073709551616) (h:ybp m n=0):ycE n (sel m.testBit 64)= -1:=by
 refine yfG n _ (fun x hx hlt=>?_)
 obtain ⟨k,hk,hp,rfl⟩:=sel_mem.mp hx
 have:=ydu n k hm
 rw [h,hp] at this
 simp at this; omega
theorem want_yes {m:Nat} (n:Int) (hm:m < 18446744073709551616) (h:ybp m n≠0):ycE n (sel m.testBit 64)= (lsb (ybp m n):Int):=by
 obtain ⟨h1,h2,h3⟩:=yeC h (aboveM_lt hm)
 obtain ⟨k,hk⟩:∃k,lsb (ybp m n)=k:=⟨_,rfl⟩
 rw [hk] at h1 h2 h3⊢
 rw [ydu n k hm] at h2
 simp only [zzX,zzY] at h2
 obtain ⟨bs,hb⟩:=yeT m.testBit k h2.2 64 h1
 rw [hb]
 refine yiH n k bs h2.1 _ (fun x hx hlt=>?_)
 obtain ⟨j,hj,hp,rfl⟩:=sel_mem.mp hx
 have:=h3 j hj
 rw [ydu n j hm,hp] at this
 simp at this; omega
theorem first_no {m:Nat} (h:m=0):sel m.testBit 64= []:=yf8 (fun i _=>by subst h; simp)
theorem first_yes {m:Nat} (hm:m < 18446744073709551616) (h:m≠0):∃bs,sel m.testBit 64= (lsb m:Int) :: bs:=by
 obtain ⟨h1,h2,h3⟩:=yeC h hm
 obtain ⟨bs,hb⟩:=yeT m.testBit (lsb m) h2 64 h1
 rw [yf8 h3] at hb
 exact ⟨bs,hb⟩
end
section
open Go.RowKit Go.ChangeShapes Go.WideShapes
inductive Leaf where
 | int (k:IntKind)
 | bool
def Leaf.ok:Leaf→Value→Prop
 | .int k,v=>∃n,v= .int k n∧(Lit.int k n).wf=true
 | .bool,v=>∃b,v= .bool b
def oks:List Leaf→List Value→Prop
 | [],[]=>True
 | k :: ks,v :: vs=>k.ok v∧oks ks vs
 | _,_=>False
theorem yd6:∀{ks ls:List Leaf} {cs ds:List Value},oks ks cs→oks ls ds→oks (ks ++ ls) (cs ++ ds)
 | [],_,[],_,_,h=>h
 | k :: ks,ls,v :: vs,ds,h,h'=>⟨h.1,yd6 h.2 h'⟩
 | [],_,_ :: _,_,h,_=>h.elim
 | _ :: _,_,[],_,h,_=>h.elim
def ye9 (P:Program) (g:TypeId→Option (List Leaf)):List Field→Nat→Option (List Leaf)
 | [],_=>some []
 | f :: fs,o=>(g f.type).bind fun l=>if f.offset=o∧l.length=P.cellsOf f.type then (ye9 P g fs (o+l.length)).map (l ++ ·) else none
def yes (P:Program):Nat→TypeId→Option (List Leaf)
 | 0,_=>none
 | m+1,t=>
   match P.underlying t with
   | some (.int k)=>some [.int k]
   | some .bool=>some [.bool]
   | some (.struct fs)=>(ye9 P (yes P m) fs.toList 0).bind fun l=>if l.length=P.cellsOf t then some l else none
   | some (.array n e)=>(yes P m e).bind fun l=>if l.length=P.cellsOf e∧n * P.cellsOf e=P.cellsOf t then some (List.replicate n l).flatten else none
   | _=>none
section
variable {H:Type} {enc:TypeId × Value→H} {P:Program} {w:World} {base:Nat} {spare:Nat→Bool} {held:Bool}
theorem yjX {g:TypeId→Option (List Leaf)} {n:Nat} {cs:List Value}
  (hg:∀t ks c (x:DataW H × List MemPlace),g t=some ks→DataW.trod enc P w base spare held n t c=some x→oks ks c) :
  ∀(fs:List Field) (o:Nat) (ks:List Leaf),ye9 P g fs o=some ks→
   (∀f∈fs,∃x:DataW H × List MemPlace,DataW.trod enc P w base spare held n f.type ((cs.drop f.offset).take (P.cellsOf f.type))=some x)→cs.length=o+ks.length→oks ks (cs.drop o):=by
 intro fs
 induction fs with
 | nil=>
   intro o ks h _ hl
   simp [ye9] at h
   subst h
   rw [List.drop_of_length_le (by simp at hl; omega)]
   trivial
 | cons f fs ih=>
   intro o ks h hx hl
   simp only [ye9,Option.bind_eq_some_iff] at h
   obtain ⟨l,hgl,h⟩:=h
   split at h
   ·rename_i hc
    obtain ⟨ho,hlen⟩:=hc
    simp only [Option.map_eq_some_iff] at h
    obtain ⟨r,hr,rfl⟩:=h
    obtain ⟨x,hx1⟩:=hx f (by simp)
    have h1:=hg _ _ _ _ hgl hx1
    rw [ho,←hlen] at h1
    have h2:=ih (o+l.length) r hr (fun f hf=>hx f (by simp [hf])) (by simp at hl; omega)
    have:=yd6 h1 h2
    rw [←List.drop_drop] at this
    rwa [List.take_append_drop] at this
   ·cases h
theorem oks_rep (l:List Leaf) (cs:List Value):∀(n:Nat),cs.length=n * l.length→(∀i,i < n→oks l ((cs.drop (i * l.length)).take l.length))→oks (List.replicate n l).flatten cs:=by
 intro n
 induction n generalizing cs with
 | zero=>intro h _; simp at h; subst h; trivial
 | succ n ih=>
   intro h hx
   rw [List.replicate_succ,List.flatten_cons]
   have h0:=hx 0 (by omega)
   simp only [Nat.zero_mul,List.drop_zero] at h0
   have h1:=ih (cs.drop l.length) (by rw [List.length_drop,h,Nat.succ_mul]; omega) (fun i hi=>by
    have:=hx (i+1) (by omega)
    rw [List.drop_drop]
    rwa [Nat.succ_mul,Nat.add_comm] at this)
   have:=yd6 h0 h1
   rwa [List.take_append_drop] at this
theorem ycL:∀(m:Nat) {t:TypeId} {ks:List Leaf} {fuel:Nat} {cs:List Value} {x:DataW H × List MemPlace},yes P m t=some ks→DataW.trod enc P w base spare held fuel t cs=some x→oks ks cs
 | 0,_,_,_,_,_,h,_=>by simp [yes] at h
 | m+1,t,ks,fuel,cs,x,h,hx=>by
   unfold yes at h
   split at h
   ·rename_i k ht
    obtain ⟨n,rfl,_,hw⟩:=DataW.trod_int ht hx
    cases h
    exact ⟨⟨n,rfl,hw⟩,trivial⟩
   ·rename_i ht
    obtain ⟨b,rfl,_⟩:=DataW.trod_bool ht hx
    cases h
    exact ⟨⟨b,rfl⟩,trivial⟩
   ·rename_i fs ht
    obtain ⟨xs,n,rfl,_,hlen,hxl,hf⟩:=DataW.trod_struct ht hx
    simp only [Option.bind_eq_some_iff] at h
    obtain ⟨l,hl,h⟩:=h
    split at h
    ·rename_i hc
     cases h
     have:=yjX (cs:=cs) (enc:=enc) (P:=P) (w:=w) (base:=base) (spare:=spare) (held:=held) (n:=n) (fun t ks c x h1 h2=>ycL m h1 h2) fs.toList 0 ks hl (fun f hff=>by
      obtain ⟨i,hi,rfl⟩:=List.getElem_of_mem hff
      have h3:=hf i fs.toList[i] (by simp at hi⊢)
      have hi':i < xs.length:=by rw [hxl]; simpa using hi
      rw [zzp hi'] at h3
      exact ⟨_,h3⟩) (by omega)
     simpa using this
    ·cases h
   ·rename_i n e ht
    obtain ⟨xs,m',rfl,_,hlen,hxl,hf⟩:=DataW.trod_array ht hx
    simp only [Option.bind_eq_some_iff] at h
    obtain ⟨l,hl,h⟩:=h
    split at h
    ·rename_i hc
     cases h
     refine oks_rep l cs n (by rw [hlen,←hc.2,hc.1]) (fun i hi=>?_)
     have h3:=hf i hi
     rw [zzp (by omega)] at h3
     rw [hc.1]
     exact ycL m hl h3
    ·cases h
   ·cases h
theorem flat_get {n s:Nat} {C:Nat→List Value} (hC:∀i,i < n→(C i).length=s):((List.range n).flatMap C).length=n * s∧
  ∀i r,i < n→r < s→((List.range n).flatMap C)[i * s+r]? = (C i)[r]?:=by
 induction n with
 | zero=>exact ⟨by simp,fun i r hi=>by omega⟩
 | succ n ih=>
   obtain ⟨h1,h2⟩:=ih (fun i hi=>hC i (by omega))
   rw [List.range_succ,List.flatMap_append]
   refine ⟨by simp [h1,hC n (by omega),Nat.succ_mul],fun i r hi hr=>?_⟩
   by_cases hin:i < n
   ·rw [List.getElem?_append_left,h2 i r hin hr]
    rw [h1]
    calc i * s+r < i * s+s:=by omega
     _ = (i+1) * s:=by rw [Nat.succ_mul]
     _≤n * s:=Nat.mul_le_mul_right _ hin
   ·obtain rfl:i=n:=by omega
    rw [List.getElem?_append_right (by rw [h1]; omega),h1,Nat.add_sub_cancel_left]
    simp
theorem yg2 {t e:TypeId} {fuel m:Nat} {ks:List Leaf} {v:Value} {x:DataW H × List MemPlace} (ht:P.underlying t=some (.slice e)) (hk:yes P m e=some ks) (hkl:ks.length=P.cellsOf e) (hpos:0 < ks.length)
  (h:DataW.trod enc P w base spare held fuel t [v]=some x) :
  ∃(a:Option Addr) (n cap:Nat) (cells:List Value),v= .slice a n cap∧n≤cap∧cap≤maxLen∧cells.length=n * ks.length∧Sl w a cells∧(a=none→cap=0)∧∀i,i < n→oks ks ((cells.drop (i * ks.length)).take ks.length):=by
 rcases Go.Deep.open_slice ht h with ⟨h1,_⟩ | ⟨a,len,cap,mm,nn,D,Pl,h1,hb,hl,hm,hmm,rfl,hx⟩
 ·simp at h1; subst h1
  exact ⟨none,0,0,[],rfl,zG _,by unfold maxLen; omega,by simp, .inl rfl,fun _=>rfl,fun i hi=>by omega⟩
 ·simp at h1; subst h1
  have hlm:len≤mm:=by rw [hmm]; split <;> omega
  obtain ⟨C,hC⟩:=Go.Deep.choose_lt (α:=List Value) (p:=fun i c=>w.cells? base (a.add (i * P.cellsOf e)) (P.cellsOf e)=some c∧DataW.trod enc P w base spare held nn e c=some (D i,Pl i)) (fun i hi=>hx i hi)
  have hCl:∀i,i < len→(C i).length=ks.length:=fun i hi=>by rw [hkl]; exact (World.cells?_some (hC i (by omega)).1).2.1
  obtain ⟨hfl,hfg⟩:=flat_get hCl
  refine ⟨some a,len,cap,(List.range len).flatMap C,rfl,hl,hm,hfl,?_,fun h=>(by cases h),?_⟩
  ·rcases Nat.eq_zero_or_pos len with h0 | h0
   ·subst h0; exact .inl rfl
   ·obtain ⟨_,_,hc0⟩:=World.cells?_some (hC 0 (by omega)).1
    have hc00:=hc0 0 (by omega)
    rw [zzp (by rw [hCl 0 h0]; omega)] at hc00
    have hsp:(a.add (0 * P.cellsOf e)).add 0=a:=by simp [Addr.add]
    rw [hsp] at hc00
    have hspot:=World.cell?_spot hc00
    obtain ⟨b,off,spot⟩:=a
    simp at hspot
    subst hspot
    refine .inr ⟨b,off,rfl,World.block_lt_of_cell? w _ hc00,fun j hj=>?_⟩
    rw [hfl] at hj
    have hi:j / ks.length < len:=Nat.div_lt_of_lt_mul (by rwa [Nat.mul_comm] at hj)
    have hr:j % ks.length < ks.length:=Nat.mod_lt _ hpos
    have hj2:j / ks.length * ks.length+j % ks.length=j:=by rw [Nat.mul_comm]; exact Nat.div_add_mod _ _
    have h1:=hfg _ _ hi hr
    rw [hj2] at h1
    obtain ⟨_,_,hc⟩:=World.cells?_some (hC _ (by omega:j / ks.length < mm)).1
    have h2:=hc (j % ks.length) (by omega)
    rw [Addr.add_lit,Addr.add_lit,←hkl,Nat.add_assoc,hj2,←h1,zzp (by rw [hfl]; exact hj)] at h2
    exact h2
  ·intro i hi
   have e:(((List.range len).flatMap C).drop (i * ks.length)).take ks.length=C i:=by
    apply List.ext_getElem?
    intro r
    by_cases hr:r < ks.length
    ·rw [List.getElem?_take_of_lt hr,List.getElem?_drop,hfg i r hi hr]
    ·rw [List.getElem?_eq_none (by rw [List.length_take]; omega),List.getElem?_eq_none (by rw [hCl i hi]; omega)]
   rw [e]
   exact ycL m hk (hC i (by omega)).2
end
theorem wf_i64 {n:Int} (h:(Lit.int .i64 n).wf=true):-9223372036854775808≤n∧n≤9223372036854775807:=by
 have h1:IntKind.i64.min= -9223372036854775808:=by decide
 have h2:=h
 simp [Lit.wf,h1] at h2
 exact h2
def u64s (l:List Nat):List Value:=l.map fun (n:Nat)=>Value.int .u64 (n:Int)
theorem yiW:∀{cells:List Value} {n:Nat},cells.length=n * 1→(∀i,i < n→oks [.int .i64] ((cells.drop (i * 1)).take 1))→∃l:List Int,cells=ints l∧l.length=n∧∀x∈l,-9223372036854775808≤x∧x≤9223372036854775807
 | [],n,h,_=>⟨[],rfl,by simp at h; simp [h],by simp⟩
 | v :: cells,0,h,_=>by simp at h
 | v :: cells,n+1,h,hk=>by
   obtain ⟨l,e,hl,hb⟩:=yiW (cells:=cells) (n:=n) (by simp at h⊢; omega) (fun i hi=>by have:=hk (i+1) (by omega); simpa using this)
   have h0:=hk 0 (by omega)
   simp at h0
   obtain ⟨⟨x,rfl,hw⟩,_⟩:=h0
   exact ⟨x :: l,by rw [e]; rfl,by simp [hl],fun y hy=>by
    rcases List.mem_cons.1 hy with rfl | hy
    ·exact wf_i64 hw
    ·exact hb y hy⟩
end
section
open Go.RowKit
theorem yeN (l:List Nat):(u64s l).length=l.length:=by simp [u64s]
theorem Sl.atU64 {w:World} {a:Option Addr} {l:List Nat} (h:Sl w a (u64s l)) {k:Nat} (hk:k < l.length) :
  ∃b off,a=some ⟨b,off,none⟩∧b < w.heap.size∧∀j (h:j < l.length),w.cell? ⟨b,off+j,none⟩=some (.int .u64 l[j]):=by
 obtain ⟨b,off,rfl,hlt,hc⟩:=Sl.at h (k:=k) (by rw [yeN]; exact hk)
 refine ⟨b,off,rfl,hlt,fun j hj=>?_⟩
 rw [hc j (by rw [yeN]; exact hj)]
 simp [u64s]
def yfC (m:Nat) (l:List Nat):Nat:=l.foldl (fun x y=>x &&& y) m
def andM (l:List Nat):Nat:=if l.length=0 then 0 else yfC 18446744073709551615 l
theorem foldM_lt {m:Nat} (hm:m < 18446744073709551616):∀l:List Nat,yfC m l < 18446744073709551616:=by
 intro l
 induction l generalizing m with
 | nil=>exact hm
 | cons x xs ih=>exact ih (ybk (b:=x) hm)
theorem yj8 (m:Nat) (l:List Nat) (k:Nat) (hk:k < l.length):yfC m (l.take k) &&& l[k]=yfC m (l.take (k+1)):=by
 rw [List.take_add_one,zzp hk,yfC,yfC,List.foldl_append]; rfl
theorem MAll_any (a:Option Addr) (cap:Nat) (l:List Nat) (w:World) (hl:l.length≤9223372036854775807) (hs:Sl w a (u64s l)) (hb:∀x∈l,x < 18446744073709551616) :
  Calls Tryz.prog 197 #[.slice a l.length cap] w fun e w'=>e= .returned (.func (.func 198) #[] #[.pointer (some ⟨w.heap.size,0,none⟩)])∧
   w'.cell? ⟨w.heap.size,0,none⟩=some (.int .u64 (andM l))∧Below w.heap.size w w'∧w.heap.size < w'.heap.size:=by
 go_enter Tryz.func197,Tryz.ntmps197
 by_cases h0:l.length=0
 ·have hr:Hid (andM l=0):=if_pos h0
  go_wp2
  go_loopw [5,11] (fun _ i wr=>i= .int .i64 0∧wr=w.alloc (.cells #[.int .u64 0] 28)) (fun _ _ _=>0)
  case atStart=>exact ⟨rfl,rfl⟩
  case round=>
   obtain ⟨rfl,rfl⟩:=hrel
   go_wp2
   go_ret
   refine ⟨rfl,?_,yaa (Below.refl _ _) (zG _),by simp [go_sem]⟩
   rw [hr.out]; simp [go_sem]
 ·have hr:Hid (andM l=yfC 18446744073709551615 l):=if_neg h0
  go_wp2
  go_loopw [5,11] (fun _ i wr=>∃k:Nat,i= .int .i64 k∧k≤l.length∧wr.cell? ⟨w.heap.size,0,none⟩=some (.int .u64 (yfC 18446744073709551615 (l.take k)))∧wr.frozen? ⟨w.heap.size,0,none⟩=false∧Below w.heap.size w wr∧w.heap.size < wr.heap.size) (fun _ i _=>l.length - (intOf i).toNat)
  case atStart=>exact ⟨0,rfl,by omega,by simp [go_sem,yfC],by simp [go_sem],yaa (Below.refl _ _) (zG _),by simp [go_sem]⟩
  case round=>
   obtain ⟨k,rfl,hk,hbox,hfz,hB,hlt⟩:=hrel
   by_cases hkl:k < l.length
   ·obtain ⟨b,off,rfl,hbk,hc⟩:=hs.atU64 hkl
    have e1:=(hB.cell (p:=⟨b,off+k,none⟩) hbk).trans (hc k hkl)
    have hf:=hid (yj8 18446744073709551615 l k hkl)
    have hM:=foldM_lt (m:=18446744073709551615) (by omega) (l.take k)
    have hx:=hb l[k] (by simp)
    obtain ⟨x,hxe⟩:∃x,l[k]=x:=⟨_,rfl⟩
    obtain ⟨M,hMe⟩:∃M,yfC 18446744073709551615 (l.take k)=M:=⟨_,rfl⟩
    rw [hxe] at e1 hf hx
    rw [hMe] at hf hbox hM
    have hand:=hid (yaE hM hx)
    have hne:b≠w.heap.size:=by omega
    clear hs hc hxe hMe hb
    go_wp2
    exact ⟨⟨k+1,by go_num,by omega,by rw [←hf.out,hand.out]; simp [go_sem,hbox],by simp [go_sem,hfz],yab hB (zG _),by simpa [go_sem] using hlt⟩,by simp [intOf]; omega⟩
   ·have hke:l.take k=l:=List.take_of_length_le (by omega)
    rw [hke] at hbox
    have Hke:Hid (k=l.length):=by show k=l.length; omega
    clear hke hb hs
    go_wp2
    go_ret
    exact ⟨rfl,by rw [hr.out]; exact hbox,hB,hlt⟩
end
section
open Go.RowKit
abbrev WF (r:Option Nat):Fence:={fn:=fun _=>True,depth:=none,alive:=false,round:=r}
theorem wf_calls {r:Option Nat} {n:Nat} {P:Program} {f:FuncId} {args:Array Value} {w:World} {R:Ending→World→Prop}:CallsIn (WF r) n P f args w R↔Calls P f args w R:=callsIn_wide (n:=n)
def CallV (P:Program) (y:Value) (args:Array Value) (W:World) (R:Ending→World→Prop):Prop:=
 (∃f cap,y= .func (.func f) #[] cap∧(∀args w,(callFunc f args).run P w= .ok (.enter f args) w)∧Calls P f (args ++ cap) W R)∨
 (∃l fn tmps assign body,y= .func (.yield l) #[] #[]∧(Instr.yield l args).run P W= .ok (.round l fn tmps assign body) W∧∀n,RoundIn (WF none) n P l fn tmps assign body W R)
theorem CallV.mono {P:Program} {y:Value} {args:Array Value} {W:World} {R R':Ending→World→Prop} (h:CallV P y args W R) (hr:∀e w',R e w'→R' e w'):CallV P y args W R':=by
 rcases h with ⟨f,cap,h1,h2,h3⟩ | ⟨l,fn,tmps,assign,body,h1,h2,h3⟩
 ·exact .inl ⟨f,cap,h1,h2,h3.mono hr⟩
 ·exact .inr ⟨l,fn,tmps,assign,body,h1,h2,fun n=>(h3 n).mono hr⟩
theorem callv {r:Option Nat} {n:Nat} {P:Program} {ops:Array Oper} {rest:List Oper} {o:Oper} {a:Act} {Q:Exit→Act→World→Prop} {W:World} (s x:Operand) (t:TypeId)
  (hgd:o.guard=none) (ho:o.op= .call {callee:= .value s,args:=#[x],argTypes:=#[t]}) {y u:Value} (hs:a.eval s=y) (hx:a.eval x=u) {R:Ending→World→Prop}
  (h:CallV P y #[u] W R) (hK:∀e W',R e W'→∃v,e= .returned v∧wpListIn (WF r) n P ops Q rest (a.put o.dst v) W') :
  wpListIn (WF r) n P ops Q (o :: rest) a W:=by
 refine wpListIn_plain hgd fun K hK'=>?_
 unfold Oper.wpIn
 refine ⟨fun _ _=>trivial,?_⟩
 rw [Oper.semAt_plain (WF r) _ _ (by rw [ho]; intro c hc; cases hc)]
 rcases h with ⟨f,cap,rfl,he,hc⟩ | ⟨l,fn,tmps,assign,body,rfl,hy,hc⟩
 ·simp [execOp,ho,resolve,invoke,hs,hx,he,Deferred.ofValue]
  rw [Oper.uponIn_enter]
  refine ⟨fun h=>(by cases h),wf_calls.mpr ((show Calls P f (#[u] ++ cap) W R from hc).mono fun e w' hr=>?_)⟩
  obtain ⟨v,rfl,hw⟩:=hK e w' hr
  exact hK' _ _ hw
 ·simp [execOp,ho,resolve,invoke,hs,hx,hy,Deferred.ofValue]
  rw [Oper.uponIn_round]
  refine ⟨fun h=>(by cases h),RoundIn.mono (hc _) fun e w' hr=>?_⟩
  obtain ⟨v,rfl,hw⟩:=hK e w' hr
  exact hK' _ _ hw
structure Eff (O:Nat→Prop) (W W':World):Prop where
 os:W'.os=W.os
 tape:W'.tape=W.tape
 output:W'.output=W.output
 size:W.heap.size≤W'.heap.size
 block:∀k,k < W.heap.size→¬O k→W'.heap[k]? =W.heap[k]?
theorem Eff.refl (O:Nat→Prop) (W:World):Eff O W W:=⟨rfl,rfl,rfl,zG _,fun _ _ _=>rfl⟩
theorem Eff.trans {O O':Nat→Prop} {A B C:World} (h:Eff O A B) (k:Eff O' B C) (hO:∀b,O' b→O b∨A.heap.size≤b):Eff O A C:=
 ⟨k.os.trans h.os,k.tape.trans h.tape,k.output.trans h.output,zI h.size k.size,fun i hi hn=>
  (k.block i (zH hi h.size) (fun ho=>by rcases hO i ho with h1 | h1; exact hn h1; omega)).trans (h.block i hi hn)⟩
theorem Eff.cell {O:Nat→Prop} {W W':World} (h:Eff O W W') {p:Addr} (hp:p.block < W.heap.size) (hn:¬O p.block):W'.cell? p=W.cell? p:=zzJ (w:=W) (h.block p.block hp hn)
theorem Eff.of_below {O:Nat→Prop} {W W':World} (h:Below W.heap.size W W'):Eff O W W':=⟨h.os,h.tape,h.output,h.size,fun k hk _=>h.block k hk⟩
theorem Eff.below {O:Nat→Prop} {W W':World} {B:Nat} (h:Eff O W W') (hO:∀b,O b→B≤b) (hB:B≤W.heap.size):Below B W W':=
 ⟨h.os,h.tape,h.output,h.size,fun k hk=>h.block k (by omega) (fun ho=>by have:=hO k ho; omega)⟩
structure Client (P:Program) (y:Value) (xs:List Int) (J Jx:Nat→(Nat→Prop)→World→Prop):Prop where
 stab:∀k O W W',J k O W→W.heap.size≤W'.heap.size→(∀b,O b→W'.heap[b]? =W.heap[b]?)→J k O W'
 stabx:∀k O W W',Jx k O W→W.heap.size≤W'.heap.size→(∀b,O b→W'.heap[b]? =W.heap[b]?)→Jx k O W'
 lt:∀k O W,J k O W→∀b,O b→b < W.heap.size
 ltx:∀k O W,Jx k O W→∀b,O b→b < W.heap.size
 call:∀k O W,(hk:k < xs.length)→J k O W→CallV P y #[.int .i64 xs[k]] W fun e W'=>∃O':Nat→Prop,(∀b,O b→O' b)∧(∀b,O' b→O b∨W.heap.size≤b)∧Eff O W W'∧
  ((e= .returned (.bool true)∧J (k+1) O' W')∨(e= .returned (.bool false)∧Jx (k+1) O' W'))
def Told (xs:List Int) (J Jx:Nat→(Nat→Prop)→World→Prop) (O:Nat→Prop) (W:World) (W':World):Prop:=
 ∃O':Nat→Prop,(∀b,O b→O' b)∧(∀b,O' b→O b∨W.heap.size≤b)∧Eff O W W'∧(J xs.length O' W'∨∃k,1≤k∧k≤xs.length∧Jx k O' W')
end
section
open Go.RowKit
theorem yaH (p:Nat→Bool):∀n,(sel p n).Pairwise (·< ·)
 | 0=>by simp [yiO]
 | n+1=>by
   by_cases h:p n=true
   ·rw [ydj h,List.pairwise_append]
    refine ⟨yaH p n,by simp,fun x hx y hy=>?_⟩
    obtain ⟨k,hk,_,rfl⟩:=sel_mem.mp hx
    obtain rfl:y= (n:Int):=by simpa using hy
    omega
   ·rw [yfJ (by simpa using h)]; exact yaH p n
theorem yfF (n:Int) (r:List Int):∀l:List Int,(∀x∈l,¬n < x)→ycE n (l ++ r)=ycE n r
 | [],_=>rfl
 | x :: xs,h=>by rw [List.cons_append,ycE,if_neg (h x (by simp)),yfF n r xs (fun z hz=>h z (by simp [hz]))]
theorem yjC {l:List Int} (h:l.Pairwise (·< ·)) (k:Nat) (hk:k < l.length):ycE l[k] l=if hn:k+1 < l.length then l[k+1] else -1:=by
 have h1:ycE l[k] l=ycE l[k] (l.drop (k+1)):=by
  have gen:∀x,(∀y∈l.take (k+1),¬x < y)→ycE x l=ycE x (l.drop (k+1)):=fun x hx=>by
   have:=yfF x (l.drop (k+1)) (l.take (k+1)) hx
   rwa [List.take_append_drop] at this
  refine gen _ (fun x hx=>?_)
  obtain ⟨j,hj,rfl⟩:=List.mem_take_iff_getElem.mp hx
  have hj':j≤k:=by omega
  rcases Nat.lt_or_ge j k with hjk | hjk
  ·have:=List.pairwise_iff_getElem.mp h j k (by omega) hk hjk; omega
  ·obtain rfl:j=k:=by omega
   omega
 rw [h1]
 by_cases hn:k+1 < l.length
 ·rw [dif_pos hn,List.drop_eq_getElem_cons hn,ycE,if_pos (List.pairwise_iff_getElem.mp h k (k+1) hk hn (by omega))]
 ·rw [dif_neg hn,List.drop_of_length_le (by omega)]; rfl
theorem yjH {p:Nat→Bool} {n:Nat} (k:Nat) (hk:k < (sel p n).length):0≤(sel p n)[k]:=by
 obtain ⟨j,_,_,e⟩:=sel_mem.mp (zzr hk)
 omega
theorem next_at {m:Nat} (hm:m < 18446744073709551616) (k:Nat) (hk:k < (sel m.testBit 64).length) :
  ybK (ybp m (sel m.testBit 64)[k])=decide (k+1 < (sel m.testBit 64).length)∧yb3 (ybp m (sel m.testBit 64)[k])= (sel m.testBit 64).getD (k+1) 0:=by
 have hw:=yjC (yaH m.testBit 64) k hk
 by_cases ha:ybp m (sel m.testBit 64)[k]=0
 ·rw [want_no _ hm ha] at hw
  have hn:¬k+1 < (sel m.testBit 64).length:=fun hn=>by
   rw [dif_pos hn] at hw
   have:=yjH (k+1) hn
   omega
  rw [ha]
  refine ⟨by simp [ybK,hn],?_⟩
  rw [List.getD_eq_getElem?_getD,List.getElem?_eq_none (by omega)]; rfl
 ·rw [want_yes _ hm ha] at hw
  have hn:k+1 < (sel m.testBit 64).length:=Decidable.byContradiction fun hn=>by
   rw [dif_neg hn] at hw; omega
  rw [dif_pos hn] at hw
  refine ⟨by simp [ybK,hn,ha],?_⟩
  rw [yb3,if_neg ha,hw,List.getD_eq_getElem?_getD,zzp hn]; rfl
theorem least_at {m:Nat} (hm:m < 18446744073709551616):ybK m=decide (0 < (sel m.testBit 64).length)∧yb3 m= (sel m.testBit 64).getD 0 0:=by
 by_cases h0:m=0
 ·rw [first_no h0]; simp [ybK,yb3,h0]
 ·obtain ⟨bs,hb⟩:=first_yes hm h0
  rw [hb]; simp [ybK,yb3,h0]
attribute [local go_sem] Oper.semAt_some
theorem Tab.eff {O:Nat→Prop} {W W':World} (h:Tab W) (hE:Eff O W W') (hn:¬O 0):Tab W':=
 ⟨zH h.1 hE.size,fun i hi=>(hE.cell (p:=⟨0,i,none⟩) h.1 hn).trans (h.2 i hi)⟩
def twOf:Value→Nat
 | .bool true=>1
 | _=>0
theorem yiP {p:Nat→Bool} (k:Nat) (hk:k < (sel p 64).length):0≤(sel p 64)[k]∧(sel p 64)[k]≤63:=by
 obtain ⟨j,hj,_,e⟩:=sel_mem.mp (zzr hk)
 omega
theorem sel_less {p:Nat→Bool} (k:Nat) (hj:k < (sel p 64).length) (hk:k+1 < (sel p 64).length):(sel p 64)[k] < (sel p 64)[k+1]:=
 List.pairwise_iff_getElem.mp (yaH p 64) k (k+1) (by omega) hk (by omega)
end
end Go.Proofs.YtjahgimnfliooaaGreatDoor
