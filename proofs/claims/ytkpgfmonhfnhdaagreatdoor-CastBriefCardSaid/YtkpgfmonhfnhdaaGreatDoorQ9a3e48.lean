/-
  The seconds of three lists of hours, minutes and seconds, rising; and that tod.Next's answer is the first one from a second on.
  ferialaw07.lives answers true.
  What feriaref07.Held, tod.Last and tod.Len compute.
  The first second from one on by a search through the list; the last one; how many.
  Discs: their words in a block; what the small functions of disc compute.
  What a disc's Put, and disc.Of, compute.
  What feriaref15's functions compute: lists of seconds.
-/
import Derived.Test.YtkpgfmonhfnhdaaGreatDoorQ3e71e3
import Derived.Test.YtkpgfmonhfnhdaaGreatDoorQe2101f
import Derived.Test.YtkpgfmonhfnhdaaGreatDoorQ5411a8
import Derived.Test.YtkpgfmonhfnhdaaGreatDoorQd4b665
namespace Go.Proofs.YtkpgfmonhfnhdaaGreatDoor
set_option linter.unusedVariables false
section
open Go.RowKit
def ya5 (h m:Int) (S:List Int):List Int:=S.map (fun s=>3600 * h+60 * m+s)
def yaj (h:Int) (M S:List Int):List Int:=M.flatMap (fun m=>ya5 h m S)
def secs (H M S:List Int):List Int:=H.flatMap (fun h=>yaj h M S)
theorem mem_secs {H M S:List Int} {x:Int}:x∈secs H M S↔∃h m s,h∈H∧m∈M∧s∈S∧x=3600 * h+60 * m+s:=by
 simp only [secs,yaj,ya5,List.mem_flatMap,List.mem_map]
 constructor
 ·rintro ⟨h,hh,m,hm,s,hs,rfl⟩; exact ⟨h,m,s,hh,hm,hs,rfl⟩
 ·rintro ⟨h,m,s,hh,hm,hs,rfl⟩; exact ⟨h,hh,m,hm,s,hs,rfl⟩
theorem yc1 (h m:Int) (S:List Int):(ya5 h m S).length=S.length:=by simp [ya5]
theorem ycs (h:Int) (M S:List Int):(yaj h M S).length=M.length * S.length:=by
 induction M with
 | nil=>simp [yaj]
 | cons m M ih=>
   have:yaj h (m :: M) S=ya5 h m S ++ yaj h M S:=by simp [yaj]
   rw [this,List.length_append,ih,yc1,List.length_cons,Nat.succ_mul]; omega
theorem yh9 (H M S:List Int):(secs H M S).length=H.length * (M.length * S.length):=by
 induction H with
 | nil=>simp [secs]
 | cons h H ih=>
   have:secs (h :: H) M S=yaj h M S ++ secs H M S:=by simp [secs]
   rw [this,List.length_append,ih,ycs,List.length_cons,Nat.succ_mul]; omega
theorem yhl {H M S:List Int} (hH:H.Pairwise (·< ·)) (hM:M.Pairwise (·< ·)) (hS:S.Pairwise (·< ·)) (bM:∀m∈M,0≤m∧m≤59) (bS:∀s∈S,0≤s∧s≤59):(secs H M S).Pairwise (·< ·):=by
 have row:∀h m,(ya5 h m S).Pairwise (·< ·):=fun h m=>List.pairwise_map.mpr (hS.imp (fun {a b} hab=>by omega))
 have inRow:∀h m x,x∈ya5 h m S→3600 * h+60 * m≤x∧x < 3600 * h+60 * m+60:=fun h m x hx=>by
  obtain ⟨s,hs,rfl⟩:=List.mem_map.mp hx
  have:=bS s hs
  omega
 have hour:∀h (M':List Int),M'.Pairwise (·< ·)→(yaj h M' S).Pairwise (·< ·):=fun h M' hM'=>by
  induction M' with
  | nil=>simp [yaj]
  | cons m M' ih=>
    have e:yaj h (m :: M') S=ya5 h m S ++ yaj h M' S:=by simp [yaj]
    rw [e,List.pairwise_append]
    rw [List.pairwise_cons] at hM'
    refine ⟨row h m,ih hM'.2,fun x hx y hy=>?_⟩
    obtain ⟨m2,hm2,hy⟩:=List.mem_flatMap.mp hy
    have h1:=inRow h m x hx
    have h2:=inRow h m2 y hy
    have:=hM'.1 m2 hm2
    omega
 have inHour:∀h x,x∈yaj h M S→3600 * h≤x∧x < 3600 * h+3600:=fun h x hx=>by
  obtain ⟨m,hm,hx⟩:=List.mem_flatMap.mp hx
  have h1:=inRow h m x hx
  have:=bM m hm
  omega
 induction H with
 | nil=>simp [secs]
 | cons h H ih=>
   have e:secs (h :: H) M S=yaj h M S ++ secs H M S:=by simp [secs]
   rw [e,List.pairwise_append]
   rw [List.pairwise_cons] at hH
   refine ⟨hour h M hM,ih hH.2,fun x hx y hy=>?_⟩
   obtain ⟨h2,hh2,hy⟩:=List.mem_flatMap.mp hy
   have h1:=inHour h x hx
   have h3:=inHour h2 y hy
   have:=hH.1 h2 hh2
   omega
theorem yhv {m:Nat} {x:Int}:x∈sel m.testBit 64↔∃k:Nat,k < 64∧m.testBit k=true∧x= (k:Int):=sel_mem
theorem hasB_spec {m:Nat} {n:Int} (hm:m < 18446744073709551616):hasB m n=true↔n∈sel m.testBit 64:=by
 rw [yhv]
 simp only [hasB,Bool.and_eq_true,decide_eq_true_eq]
 constructor
 ·rintro ⟨h1,h2⟩
  refine ⟨n.toNat,?_,h2,by omega⟩
  rcases Nat.lt_or_ge n.toNat 64 with h | h
  ·exact h
  ·rw [ycn hm h] at h2; cases h2
 ·rintro ⟨k,_,hb,rfl⟩
  exact ⟨by omega,by simpa using hb⟩
end
section
open Go.RowKit
end
section
open Go.RowKit
theorem held_law (x t:Nat) (ht:t < 64) (hx:x < 18446744073709551616):ofM (sel x.testBit (t+1))=cutM x t:=by
 symm
 refine ydv (yb7 _ hx) (fun i hi=>?_)
 rw [ydA,inB,Bool.eq_iff_iff]
 simp only [Bool.and_eq_true,decide_eq_true_eq,sel_mem]
 constructor
 ·rintro ⟨h1,h2,h3⟩; exact ⟨i,by omega,h1,rfl⟩
 ·rintro ⟨k,h1,h2,h3⟩
  have:i=k:=by omega
  subst this
  exact ⟨h2,hi,by omega⟩
set_option maxHeartbeats 800000 in
theorem yeX (x t:Nat) (w:World) (hx:x < 18446744073709551616) (ht:t < 64) :
  Calls Tryz.prog 79 #[.int .u64 x, .int .i64 t] w fun e w'=>e= .returned (.int .u64 (cutM x t))∧Below w.heap.size w w':=by
 have H1:=hid (fun n W=>ybv x n W hx)
 have HL:=hid (held_law x t ht hx)
 go_enter Tryz.func79,Tryz.ntmps79
 go_wp2
 go_loopw [5,6] (fun v i wr=>∃(n m cap:Nat) (a:Option Addr),i= .int .i64 n∧n≤t+1∧v= .slice a m cap∧m= (sel x.testBit n).length∧m≤n∧wr.ownsRow w.heap.size 3 1 (.slice a m cap) m (ints (sel x.testBit n))∧Below w.heap.size w wr) (fun _ i _=>(64 - intOf i).toNat)
 case atStart=>exact ⟨0,0,0,none,rfl,by omega,rfl,rfl,by omega,World.ownsRow_nil _ _ _ _,Below.refl _ _⟩
 case round=>
  obtain ⟨n,m,cap,a,rfl,hn,rfl,hme,hm,hown,hB⟩:=hrel
  have hsz:=hB.size
  by_cases hlt:n≤t
  ·have H2:=hid (ycw x n ▸ H1.out n wr)
   have Hme:=hid hme
   clear hme
   by_cases hb:x.testBit n=true
   ·have Hy:=hid (ybB hb)
    rw [hb] at H2
    clear hb
    go_wp2_with fail
    refine H2.out.mono ?_
    rintro e w1 ⟨rfl,rfl⟩
    go_wp2_with (at_builtin; refine app1 eInt (.tmp 15) (.tmp 17) rfl rfl rfl rfl rfl hown rfl (by omega) (by omega) hsz ?_)
    intro a' cap' w' hown2 hg2 hb2 hf2
    have hB2:=hB.trans hb2
    rw [←yb1,←yaJ,←Hy.out] at hown2
    go_wp2
    exact ⟨⟨n+1,m+1,cap',a',by go_num,by omega,rfl,by rw [Hy.out,List.length_append,←Hme.out]; rfl,by omega,hown2,hB2⟩,by simp [intOf]; omega⟩
   ·have hb':x.testBit n=false:=by simpa using hb
    have Hy:=hid (ycH hb')
    rw [hb'] at H2
    clear hb hb'
    go_wp2_with (go_at_call 16; refine H2.out.mono ?_; rintro e w1 ⟨rfl,rfl⟩)
    exact ⟨⟨n+1,m,cap,a,by go_num,by omega,rfl,by rw [Hy.out]; exact Hme.out,by omega,by rw [Hy.out]; exact hown,hB⟩,by simp [intOf]; omega⟩
  ·obtain rfl:n=t+1:=by omega
   have HO:=ROf_any a cap (sel x.testBit (t+1)) wr (by omega) (yeC hown)
   rw [HL.out,←hme] at HO
   have HO':=hid HO
   have HB:=hid hB
   clear hme hown HO hB
   go_wp2_with fail
   refine HO'.out.mono ?_
   rintro e w1 ⟨rfl,hb⟩
   go_wp2
   go_ret
   exact ⟨rfl,HB.out.trans (hb.mono HB.out.size)⟩
def lenT (a b c:Nat):Nat:=Lib.popAux 64 a * Lib.popAux 64 b * Lib.popAux 64 c
theorem yfM (m:Nat):Lib.popAux 64 m≤64:=by rw [←ydK]; exact ya1 _ _
set_option maxHeartbeats 800000 in
theorem TLen_any (hs ms ss:Nat) (w:World) (hh:hs < 18446744073709551616) (hm:ms < 18446744073709551616) (hss:ss < 18446744073709551616) :
  Calls Tryz.prog 60 #[.int .u64 hs, .int .u64 ms, .int .u64 ss] w fun e w'=>e= .returned (.int .i64 (lenT (cutM hs 23) (cutM ms 59) (cutM ss 59):Nat))∧w=w':=by
 have c1:=hid (fun W=>ygi (cutM hs 23) W (yb7 23 hh))
 have c2:=hid (fun W=>ygi (cutM ms 59) W (yb7 59 hm))
 have c3:=hid (fun W=>ygi (cutM ss 59) W (yb7 59 hss))
 have Hh:=hid (yiW hs ms ss w hh hm hss)
 unfold lenT
 have p1:=yfM (cutM hs 23)
 have p2:=yfM (cutM ms 59)
 have p3:=yfM (cutM ss 59)
 obtain ⟨x,ex⟩:∃x,Lib.popAux 64 (cutM hs 23)=x:=⟨_,rfl⟩
 obtain ⟨y,ey⟩:∃x,Lib.popAux 64 (cutM ms 59)=x:=⟨_,rfl⟩
 obtain ⟨z,ez⟩:∃x,Lib.popAux 64 (cutM ss 59)=x:=⟨_,rfl⟩
 rw [ex] at p1 c1⊢
 rw [ey] at p2 c2⊢
 rw [ez] at p3 c3⊢
 have m1:x * y≤4096:=Nat.mul_le_mul p1 p2
 have m2:x * y * z≤262144:=Nat.mul_le_mul m1 p3
 have m3:(x:Int) * (y:Int)= ((x * y:Nat):Int):=by simp
 have m4:((x * y:Nat):Int) * (z:Int)= ((x * y * z:Nat):Int):=by simp
 have w1:wrap64 ((x:Int) * (y:Int))= ((x * y:Nat):Int):=by rw [m3]; exact w64 _ (by omega)
 have w2:wrap64 (((x * y:Nat):Int) * (z:Int))= ((x * y * z:Nat):Int):=by rw [m4]; exact w64 _ (by omega)
 have W1:=hid w1
 have W2:=hid w2
 clear ex ey ez m3 m4 w1 w2 hh hm hss
 go_enter Tryz.func60,Tryz.ntmps60
 go_wp2_with fail
 refine Hh.out.mono ?_
 rintro e w' ⟨rfl,rfl⟩
 go_wp2_with fail
 refine (c1.out w).mono ?_
 rintro e w' ⟨rfl,rfl⟩
 go_wp2_with fail
 refine (c2.out w).mono ?_
 rintro e w' ⟨rfl,rfl⟩
 go_wp2_with fail
 refine (c3.out w).mono ?_
 rintro e w' ⟨rfl,rfl⟩
 go_wp2
 go_ret
 exact ⟨by have h:=W2.out; simp at h⊢; exact h,rfl⟩
end
section
open Go.RowKit
theorem yba (m:Nat) (t:Nat) {x:Int} (hx:x∈sel (cutM m t).testBit 64):0≤x∧x≤t:=by
 obtain ⟨k,hk,hb,rfl⟩:=sel_mem.mp hx
 rw [ydA] at hb
 simp at hb
 omega
def yau (hs ms ss:Nat):List Int:=secs (sel (cutM hs 23).testBit 64) (sel (cutM ms 59).testBit 64) (sel (cutM ss 59).testBit 64)
theorem ycr (hs ms ss:Nat):(yau hs ms ss).Pairwise (·< ·):=
 yhl (ybn _ 64) (ybn _ 64) (ybn _ 64) (fun x hx=>yba ms 59 hx) (fun x hx=>yba ss 59 hx)
theorem ydr (hs ms ss:Nat) {x:Int} (hx:x∈yau hs ms ss):0≤x∧x < 86400:=by
 obtain ⟨h,m,s,h1,h2,h3,rfl⟩:=mem_secs.mp hx
 have:=yba hs 23 h1
 have:=yba ms 59 h2
 have:=yba ss 59 h3
 omega
theorem yja (hs ms ss:Nat):lenT (cutM hs 23) (cutM ms 59) (cutM ss 59)= (yau hs ms ss).length:=by
 rw [yau,yh9,lenT,ydK,ydK,ydK,Nat.mul_assoc]
end
section
open Go.RowKit
theorem yhp {α:Type} (v:α): [v]=List.replicate 1 v:=rfl
theorem yfK {α:Type} (v:α) (n:Nat):v :: List.replicate n v=List.replicate (n+1) v:=rfl
theorem yhq {α:Type} (v:α) (n m:Nat):(List.replicate n v).append (List.replicate m v)=List.replicate (n+m) v:=List.replicate_append_replicate
set_option maxRecDepth 100000 in
theorem zc104:Tryz.zeroCells202= (List.replicate 86400 (Value.bool false)).toArray:=by
 simp only [Tryz.zeroCells202,yhp,yfK,yhq,Nat.reduceAdd]
set_option maxRecDepth 100000 in
theorem zc107:Tryz.zeroCells131= (List.replicate 1350 (Value.int .u64 0)).toArray:=by
 simp only [Tryz.zeroCells131,yhp,yfK,yhq,Nat.reduceAdd]
set_option maxRecDepth 100000 in
theorem zcw:Tryz.zeroCells129= (List.replicate 1350 (Value.int .u64 0)).toArray:=by
 simp only [Tryz.zeroCells129,yhp,yfK,yhq,Nat.reduceAdd]
def DC (W:World) (b:Nat) (f:Nat→Nat):Prop:=∀i,i < 1350→W.cell? ⟨b,i,none⟩=some (.int .u64 (f i:Nat))
theorem DC.below {W W':World} {b B:Nat} {f:Nat→Nat} (h:DC W b f) (hb:Below B W W') (hB:b < B):DC W' b f:=fun i hi=>(hb.cell (p:=⟨b,i,none⟩) hB).trans (h i hi)
theorem DC.set {W:World} {b i:Nat} {f:Nat→Nat} {v:Nat} (h:DC W b f) (hi:i < 1350):DC (W.setCell ⟨b,i,none⟩ (.int .u64 v)) b (fun j=>if j=i then v else f j):=by
 intro j hj
 by_cases e:j=i
 ·subst e; simp [go_sem,h j hj]
 ·simp [go_sem,h j hj,e]
theorem DC.congr {W:World} {b:Nat} {f g:Nat→Nat} (h:DC W b f) (e:∀i,i < 1350→f i=g i):DC W b g:=fun i hi=>by rw [←e i hi]; exact h i hi
theorem yf8 (W:World) (n:Nat) (v:Value) (t:TypeId) (i:Nat) (hi:i < n):(W.alloc (.cells (List.replicate n v).toArray t)).cell? ⟨W.heap.size,i,none⟩=some v:=by simp [go_sem,hi]
theorem dc_new (W:World):DC (W.alloc (.cells Tryz.zeroCells131 131)) W.heap.size (fun _=>0):=fun i hi=>by
 rw [zc107]
 exact yf8 W 1350 _ _ i hi
def yci (n:Int):Bool:=decide (0≤n) && decide (n < 86400)
theorem ydy (k:Nat):yci (k:Int)=decide (k < 86400):=by rw [yci,Bool.eq_iff_iff]; simp only [Bool.and_eq_true,decide_eq_true_eq]; omega
theorem ych {n:Int} (h:yci n=true):∃k:Nat,n=k∧k < 86400:=by
 rw [yci] at h
 simp only [Bool.and_eq_true,decide_eq_true_eq] at h
 exact ⟨n.toNat,by omega,by omega⟩
def hasD (f:Nat→Nat) (n:Int):Bool:=yci n && bitW f n.toNat
theorem ydI (n:Int) (w:World):Calls Tryz.prog 67 #[.int .i64 n] w fun e w'=>e= .returned (.bool (yci n))∧w=w':=by
 unfold yci
 by_cases h0:0≤n
 ·by_cases h1:n < 86400
  ·rw [decide_eq_true h0,decide_eq_true h1]
   go_enter Tryz.func67,Tryz.ntmps67
   go_wp2
   go_ret
   exact ⟨rfl,rfl⟩
  ·rw [decide_eq_true h0,decide_eq_false h1]
   go_enter Tryz.func67,Tryz.ntmps67
   go_wp2
   go_ret
   exact ⟨rfl,rfl⟩
 ·rw [decide_eq_false h0,Bool.false_and]
  go_enter Tryz.func67,Tryz.ntmps67
  go_wp2
  go_ret
  exact ⟨rfl,rfl⟩
set_option maxHeartbeats 800000 in
theorem DHas_any (b:Nat) (f:Nat→Nat) (n:Int) (w:World) (hc:DC w b f) (hf:∀i,i < 1350→f i < 18446744073709551616) :
  Calls Tryz.prog 86 #[.pointer (some ⟨b,0,none⟩), .int .i64 n] w fun e w'=>e= .returned (.bool (hasD f n))∧w=w':=by
 have c1:=hid (fun W=>ydI n W)
 unfold hasD
 by_cases hb:yci n=true
 ·rw [hb] at c1⊢
  obtain ⟨k,rfl,hk⟩:=ych hb
  have e1:=hc (k / 64) (by omega)
  have c2:=hid (fun W=>ydk (f (k / 64)) ((k % 64:Nat):Int) W (hf _ (by omega)))
  rw [ycw,show ((k % 64:Nat):Int)= (k:Int) % 64 by simp] at c2
  have hlt:k / 64 < 1350:=by omega
  clear hb hc hk
  go_enter Tryz.func86,Tryz.ntmps86
  go_wp2_with fail
  refine (c1.out _).mono ?_
  rintro e w' ⟨rfl,rfl⟩
  go_wp2_with fail
  refine (c2.out _).mono ?_
  rintro e w' ⟨rfl,rfl⟩
  go_wp2
  go_ret
  exact ⟨by simp [bitW],rfl⟩
 ·have hb':yci n=false:=by simpa using hb
  rw [hb'] at c1⊢
  clear hb hb'
  go_enter Tryz.func86,Tryz.ntmps86
  go_wp2_with fail
  refine (c1.out _).mono ?_
  rintro e w' ⟨rfl,rfl⟩
  go_wp2
  go_ret
  exact ⟨rfl,rfl⟩
theorem Word_any (b:Nat) (f:Nat→Nat) (i:Nat) (w:World) (hc:DC w b f) (hi:i < 1350) :
  Calls Tryz.prog 130 #[.pointer (some ⟨b,0,none⟩), .int .i64 i] w fun e w'=>e= .returned (.int .u64 (f i:Nat))∧w=w':=by
 have e1:=hc i hi
 clear hc
 go_enter Tryz.func130,Tryz.ntmps130
 go_wp2
 go_ret
 exact ⟨rfl,rfl⟩
theorem Word_nil (i:Nat) (w:World):Calls Tryz.prog 130 #[.pointer none, .int .i64 i] w fun e w'=>e= .returned (.int .u64 (0:Nat))∧w=w':=by
 go_enter Tryz.func130,Tryz.ntmps130
 go_wp2
 go_ret
 exact ⟨rfl,rfl⟩
end
section
open Go.RowKit
def putS (x:(Nat→Nat) × Nat) (n:Int):(Nat→Nat) × Nat:=
 if yci n && !bitW x.1 n.toNat then (fun j=>if j=n.toNat / 64 then x.1 (n.toNat / 64) ||| 2 ^ (n.toNat % 64) else x.1 j,x.2+1) else x
def putL (f:Nat→Nat) (l:List Int):(Nat→Nat) × Nat:=l.foldl putS (f,0)
theorem putL_snoc (f:Nat→Nat) (l:List Int) (k:Nat) (h:k < l.length):putL f (l.take (k+1))=putS (putL f (l.take k)) l[k]:=by
 rw [putL,putL,yai l k h,List.foldl_append]; rfl
set_option maxRecDepth 100000 in
set_option maxHeartbeats 3200000 in
theorem Put_any (b:Nat) (f:Nat→Nat) (a:Option Addr) (cap:Nat) (l:List Int) (w:World) (hl:l.length≤9223372036854775807) (hs:Sl w a (ints l)) (hne:l≠ []→∀g off,a=some ⟨g,off,none⟩→g≠b)
  (hc:DC w b f) (hfz:∀i,w.frozen? ⟨b,i,none⟩=false) (hf:∀i,i < 1350→f i < 18446744073709551616) :
  Calls Tryz.prog 171 #[.pointer (some ⟨b,0,none⟩), .slice a l.length cap] w fun e w'=>e= .returned (.int .i64 ((putL f l).2:Nat))∧DC w' b (putL f l).1∧(∀i,w'.frozen? ⟨b,i,none⟩=false)∧
   Eff (fun x=>x=b) w w':=by
 have Hs:=hid hs
 have Hne:=hid hne
 have Hc:=hid hc
 have Hfz:=hid hfz
 have Hf:=hid hf
 have c1:=hid (fun n W=>ydI n W)
 have hlI:(l.length:Int)≤9223372036854775807:=by omega
 clear hs hne hc hfz hf hl
 go_enter Tryz.func171,Tryz.ntmps171
 go_wp2
 go_loopw [5,12] (fun m i wr=>∃k:Nat,i= .int .i64 k∧m= .int .i64 ((putL f (l.take k)).2:Nat)∧k≤l.length∧Hid (DC wr b (putL f (l.take k)).1∧(∀i,wr.frozen? ⟨b,i,none⟩=false)∧(∀i,i < 1350→(putL f (l.take k)).1 i < 18446744073709551616)∧(putL f (l.take k)).2≤k)∧Hid (Eff (fun x=>x=b) w wr)) (fun _ i _=>l.length - (intOf i).toNat)
 case atStart=>exact ⟨0,rfl,rfl,by omega,⟨Hc.out,Hfz.out,Hf.out,zG _⟩,Eff.refl _ _⟩
 case round=>
  obtain ⟨k,rfl,rfl,hk,HJ,HE⟩:=hrel
  by_cases hlt:k < l.length
  ·obtain ⟨g,off,rfl,hb,hcl⟩:=Hs.out.atInt hlt
   have e1:=(HE.out.cell (p:=⟨g,off+k,none⟩) hb (Hne.out (fun e=>by rw [e] at hlt; simp at hlt) g off rfl)).trans (hcl k hlt)
   have hsn:=hid (putL_snoc f l k hlt)
   obtain ⟨x,hx⟩:∃x,l[k]=x:=⟨_,rfl⟩
   rw [hx] at e1 hsn
   obtain ⟨p,hp⟩:∃p,putL f (l.take k)=p:=⟨_,rfl⟩
   rw [hp] at HJ hsn⊢
   clear hcl hx hp
   by_cases hd:yci x=true
   ·have hm:=hid (c1.out x)
    rw [hd] at hm
    have hh:=hid (DHas_any b p.1 x wr HJ.out.1 HJ.out.2.2.1)
    obtain ⟨n,rfl,hn⟩:=ych hd
    have hq:hasD p.1 (n:Int)=bitW p.1 n:=by rw [hasD,hd]; rfl
    rw [hq] at hh
    by_cases hb2:bitW p.1 n=true
    ·rw [hb2] at hh
     have he:Hid (putS p (n:Int)=p):=by show _ = _; rw [putS,Int.toNat_natCast,hb2]; simp
     clear hb2 hq hd
     have hnI:(n:Int) < 87000:=by omega
     clear hn
     go_wp2_with fail
     refine (hm.out _).mono ?_
     rintro e w' ⟨rfl,rfl⟩
     go_wp2_with fail
     refine hh.out.mono ?_
     rintro e w' ⟨rfl,rfl⟩
     go_wp2
     exact ⟨⟨k+1,by go_num,by rw [hsn.out,he.out],by omega,by rw [hsn.out,he.out]; exact ⟨HJ.out.1,HJ.out.2.1,HJ.out.2.2.1,by have:=HJ.out.2.2.2; omega⟩,HE.out⟩,by simp [intOf]; omega⟩
    ·have hb3:bitW p.1 n=false:=by simpa using hb2
     rw [hb3] at hh
     have he:Hid (putS p (n:Int)= (fun j=>if j=n / 64 then p.1 (n / 64) ||| 2 ^ (n % 64) else p.1 j,p.2+1)):=by show _ = _; rw [putS,Int.toNat_natCast,hd,hb3]; rfl
     have hi:n / 64 < 1350:=by omega
     have e2:=HJ.out.1 (n / 64) hi
     have e3:=HJ.out.2.1 (n / 64)
     have hnI:(n:Int) < 87000:=by omega
     have hcnt:(p.2:Int)+1≤9223372036854775807:=by have:=HJ.out.2.2.2; omega
     clear hb2 hb3 hq hd hn
     go_wp2_with fail
     refine (hm.out _).mono ?_
     rintro e w' ⟨rfl,rfl⟩
     go_wp2_with fail
     refine hh.out.mono ?_
     rintro e w' ⟨rfl,rfl⟩
     go_wp2_with fail
     go_region
     have hpw:n % 64 < 64:=Nat.mod_lt _ (by omega)
     have hor:=yaQ (HJ.out.2.2.1 (n / 64) hi) (ybQ hpw)
     rw [←ybt hpw] at hor
     rw [hor]
     have hlt2:=yeE (HJ.out.2.2.1 (n / 64) hi) (ybQ hpw)
     obtain ⟨v,hv⟩:∃v,p.1 (n / 64) ||| 2 ^ (n % 64)=v:=⟨_,rfl⟩
     rw [hv] at hlt2 he⊢
     have done:DC (wr.setCell ⟨b,n / 64,none⟩ (.int .u64 v)).drew b (putS p (n:Int)).1∧(∀i,(wr.setCell ⟨b,n / 64,none⟩ (.int .u64 v)).drew.frozen? ⟨b,i,none⟩=false)∧(∀i,i < 1350→(putS p (n:Int)).1 i < 18446744073709551616)∧(putS p (n:Int)).2≤k+1:=by
      rw [he.out]
      refine ⟨HJ.out.1.set hi,fun i=>by simp [go_sem,HJ.out.2.1 i],fun i hi=>?_,by have:=HJ.out.2.2.2; simp only []; omega⟩
      simp only []
      split
      ·exact hlt2
      ·exact HJ.out.2.2.1 i hi
     have Done:=hid done
     have HE2:Hid (Eff (fun x=>x=b) w (wr.setCell ⟨b,n / 64,none⟩ (.int .u64 v)).drew):=by
      have h:=HE.out
      refine ⟨h.os,h.tape,h.output,?_,fun j hj hn=>?_⟩
      ·show w.heap.size≤(wr.setCell ⟨b,n / 64,none⟩ (.int .u64 v)).heap.size
       simpa [go_sem] using h.size
      ·exact (Below.heap_setCell _ _ _ _ (by simpa using hn)).trans (h.block j hj hn)
     have h2:(putS p (n:Int)).2=p.2+1:=by rw [he.out]
     have H2:=hid h2
     clear done hor hpw hv hlt2 h2
     go_wp2
     exact ⟨⟨k+1,by go_num,by rw [hsn.out,H2.out]; go_num,by omega,by rw [hsn.out]; exact Done.out,HE2.out⟩,by simp [intOf]; omega⟩
   ·have hd':yci x=false:=by simpa using hd
    have hm:=hid (c1.out x)
    rw [hd'] at hm
    have he:Hid (putS p x=p):=by show _ = _; rw [putS,hd']; rfl
    clear hd hd'
    go_wp2_with fail
    refine (hm.out _).mono ?_
    rintro e w' ⟨rfl,rfl⟩
    go_wp2
    exact ⟨⟨k+1,by go_num,by rw [hsn.out,he.out],by omega,by rw [hsn.out,he.out]; exact ⟨HJ.out.1,HJ.out.2.1,HJ.out.2.2.1,by have:=HJ.out.2.2.2; omega⟩,HE.out⟩,by simp [intOf]; omega⟩
  ·have hke:l.take k=l:=List.take_of_length_le (by omega)
   rw [hke] at HJ⊢
   clear hke
   go_wp2
   go_ret
   exact ⟨rfl,HJ.out.1,HJ.out.2.1,HE.out⟩
theorem putS_bit (x:(Nat→Nat) × Nat) (n:Int) (k:Nat) (hk:k < 86400):bitW (putS x n).1 k= (bitW x.1 k || decide ((k:Int)=n)):=by
 rw [putS]
 by_cases hd:yci n=true
 ·obtain ⟨j,rfl,hj⟩:=ych hd
  rw [hd,Int.toNat_natCast]
  cases hb:bitW x.1 j
  ·simp only [Bool.not_false,Bool.and_self,if_true]
   rw [bitW,bitW]
   by_cases e:k / 64=j / 64
   ·have e2:decide (j % 64=k % 64)=decide ((k:Int)= (j:Int)):=by
     rw [Bool.eq_iff_iff,decide_eq_true_eq,decide_eq_true_eq]
     omega
    simp only [e,if_true,Nat.testBit_or,Nat.testBit_two_pow,e2]
   ·have h2:decide ((k:Int)= (j:Int))=false:=decide_eq_false (by omega)
    simp only [e,if_false,h2,Bool.or_false]
  ·simp only [Bool.not_true,Bool.and_false,Bool.false_eq_true,if_false]
   by_cases e:k=j
   ·subst e; rw [hb]; rfl
   ·rw [decide_eq_false (by omega),Bool.or_false]
 ·have hd':yci n=false:=by simpa using hd
  have hne:¬(k:Int)=n:=fun e=>by
   subst e
   rw [ydy,decide_eq_true hk] at hd'
   cases hd'
  rw [hd',decide_eq_false hne]
  simp
theorem ygL (k:Nat) (hk:k < 86400):∀(l:List Int) (x:(Nat→Nat) × Nat),bitW (l.foldl putS x).1 k= (bitW x.1 k || decide ((k:Int)∈l))
 | [],x=>by simp
 | n :: l,x=>by
   rw [List.foldl_cons,ygL k hk l,putS_bit x n k hk,Bool.or_assoc]
   congr 1
   rw [Bool.eq_iff_iff]
   simp
theorem yie (f:Nat→Nat) (l:List Int) (k:Nat) (hk:k < 86400):bitW (putL f l).1 k= (bitW f k || decide ((k:Int)∈l)):=ygL k hk l (f,0)
theorem putS_lt (x:(Nat→Nat) × Nat) (n:Int) (hx:∀i,i < 1350→x.1 i < 18446744073709551616):∀i,i < 1350→(putS x n).1 i < 18446744073709551616:=by
 intro i hi
 rw [putS]
 split
 ·rename_i h
  simp only [Bool.and_eq_true] at h
  obtain ⟨j,rfl,hj⟩:=ych h.1
  rw [Int.toNat_natCast]
  simp only []
  split
  ·exact yeE (hx _ (by omega)) (ybQ (Nat.mod_lt _ (by omega)))
  ·exact hx i hi
 ·exact hx i hi
theorem yiw:∀(l:List Int) (x:(Nat→Nat) × Nat),(∀i,i < 1350→x.1 i < 18446744073709551616)→∀i,i < 1350→(l.foldl putS x).1 i < 18446744073709551616
 | [],x,hx=>hx
 | n :: l,x,hx=>yiw l _ (putS_lt x n hx)
theorem putL_lt (f:Nat→Nat) (l:List Int) (hf:∀i,i < 1350→f i < 18446744073709551616):∀i,i < 1350→(putL f l).1 i < 18446744073709551616:=yiw l _ hf
theorem yav (W:World) (c:Array Value) (t:TypeId) (i:Nat):(W.alloc (.cells c t)).frozen? ⟨W.heap.size,i,none⟩=false:=by simp [go_sem]
def DiscAt (W:World) (b:Nat) (q:Nat→Bool):Prop:=∃f:Nat→Nat,DC W b f∧(∀i,W.frozen? ⟨b,i,none⟩=false)∧(∀i,i < 1350→f i < 18446744073709551616)∧(∀k,k < 86400→bitW f k=q k)∧b < W.heap.size
theorem DiscAt.below {W W':World} {b B:Nat} {q:Nat→Bool} (h:DiscAt W b q) (hb:Below B W W') (hB:b < B):DiscAt W' b q:=by
 obtain ⟨f,h1,h2,h3,h4,h5⟩:=h
 exact ⟨f,h1.below hb hB,fun i=>(hb.frozen (p:=⟨b,i,none⟩) hB).trans (h2 i),h3,h4,zH h5 hb.size⟩
def memD (l:List Int) (k:Nat):Bool:=decide ((k:Int)∈l)
set_option maxHeartbeats 1600000 in
theorem ydZ (a:Option Addr) (cap:Nat) (l:List Int) (w:World) (hl:l.length≤9223372036854775807) (hs:Sl w a (ints l)) :
  Calls Tryz.prog 158 #[.slice a l.length cap] w fun e w'=>e= .returned (.pointer (some ⟨w.heap.size,0,none⟩))∧DiscAt w' w.heap.size (memD l)∧Below w.heap.size w w':=by
 obtain ⟨W1,hW1⟩:∃W1,w.alloc (.cells Tryz.zeroCells131 131)=W1:=⟨_,rfl⟩
 have q1:DC W1 w.heap.size (fun _=>0):=by rw [←hW1]; exact dc_new w
 have q2:∀i,W1.frozen? ⟨w.heap.size,i,none⟩=false:=fun i=>by rw [←hW1]; exact yav w _ _ i
 have q3:Below w.heap.size w W1:=by rw [←hW1]; exact yaa (Below.refl _ _) (zG _)
 have q4:W1.heap.size=w.heap.size+1:=by rw [←hW1]; simp
 have c1:Hid (Calls Tryz.prog 171 #[.pointer (some ⟨w.heap.size,0,none⟩), .slice a l.length cap] W1 fun e w'=>(∃n:Nat,e= .returned (.int .i64 n))∧DiscAt w' w.heap.size (memD l)∧Eff (fun x=>x=w.heap.size) W1 w'):=by
  refine (Put_any w.heap.size (fun _=>0) a cap l W1 hl (hs.below q3) ?_ q1 q2 (fun _ _=>by omega)).mono fun e w' ⟨h1,h2,h3,h4⟩=>⟨⟨_,h1⟩,⟨_,h2,h3,putL_lt _ _ (fun _ _=>by omega),fun k hk=>?_,by have:=h4.size; omega⟩,h4⟩
  ·rintro hl g off rfl
   obtain ⟨g',off',e,hb,_⟩:=hs.atInt (k:=0) (List.length_pos_iff.mpr hl)
   cases e; omega
  ·rw [yie _ _ k hk,bitW,Nat.zero_testBit,Bool.false_or]; rfl
 have HW1:=hid hW1
 have Q3:=hid q3
 clear hW1 q1 q2 q3 hs
 go_enter Tryz.func158,Tryz.ntmps158
 go_wp2_with fail
 rw [HW1.out]
 refine c1.out.mono ?_
 rintro e w2 ⟨⟨n,rfl⟩,hd,hE⟩
 have Hd:=hid hd
 have HE:=hid hE
 clear hd hE
 go_wp2
 go_ret
 exact ⟨rfl,Hd.out,Q3.out.trans (HE.out.below (by rintro b rfl; exact zG _) (by omega))⟩
end
section
open Go.RowKit
def MC (W:World) (b:Nat) (l:List Int):Prop:=∀j,j < 86400→W.cell? ⟨b,j,none⟩=some (.bool (memD l j))
theorem MC.below {W W':World} {b B:Nat} {l:List Int} (h:MC W b l) (hb:Below B W W') (hB:b < B):MC W' b l:=fun j hj=>(hb.cell (p:=⟨b,j,none⟩) hB).trans (h j hj)
theorem mc_new (W:World):MC (W.alloc (.cells Tryz.zeroCells202 202)) W.heap.size []:=fun i hi=>by
 rw [zc104]
 exact yf8 W 86400 _ _ i hi
theorem memD_in (l:List Int) (n j:Nat):memD (l ++ [(n:Int)]) j=if j=n then true else memD l j:=by
 rw [memD,memD,Bool.eq_iff_iff]
 split
 ·rename_i h; simp [h]
 ·rename_i h; simp only [decide_eq_true_eq,List.mem_append,List.mem_singleton]
  constructor
  ·rintro (h1 | h1)
   ·exact h1
   ·omega
  ·exact fun h1=> .inl h1
theorem memD_out (l:List Int) (x:Int) (h:yci x=false) (j:Nat) (hj:j < 86400):memD (l ++ [x]) j=memD l j:=by
 have hne:¬(j:Int)=x:=fun e=>by subst e; rw [ydy,decide_eq_true hj] at h; cases h
 rw [memD,memD,Bool.eq_iff_iff]
 simp [hne]
def secL (q:Nat→Bool):List Int:=sel q 86400
set_option maxRecDepth 100000 in
set_option maxHeartbeats 3200000 in
theorem ROf15_any (a:Option Addr) (cap:Nat) (l:List Int) (w:World) (hl:l.length≤9223372036854775807) (hs:Sl w a (ints l)) :
  Calls Tryz.prog 72 #[.slice a l.length cap] w fun e w'=>∃v,e= .returned v∧w'.ownsRow w.heap.size 3 1 v (secL (memD l)).length (ints (secL (memD l)))∧Below w.heap.size w w':=by
 have Hs:=hid hs
 obtain ⟨W0,hW0⟩:∃W0,w.alloc (.cells Tryz.zeroCells202 202)=W0:=⟨_,rfl⟩
 have q1:W0.heap.size=w.heap.size+1:=by rw [←hW0]; simp
 have q2:Below w.heap.size w W0:=by rw [←hW0]; exact yaa (Below.refl _ _) (zG _)
 have q3:MC W0 w.heap.size []:=by rw [←hW0]; exact mc_new w
 have q4:∀i,W0.frozen? ⟨w.heap.size,i,none⟩=false:=fun i=>by rw [←hW0]; exact yav w _ _ i
 have HW0:=hid hW0
 have HQ:=hid (And.intro q2 (And.intro q3 q4))
 have hlI:(l.length:Int)≤9223372036854775807:=by omega
 clear hW0 q2 q3 q4 hs hl
 go_enter Tryz.func72,Tryz.ntmps72
 go_wp2_with fail
 rw [HW0.out]
 go_loopw [4] (fun i wr=>∃k:Nat,i= .int .i64 k∧k≤l.length∧wr.heap.size=w.heap.size+1∧Hid (MC wr w.heap.size (l.take k)∧(∀i,wr.frozen? ⟨w.heap.size,i,none⟩=false)∧Below w.heap.size w wr)) (fun i _=>l.length - (intOf i).toNat)
 case atStart=>exact ⟨0,rfl,by omega,q1,HQ.out.2.1,HQ.out.2.2,HQ.out.1⟩
 case round=>
  obtain ⟨k,rfl,hk,hsz,HI⟩:=hrel
  by_cases hlt:k < l.length
  ·obtain ⟨b,off,rfl,hb,hc⟩:=Hs.out.atInt hlt
   have e1:=(HI.out.2.2.cell (p:=⟨b,off+k,none⟩) hb).trans (hc k hlt)
   have ht:=hid (yai l k hlt)
   obtain ⟨x,hx⟩:∃x,l[k]=x:=⟨_,rfl⟩
   rw [hx] at e1 ht
   clear hc hx
   by_cases hm:yci x=true
   ·obtain ⟨n,rfl,hn⟩:=ych hm
    have hnI:(n:Int) < 86400:=by omega
    have e2:=HI.out.1 n hn
    have e3:=HI.out.2.1 n
    have done:MC (wr.setCell ⟨w.heap.size,n,none⟩ (.bool true)) w.heap.size (l.take (k+1))∧(∀i,(wr.setCell ⟨w.heap.size,n,none⟩ (.bool true)).frozen? ⟨w.heap.size,i,none⟩=false)∧Below w.heap.size w (wr.setCell ⟨w.heap.size,n,none⟩ (.bool true)):=by
     obtain ⟨d1,d2,d3⟩:=HI.out
     refine ⟨fun j hj=>?_,fun i=>by simp [go_sem,d2 i],yab d3 (zG _)⟩
     rw [ht.out,memD_in _ _ _]
     by_cases e:j=n
     ·subst e; simp [go_sem,d1 j hj]
     ·simp [go_sem,d1 j hj,e]
    have Done:=hid done
    have hnD:decide (n < 86400)=true:=decide_eq_true hn
    have Hn:=hid hn
    clear done hm hn
    go_wp2
    obtain ⟨d1,d2,d3⟩:=Done.out
    exact ⟨⟨k+1,by go_num,by omega,by simpa [go_sem] using hsz,d1,d2,d3⟩,by simp [intOf]; omega⟩
   ·have hm':yci x=false:=by simpa using hm
    have he:=hid (fun j hj=>memD_out (l.take k) x hm' j hj)
    have hI':Hid (MC wr w.heap.size (l.take (k+1))):=fun j hj=>by rw [ht.out,he.out j hj]; exact HI.out.1 j hj
    by_cases h0:0≤x
    ·have h1:¬x < 86400:=fun h=>by rw [yci,decide_eq_true h0,decide_eq_true h] at hm'; cases hm'
     clear hm hm'
     go_wp2
     exact ⟨⟨k+1,by go_num,by omega,hsz,hI'.out,HI.out.2⟩,by simp [intOf]; omega⟩
    ·clear hm hm'
     go_wp2
     exact ⟨⟨k+1,by go_num,by omega,hsz,hI'.out,HI.out.2⟩,by simp [intOf]; omega⟩
  ·have hke:l.take k=l:=List.take_of_length_le (by omega)
   rw [hke] at HI
   clear hke
   go_wp2_with fail
   go_loopw [5,6] (fun v i wq=>∃(n m cap:Nat) (a:Option Addr),i= .int .i64 n∧Hid (n≤86400)∧v= .slice a m cap∧Hid (m= (sel (memD l) n).length∧m≤n)∧Hid (wq.ownsRow (w.heap.size+1) 3 1 (.slice a m cap) m (ints (sel (memD l) n)))∧Hid (MC wq w.heap.size l∧Below w.heap.size w wq∧w.heap.size+1≤wq.heap.size)) (fun _ i _=>(86400 - intOf i).toNat)
   case atStart=>exact ⟨0,0,0,none,rfl,Nat.zero_le _,rfl,⟨rfl,zG _⟩,World.ownsRow_nil _ _ _ _,HI.out.1,HI.out.2.2,by omega⟩
   case round=>
    clear hsz HI hk hlt
    obtain ⟨n,m,cap',a',rfl,hn,rfl,hme,hown,hbx⟩:=hrel
    by_cases hlt:(n:Int) < 86400
    ·have hn':n < 86400:=by omega
     have e1:=hbx.out.1 n hn'
     have hnD:decide (n < 86400)=true:=decide_eq_true hn'
     have hm:(m:Int) < 87000:=by have:=hme.out.2; omega
     have Hn':=hid hn'
     clear hn'
     by_cases hb:memD l n=true
     ·have Hy:=hid (ybB (p:=memD l) hb)
      rw [hb] at e1
      clear hb
      go_wp2_with (at_builtin; refine app1 eInt (.tmp 37) (.tmp 39) rfl rfl rfl rfl rfl hown.out rfl (by omega) (by omega) hbx.out.2.2 ?_)
      intro a2 cap2 w2 hown2 hg2 hb2 hf2
      rw [←yb1,←yaJ,←Hy.out] at hown2
      have Hown2:=hid hown2
      have hbx2:Hid (MC w2 w.heap.size l∧Below w.heap.size w w2∧w.heap.size+1≤w2.heap.size):=
       ⟨hbx.out.1.below hb2 (by omega),hbx.out.2.1.trans (hb2.mono (by omega)),zI hbx.out.2.2 hb2.size⟩
      clear hown2 hg2 hb2 hf2
      go_wp2
      exact ⟨⟨n+1,m+1,cap2,a2,by go_num,Hn'.out,rfl,⟨by rw [Hy.out,List.length_append,←hme.out.1]; rfl,by have:=hme.out.2; omega⟩,Hown2.out,hbx2.out⟩,by simp [intOf]; omega⟩
     ·have hb':memD l n=false:=by simpa using hb
      have Hy:=hid (ycH (p:=memD l) hb')
      rw [hb'] at e1
      clear hb hb'
      go_wp2
      exact ⟨⟨n+1,m,cap',a',by go_num,Hn'.out,rfl,⟨by rw [Hy.out]; exact hme.out.1,by have:=hme.out.2; omega⟩,by rw [Hy.out]; exact hown.out,hbx.out⟩,by simp [intOf]; omega⟩
    ·have hnn:n=86400:=by have:=hn.out; omega
     have hown':=hown.out
     have hm':=hme.out.1
     rw [hnn] at hown' hm'
     have Hown:=hid hown'
     have Hm:=hid hm'
     clear hnn hown' hm'
     go_wp2
     go_ret
     exact ⟨_,rfl,by have:=Hm.out; rw [show (secL (memD l)).length=m from Hm.out.symm]; exact ybx Hown.out (by omega),hbx.out.2.1⟩
end
end Go.Proofs.YtkpgfmonhfnhdaaGreatDoor
