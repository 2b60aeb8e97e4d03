/-
  What wide.All, wide.Bounds and feriaref04.List compute.
  What feriaref04.Of computes: the set of a list.
-/
import Derived.Test.YtkpgfmonhfnhdaaGreatDoorQc3a4de
import Derived.Test.YtkpgfmonhfnhdaaGreatDoorQ5411a8
namespace Go.Proofs.YtkpgfmonhfnhdaaGreatDoor
set_option linter.unusedVariables false
section
open Go.RowKit
attribute [local go_sem] Oper.semAt_some
set_option maxHeartbeats 1600000 in
theorem WList_any (s:Nat→Nat) (w:World) (hs:∀i,i < 7→s i < 18446744073709551616) :
  Calls Tryz.prog 48 #[wv s] w fun e w'=>∃v,e= .returned v∧w'.ownsRow w.heap.size 3 1 v (wsel s).length (ints (wsel s))∧Below w.heap.size w w':=by
 have c1:=hid (fun n W=>yg3 s n W hs)
 have hB0:Below w.heap.size w (w.alloc (.cells #[.int .u64 (s 0:Nat), .int .u64 (s 1:Nat), .int .u64 (s 2:Nat), .int .u64 (s 3:Nat), .int .u64 (s 4:Nat), .int .u64 (s 5:Nat), .int .u64 (s 6:Nat)] 25)):=yaa (Below.refl _ _) (zG _)
 have HS0:Hid (BoxS w s (w.alloc (.cells #[.int .u64 (s 0:Nat), .int .u64 (s 1:Nat), .int .u64 (s 2:Nat), .int .u64 (s 3:Nat), .int .u64 (s 4:Nat), .int .u64 (s 5:Nat), .int .u64 (s 6:Nat)] 25))):=by
  obtain ⟨r0,r1,r2,r3,r4,r5,r6⟩:=(ybK w s 25).all
  exact ⟨r0,r1,r2,r3,r4,r5,r6,hB0,by simp [go_sem]⟩
 clear hB0 hs
 go_enter Tryz.func48,Tryz.ntmps48
 go_wp2
 go_loopw [3,4] (fun v i wr=>∃(n m cap:Nat) (a:Option Addr),i= .int .i64 n∧Hid (n≤400)∧v= .slice a m cap∧Hid (m= (sel (bitW s) n).length∧m≤n)∧Hid (wr.ownsRow (w.heap.size+1) 3 1 (.slice a m cap) m (ints (sel (bitW s) n)))∧Hid (BoxS w s wr)) (fun _ i _=>(400 - intOf i).toNat)
 case atStart=>exact ⟨0,0,0,none,rfl,by show (0:Nat)≤400; omega,rfl,⟨rfl,zG _⟩,World.ownsRow_nil _ _ _ _,HS0.out⟩
 case round=>
  obtain ⟨n,m,cap,a,rfl,hn,rfl,hme,hown,hbx⟩:=hrel
  obtain ⟨z0,z1,z2,z3,z4,z5,z6,hB,hlt0⟩:=hbx.out
  have HB:=hid hB
  clear hB
  by_cases hlt:(n:Int) < 400
  ·have H2:Hid (Calls Tryz.prog 17 #[wv s, .int .i64 n] wr fun e w'=>e= .returned (.bool (bitW s n))∧Below wr.heap.size wr w'):=by
    have:=c1.out n wr
    have e:hasW s (n:Int)=bitW s n:=by simp [hasW,mayB]; omega
    rw [e] at this; exact this
   by_cases hb:bitW s n=true
   ·have Hy:=hid (ybB hb)
    rw [hb] at H2
    clear hb
    go_wp2_with fail
    refine H2.out.mono ?_
    rintro e w1 ⟨rfl,hb1⟩
    have hown1:=ycg hown.out hb1 (zG _)
    have hbx1:=hid (hbx.out.keep hb1)
    have hm:m≤400:=by have:=hme.out.2; have:=hn.out; omega
    have Hb1:=hid hb1
    have hs1:=hb1.size
    clear hb1 z0 z1 z2 z3 z4 z5 z6
    go_wp2_with (at_builtin; refine app1 eInt (.tmp 12) (.tmp 14) rfl rfl rfl rfl rfl hown1 rfl (by omega) (by omega) (by omega) ?_)
    intro a' cap' w' hown2 hg2 hb2 hf2
    rw [←yb1,←yaJ,←Hy.out] at hown2
    have hbx2:Hid (BoxS w s w'):=by
     obtain ⟨h0,h1,h2,h3,h4,h5,h6,h7,h8⟩:=hbx1.out
     exact ⟨(hb2.cell (p:=⟨w.heap.size,0,none⟩) (by simp)).trans h0,(hb2.cell (p:=⟨w.heap.size,1,none⟩) (by simp)).trans h1,(hb2.cell (p:=⟨w.heap.size,2,none⟩) (by simp)).trans h2,(hb2.cell (p:=⟨w.heap.size,3,none⟩) (by simp)).trans h3,
      (hb2.cell (p:=⟨w.heap.size,4,none⟩) (by simp)).trans h4,(hb2.cell (p:=⟨w.heap.size,5,none⟩) (by simp)).trans h5,(hb2.cell (p:=⟨w.heap.size,6,none⟩) (by simp)).trans h6,h7.trans (hb2.mono (by omega)),zH h8 hb2.size⟩
    have Hown2:=hid hown2
    clear hown2 hg2 hb2 hf2 hown1
    go_wp2
    exact ⟨⟨n+1,m+1,cap',a',by go_num,by show n+1≤400; omega,rfl,⟨by rw [Hy.out,List.length_append,←hme.out.1]; rfl,by have:=hme.out.2; omega⟩,Hown2,hbx2⟩,by simp [intOf]; omega⟩
   ·have hb':bitW s n=false:=by simpa using hb
    have Hy:=hid (ycH hb')
    rw [hb'] at H2
    clear hb hb'
    go_wp2_with fail
    refine H2.out.mono ?_
    rintro e w1 ⟨rfl,hb1⟩
    have hown1:=hid (ycg hown.out hb1 (zG _))
    have hbx1:=hid (hbx.out.keep hb1)
    clear hb1 z0 z1 z2 z3 z4 z5 z6
    go_wp2
    exact ⟨⟨n+1,m,cap,a,by go_num,by show n+1≤400; omega,rfl,⟨by rw [Hy.out]; exact hme.out.1,by have:=hme.out.2; omega⟩,by rw [Hy.out]; exact hown1,hbx1⟩,by simp [intOf]; omega⟩
  ·have hnn:n=400:=by have:=hn.out; omega
   have hown':=hown.out
   have hm':=hme.out.1
   rw [hnn] at hown' hm'
   have Hown:=hid hown'
   have Hm:=hid hm'
   clear hnn hown' hm'
   go_wp2
   go_ret
   exact ⟨_,rfl,by have:=Hm.out; rw [show (wsel s).length=m from Hm.out.symm]; exact ybx Hown.out (by omega),HB.out⟩
end
section
open Go.RowKit
def inL (l:List Int) (j:Nat):Bool:=decide ((j:Int)∈l) && decide (j < 400)
theorem inL_in (l:List Int) (n j:Nat) (h:n < 400):inL (l ++ [(n:Int)]) j=if j=n then true else inL l j:=by
 rw [inL,inL,Bool.eq_iff_iff]
 split
 ·simp; omega
 ·rename_i h
  simp only [Bool.and_eq_true,decide_eq_true_eq,List.mem_append,List.mem_singleton]
  constructor
  ·rintro ⟨h1 | h1,h2⟩
   ·exact ⟨h1,h2⟩
   ·omega
  ·rintro ⟨h1,h2⟩; exact ⟨.inl h1,h2⟩
theorem inL_out (l:List Int) (x:Int) (h:mayB x=false) (j:Nat):inL (l ++ [x]) j=inL l j:=by
 simp only [mayB,Bool.and_eq_false_iff,decide_eq_false_iff_not] at h
 rw [inL,inL,Bool.eq_iff_iff]
 simp only [Bool.and_eq_true,decide_eq_true_eq,List.mem_append,List.mem_singleton]
 constructor
 ·rintro ⟨h1 | h1,h2⟩
  ·exact ⟨h1,h2⟩
  ·omega
 ·rintro ⟨h1,h2⟩; exact ⟨.inl h1,h2⟩
def InC (W:World) (b:Nat) (l:List Int):Prop:=∀j,j < 448→W.cell? ⟨b,j,none⟩=some (.bool (inL l j))
theorem zc120:Tryz.zeroCells101=Array.replicate 448 (.bool false):=by kernel_rfl
theorem inC_new (w:World):InC (w.alloc (.cells Tryz.zeroCells101 101)) w.heap.size []:=fun j hj=>by
 rw [zc120]
 simp [go_sem,hj,inL]
theorem InC.below {W W':World} {b B:Nat} {l:List Int} (h:InC W b l) (hb:Below B W W') (hB:b < B):InC W' b l:=fun j hj=>(hb.cell (p:=⟨b,j,none⟩) hB).trans (h j hj)
def wpre (l:List Int) (i n:Nat) (j:Nat):Nat:=if j=i then upM (inWB l i) n else if j < i then wof l j else 0
set_option maxRecDepth 100000 in
set_option maxHeartbeats 3200000 in
theorem yiP (a:Option Addr) (cap:Nat) (l:List Int) (w:World) (hl:l.length≤9223372036854775807) (hs:Sl w a (ints l)) :
  Calls Tryz.prog 18 #[.slice a l.length cap] w fun e w'=>e= .returned (wv (wof l))∧Below w.heap.size w w':=by
 have Hs:=hid hs
 clear hs
 obtain ⟨W0,hW0⟩:∃W0,(w.alloc (.cells #[.int .u64 0, .int .u64 0, .int .u64 0, .int .u64 0, .int .u64 0, .int .u64 0, .int .u64 0] 25)).alloc (.cells Tryz.zeroCells101 101)=W0:=⟨_,rfl⟩
 have q1:W0.heap.size=w.heap.size+2:=by rw [←hW0]; simp
 have q2:Below w.heap.size w W0:=by rw [←hW0]; exact yaa (yaa (Below.refl _ _) (zG _)) (by simp)
 have q3:InC W0 (w.heap.size+1) []:=by
  rw [←hW0]
  have:=inC_new (w.alloc (.cells #[.int .u64 0, .int .u64 0, .int .u64 0, .int .u64 0, .int .u64 0, .int .u64 0, .int .u64 0] 25))
  rwa [World.size_alloc] at this
 have q4:WFree W0 (w.heap.size+1):=fun i=>by rw [←hW0,zc120]; simp [go_sem]
 have q5:WCells W0 w.heap.size (fun _=>0):=by
  rw [←hW0]
  refine WCells.below (W:=w.alloc (.cells #[.int .u64 0, .int .u64 0, .int .u64 0, .int .u64 0, .int .u64 0, .int .u64 0, .int .u64 0] 25)) (fun i hi=>?_) (yaa (Below.refl _ _) (zG _)) (by simp)
  rcases yfG hi with rfl | rfl | rfl | rfl | rfl | rfl | rfl <;> simp [go_sem]
 have q6:WFree W0 w.heap.size:=by
  rw [←hW0]
  refine WFree.below (W:=w.alloc (.cells #[.int .u64 0, .int .u64 0, .int .u64 0, .int .u64 0, .int .u64 0, .int .u64 0, .int .u64 0] 25)) (fun i=>by simp [go_sem]) (yaa (Below.refl _ _) (zG _)) (by simp)
 have HW0:=hid hW0
 have HQ:=hid (And.intro q2 (And.intro q3 (And.intro q4 (And.intro q5 q6))))
 clear hW0 q2 q3 q4 q5 q6
 go_enter Tryz.func18,Tryz.ntmps18
 go_wp2_with fail
 rw [HW0.out]
 go_loopw [4] (fun i wr=>∃k:Nat,i= .int .i64 k∧k≤l.length∧wr.heap.size=w.heap.size+2∧Hid (InC wr (w.heap.size+1) (l.take k)∧WFree wr (w.heap.size+1)∧WCells wr w.heap.size (fun _=>0)∧WFree wr w.heap.size∧Below w.heap.size w wr)) (fun i _=>l.length - (intOf i).toNat)
 case atStart=>exact ⟨0,rfl,by omega,q1,HQ.out.2.1,HQ.out.2.2.1,HQ.out.2.2.2.1,HQ.out.2.2.2.2,HQ.out.1⟩
 case round=>
  obtain ⟨k,rfl,hk,hsz,HI⟩:=hrel
  by_cases hlt:k < l.length
  ·obtain ⟨b,off,rfl,hb,hc⟩:=Hs.out.atInt hlt
   have e1:=(HI.out.2.2.2.2.cell (p:=⟨b,off+k,none⟩) hb).trans (hc k hlt)
   have ht:=hid (yai l k hlt)
   obtain ⟨x,hx⟩:∃x,l[k]=x:=⟨_,rfl⟩
   rw [hx] at e1 ht
   clear hc hx
   by_cases hm:mayB x=true
   ·rw [mayB] at hm
    simp at hm
    obtain ⟨n,rfl⟩:∃n:Nat,x=n:=⟨x.toNat,by omega⟩
    have hn:n < 400:=by omega
    have hnI:(n:Int) < 400:=by omega
    have hn448:n < 448:=by omega
    have e2:=HI.out.1 n hn448
    have e3:=HI.out.2.1 n
    have done:InC (wr.setCell ⟨w.heap.size+1,n,none⟩ (.bool true)) (w.heap.size+1) (l.take (k+1))∧WFree (wr.setCell ⟨w.heap.size+1,n,none⟩ (.bool true)) (w.heap.size+1)∧WCells (wr.setCell ⟨w.heap.size+1,n,none⟩ (.bool true)) w.heap.size (fun _=>0)∧
      WFree (wr.setCell ⟨w.heap.size+1,n,none⟩ (.bool true)) w.heap.size∧Below w.heap.size w (wr.setCell ⟨w.heap.size+1,n,none⟩ (.bool true)):=by
     obtain ⟨d1,d2,d3,d4,d5⟩:=HI.out
     refine ⟨fun j hj=>?_,d2.set _ _,fun j hj=>(World.cell?_of_block (w:=wr) (a:=⟨w.heap.size,j,none⟩) (Below.heap_setCell _ _ _ _ (by simp))).trans (d3 j hj),d4.set _ _,yab d5 (by omega)⟩
     rw [ht.out,inL_in _ _ _ hn]
     by_cases e:j=n
     ·subst e; simp [go_sem,d1 j hj]
     ·simp [go_sem,d1 j hj,e]
    have Done:=hid done
    clear done hm hn hn448
    go_wp2
    obtain ⟨d1,d2,d3,d4,d5⟩:=Done.out
    exact ⟨⟨k+1,by go_num,by omega,by simpa [go_sem] using hsz,d1,d2,d3,d4,d5⟩,by simp [intOf]; omega⟩
   ·have hm':mayB x=false:=by simpa using hm
    have he:=hid (fun j=>inL_out (l.take k) x hm' j)
    have hI':Hid (InC wr (w.heap.size+1) (l.take (k+1))):=fun j hj=>by rw [ht.out,he.out]; exact HI.out.1 j hj
    by_cases h0:0≤x
    ·have h1:¬x < 400:=by simp [mayB] at hm'; omega
     clear hm hm'
     go_wp2
     exact ⟨⟨k+1,by go_num,by omega,hsz,hI'.out,HI.out.2⟩,by simp [intOf]; omega⟩
    ·clear hm hm'
     go_wp2
     exact ⟨⟨k+1,by go_num,by omega,hsz,hI'.out,HI.out.2⟩,by simp [intOf]; omega⟩
  ·have hke:l.take k=l:=List.take_of_length_le (by omega)
   have hin:Hid (InC wr (w.heap.size+1) l):=by rw [←hke]; exact HI.out.1
   obtain ⟨W2,hW2⟩:∃W2,wr.alloc (.cells #[.int .u64 0, .int .u64 0, .int .u64 0, .int .u64 0, .int .u64 0, .int .u64 0, .int .u64 0] 25)=W2:=⟨_,rfl⟩
   have b2:Below wr.heap.size wr W2:=by rw [←hW2]; exact yaa (Below.refl _ _) (zG _)
   have p1:Hid (InC W2 (w.heap.size+1) l):=hin.out.below b2 (by omega)
   have p2:Hid (WCells W2 w.heap.size (fun _=>0)):=HI.out.2.2.1.below b2 (by omega)
   have p3:Hid (WFree W2 w.heap.size):=HI.out.2.2.2.1.below b2 (by omega)
   have p4:Hid (WCells W2 (w.heap.size+2) (fun _=>0)):=by
    show WCells _ _ _
    rw [←hW2,←hsz]
    intro i hi
    rcases yfG hi with rfl | rfl | rfl | rfl | rfl | rfl | rfl <;> simp [go_sem]
   have p5:Hid (WFree W2 (w.heap.size+2)):=fun i=>by rw [←hW2,←hsz]; simp [go_sem]
   have p6:Hid (Below w.heap.size w W2):=HI.out.2.2.2.2.trans (b2.mono (by omega))
   have HW2:=hid hW2
   clear hke hin b2 hW2
   go_wp2_with fail
   rw [HW2.out]
   go_loopw [6,7] (fun i _ wq=>∃n:Nat,i= .int .i64 n∧n≤7∧Hid (WCells wq (w.heap.size+2) (fun j=>if j < n then wof l j else 0)∧WFree wq (w.heap.size+2)∧InC wq (w.heap.size+1) l∧WCells wq w.heap.size (fun _=>0)∧WFree wq w.heap.size∧Below w.heap.size w wq)) (fun i _ _=>7 - (intOf i).toNat)
   case atStart=>exact ⟨0,rfl,by omega,p4.out.congr (fun j hj=>by simp),p5.out,p1.out,p2.out,p3.out,p6.out⟩
   case round=>
    obtain ⟨n,rfl,hn,HJ⟩:=hrel
    by_cases hn7:n < 7
    ·go_wp2_with fail
     go_loopw [7] (fun v wq=>∃m:Nat,m≤64∧v= .int .i64 ((m:Int) - 1)∧Hid (WCells wq (w.heap.size+2) (wpre l n m)∧WFree wq (w.heap.size+2)∧InC wq (w.heap.size+1) l∧WCells wq w.heap.size (fun _=>0)∧WFree wq w.heap.size∧Below w.heap.size w wq)) (fun v _=>(intOf v+1).toNat)
     case atStart=>exact ⟨64,by omega,by simp,HJ.out.1.congr (fun j hj=>by unfold wpre; rw [upM_64]; split <;> (try split) <;> first | rfl | omega),HJ.out.2⟩
     case round=>
      clear HJ
      obtain ⟨m,hm,rfl,HJ⟩:=hrel
      cases m with
      | zero=>
        have h0:Hid (∀W,WCells W (w.heap.size+2) (wpre l n 0)→WCells W (w.heap.size+2) (fun j=>if j < n+1 then wof l j else 0)):=fun W h=>h.congr (fun j hj=>by
         unfold wpre
         rw [upM_0]
         by_cases e:j=n
         ·subst e; simp [wof]
         ·have:(j < n+1)= (j < n):=by simp; omega
          simp [e,this])
        go_wp2
        exact ⟨⟨n+1,by go_num,by omega,h0.out _ HJ.out.1,HJ.out.2⟩,by simp [intOf]; omega⟩
      | succ m=>
        have hm64:m < 64:=by omega
        have hst:=hid (yfz (inWB l n) m hm64)
        have hh:=yh0 (inWB l n) m
        have e1:((m+1:Nat):Int) - 1= (m:Int):=by omega
        rw [e1]
        have c1:wr.cell? ⟨w.heap.size+2,n,none⟩=some (.int .u64 (upM (inWB l n) (m+1):Nat)):=by have:=HJ.out.1 n hn7; simpa [wpre] using this
        have c2:=HJ.out.2.1 n
        have c3:=HJ.out.2.2.1 (64 * n+m) (by omega)
        have hbit:inL l (64 * n+m)=inWB l n m:=rfl
        rw [hbit] at c3
        obtain ⟨M,hM⟩:∃M,upM (inWB l n) (m+1)=M:=⟨_,rfl⟩
        rw [hM] at hst hh c1
        have hM2:2 * M < 18446744073709551616:=by omega
        have hup:=upM_lt (inWB l n) m
        have done:∀(v:Nat) (W':World),v=upM (inWB l n) m→WCells W' (w.heap.size+2) (fun j=>if j=n then v else wpre l n (m+1) j)→WCells W' (w.heap.size+2) (wpre l n m):=fun v W' hv h=>h.congr (fun j hj=>by
         by_cases e:j=n
         ·subst e; simp [wpre,hv]
         ·simp [wpre,e])
        have Done:=hid done
        have s0:Hid (∀(W:World) (g:Nat→Nat) (v:Nat),WCells W (w.heap.size+2) g∧WFree W (w.heap.size+2)∧InC W (w.heap.size+1) l∧WCells W w.heap.size (fun _=>0)∧WFree W w.heap.size∧Below w.heap.size w W→
          WCells (W.setCell ⟨w.heap.size+2,n,none⟩ (.int .u64 v)) (w.heap.size+2) (fun j=>if j=n then v else g j)∧WFree (W.setCell ⟨w.heap.size+2,n,none⟩ (.int .u64 v)) (w.heap.size+2)∧InC (W.setCell ⟨w.heap.size+2,n,none⟩ (.int .u64 v)) (w.heap.size+1) l∧
          WCells (W.setCell ⟨w.heap.size+2,n,none⟩ (.int .u64 v)) w.heap.size (fun _=>0)∧WFree (W.setCell ⟨w.heap.size+2,n,none⟩ (.int .u64 v)) w.heap.size∧Below w.heap.size w (W.setCell ⟨w.heap.size+2,n,none⟩ (.int .u64 v))):=fun W g v ⟨d1,d2,d3,d4,d5,d6⟩=>
         ⟨d1.set hn7,d2.set _ _,fun j hj=>(World.cell?_of_block (w:=W) (a:=⟨w.heap.size+1,j,none⟩) (Below.heap_setCell _ _ _ _ (by simp))).trans (d3 j hj),fun j hj=>(World.cell?_of_block (w:=W) (a:=⟨w.heap.size,j,none⟩) (Below.heap_setCell _ _ _ _ (by simp))).trans (d4 j hj),d5.set _ _,yab d6 (by omega)⟩
        have e2:Hid ((2 * (M:Int))= ((2 * M:Nat):Int)):=by show _ = _; simp
        have e3:Hid ((2 * (M:Int)+1)= ((2 * M+1:Nat):Int)):=by show _ = _; simp
        obtain ⟨bt,hbt⟩:∃b,inWB l n m=b:=⟨_,rfl⟩
        rw [hbt] at c3 hst
        clear done hM hbit hbt e1
        cases bt
        ·have hv:Hid (2 * M=upM (inWB l n) m):=by show _ = _; rw [hst.out]; simp
         go_wp2
         rw [e2.out]
         obtain ⟨d1,d2⟩:=s0.out wr _ (2 * M) HJ.out
         exact ⟨⟨m,by omega,rfl,Done.out _ _ hv.out d1,d2⟩,by simp [intOf]⟩
        ·have hv:Hid (2 * M+1=upM (inWB l n) m):=by show _ = _; rw [hst.out]; simp
         rw [hst.out] at hup
         simp only [if_true] at hup
         go_wp2
         rw [e3.out,e2.out]
         obtain ⟨d1,d2⟩:=s0.out _ _ (2 * M+1) (s0.out wr _ (2 * M) HJ.out)
         exact ⟨⟨m,by omega,rfl,Done.out _ _ hv.out (d1.congr (fun j hj=>by by_cases e:j=n <;> simp [e])),d2⟩,by simp [intOf]⟩
    ·obtain rfl:n=7:=by omega
     have hc':WCells wr (w.heap.size+2) (wof l):=HJ.out.1.congr (fun j hj=>by simp [hj])
     obtain ⟨_,d1,d2,d3,d4,d5⟩:=HJ.out
     obtain ⟨r0,r1,r2,r3,r4,r5,r6⟩:=hc'.all
     obtain ⟨z0,z1,z2,z3,z4,z5,z6⟩:=d3.all
     have f0:=d4 0
     have f1:=d4 1
     have f2:=d4 2
     have f3:=d4 3
     have f4:=d4 4
     have f5:=d4 5
     have f6:=d4 6
     have D5:=hid d5
     clear hc' d1 d2 d3 d4 d5 HJ
     go_wp2
     refine bodyPost_ret (v:=wv (wof l)) (by simp [results,Tryz.results18,go_sem,z0,z1,z2,z3,z4,z5,z6]) rfl ⟨rfl,?_⟩
     exact yab (yab (yab (yab (yab (yab (yab D5.out (zG _)) (zG _)) (zG _)) (zG _)) (zG _)) (zG _)) (zG _)
end
end Go.Proofs.YtkpgfmonhfnhdaaGreatDoor
