/-
  span.Empty, ir.Hull: from when to when a set's clauses are.
  The roll's small functions: some, bounds, Made, Day, Clauses.
  roll.New: a new roll.
-/
import Derived.Test.YtjahgimnfliooaaGreatDoorQ0c6bd3
import Derived.DeepKeys5
import Derived.Test.YtjahgimnfliooaaGreatDoorQa82ec4
set_option maxRecDepth 100000
set_option maxHeartbeats 25600000
namespace Go.Proofs.YtjahgimnfliooaaGreatDoor
set_option linter.unusedVariables false
section
open Go.RowKit
theorem cellsSp:Tryz.prog.cellsOf 84=2:=by kernel_rfl
theorem keySp:Tryz.prog.keyTypeAt 3 84=true:=by kernel_rfl
theorem formSp (f u:Int):(spv f u).formed Tryz.prog 84=true:=by
 unfold Value.formed; simp only [Tryz.underlying84,cellsSp]; rfl
theorem lits_sp (d:Nat) {f u:Int} (hf:i64B f) (hu:i64B u):Tryz.prog.keyLits (d+2) 84 [.int .i64 f, .int .i64 u]=some [.int .i64 f, .int .i64 u]:=by
 unfold Program.keyLits
 simp only [Tryz.underlying84]
 simp [ygy,cellsSp,lits_l,hf,hu]
def eqlSpS (a b:Value):Sem Value:=binOp .eql 84 a b
theorem eql_spS (a b:Value):binOp .eql 84 a b=eqlSpS a b:=rfl
theorem eqlSp_run {f u f' u':Int} (w:World) (h1:i64B f) (h2:i64B u) (h3:i64B f') (h4:i64B u'):(eqlSpS (spv f u) (spv f' u')).run Tryz.prog w= .ok (.bool (decide (f=f'∧u=u'))) w:=by
 obtain ⟨r,hr,hi⟩:=run_equalIn_deep 9997 3 84 keySp w 3 3 _ _ _ _ (formSp f u) (formSp f' u') (lits_sp 1 h1 h2) (lits_sp 1 h3 h4)
 have e:r=decide (f=f'∧u=u'):=by
  rw [zze,hi,zzY]
  simp
 rw [eqlSpS,run_eql_struct]
 have hr':(Op.equalIn 10000 84 (spv f u) (spv f' u')).run Tryz.prog w= .ok (decide (f=f'∧u=u')) w:=by rw [←e]; exact hr
 rw [hr']; rfl
theorem yjb (f u:Int):i64B (yaq f u)∧i64B (yap f u):=by
 unfold i64B
 rcases ya2 f u with ⟨e1,e2,h⟩ | ⟨e1,e2,h⟩ <;> rw [e1,e2] <;> omega
theorem yfP (f u:Int):yaq (yaq f u) (yap f u)=yaq f u∧yap (yaq f u) (yap f u)=yap f u:=by
 rcases ya2 f u with ⟨e1,e2,h⟩ | ⟨e1,e2,h⟩ <;> rcases ya2 (yaq f u) (yap f u) with ⟨g1,g2,k⟩ | ⟨g1,g2,k⟩ <;> rw [g1,g2] <;> rw [e1,e2] at * <;> omega
theorem held_none (f u:Int):decide (yaq f u=0∧yap f u= -1)= !yaz f u:=by
 rw [zze,zzY,Bool.not_eq_true']
 rcases ya2 f u with ⟨e1,e2,h⟩ | ⟨e1,e2,h⟩
 ·have hb:yaz f u=true:=zzZ h
  rw [e1,e2,hb]; constructor
  ·intro ⟨a,b⟩; omega
  ·intro h; cases h
 ·have hb:yaz f u=false:=zzd h
  rw [e1,e2,hb]; simp
attribute [local go_sem ↓] eql_spS
theorem yfV (f u:Int) (w:World):Calls Tryz.prog 152 #[spv (yaq f u) (yap f u)] w fun e w'=>e= .returned (.bool (!yaz f u))∧Below w.heap.size w w':=by
 have cH:=hid (fun W=>ycj (yaq f u) (yap f u) W)
 rw [(yfP f u).1,(yfP f u).2] at cH
 have cN:=hid (fun W=>yhy W)
 have hq:=hid (fun W=>eqlSp_run (f:=yaq f u) (u:=yap f u) (f':=0) (u':=-1) W (yjb f u).1 (yjb f u).2 ⟨by decide,by decide⟩ ⟨by decide,by decide⟩)
 rw [held_none] at hq
 obtain ⟨X,hX⟩:∃X,yaq f u=X:=⟨_,rfl⟩
 obtain ⟨Y,hY⟩:∃Y,yap f u=Y:=⟨_,rfl⟩
 obtain ⟨B,hB⟩:∃B,yaz f u=B:=⟨_,rfl⟩
 rw [hX,hY] at cH hq⊢
 rw [hB] at hq⊢
 clear hX hY hB
 go_enter Tryz.func152,Tryz.ntmps152
 go_wp2_with fail
 refine (cH.out _).mono ?_
 rintro e w1 ⟨rfl,hB1⟩
 have HB1:=hid ((yaa (Below.refl _ _) (zG _)).trans (hB1.mono (by simp)))
 clear hB1
 go_wp2_with fail
 refine (cN.out _).mono ?_
 rintro e w2 ⟨rfl,hB2⟩
 have HB2:Hid (Below w.heap.size w w2):=HB1.out.trans (hB2.mono HB1.out.size)
 clear hB2
 have hq2:=hq.out w2
 go_wp2
 go_ret
 exact ⟨rfl,HB2.out⟩
def ybG (l:List Cl):Int:=l.foldl (fun a c=>if yaz c.fr c.un then min a (yaq c.fr c.un) else a) 12622780800
def ybF (l:List Cl):Int:=l.foldl (fun a c=>if yaz c.fr c.un then max a (yap c.fr c.un) else a) (-1)
theorem yj4 (l:List Cl) (c:Cl):ybG (l ++ [c])=if yaz c.fr c.un then min (ybG l) (yaq c.fr c.un) else ybG l:=by rw [ybG,List.foldl_append]; rfl
theorem yj3 (l:List Cl) (c:Cl):ybF (l ++ [c])=if yaz c.fr c.un then max (ybF l) (yap c.fr c.un) else ybF l:=by rw [ybF,List.foldl_append]; rfl
structure HuS (w:World) (W:World):Prop where
 r0:W.cell? ⟨w.heap.size,0,none⟩=some (.int .i64 0)
 r1:W.cell? ⟨w.heap.size,1,none⟩=some (.int .i64 0)
 g0:W.frozen? ⟨w.heap.size,0,none⟩=false
 g1:W.frozen? ⟨w.heap.size,1,none⟩=false
 be:Below w.heap.size w W
 l:w.heap.size < W.heap.size
theorem HuS.keep {w W W':World} (h:HuS w W) (hb:Below W.heap.size W W'):HuS w W':=
 ⟨(hb.cell (p:=⟨w.heap.size,0,none⟩) h.l).trans h.r0,(hb.cell (p:=⟨w.heap.size,1,none⟩) h.l).trans h.r1,(hb.frozen (p:=⟨w.heap.size,0,none⟩) h.l).trans h.g0,(hb.frozen (p:=⟨w.heap.size,1,none⟩) h.l).trans h.g1,h.be.trans (hb.mono (by have:=h.l; omega)),zH h.l hb.size⟩
attribute [local go_sem ↓] yaC yaK
attribute [local go_sem] yaA
theorem Hull_any (a:Option Addr) (cap:Nat) (l:List Cl) (w:World) (hl:l.length≤1000) (hs:Sl w a (cls l)) :
  Calls Tryz.prog 151 #[.slice a l.length cap] w fun e w'=>e= .returned (spv (yaq (ybG l) (ybF l)) (yap (ybG l) (ybF l)))∧Below w.heap.size w w':=by
 have cH:=hid (fun f u W=>ycj f u W)
 have cE:=hid (fun f u W=>yfV f u W)
 have Hs:=hid hs
 have HI0:Hid (HuS w (w.alloc (.cells #[.int .i64 0, .int .i64 0] 84))):=⟨by simp [go_sem],by simp [go_sem],by simp [go_sem],by simp [go_sem],yaa (Below.refl _ _) (zG _),by simp⟩
 clear hs
 go_enter Tryz.func151,Tryz.ntmps151
 go_wp2_with fail
 go_loopw [3,4,10] (fun f u i wr=>∃k:Nat,i= .int .i64 k∧k≤l.length∧f= .int .i64 (ybG (l.take k))∧u= .int .i64 (ybF (l.take k))∧Hid (HuS w wr)) (fun _ _ i _=>l.length - (intOf i).toNat)
 case atStart=>exact ⟨0,rfl,by omega,rfl,rfl,HI0⟩
 case round=>
  obtain ⟨k,rfl,hk,rfl,rfl,HI⟩:=hrel
  obtain ⟨A,hA⟩:∃x,ybG (l.take k)=x:=⟨_,rfl⟩
  obtain ⟨B,hB⟩:∃x,ybF (l.take k)=x:=⟨_,rfl⟩
  by_cases hlt:k < l.length
  ·have hltI:(k:Int) < l.length:=by omega
   obtain ⟨b,off,rfl,hbk,hr⟩:=Hs.out.atCl hlt
   have hr':=ybS hr HI.out.be hbk
   have ts:=yam l k hlt
   have e1:=yj4 (l.take k) l[k]
   have e2:=yj3 (l.take k) l[k]
   rw [←ts,hA] at e1
   rw [←ts,hB] at e2
   obtain ⟨c,hc⟩:∃c,l[k]=c:=⟨_,rfl⟩
   rw [hc] at hr' e1 e2
   rw [hA,hB]
   have le:=yjZ hr'
   have hth2:(wr.alloc (.cells zL.toArray 34)).there wr.heap.size 0 30:=yat wr _ _
   have hn2:=yaa (o:= .cells zL.toArray 34) (Below.refl wr.heap.size wr) (zG _)
   have hC1:ClB (yas (wr.alloc (.cells zL.toArray 34)) wr.heap.size (yac c)) wr.heap.size c:=yak _ rfl hth2
   have le1:=hC1.ld
   have hb1:Below wr.heap.size wr (yas (wr.alloc (.cells zL.toArray 34)) wr.heap.size (yac c)):=yaj hn2 (zG _) _
   obtain ⟨W3,hW3⟩:∃W,yas (wr.alloc (.cells zL.toArray 34)) wr.heap.size (yac c)=W:=⟨_,rfl⟩
   rw [hW3] at hC1 hb1 le1
   have HI3:=hid (HI.out.keep hb1)
   have HW3:=hid hW3
   have cS:=hid (fun W=>yfv c W)
   have cE1:=hid (fun W=>cE.out c.fr c.un W)
   obtain ⟨X,hX⟩:∃X,yaq c.fr c.un=X:=⟨_,rfl⟩
   obtain ⟨Y,hY⟩:∃Y,yap c.fr c.un=Y:=⟨_,rfl⟩
   obtain ⟨E,hE⟩:∃E,yaz c.fr c.un=E:=⟨_,rfl⟩
   rw [hX,hY] at cS cE1
   rw [hE] at cE1
   rw [hX,hE] at e1
   rw [hY,hE] at e2
   have E1:=hid e1
   have E2:=hid e2
   clear hA hB hr hr' ts e1 e2 hc hn2 hb1 hC1 hW3 hX hY hE
   go_upto_region 5 with fail
   rw [HW3.out]
   clear le hth2
   go_wp2_with fail
   refine (cS.out _).mono ?_
   rintro e w4 ⟨rfl,hB4⟩
   have hnw:=yaa (o:= .cells #[.int .i64 X, .int .i64 Y] 84) (Below.refl w4.heap.size w4) (zG _)
   have HI5:=hid ((HI3.out.keep hB4).keep hnw)
   obtain ⟨W5,hW5⟩:∃W,w4.alloc (.cells #[.int .i64 X, .int .i64 Y] 84)=W:=⟨_,rfl⟩
   have k1:W5.cell? ⟨w4.heap.size,0,none⟩=some (.int .i64 X):=by rw [←hW5]; simp [go_sem]
   have k2:W5.cell? ⟨w4.heap.size,1,none⟩=some (.int .i64 Y):=by rw [←hW5]; simp [go_sem]
   have z5:w4.heap.size < W5.heap.size:=by rw [←hW5]; simp
   rw [hW5] at HI5
   have HW5:=hid hW5
   have K1:=hid k1
   have K2:=hid k2
   have Z5:=hid z5
   clear hnw hB4 hW5 le1 z5
   go_upto_region 6 with fail
   rw [HW5.out]
   go_wp2_with fail
   refine (cE1.out _).mono ?_
   rintro e w6 ⟨rfl,hB6⟩
   have HI6:=hid (HI5.out.keep hB6)
   have k1:=(hB6.cell (p:=⟨w4.heap.size,0,none⟩) Z5.out).trans K1.out
   have k2:=(hB6.cell (p:=⟨w4.heap.size,1,none⟩) Z5.out).trans K2.out
   clear hB6
   cases E
   ·go_wp2
    exact ⟨⟨k+1,by go_num,by omega,by rw [E1.out]; rfl,by rw [E2.out]; rfl,HI6⟩,by simp [intOf]; omega⟩
   ·rcases Int.lt_or_le X A with h1 | h1 <;> rcases Int.lt_or_le B Y with h2 | h2
    all_goals
     go_upto_region 7 with fail
     go_region
     go_wp2
     exact ⟨⟨k+1,by go_num,by omega,by rw [E1.out,if_pos True.intro]; congr 1; omega,by rw [E2.out,if_pos True.intro]; congr 1; omega,HI6.out.keep (Below.refl _ _).drew⟩,by simp [intOf]; omega⟩
  ·have hltI:¬(k:Int) < l.length:=by omega
   have hall:l.take k=l:=List.take_of_length_le (by omega)
   rw [hall] at hA hB
   rw [hall,hA,hB]
   have cH1:=hid (fun W=>cH.out A B W)
   obtain ⟨X,hX⟩:∃X,yaq A B=X:=⟨_,rfl⟩
   obtain ⟨Y,hY⟩:∃Y,yap A B=Y:=⟨_,rfl⟩
   rw [hX,hY] at cH1
   have hpost:Hid (spv (yaq (ybG l) (ybF l)) (yap (ybG l) (ybF l))=spv X Y):=by show _ = _; rw [hA,hB,hX,hY]
   clear hA hB hall hX hY
   go_wp2_with fail
   refine (cH1.out _).mono ?_
   rintro e w4 ⟨rfl,hB4⟩
   have HI4:=hid (HI.out.keep hB4)
   clear hB4
   obtain ⟨r0,r1,g0,g1,-,-⟩:=HI4.out
   go_wp2
   refine bodyPost_ret (v:=spv X Y) (yad rfl _ _ w.heap.size 0 _ _ rfl (ycG r0 r1) Tryz.underlying84 rfl yfd) rfl ⟨by rw [hpost.out],yab (yab HI4.out.be (zG _)) (zG _)⟩
end
section
open Go.RowKit Go.Maps
def anyQ (q:Nat→Bool):Bool:=(List.range 86400).any q
theorem ydP {q:Nat→Bool}:anyQ q=true↔∃k,k < 86400∧q k=true:=by
 rw [anyQ,List.any_eq_true]
 exact ⟨fun ⟨k,h1,h2⟩=>⟨k,List.mem_range.1 h1,h2⟩,fun ⟨k,h1,h2⟩=>⟨k,List.mem_range.2 h1,h2⟩⟩
theorem yfT {q:Nat→Bool}:anyQ q=false↔∀k,k < 86400→q k=false:=by
 rw [anyQ,List.any_eq_false]
 exact ⟨fun h k hk=>by simpa using h k (List.mem_range.2 hk),fun h k hk=>by simpa using h k (List.mem_range.1 hk)⟩
theorem ykl {q:Nat→Bool} {n:Int} {ok:Bool} (h:FirstOf (fun k=>q k && decide ((0:Int)≤k)) n ok):ok=anyQ q:=by
 rcases h with ⟨rfl,k,-,hk,h1,-⟩ | ⟨rfl,-,h1⟩
 ·rw [zzX] at h1
  exact (ydP.2 ⟨k,hk,h1.1⟩).symm
 ·refine (yfT.2 fun k hk=>?_).symm
  have h2:(q k && decide ((0:Int)≤k))=false:=h1 k hk
  rwa [zzZ (show (0:Int)≤k by omega),Bool.and_true] at h2
theorem Some_any (d:Option Nat) (q:Nat→Bool) (w:World) (hT:Tab w) (h:DiscO w d q):Calls Tryz.prog 107 #[dptr d] w fun e w'=>e= .returned (.bool (anyQ q))∧w=w':=by
 have c1:=hid (yfY d q 0 w (by omega) (by omega) hT h)
 clear hT h
 obtain ⟨v,hv⟩:∃v,dptr d=v:=⟨_,rfl⟩
 rw [hv] at c1⊢
 clear hv
 go_enter Tryz.func107,Tryz.ntmps107
 go_wp2_with fail
 refine c1.out.mono ?_
 rintro e w' ⟨⟨n,ok,rfl,hf⟩,rfl⟩
 have Hf:Hid (ok=anyQ q):=ykl hf
 clear hf
 go_wp2
 go_ret
 exact ⟨by rw [←Hf.out]; rfl,rfl⟩
def hulB (cs:List Cl):Bool:=yaz (ybG cs) (ybF cs)
def bndF (cs:List Cl) (f:Int):Int:=if hulB cs then max f (yaq (ybG cs) (ybF cs) / 86400) else 0
def bndU (cs:List Cl) (t:Int):Int:=if hulB cs then min t (yap (ybG cs) (ybF cs) / 86400) else -1
theorem held_held (f u:Int):yaz (yaq f u) (yap f u)=yaz f u:=by
 rw [yaq,yap]
 cases h:yaz f u
 ·rfl
 ·rw [if_pos rfl,if_pos rfl]
  have:=of_decide_eq_true h
  exact zzZ (by omega)
theorem yja {f u:Int} (h:yaz f u=true):0≤yaq f u∧yaq f u≤yap f u∧yap f u≤12622780799:=by
 rw [yaq,yap,h,if_pos rfl,if_pos rfl]
 have:=of_decide_eq_true h
 omega
theorem yiv {W:World} {cs:List Cl} {br bk:Nat} {bps:List Nat} {F:Blk} {ws:Nat→Bool} {m:Nat} (f t:Int) (h:RollS W cs br bk bps F ws m) :
  Calls Tryz.prog 103 #[.pointer (some ⟨br,0,none⟩), .int .i64 f, .int .i64 t] W fun e W'=>e= .returned (.tuple #[.int .i64 (bndF cs f), .int .i64 (bndU cs t)])∧Below W.heap.size W W':=by
 have h8:cs.length≤8:=by have:=h.x.may; rw [mayL,zzX,zzY] at this; exact this.1
 obtain ⟨a0,c0,k0,s0,-,-⟩:=h.x.cls
 have hbr:=h.rlt
 have cH:=hid (fun W' (hB:Below W.heap.size W W')=>Hull_any a0 c0 cs W' (by omega) (s0.sl.below hB))
 have cE:=hid (fun W'=>yfV (ybG cs) (ybF cs) W')
 have cD:=hid (fun W'=>yfW (yaq (ybG cs) (ybF cs)) (yap (ybG cs) (ybF cs)) W')
 rw [held_held] at cD
 have hF:Hid (bndF cs f=if hulB cs then max f (yaq (ybG cs) (ybF cs) / 86400) else 0):=rfl
 have hU:Hid (bndU cs t=if hulB cs then min t (yap (ybG cs) (ybF cs) / 86400) else -1):=rfl
 have hr:=hid (fun hb=>yja (f:=ybG cs) (u:=ybF cs) hb)
 rw [hulB] at hF hU
 obtain ⟨X,hX⟩:∃X,yaq (ybG cs) (ybF cs)=X:=⟨_,rfl⟩
 obtain ⟨Y,hY⟩:∃Y,yap (ybG cs) (ybF cs)=Y:=⟨_,rfl⟩
 obtain ⟨E,hE⟩:∃E,yaz (ybG cs) (ybF cs)=E:=⟨_,rfl⟩
 rw [hX,hY] at cH cE cD hr
 rw [hX] at hF
 rw [hY] at hU
 rw [hE] at cE cD hF hU hr
 have Hbr:=hid hbr
 clear hX hY hE h h8 s0
 go_enter Tryz.func103,Tryz.ntmps103
 go_wp2_with fail
 obtain ⟨W1,hW1⟩:∃W1,W.alloc (.cells #[.int .i64 0, .int .i64 0] 84)=W1:=⟨_,rfl⟩
 have hb1:Below W.heap.size W W1:=by rw [←hW1]; exact yaa (Below.refl _ _) (zG _)
 have l1:W.heap.size < W1.heap.size:=by rw [←hW1]; simp
 have g0:W1.cell? ⟨W.heap.size,0,none⟩=some (.int .i64 0):=by rw [←hW1]; simp [go_sem]
 have g1:W1.cell? ⟨W.heap.size,1,none⟩=some (.int .i64 0):=by rw [←hW1]; simp [go_sem]
 have f0:W1.frozen? ⟨W.heap.size,0,none⟩=false:=by rw [←hW1]; exact yaB _ _ _ _
 have f1:W1.frozen? ⟨W.heap.size,1,none⟩=false:=by rw [←hW1]; exact yaB _ _ _ _
 rw [hW1]
 have HB1:=hid hb1
 have L1:=hid l1
 clear hW1 hb1 l1 k0
 refine (cH.out W1 HB1.out).mono ?_
 rintro e w2 ⟨rfl,hB2⟩
 replace g0:=(hB2.cell (p:=⟨W.heap.size,0,none⟩) L1.out).trans g0
 replace g1:=(hB2.cell (p:=⟨W.heap.size,1,none⟩) L1.out).trans g1
 replace f0:=(hB2.frozen (p:=⟨W.heap.size,0,none⟩) L1.out).trans f0
 replace f1:=(hB2.frozen (p:=⟨W.heap.size,1,none⟩) L1.out).trans f1
 have HB2:Hid (Below W.heap.size W w2):=HB1.out.trans (hB2.mono HB1.out.size)
 have L2:Hid (W.heap.size < w2.heap.size):=zH L1.out hB2.size
 clear hB2
 go_upto_region 5 with fail
 obtain ⟨W3,hW3⟩:∃W3,(w2.setCell ⟨W.heap.size,0,none⟩ (.int .i64 X)).setCell ⟨W.heap.size,1,none⟩ (.int .i64 Y)=W3:=⟨_,rfl⟩
 have HB3:Hid (Below W.heap.size W W3):=by show Below _ _ _; rw [←hW3]; exact yab (yab HB2.out (zG _)) (zG _)
 have L3:Hid (W.heap.size < W3.heap.size):=by show _ < _; rw [←hW3]; simpa using L2.out
 have x0:W3.cell? ⟨W.heap.size,0,none⟩=some (.int .i64 X):=by rw [←hW3]; simp [go_sem,g0]
 have x1:W3.cell? ⟨W.heap.size,1,none⟩=some (.int .i64 Y):=by rw [←hW3]; simp [go_sem,g1]
 rw [hW3]
 clear hW3 g0 g1 f0 f1
 go_wp2_with fail
 refine (cE.out W3).mono ?_
 rintro e w4 ⟨rfl,hB4⟩
 have HB4:Hid (Below W.heap.size W w4):=HB3.out.trans (hB4.mono HB3.out.size)
 replace x0:=(hB4.cell (p:=⟨W.heap.size,0,none⟩) L3.out).trans x0
 replace x1:=(hB4.cell (p:=⟨W.heap.size,1,none⟩) L3.out).trans x1
 clear hB4
 cases E
 ·go_wp2
  go_ret2
  exact ⟨by rw [hF.out,hU.out]; rfl,HB4.out⟩
 ·have cD1:=hid (cD.out w4)
  rw [if_pos rfl] at cD1
  have eX:max X 0=X:=by have:=hr.out rfl; omega
  have eY:min Y 12622780799=Y:=by have:=hr.out rfl; omega
  rw [eX,eY] at cD1
  obtain ⟨P,hP⟩:∃P,X / 86400=P:=⟨_,rfl⟩
  obtain ⟨Q,hQ⟩:∃Q,Y / 86400=Q:=⟨_,rfl⟩
  rw [hP,hQ] at cD1
  rw [hP] at hF
  rw [hQ] at hU
  clear hP hQ eX eY hr
  go_wp2_with fail
  refine cD1.out.mono ?_
  rintro e w5 ⟨rfl,hB5⟩
  have HB5:Hid (Below W.heap.size W w5):=HB4.out.trans (hB5.mono HB4.out.size)
  clear hB5 x0 x1
  have eF:bndF cs f=max f P:=hF.out
  have eU:bndU cs t=min t Q:=hU.out
  have EF:=hid eF
  have EU:=hid eU
  clear eF eU hF hU
  go_wp2
  all_goals
   go_ret2
   refine ⟨?_,HB5.out⟩
   rw [EF.out,EU.out]
   first
    | rw [show max f P=P by omega]
    | rw [show max f P=f by omega]
   first
    | rw [show min t Q=Q by omega]
    | rw [show min t Q=t by omega]
   rfl
theorem AtR.below {W W1:World} {cs:List Cl} {br bk:Nat} {bps:List Nat} {F:Blk} {ws:Nat→Bool} {m:Nat} {n:Int} {e:Ending} {W':World} (h:AtR W1 cs br bk bps F ws m n e W') (hB:Below W.heap.size W W1):AtR W cs br bk bps F ws m n e W':=by
 obtain ⟨d,F',ws',m',h1,h2,h3,h4,h5⟩:=h
 exact ⟨d,F',ws',m',h1,h2,(GrF.refl F W).trans h3 hB.size,(Eff.of_below hB).trans h4 (fun _ h=> .inl h),h5⟩
theorem AtR2.below {W W1:World} {cs:List Cl} {br bk:Nat} {bps:List Nat} {F:Blk} {ws:Nat→Bool} {m:Nat} {n:Int} {e:Ending} {W':World} (h:AtR2 W1 cs br bk bps F ws m n e W') (hB:Below W.heap.size W W1) (hk:bk < W.heap.size):AtR2 W cs br bk bps F ws m n e W':=by
 obtain ⟨d,F',ws',m',h1,h2,h3,h4,h5,h6,h7,h8⟩:=h
 exact ⟨d,F',ws',m',h1,h2,(GrF.refl F W).trans h3 hB.size,(Eff.of_below hB).trans h4 (fun _ h=> .inl h),h5,h6,h7,fun g1 g2=>⟨(h8 g1 g2).1,fun g3=>(h8 g1 g2).2 (g3.block (hB.block bk hk))⟩⟩
end
section
open Go.RowKit Go.Maps
theorem eLapF:El Tryz.prog 149 154 .nilFunc 1 8:=⟨Tryz.underlying149,by kernel_rfl,by kernel_rfl,by decide⟩
theorem eMapS:El Tryz.prog 150 156 (.map none) 1 8:=⟨Tryz.underlying150,by kernel_rfl,by kernel_rfl,by decide⟩
theorem zcRoll:Tryz.zeroCells153= ([Value.slice none 0 0,Value.slice none 0 0,Value.map none,Value.slice none 0 0] ++ List.replicate 256 (Value.pointer none) ++ [Value.int .i64 0]).toArray:=by kernel_rfl
structure NwF (W:World) (l:List Cl) (a0:Option Addr) (c0 bk br:Nat) (w:World):Prop where
 bel:Below W.heap.size W w
 lo:W.heap.size≤bk∧br=bk+1∧br < w.heap.size
 own:w.ownsRow W.heap.size 34 30 (.slice a0 l.length c0) l.length (cls l)
 olt:∀b,(Value.slice a0 l.length c0).ownBlock=some b→b < bk
 r0:w.cell? ⟨br,0,none⟩=some (.slice a0 l.length c0)
 r2:w.cell? ⟨br,2,none⟩=some (.map (some bk))
 rw':∀j,j < 256→w.cell? ⟨br,4+j,none⟩=some (.pointer none)
 rm:w.cell? ⟨br,260,none⟩=some (.int .i64 0)
 fz:∀i,w.frozen? ⟨br,i,none⟩=false
 kn:w.heap[bk]? =some (.map #[] 0)
structure NwG (W:World) (l:List Cl) (br k1 k3:Nat) (v1 v3:Value) (gvs:List Value) (bps:List Nat) (w:World):Prop where
 r1:w.cell? ⟨br,1,none⟩=some v1
 r3:w.cell? ⟨br,3,none⟩=some v3
 o1:w.ownsRow W.heap.size 154 1 v1 k1 gvs
 o3:w.ownsRow W.heap.size 156 1 v3 k3 (bps.map fun b=> .map (some b))
 b1:∀b,v1.ownBlock=some b→br < b
 b3:∀b,v3.ownBlock=some b→br < b
 n13:∀b,v1.ownBlock=some b→v3.ownBlock≠some b
 mp:∀b∈bps,br < b∧b < w.heap.size∧w.heap[b]? =some (.map #[] 0)∧v1.ownBlock≠some b∧v3.ownBlock≠some b
 nd:bps.Nodup
 g1:gvs.length=k1
 g3:bps.length=k3
 lp:∀i,i < k1→∃lo hi,LapV w lo hi (atC l i) (gvs.getD i undef)∧br < lo∧hi≤w.heap.size∧∀b,lo≤b→b < hi→v1.ownBlock≠some b∧v3.ownBlock≠some b∧b ∉ bps
section
variable {W w w':World} {l:List Cl} {a0:Option Addr} {c0 bk br k1 k3:Nat} {v1 v3:Value} {gvs:List Value} {bps:List Nat}
theorem NwF.keep (h:NwF W l a0 c0 bk br w) (hb:Below W.heap.size W w') (hs:w.heap.size≤w'.heap.size) (hB:∀b,b≤br→w'.heap[b]? =w.heap[b]?):NwF W l a0 c0 bk br w':=by
 have hbr:=hB br (zG _)
 have cb:∀i,w'.cell? ⟨br,i,none⟩=w.cell? ⟨br,i,none⟩:=fun i=>zzJ (w:=w) (a:=⟨br,i,none⟩) hbr
 have fb:∀i,w'.frozen? ⟨br,i,none⟩=w.frozen? ⟨br,i,none⟩:=fun i=>zzM (w:=w) (a:=⟨br,i,none⟩) hbr
 obtain ⟨l1,l2,l3⟩:=h.lo
 exact ⟨hb,⟨l1,l2,zH l3 hs⟩,yaI h.own (fun b hb=>hB b (by have:=h.olt b hb; omega)),h.olt,(cb 0).trans h.r0,(cb 2).trans h.r2,fun j hj=>(cb _).trans (h.rw' j hj),(cb _).trans h.rm,fun i=>(fb i).trans (h.fz i),(hB bk (by omega)).trans h.kn⟩
theorem NwF.set {v:Value} (h:NwF W l a0 c0 bk br w) {i:Nat} (hi:i=1∨i=3):NwF W l a0 c0 bk br (w.setCell ⟨br,i,none⟩ v):=by
 obtain ⟨l1,l2,l3⟩:=h.lo
 have hE:Eff (fun b=>b=br) w (w.setCell ⟨br,i,none⟩ v):=(Eff.refl (fun b=>b=br) w).set rfl _ _
 have hB:∀b,b < br→(w.setCell ⟨br,i,none⟩ v).heap[b]? =w.heap[b]?:=fun b hb=>hE.block b (by omega) (by omega)
 refine ⟨yab h.bel (by omega),⟨l1,l2,by simpa using l3⟩,yaI h.own (fun b hb=>hB b (by have:=h.olt b hb; omega)),h.olt,?_,?_,fun j hj=>?_,?_,fun j=>?_,(hB bk (by omega)).trans h.kn⟩
 ·have:=h.r0; rcases hi with rfl | rfl <;> simpa [go_sem] using this
 ·have:=h.r2; rcases hi with rfl | rfl <;> simpa [go_sem] using this
 ·rw [zzL _ _ _ _ (by intro e; injection e with _ e _; omega)]; exact h.rw' j hj
 ·rw [zzL _ _ _ _ (by intro e; injection e with _ e _; omega)]; exact h.rm
 ·have:=h.fz j; simpa [go_sem] using this
theorem NwG.keep (h:NwG W l br k1 k3 v1 v3 gvs bps w) (hl:br < w.heap.size) (hs:w.heap.size≤w'.heap.size) (hB:∀b,b < w.heap.size→w'.heap[b]? =w.heap[b]?):NwG W l br k1 k3 v1 v3 gvs bps w':=by
 have cb:∀i,w'.cell? ⟨br,i,none⟩=w.cell? ⟨br,i,none⟩:=fun i=>zzJ (w:=w) (a:=⟨br,i,none⟩) (hB br hl)
 refine ⟨(cb 1).trans h.r1,(cb 3).trans h.r3,yaI h.o1 (fun b hb=>hB b (yaX h.o1 hb).2),yaI h.o3 (fun b hb=>hB b (yaX h.o3 hb).2),h.b1,h.b3,h.n13,fun b hb=>?_,h.nd,h.g1,h.g3,fun i hi=>?_⟩
 ·obtain ⟨m1,m2,m3,m4⟩:=h.mp b hb
  exact ⟨m1,zH m2 hs,(hB b m2).trans m3,m4⟩
 ·obtain ⟨lo,hi',q1,q2,q3,q4⟩:=h.lp i hi
  exact ⟨lo,hi',q1.keep (zI q3 hs) (fun b _ g=>hB b (zH g q3)),q2,zI q3 hs,q4⟩
theorem NwG.lap {w6:World} {v1' gv:Value} {s:Nat} (h:NwG W l br k1 k3 v1 v3 gvs bps w) (hl:br < w.heap.size) (hb:Below w.heap.size w w') (hs:w.heap.size≤s) (hL:LapV w' s w'.heap.size (atC l k1) gv)
  (ho:w6.ownsRow W.heap.size 154 1 v1' (k1+1) (gvs ++ [gv])) (hg:w'.grownBy w6 v1.ownBlock) (hn:∀b,v1'.ownBlock=some b→v1.ownBlock=some b∨w'.heap.size≤b) :
  NwG W l br (k1+1) k3 v1' v3 (gvs ++ [gv]) bps (w6.setCell ⟨br,1,none⟩ v1'):=by
 have hs1:=hb.size
 have hs6:=hg.size
 have hE:Eff (fun b=>b=br) w6 (w6.setCell ⟨br,1,none⟩ v1'):=(Eff.refl (fun b=>b=br) w6).set rfl _ _
 have hr6:w6.heap[br]? =w.heap[br]?:=(hg.block br (by omega) (fun e=>by have:=h.b1 br e.symm; omega)).trans (hb.block br hl)
 have ho1:∀b,v1'.ownBlock=some b→br < b:=fun b e=>by
  rcases hn b e with e | e
  ·exact h.b1 b e
  ·omega
 have stay:∀b,b < w'.heap.size→b≠br→v1.ownBlock≠some b→(w6.setCell ⟨br,1,none⟩ v1').heap[b]? =w'.heap[b]?:=fun b g1 g2 g3=>(hE.block b (by omega) g2).trans (hg.block b g1 (fun e=>g3 e.symm))
 have stay0:∀b,b < w.heap.size→b≠br→v1.ownBlock≠some b→(w6.setCell ⟨br,1,none⟩ v1').heap[b]? =w.heap[b]?:=fun b g1 g2 g3=>(stay b (by omega) g2 g3).trans (hb.block b g1)
 have c6:∀i,w6.cell? ⟨br,i,none⟩=w.cell? ⟨br,i,none⟩:=fun i=>zzJ (w:=w) (a:=⟨br,i,none⟩) hr6
 have hsz:(w6.setCell ⟨br,1,none⟩ v1').heap.size=w6.heap.size:=by simp
 refine ⟨?_,?_,yaI ho (fun b e=>hE.block b (yaX ho e).2 (by have:=ho1 b e; omega)),yaI h.o3 (fun b e=>stay0 b (yaX h.o3 e).2 (by have:=h.b3 b e; omega) (fun e'=>h.n13 b e' e)),ho1,h.b3,fun b e=>?_,fun b hb'=>?_,h.nd,by simp [h.g1],h.g3,fun i hi=>?_⟩
 ·have:=(c6 1).trans h.r1; simp [go_sem,this]
 ·rw [zzL _ _ _ _ (by intro e; injection e with _ e _; omega)]; exact (c6 3).trans h.r3
 ·rcases hn b e with e | e
  ·exact h.n13 b e
  ·intro e3; have:=(yaX h.o3 e3).2; omega
 ·obtain ⟨m1,m2,m3,m4,m5⟩:=h.mp b hb'
  refine ⟨m1,by omega,(stay0 b m2 (by omega) m4).trans m3,fun e=>?_,m5⟩
  rcases hn b e with e | e
  ·exact m4 e
  ·omega
 ·by_cases hik:i < k1
  ·obtain ⟨lo,hi',q1,q2,q3,q4⟩:=h.lp i hik
   have e:(gvs ++ [gv]).getD i undef=gvs.getD i undef:=by rw [List.getD_eq_getElem?_getD,List.getD_eq_getElem?_getD,List.getElem?_append_left (by rw [h.g1]; exact hik)]
   rw [e]
   refine ⟨lo,hi',q1.keep (by omega) (fun b g1 g2=>stay0 b (by omega) (by omega) (q4 b g1 g2).1),q2,by omega,fun b g1 g2=>⟨fun e=>?_,(q4 b g1 g2).2⟩⟩
   rcases hn b e with e | e
   ·exact (q4 b g1 g2).1 e
   ·omega
  ·obtain rfl:i=k1:=by omega
   have e:(gvs ++ [gv]).getD i undef=gv:=by rw [List.getD_eq_getElem?_getD,List.getElem?_append_right (by rw [h.g1]; exact zG _),h.g1]; simp
   rw [e]
   refine ⟨s,w'.heap.size,hL.keep (by omega) (fun b g1 g2=>stay b g2 (by omega) (fun e=>by have:=(yaX h.o1 e).2; omega)),by omega,by omega,fun b g1 g2=>⟨fun e=>?_,fun e=>?_,fun e=>?_⟩⟩
   ·rcases hn b e with e | e
    ·have:=(yaX h.o1 e).2; omega
    ·omega
   ·have:=(yaX h.o3 e).2; omega
   ·have:=(h.mp b e).2.1; omega
theorem NwG.part {w6:World} {v3':Value} (h:NwG W l br k1 k3 v1 v3 gvs bps w) (hl:br < w.heap.size)
  (ho:w6.ownsRow W.heap.size 156 1 v3' (k3+1) ((bps ++ [w.heap.size]).map fun b=> .map (some b))) (hg:(w.alloc (.map #[] 0)).grownBy w6 v3.ownBlock) (hn:∀b,v3'.ownBlock=some b→v3.ownBlock=some b∨w.heap.size < b) :
  NwG W l br k1 (k3+1) v1 v3' gvs (bps ++ [w.heap.size]) (w6.setCell ⟨br,3,none⟩ v3'):=by
 have hs6:w.heap.size+1≤w6.heap.size:=by have:=hg.size; simpa using this
 have hE:Eff (fun b=>b=br) w6 (w6.setCell ⟨br,3,none⟩ v3'):=(Eff.refl (fun b=>b=br) w6).set rfl _ _
 have hg':∀b,b < w.heap.size→v3.ownBlock≠some b→w6.heap[b]? =w.heap[b]?:=fun b g1 g2=>(hg.block b (by simp; omega) (fun e=>g2 e.symm)).trans ((yaa (o:= .map #[] 0) (Below.refl w.heap.size w) (zG _)).block b g1)
 have hr6:w6.heap[br]? =w.heap[br]?:=hg' br hl (fun e=>by have:=h.b3 br e; omega)
 have ho3:∀b,v3'.ownBlock=some b→br < b:=fun b e=>by
  rcases hn b e with e | e
  ·exact h.b3 b e
  ·omega
 have stay:∀b,b < w.heap.size→b≠br→v3.ownBlock≠some b→(w6.setCell ⟨br,3,none⟩ v3').heap[b]? =w.heap[b]?:=fun b g1 g2 g3=>(hE.block b (by omega) g2).trans (hg' b g1 g3)
 have c6:∀i,w6.cell? ⟨br,i,none⟩=w.cell? ⟨br,i,none⟩:=fun i=>zzJ (w:=w) (a:=⟨br,i,none⟩) hr6
 have hsz:(w6.setCell ⟨br,3,none⟩ v3').heap.size=w6.heap.size:=by simp
 have hnew:∀b,v1.ownBlock=some b→b < w.heap.size:=fun b e=>(yaX h.o1 e).2
 refine ⟨?_,?_,yaI h.o1 (fun b e=>stay b (hnew b e) (by have:=h.b1 b e; omega) (h.n13 b e)),yaI ho (fun b e=>hE.block b (yaX ho e).2 (by have:=ho3 b e; omega)),h.b1,ho3,fun b e e3=>?_,fun b hb'=>?_,?_,h.g1,by simp [h.g3],fun i hi=>?_⟩
 ·rw [zzL _ _ _ _ (by intro e; injection e with _ e _; omega)]; exact (c6 1).trans h.r1
 ·have:=(c6 3).trans h.r3; simp [go_sem,this]
 ·rcases hn b e3 with e3 | e3
  ·exact h.n13 b e e3
  ·have:=hnew b e; omega
 ·rcases List.mem_append.1 hb' with hb' | hb'
  ·obtain ⟨m1,m2,m3,m4,m5⟩:=h.mp b hb'
   refine ⟨m1,by omega,(stay b m2 (by omega) m5).trans m3,m4,fun e=>?_⟩
   rcases hn b e with e | e
   ·exact m5 e
   ·omega
  ·obtain rfl:b=w.heap.size:=by simpa using hb'
   refine ⟨hl,by omega,(hE.block _ (by omega) (by omega)).trans ((hg.block w.heap.size (by simp) (fun e=>by have:=(yaX h.o3 e.symm).2; omega)).trans (World.alloc_heap_new w _)),fun e=>by have:=hnew _ e; omega,fun e=>?_⟩
   rcases hn _ e with e | e
   ·have:=(yaX h.o3 e).2; omega
   ·omega
 ·refine List.nodup_append.2 ⟨h.nd,by simp,fun a ha b hb e=>?_⟩
  have:b=w.heap.size:=by simpa using hb
  have:=(h.mp a ha).2.1
  omega
 ·obtain ⟨lo,hi',q1,q2,q3,q4⟩:=h.lp i hi
  refine ⟨lo,hi',q1.keep (by omega) (fun b g1 g2=>stay b (by omega) (by omega) (q4 b g1 g2).2.1),q2,by omega,fun b g1 g2=>⟨(q4 b g1 g2).1,fun e=>?_,fun e=>?_⟩⟩
  ·rcases hn b e with e | e
   ·exact (q4 b g1 g2).2.1 e
   ·omega
  ·rcases List.mem_append.1 e with e | e
   ·exact (q4 b g1 g2).2.2 e
   ·have:b=w.heap.size:=by simpa using e
    omega
end
end
end Go.Proofs.YtjahgimnfliooaaGreatDoor
