/-
  feriaref35.Clause: the blocks on its way.
-/
import Derived.Test.YtjahgimnfliooaaGreatDoorQ1c091c
import Derived.Test.YtjahgimnfliooaaGreatDoorQdc96ce
import Derived.Test.YtjahgimnfliooaaGreatDoorQ957032
import Derived.Test.YtjahgimnfliooaaGreatDoorQe56d57
import Derived.Test.YtjahgimnfliooaaGreatDoorQ3571b4
set_option maxRecDepth 100000
set_option maxHeartbeats 25600000
namespace Go.Proofs.YtjahgimnfliooaaGreatDoor
open Go.RowKit Go.Maps
set_option linter.unusedVariables false
attribute [local irreducible] secL
theorem refC_clv {r:Ru} (h:yaf r=0):clv (refC r)=clv (lowC r):=by
 obtain ⟨hm,hi,hb,hd⟩:=ref_low h
 have e:∀i,i < 7→(refC r).m i= (lowC r).m i:=hm
 have e2:∀i,i < 8→(refC r).od i= (lowC r).od i:=hd
 have e3:(refC r).oin= (lowC r).oin:=hi
 have e4:(refC r).oback= (lowC r).oback:=hb
 simp only [clv,yac,e 0 (by omega),e 1 (by omega),e 2 (by omega),e 3 (by omega),e 4 (by omega),e 5 (by omega),e 6 (by omega),e2 0 (by omega),e2 1 (by omega),e2 2 (by omega),e2 3 (by omega),e2 4 (by omega),e2 5 (by omega),e2 6 (by omega),e2 7 (by omega),e3,e4]
 rfl
structure RfC (w:World) (r:Ru) (b1 b2 b5 b4:Nat) (y mo d h mi s:Int) (L:List Value) (W:World):Prop where
 c:RwC w r b1 b2 b5 L W
 st:W.rangeAt b4 0 [.int .i64 y, .int .i64 mo, .int .i64 d, .int .i64 h, .int .i64 mi, .int .i64 s]
 lt:b5 < b4∧b4 < W.heap.size
section
variable {w:World} {r:Ru} {b1 b2 b5 b4:Nat} {y mo d h mi s:Int} {L:List Value} {W W':World}
theorem RfC.call (k:RfC w r b1 b2 b5 b4 y mo d h mi s L W) (hB:Below W.heap.size W W'):RfC w r b1 b2 b5 b4 y mo d h mi s L W':=
 ⟨k.c.call hB,fun j v hv=>(hB.cell (p:=⟨b4,0+j,none⟩) k.lt.2).trans (k.st j v hv),k.lt.1,zH k.lt.2 hB.size⟩
theorem RfC.nxt (k:RfC w r b1 b2 b5 b4 y mo d h mi s L W) (hl:L.length=30) {i:Nat} (hi:i < 30) (v:Value):∃L' u,L.set i v=L'∧L'.length=30∧W.cell? ⟨b5,i,none⟩=some u∧RfC w r b1 b2 b5 b4 y mo d h mi s L' (W.setCell ⟨b5,i,none⟩ v):=by
 obtain ⟨L',u,e1,e2,e3,e4⟩:=k.c.nxt hl hi v
 have hlt:=k.lt
 refine ⟨L',u,e1,e2,e3,e4,fun j x hx=>?_,hlt.1,by simpa using hlt.2⟩
 rw [zzL _ _ _ _ (by intro e; injection e with e1 _; omega)]
 exact k.st j x hx
end
def refS (m:Nat→Nat) (a:Int) (b:Bool) (d:Nat→Nat):List Value:=yac {m:=m,or:=false,oin:=a,oback:=b,od:=d,ys:=ybV,unit:=0,step:=1,anchor:=0,fr:=0,un:=12622780799}
section
variable {m:Nat→Nat} {a:Int} {b:Bool} {d:Nat→Nat}
theorem refS_full:yac fullCl=refS fullCl.m 0 false (fun _=>0):=rfl
theorem ydE:(refS m a b d).length=30:=rfl
theorem refS_m {i:Nat} (hi:i < 7) (v:Nat):(refS m a b d).set i (.int .u64 (v:Nat))=refS (updV m i v) a b d:=by
 rcases yfy hi with rfl | rfl | rfl | rfl | rfl | rfl | rfl <;> rfl
theorem refS_at {i:Nat} (hi:i < 7):(refS m a b d)[i]? =some (.int .u64 (m i:Nat)):=by
 rcases yfy hi with rfl | rfl | rfl | rfl | rfl | rfl | rfl <;> rfl
theorem refS_8 (v:Int):(refS m a b d).set 8 (.int .i64 v)=refS m v b d:=rfl
theorem refS_9 (v:Bool):(refS m a b d).set 9 (.bool v)=refS m a v d:=rfl
theorem refS_d {j:Nat} (hj:j < 8) (v:Nat):(refS m a b d).set (10+j) (.int .u64 (v:Nat))=refS m a b (updV d j v):=by
 have:j=0∨j=1∨j=2∨j=3∨j=4∨j=5∨j=6∨j=7:=by omega
 rcases this with rfl | rfl | rfl | rfl | rfl | rfl | rfl | rfl <;> rfl
end
def Stg (r:Ru) (D:List Nat) (m:Nat→Nat):Prop:=∀i,i < 7→m i=if i∈D then refM r i else fullCl.m i
section
variable {r:Ru} {D:List Nat} {m:Nat→Nat}
theorem Stg.up (h:Stg r D m) {i:Nat} {v:Nat} {m':Nat→Nat} (e:updV m i v=m') (hv:v=refM r i):Stg r (i :: D) m':=fun j hj=>by
 rw [←e]
 by_cases c:j=i
 ·subst c; rw [ya5,if_pos (by simp),hv]
 ·rw [ybu _ _ c,h j hj]
  by_cases d:j∈D
  ·rw [if_pos d,if_pos (by simp [d])]
  ·rw [if_neg d,if_neg (by simp [c,d])]
theorem Stg.keep (h:Stg r D m) {i:Nat} (e:refM r i=fullCl.m i):Stg r (i :: D) m:=fun j hj=>by
 rw [h j hj]
 by_cases d:j∈D
 ·rw [if_pos d,if_pos (by simp [d])]
 ·by_cases c:j=i
  ·subst c; rw [if_neg d,if_pos (by simp),e]
  ·rw [if_neg d,if_neg (by simp [c,d])]
theorem Stg.read (h:Stg r D m) {i:Nat} (hi:i < 7) (d:i ∉ D):m i=fullCl.m i:=by rw [h i hi,if_neg d]
theorem Stg.as {D':List Nat} (h:Stg r D m) (e:∀i,i < 7→(i∈D'↔i∈D)):Stg r D' m:=fun i hi=>by
 rw [h i hi]
 by_cases d:i∈D
 ·rw [if_pos d,if_pos ((e i hi).2 d)]
 ·rw [if_neg d,if_neg (fun k=>d ((e i hi).1 k))]
end
def refU (m:Nat→Nat) (a:Int) (b:Bool) (d:Nat→Nat) (r:Ru) (x:Int):Cl:={m:=m,or:=false,oin:=a,oback:=b,od:=d,ys:=ybV,unit:=r.fq,step:=r.iv,anchor:=r.st,fr:=r.st,un:=x}
theorem yjL (m:Nat→Nat) (a:Int) (b:Bool) (d:Nat→Nat) (r:Ru):((((refS m a b d).set 25 (.int .i64 r.fq)).set 26 (.int .i64 r.iv)).set 27 (.int .i64 r.st)).set 28 (.int .i64 r.st)=yac (refU m a b d r 12622780799):=by kernel_rfl
theorem yhV (m:Nat→Nat) (a:Int) (b:Bool) (d:Nat→Nat) (r:Ru):(((((refS m a b d).set 25 (.int .i64 r.fq)).set 26 (.int .i64 r.iv)).set 27 (.int .i64 r.st)).set 28 (.int .i64 r.st)).set 29 (.int .i64 r.un)=yac (refU m a b d r r.un):=by kernel_rfl
theorem refU_clv {m:Nat→Nat} {a:Int} {b:Bool} {d:Nat→Nat} {r:Ru} {x:Int} (hm:∀i,i < 7→m i=refM r i) (ha:a= (refC r).oin) (hb:b= (refC r).oback) (hd:∀j,j < 8→d j= (refC r).od j) (hx:x=if r.un= -1 then 12622780799 else r.un):clv (refU m a b d r x)=clv (refC r):=by
 have e:∀i,i < 7→(refU m a b d r x).m i= (refC r).m i:=hm
 have e2:∀i,i < 8→(refU m a b d r x).od i= (refC r).od i:=hd
 have e3:(refU m a b d r x).oin= (refC r).oin:=ha
 have e4:(refU m a b d r x).oback= (refC r).oback:=hb
 have e5:(refU m a b d r x).un= (refC r).un:=hx
 simp only [clv,yac,e 0 (by omega),e 1 (by omega),e 2 (by omega),e 3 (by omega),e 4 (by omega),e 5 (by omega),e 6 (by omega),e2 0 (by omega),e2 1 (by omega),e2 2 (by omega),e2 3 (by omega),e2 4 (by omega),e2 5 (by omega),e2 6 (by omega),e2 7 (by omega),e3,e4,e5]
 rfl
structure RfM (w:World) (r:Ru) (b1 b2 b5 b4:Nat) (m:Nat→Nat) (a:Int) (b:Bool) (d:Nat→Nat) (W:World):Prop where
 k:RfC w r b1 b2 b5 b4 (fY (r.st / 86400)) (fMo (r.st / 86400)) (fD (r.st / 86400)) (r.st % 86400 / 3600) (r.st % 86400 / 60 % 60) (r.st % 60) (refS m a b d) W
section
variable {w:World} {r:Ru} {b1 b2 b5 b4:Nat} {m:Nat→Nat} {a:Int} {b:Bool} {d:Nat→Nat} {W W':World}
theorem RfM.call (h:RfM w r b1 b2 b5 b4 m a b d W) (hB:Below W.heap.size W W'):RfM w r b1 b2 b5 b4 m a b d W':=⟨h.k.call hB⟩
theorem RfM.at (h:RfM w r b1 b2 b5 b4 m a b d W) {i:Nat} (hi:i < 7):W.cell? ⟨b5,i,none⟩=some (.int .u64 (m i:Nat)):=h.k.c.l.at (refS_at hi)
theorem RfM.z (h:RfM w r b1 b2 b5 b4 m a b d W) (i:Nat):W.frozen? ⟨b5,i,none⟩=false:=h.k.c.l.z i
theorem RfM.setM (h:RfM w r b1 b2 b5 b4 m a b d W) {i:Nat} (hi:i < 7) (v:Nat):∃m' u,updV m i v=m'∧W.cell? ⟨b5,i,none⟩=some u∧RfM w r b1 b2 b5 b4 m' a b d (W.setCell ⟨b5,i,none⟩ (.int .u64 (v:Nat))):=by
 obtain ⟨L',u,e1,e2,e3,e4⟩:=h.k.nxt ydE (i:=i) (by omega) (.int .u64 (v:Nat))
 rw [refS_m hi] at e1; subst e1
 exact ⟨_,u,rfl,e3,⟨e4⟩⟩
theorem RfM.set8 (h:RfM w r b1 b2 b5 b4 m a b d W) (v:Int):∃u,W.cell? ⟨b5,8,none⟩=some u∧RfM w r b1 b2 b5 b4 m v b d (W.setCell ⟨b5,8,none⟩ (.int .i64 v)):=by
 obtain ⟨L',u,e1,e2,e3,e4⟩:=h.k.nxt ydE (i:=8) (by omega) (.int .i64 v)
 rw [refS_8] at e1; subst e1
 exact ⟨u,e3,⟨e4⟩⟩
theorem RfM.set9 (h:RfM w r b1 b2 b5 b4 m a b d W) (v:Bool):∃u,W.cell? ⟨b5,9,none⟩=some u∧RfM w r b1 b2 b5 b4 m a v d (W.setCell ⟨b5,9,none⟩ (.bool v)):=by
 obtain ⟨L',u,e1,e2,e3,e4⟩:=h.k.nxt ydE (i:=9) (by omega) (.bool v)
 rw [refS_9] at e1; subst e1
 exact ⟨u,e3,⟨e4⟩⟩
theorem RfM.setD (h:RfM w r b1 b2 b5 b4 m a b d W) {j:Nat} (hj:j < 8) (v:Nat):∃d' u,updV d j v=d'∧W.cell? ⟨b5,10+j,none⟩=some u∧RfM w r b1 b2 b5 b4 m a b d' (W.setCell ⟨b5,10+j,none⟩ (.int .u64 (v:Nat))):=by
 obtain ⟨L',u,e1,e2,e3,e4⟩:=h.k.nxt ydE (i:=10+j) (by omega) (.int .u64 (v:Nat))
 rw [refS_d hj] at e1; subst e1
 exact ⟨_,u,rfl,e3,⟨e4⟩⟩
end
theorem set_neR {W:World} {b i j:Nat} (h:i≠j) (v:Value):(W.setCell ⟨b,j,none⟩ v).cell? ⟨b,i,none⟩=W.cell? ⟨b,i,none⟩:=
 zzL _ _ _ _ (by intro e; injection e with _ e2; exact h e2.symm)
structure RlN (w0:World) (b9 B:Nat) (V:Nat→Value) (L:Nat→List Int) (W:World):Prop where
 r:RwS B V L W
 m:∀j,j < 8→W.cell? ⟨b9,j,none⟩=some (V (8+j))∧W.frozen? ⟨b9,j,none⟩=false
 e:Below w0.heap.size w0 W
 lt:w0.heap.size≤b9∧b9 < B
def ybX (l:List (Int × Int)) (i:Nat):List Int:=if i=0 then l.map fun x=>x.2 else if 8≤i∧i < 16 then nthL l (i - 8) else []
def yfA (l:List (Int × Int)) (x:Int × Int) (i:Nat):List Int:=if i=0 then l.map (fun x=>x.2) ++ [x.2] else ybX l i
theorem rowsH_is (l:List (Int × Int)) (x:Int × Int):∀i,i < 40→yfA l x i=updV (ybX l) 0 (ybX l 0 ++ [x.2]) i:=fun i _=>by
 rw [yfA]
 by_cases h:i=0
 ·subst h; rw [if_pos rfl,ya5]; rfl
 ·rw [if_neg h,ybu _ _ h]
theorem yg4 (l:List (Int × Int)) (x:Int × Int) (j:Nat):nthL (l ++ [x]) j=if x.2= (j:Int) then nthL l j ++ [max x.1 (-x.1)] else nthL l j:=by
 rw [nthL,List.filter_append,List.map_append]
 by_cases h:x.2= (j:Int)
 ·rw [if_pos h,List.filter_cons_of_pos (by simpa using h)]; rfl
 ·rw [if_neg h,List.filter_cons_of_neg (by simpa using h)]; exact List.append_nil _
theorem yjK (l:List (Int × Int)) (x:Int × Int) {j:Nat} (hj:j < 8) (e:x.2= (j:Int)):∀i,i < 40→ybX (l ++ [x]) i=updV (yfA l x) (8+j) (yfA l x (8+j) ++ [max x.1 (-x.1)]) i:=fun i _=>by
 have e8:yfA l x (8+j)=nthL l j:=by rw [yfA,if_neg (by omega),ybX,if_neg (by omega),if_pos (by omega),Nat.add_sub_cancel_left]
 by_cases h:i=8+j
 ·subst h
  rw [ya5,e8,ybX,if_neg (by omega),if_pos (by omega),Nat.add_sub_cancel_left,yg4,if_pos e]
 ·rw [ybu _ _ h,yfA,ybX,ybX]
  by_cases h0:i=0
  ·rw [if_pos h0,if_pos h0,List.map_append]; rfl
  ·rw [if_neg h0,if_neg h0,if_neg h0]
   by_cases h8:8≤i∧i < 16
   ·rw [if_pos h8,if_pos h8,yg4,if_neg (by omega)]
   ·rw [if_neg h8,if_neg h8]
theorem yiY (l:List (Int × Int)) (j:Nat):(nthL l j).length≤l.length:=by rw [nthL,List.length_map]; exact List.length_filter_le _ _
section
variable {w0:World} {b9 B:Nat} {V:Nat→Value} {L:Nat→List Int} {W W':World}
theorem RlN.as {L':Nat→List Int} (h:RlN w0 b9 B V L W) (e:∀i,i < 40→L' i=L i):RlN w0 b9 B V L' W:=⟨h.r.as e,h.m,h.e,h.lt⟩
theorem RlN.call (h:RlN w0 b9 B V L W) (hB:Below W.heap.size W W'):RlN w0 b9 B V L W':=by
 have hl:=h.lt
 have hb:=h.r.b
 have e:=hB.block b9 (by omega)
 exact ⟨h.r.call hB,fun j hj=>⟨(zzJ (w:=W) (a:=⟨b9,j,none⟩) e).trans (h.m j hj).1,(zzM (w:=W) (a:=⟨b9,j,none⟩) e).trans (h.m j hj).2⟩,h.e.trans (hB.mono h.e.size),h.lt⟩
theorem RlN.app (h:RlN w0 b9 B V L W) {v:Value} {m:Nat} {news:List Int} (hn:m= (L 0).length+news.length) (ho:W'.ownsRow B 3 1 v m (ints (L 0) ++ ints news)) (hg:W.grownBy W' (V 0).ownBlock) (hB:Below B W W')
  (hf:∀k,v.ownBlock=some k→(V 0).ownBlock=some k∨W.heap.size≤k):RlN w0 b9 B (updV V 0 v) (updV L 0 (L 0 ++ news)) W':=by
 have hl:=h.lt
 have hb:=h.r.b
 have k:=h.r.app (O:=fun _=>False) (show 0 < 40 by omega) hn ho hg hf
 have e:=hB.block b9 (by omega)
 exact ⟨k.1,fun j hj=>⟨by rw [ybu _ _ (by omega)]; exact (zzJ (w:=W) (a:=⟨b9,j,none⟩) e).trans (h.m j hj).1,(zzM (w:=W) (a:=⟨b9,j,none⟩) e).trans (h.m j hj).2⟩,h.e.trans (hB.mono (by omega)),h.lt⟩
theorem RlN.put (h:RlN w0 b9 B V L W) {i:Nat} (hi:i < 8) {v:Value} {m:Nat} {news:List Int} (hn:m= (L (8+i)).length+news.length) (ho:W'.ownsRow B 3 1 v m (ints (L (8+i)) ++ ints news)) (hg:W.grownBy W' (V (8+i)).ownBlock) (hB:Below B W W')
  (hf:∀k,v.ownBlock=some k→(V (8+i)).ownBlock=some k∨W.heap.size≤k):RlN w0 b9 B (updV V (8+i) v) (updV L (8+i) (L (8+i) ++ news)) (W'.setCell ⟨b9,i,none⟩ v):=by
 have hl:=h.lt
 have hb:=h.r.b
 have k:=(h.r.app (O:=fun b=>b=b9) (show 8+i < 40 by omega) hn ho hg hf).1
 have hE:Eff (fun b=>b=b9) W' (W'.setCell ⟨b9,i,none⟩ v):=(Eff.refl (fun b=>b=b9) W').set rfl _ _
 have e:=hB.block b9 (by omega)
 refine ⟨k.eff hE (fun b e=>by omega),fun j hj=>?_,(h.e.trans (hB.mono (by omega))).trans (hE.below (fun b e=>by omega) (zI h.e.size hB.size)),h.lt⟩
 have c:=(zzJ (w:=W) (a:=⟨b9,j,none⟩) e).trans (h.m j hj).1
 have z:=(zzM (w:=W) (a:=⟨b9,j,none⟩) e).trans (h.m j hj).2
 refine ⟨?_,by simpa [go_sem] using z⟩
 by_cases e:j=i
 ·subst e; rw [ya5]; exact zzW _ _ _ (by rw [c])
 ·rw [ybu _ _ (by omega),set_neR e]; exact c
theorem RlN.app_op {o:Oper} {a:Act} {K:Act→World→Prop} {Q:Exit→Act→World→Prop} (s x:Operand) (q:Nat) (hI:Hid (RlN w0 b9 B V L W)) (hq:q < 8)
  (ho:o.op= .call {callee:= .builtin .append,args:=#[s,x],argTypes:=#[22,22]}) (hs:a.eval s=V (8+q)) (hx:a.eval x= .slice (some ⟨W.heap.size,0,none⟩) 1 1) {y:Int} (hR:(L (8+q)).length≤20000000)
  (KK:∀a' m cap' w',Hid (RlN w0 b9 B (updV V (8+q) (.slice a' m cap')) (updV L (8+q) (L (8+q) ++ [y])) (w'.setCell ⟨b9,q,none⟩ (.slice a' m cap')))→
    Hid (Below B W w')→K (a.put o.dst (.slice a' m cap')) w'):Oper.wp Tryz.prog o a (W.alloc (.cells #[.int .i64 y] 3)) K Q:=by
 have hown:=hI.out.r.own (8+q) (by omega)
 have hb:=hI.out.r.b
 have hsl:Sl (W.alloc (.cells #[.int .i64 y] 3)) (some ⟨W.heap.size,0,none⟩) [.int .i64 y]:=by
  refine .inr ⟨W.heap.size,0,rfl,by simp,fun j hj=>?_⟩
  have:j=0:=by simp at hj; omega
  subst this
  simp
 obtain ⟨a',cap',w',hr,h1,h2,h3,h4⟩:=yeY eInt (W.alloc (.cells #[.int .i64 y] 3)) o.type (hown.alloc _) (news:= [.int .i64 y]) (m:=1) (ax:=some ⟨W.heap.size,0,none⟩) (c:=1) rfl
  hsl (fun h=>by cases h) (fun u hu=>by simp at hu; subst hu; rfl) (by omega) (by omega) (by simp; omega)
 have g2:=ybU (World.grownBy_alloc W _ _) h2
 have g3:=((Below.refl B W).alloc hb _).trans h3
 refine yiE s x ho hs hx hr (KK a' _ cap' w' (hI.out.put hq rfl h1 g2 g3 (fun k hk=>?_)) g3)
 rcases h4 k hk with h | h
 ·exact .inl h
 ·refine .inr (zI ?_ h); simp
end
theorem rowsL_nil (i:Nat):ybX [] i= []:=by
 unfold ybX
 by_cases h:i=0
 ·rw [if_pos h]; rfl
 ·rw [if_neg h]
  by_cases h8:8≤i∧i < 16
  ·rw [if_pos h8]; rfl
  ·rw [if_neg h8]
theorem ygX (l:List (Int × Int)) (i:Nat):(ybX l i).length≤l.length:=by
 unfold ybX
 by_cases h:i=0
 ·rw [if_pos h,List.length_map]; omega
 ·rw [if_neg h]
  by_cases h8:8≤i∧i < 16
  ·rw [if_pos h8]; exact yiY l _
  ·rw [if_neg h8]; exact Nat.zero_le _
theorem rowsH_len (l:List (Int × Int)) (x:Int × Int) (i:Nat):(yfA l x i).length≤l.length+1:=by
 unfold yfA
 by_cases h:i=0
 ·rw [if_pos h,List.length_append,List.length_map]; exact zG _
 ·rw [if_neg h]; exact Nat.le_succ_of_le (ygX l i)
theorem rowsL_lo (l:List (Int × Int)) {j:Nat} (hj:j < 8):ybX l (8+j)=nthL l j:=by rw [ybX,if_neg (by omega),if_pos (by omega),Nat.add_sub_cancel_left]
theorem rlN_new (w:World) (t:TypeId):RlN w w.heap.size (w.alloc (.cells #[.slice none 0 0, .slice none 0 0, .slice none 0 0, .slice none 0 0, .slice none 0 0, .slice none 0 0, .slice none 0 0, .slice none 0 0] t)).heap.size (fun _=> .slice none 0 0) (ybX []) (w.alloc (.cells #[.slice none 0 0, .slice none 0 0, .slice none 0 0, .slice none 0 0, .slice none 0 0, .slice none 0 0, .slice none 0 0, .slice none 0 0] t)):=by
 refine ⟨⟨fun i hi=>by rw [rowsL_nil]; exact World.ownsRow_nil _ _ _ _,fun i j _ _ _ k hk=>(by cases hk),zG _⟩,fun j hj=>⟨?_,yaB w _ t j⟩,yaa (Below.refl _ _) (zG _),zG _,by simp⟩
 rw [World.cell?,World.alloc_heap_new]
 have:j=0∨j=1∨j=2∨j=3∨j=4∨j=5∨j=6∨j=7:=by omega
 rcases this with rfl | rfl | rfl | rfl | rfl | rfl | rfl | rfl <;> rfl
structure RlV (b9 B:Nat) (V:Nat→Value) (L:Nat→List Int) (W:World):Prop where
 r:RwS B V L W
 m:∀j,j < 8→W.cell? ⟨b9,j,none⟩=some (V (8+j))
 lt:b9 < B
section
variable {w0:World} {b9 B:Nat} {V:Nat→Value} {L:Nat→List Int} {W W':World}
theorem RlN.v (h:RlN w0 b9 B V L W):RlV b9 B V L W:=⟨h.r,fun j hj=>(h.m j hj).1,h.lt.2⟩
theorem RlV.call (h:RlV b9 B V L W) (hB:Below W.heap.size W W'):RlV b9 B V L W':=by
 have hl:=h.lt
 have hb:=h.r.b
 exact ⟨h.r.call hB,fun j hj=>(zzJ (w:=W) (a:=⟨b9,j,none⟩) (hB.block b9 (by omega))).trans (h.m j hj),h.lt⟩
theorem RlV.set (h:RlV b9 B V L W) {b5 k:Nat} (hb5:b5 < b9) (v:Value):RlV b9 B V L (W.setCell ⟨b5,k,none⟩ v):=by
 have hl:=h.lt
 have hb:=h.r.b
 have hE:Eff (fun b=>b=b5) W (W.setCell ⟨b5,k,none⟩ v):=(Eff.refl (fun b=>b=b5) W).set rfl _ _
 exact ⟨h.r.eff hE (fun b e=>by omega),fun j hj=>(zzJ (w:=W) (a:=⟨b9,j,none⟩) (hE.block b9 (by omega) (by omega))).trans (h.m j hj),h.lt⟩
theorem RlV.row (h:RlV b9 B V L W) {i:Nat} (hi:i < 40):∃a cap,V i= .slice a (L i).length cap∧Sl W a (ints (L i)):=by
 obtain ⟨a,cap,e,hs,-⟩:=ya6 (h.r.own i hi)
 exact ⟨a,cap,e,hs⟩
end
end Go.Proofs.YtjahgimnfliooaaGreatDoor
