/-
  Clauses and Ords as values; when two are the same.
  clause.within, clause.ordinal, feriaref13.Bits, feriaref13.ord, unit.Name.
  clause.ordinal, feriaref13.Bits, feriaref13.ord: whether an Ord may be.
  clause.Full, feriaref13.Full and span.Whole.
-/
import Derived.Test.YtjahgimnfliooaaGreatDoorQe977ed
import Derived.Test.YtjahgimnfliooaaGreatDoorQe6aba9
import Derived.Test.YtjahgimnfliooaaGreatDoorQ4c06b4
import Derived.DeepKeys
import Derived.Test.YtjahgimnfliooaaGreatDoorQbd5244
set_option maxRecDepth 100000
set_option maxHeartbeats 25600000
namespace Go.Proofs.YtjahgimnfliooaaGreatDoor
set_option linter.unusedVariables false
section
open Go.RowKit
structure Cl where
 m:Nat→Nat
 or:Bool
 oin:Int
 oback:Bool
 od:Nat→Nat
 ys:Nat→Nat
 unit:Int
 step:Int
 anchor:Int
 fr:Int
 un:Int
def i64B (x:Int):Prop:=-9223372036854775808≤x∧x≤9223372036854775807
structure Cl.Ok (c:Cl):Prop where
 m:∀i,i < 7→c.m i < 18446744073709551616
 od:∀i,i < 8→c.od i < 18446744073709551616
 ys:∀i,i < 7→c.ys i < 18446744073709551616
 oin:i64B c.oin
 unit:i64B c.unit
 step:i64B c.step
 anchor:i64B c.anchor
 fr:i64B c.fr
 un:i64B c.un
abbrev yac (c:Cl):List Value:= [.int .u64 (c.m 0:Nat), .int .u64 (c.m 1:Nat), .int .u64 (c.m 2:Nat), .int .u64 (c.m 3:Nat), .int .u64 (c.m 4:Nat), .int .u64 (c.m 5:Nat), .int .u64 (c.m 6:Nat), .bool c.or, .int .i64 c.oin, .bool c.oback,
 .int .u64 (c.od 0:Nat), .int .u64 (c.od 1:Nat), .int .u64 (c.od 2:Nat), .int .u64 (c.od 3:Nat), .int .u64 (c.od 4:Nat), .int .u64 (c.od 5:Nat), .int .u64 (c.od 6:Nat), .int .u64 (c.od 7:Nat),
 .int .u64 (c.ys 0:Nat), .int .u64 (c.ys 1:Nat), .int .u64 (c.ys 2:Nat), .int .u64 (c.ys 3:Nat), .int .u64 (c.ys 4:Nat), .int .u64 (c.ys 5:Nat), .int .u64 (c.ys 6:Nat), .int .i64 c.unit, .int .i64 c.step, .int .i64 c.anchor, .int .i64 c.fr, .int .i64 c.un]
abbrev clv (c:Cl):Value:= .agg (yac c).toArray
abbrev ybT (oin:Int) (oback:Bool) (od:Nat→Nat):List Value:= [.int .i64 oin, .bool oback, .int .u64 (od 0:Nat), .int .u64 (od 1:Nat), .int .u64 (od 2:Nat), .int .u64 (od 3:Nat), .int .u64 (od 4:Nat), .int .u64 (od 5:Nat), .int .u64 (od 6:Nat), .int .u64 (od 7:Nat)]
abbrev ordv (oin:Int) (oback:Bool) (od:Nat→Nat):Value:= .agg (ybT oin oback od).toArray
theorem u64_wf {n:Nat} (h:n < 18446744073709551616):(Lit.int .u64 (n:Int)).wf=true:=by
 simp [Lit.wf,show IntKind.u64.min=0 from rfl,show IntKind.u64.max=18446744073709551615 from rfl]; omega
theorem i64_wf {n:Int} (h:i64B n):(Lit.int .i64 n).wf=true:=by
 obtain ⟨h0,h1⟩:=h
 simp [Lit.wf,show IntKind.i64.min= -9223372036854775808 from rfl,show IntKind.i64.max=9223372036854775807 from rfl]; omega
abbrev yh1 (oin:Int) (oback:Bool) (od:Nat→Nat):List Lit:= [.int .i64 oin, .bool oback, .int .u64 (od 0:Nat), .int .u64 (od 1:Nat), .int .u64 (od 2:Nat), .int .u64 (od 3:Nat), .int .u64 (od 4:Nat), .int .u64 (od 5:Nat), .int .u64 (od 6:Nat), .int .u64 (od 7:Nat)]
theorem ygx:Tryz.prog.cellsOf 31=10:=by kernel_rfl
theorem cells8:Tryz.prog.cellsOf 29=8:=by kernel_rfl
theorem cells7:Tryz.prog.cellsOf 32=7:=by kernel_rfl
theorem cellsU:Tryz.prog.cellsOf 28=1:=by kernel_rfl
theorem cellsI:Tryz.prog.cellsOf 3=1:=by kernel_rfl
theorem ygy:Tryz.prog.cellsOf 2=1:=by kernel_rfl
theorem yih:Tryz.prog.cellsOf 4=1:=by kernel_rfl
theorem cellsCl:Tryz.prog.cellsOf 34=30:=by kernel_rfl
theorem lits_u (d:Nat) {n:Nat} (h:n < 18446744073709551616):Tryz.prog.keyLits (d+1) 28 [.int .u64 (n:Int)]=some [.int .u64 n]:=by
 simp only [Program.keyLits,Tryz.underlying28,u64_wf h,and_self,if_true]
theorem lits_i (d:Nat) {n:Int} (h:i64B n):Tryz.prog.keyLits (d+1) 3 [.int .i64 n]=some [.int .i64 n]:=by
 simp only [Program.keyLits,Tryz.underlying3,i64_wf h,and_self,if_true]
theorem lits_l (d:Nat) {n:Int} (h:i64B n):Tryz.prog.keyLits (d+1) 2 [.int .i64 n]=some [.int .i64 n]:=by
 simp only [Program.keyLits,Tryz.underlying2,i64_wf h,and_self,if_true]
theorem lits_b (d:Nat) (b:Bool):Tryz.prog.keyLits (d+1) 4 [.bool b]=some [.bool b]:=by
 simp only [Program.keyLits,Tryz.underlying4]
theorem range8:List.range 8= [0,1,2,3,4,5,6,7]:=rfl
theorem range7:List.range 7= [0,1,2,3,4,5,6]:=rfl
theorem lits_8 (d:Nat) (od:Nat→Nat) (h:∀i,i < 8→od i < 18446744073709551616) :
  Tryz.prog.keyLits (d+2) 29 [.int .u64 (od 0:Nat), .int .u64 (od 1:Nat), .int .u64 (od 2:Nat), .int .u64 (od 3:Nat), .int .u64 (od 4:Nat), .int .u64 (od 5:Nat), .int .u64 (od 6:Nat), .int .u64 (od 7:Nat)] =
   some [.int .u64 (od 0:Nat), .int .u64 (od 1:Nat), .int .u64 (od 2:Nat), .int .u64 (od 3:Nat), .int .u64 (od 4:Nat), .int .u64 (od 5:Nat), .int .u64 (od 6:Nat), .int .u64 (od 7:Nat)]:=by
 unfold Program.keyLits
 simp only [Tryz.underlying29]
 simp [cells8,cellsU,range8,lits_u,h]
theorem lits_7 (d:Nat) (od:Nat→Nat) (h:∀i,i < 7→od i < 18446744073709551616) :
  Tryz.prog.keyLits (d+2) 32 [.int .u64 (od 0:Nat), .int .u64 (od 1:Nat), .int .u64 (od 2:Nat), .int .u64 (od 3:Nat), .int .u64 (od 4:Nat), .int .u64 (od 5:Nat), .int .u64 (od 6:Nat)] =
   some [.int .u64 (od 0:Nat), .int .u64 (od 1:Nat), .int .u64 (od 2:Nat), .int .u64 (od 3:Nat), .int .u64 (od 4:Nat), .int .u64 (od 5:Nat), .int .u64 (od 6:Nat)]:=by
 unfold Program.keyLits
 simp only [Tryz.underlying32]
 simp [cells7,cellsU,range7,lits_u,h]
theorem ygj (d:Nat) (oin:Int) (oback:Bool) (od:Nat→Nat) (h0:i64B oin) (h:∀i,i < 8→od i < 18446744073709551616):Tryz.prog.keyLits (d+3) 31 (ybT oin oback od)=some (yh1 oin oback od):=by
 unfold Program.keyLits
 simp only [Tryz.underlying31]
 simp [ygx,cells8,cellsI,yih,lits_i,lits_b,h0]
 rw [lits_8 d od h]; rfl
abbrev clLits (c:Cl):List Lit:= [.int .u64 (c.m 0:Nat), .int .u64 (c.m 1:Nat), .int .u64 (c.m 2:Nat), .int .u64 (c.m 3:Nat), .int .u64 (c.m 4:Nat), .int .u64 (c.m 5:Nat), .int .u64 (c.m 6:Nat), .bool c.or, .int .i64 c.oin, .bool c.oback,
 .int .u64 (c.od 0:Nat), .int .u64 (c.od 1:Nat), .int .u64 (c.od 2:Nat), .int .u64 (c.od 3:Nat), .int .u64 (c.od 4:Nat), .int .u64 (c.od 5:Nat), .int .u64 (c.od 6:Nat), .int .u64 (c.od 7:Nat),
 .int .u64 (c.ys 0:Nat), .int .u64 (c.ys 1:Nat), .int .u64 (c.ys 2:Nat), .int .u64 (c.ys 3:Nat), .int .u64 (c.ys 4:Nat), .int .u64 (c.ys 5:Nat), .int .u64 (c.ys 6:Nat), .int .i64 c.unit, .int .i64 c.step, .int .i64 c.anchor, .int .i64 c.fr, .int .i64 c.un]
theorem lits_cl (d:Nat) (c:Cl) (h:c.Ok):Tryz.prog.keyLits (d+4) 34 (yac c)=some (clLits c):=by
 unfold Program.keyLits
 simp only [Tryz.underlying34]
 simp [cellsCl,ygx,cells7,cellsI,ygy,cellsU,yih,lits_i,lits_l,lits_u,lits_b,h.m,h.unit,h.step,h.anchor,h.fr,h.un]
 rw [ygj d c.oin c.oback c.od h.oin h.od,lits_7 (d+1) c.ys h.ys]; rfl
theorem keyOrd:Tryz.prog.keyTypeAt 4 31=true:=by kernel_rfl
theorem keyCl:Tryz.prog.keyTypeAt 5 34=true:=by kernel_rfl
theorem formOrd (oin:Int) (oback:Bool) (od:Nat→Nat):(ordv oin oback od).formed Tryz.prog 31=true:=by
 unfold Value.formed; simp only [Tryz.underlying31,ygx]; rfl
theorem formCl (c:Cl):(clv c).formed Tryz.prog 34=true:=by
 unfold Value.formed; simp only [Tryz.underlying34,cellsCl]; rfl
def allR (n:Nat) (p:Nat→Bool):Bool:=(List.range n).all p
theorem allR_iff {n:Nat} {p:Nat→Bool}:allR n p=true↔∀i,i < n→p i=true:=by
 rw [allR,List.all_eq_true]; simp
def yd5 (oin:Int) (oback:Bool) (od:Nat→Nat) (oin':Int) (oback':Bool) (od':Nat→Nat):Bool:=decide (oin=oin') && (decide (oback=oback') && allR 8 (fun i=>od i == od' i))
theorem yhk {i:Nat} (h:i < 8):i=0∨i=1∨i=2∨i=3∨i=4∨i=5∨i=6∨i=7:=by omega
theorem all8 {p:Nat→Prop}:(∀i,i < 8→p i)↔p 0∧p 1∧p 2∧p 3∧p 4∧p 5∧p 6∧p 7:=
 ⟨fun h=>⟨h 0 (by omega),h 1 (by omega),h 2 (by omega),h 3 (by omega),h 4 (by omega),h 5 (by omega),h 6 (by omega),h 7 (by omega)⟩,fun ⟨h0,h1,h2,h3,h4,h5,h6,h7⟩ i hi=>by
  rcases yhk hi with rfl | rfl | rfl | rfl | rfl | rfl | rfl | rfl <;> assumption⟩
theorem all7 {p:Nat→Prop}:(∀i,i < 7→p i)↔p 0∧p 1∧p 2∧p 3∧p 4∧p 5∧p 6:=
 ⟨fun h=>⟨h 0 (by omega),h 1 (by omega),h 2 (by omega),h 3 (by omega),h 4 (by omega),h 5 (by omega),h 6 (by omega)⟩,fun ⟨h0,h1,h2,h3,h4,h5,h6⟩ i hi=>by
  rcases yfy hi with rfl | rfl | rfl | rfl | rfl | rfl | rfl <;> assumption⟩
theorem yh9 {q:IntKind} {a b:Int}:(Lit.int q a=Lit.int q b)↔a=b:=⟨fun h=>by injection h,fun h=>by rw [h]⟩
theorem yi6 {a b:Bool}:(Lit.bool a=Lit.bool b)↔a=b:=⟨fun h=>by injection h,fun h=>by rw [h]⟩
theorem yh0 (oin:Int) (oback:Bool) (od:Nat→Nat) (oin':Int) (oback':Bool) (od':Nat→Nat):yh1 oin oback od=yh1 oin' oback' od'↔(oin=oin'∧oback=oback'∧∀i,i < 8→od i=od' i):=by
 rw [all8]
 simp only [List.cons.injEq,yh9,yi6,Int.natCast_inj,and_true]
def yfn (c c':Cl):Bool:=allR 7 (fun i=>c.m i == c'.m i) && (decide (c.or=c'.or) && (yd5 c.oin c.oback c.od c'.oin c'.oback c'.od && (allR 7 (fun i=>c.ys i == c'.ys i) &&
 (decide (c.unit=c'.unit) && (decide (c.step=c'.step) && (decide (c.anchor=c'.anchor) && (decide (c.fr=c'.fr) && decide (c.un=c'.un))))))))
theorem yeq (oin:Int) (oback:Bool) (od:Nat→Nat) (oin':Int) (oback':Bool) (od':Nat→Nat):yd5 oin oback od oin' oback' od' =true↔(oin=oin'∧oback=oback'∧∀i,i < 8→od i=od' i):=by
 simp only [yd5,zzX,zzY,allR_iff,beq_iff_eq]
theorem yfm (c c':Cl):yfn c c' =true↔((∀i,i < 7→c.m i=c'.m i)∧c.or=c'.or∧(c.oin=c'.oin∧c.oback=c'.oback∧∀i,i < 8→c.od i=c'.od i)∧(∀i,i < 7→c.ys i=c'.ys i)∧c.unit=c'.unit∧c.step=c'.step∧c.anchor=c'.anchor∧c.fr=c'.fr∧c.un=c'.un):=by
 simp only [yfn,zzX,zzY,allR_iff,beq_iff_eq,yeq]
theorem ykj (c c':Cl):clLits c=clLits c'↔((∀i,i < 7→c.m i=c'.m i)∧c.or=c'.or∧(c.oin=c'.oin∧c.oback=c'.oback∧∀i,i < 8→c.od i=c'.od i)∧(∀i,i < 7→c.ys i=c'.ys i)∧c.unit=c'.unit∧c.step=c'.step∧c.anchor=c'.anchor∧c.fr=c'.fr∧c.un=c'.un):=by
 rw [all8,all7,all7]
 simp only [List.cons.injEq,yh9,yi6,Int.natCast_inj,and_true,and_assoc]
theorem eqIn_ord (oin:Int) (oback:Bool) (od:Nat→Nat) (oin':Int) (oback':Bool) (od':Nat→Nat) (w:World) (h0:i64B oin) (h:∀i,i < 8→od i < 18446744073709551616) (h0':i64B oin') (h':∀i,i < 8→od' i < 18446744073709551616) :
  (Op.equalIn 10000 31 (ordv oin oback od) (ordv oin' oback' od')).run Tryz.prog w= .ok (yd5 oin oback od oin' oback' od') w:=by
 obtain ⟨r,hr,hi⟩:=run_equalIn_deep 9996 4 31 keyOrd w 4 4 _ _ _ _ (formOrd oin oback od) (formOrd oin' oback' od') (ygj 1 oin oback od h0 h) (ygj 1 oin' oback' od' h0' h')
 have e:r=yd5 oin oback od oin' oback' od':=by rw [zze,hi,yeq,yh0]
 rw [←e]
 exact hr
theorem eqIn_cl (c c':Cl) (w:World) (h:c.Ok) (h':c'.Ok):(Op.equalIn 10000 34 (clv c) (clv c')).run Tryz.prog w= .ok (yfn c c') w:=by
 obtain ⟨r,hr,hi⟩:=run_equalIn_deep 9995 5 34 keyCl w 5 5 _ _ _ _ (formCl c) (formCl c') (lits_cl 1 c h) (lits_cl 1 c' h')
 have e:r=yfn c c':=by rw [zze,hi,yfm,ykj]
 rw [←e]
 exact hr
theorem eql_ord (oin:Int) (oback:Bool) (od:Nat→Nat) (oin':Int) (oback':Bool) (od':Nat→Nat) (w:World) (h0:i64B oin) (h:∀i,i < 8→od i < 18446744073709551616) (h0':i64B oin') (h':∀i,i < 8→od' i < 18446744073709551616) :
  (binOp .eql 31 (ordv oin oback od) (ordv oin' oback' od')).run Tryz.prog w= .ok (.bool (yd5 oin oback od oin' oback' od')) w:=by
 rw [run_eql_struct,eqIn_ord _ _ _ _ _ _ w h0 h h0' h']; rfl
theorem eql_cl (c c':Cl) (w:World) (h:c.Ok) (h':c'.Ok):(binOp .eql 34 (clv c) (clv c')).run Tryz.prog w= .ok (.bool (yfn c c')) w:=by
 rw [run_eql_struct,eqIn_cl _ _ w h h']; rfl
end
section
open Go.RowKit
def yba (m:Nat) (lo hi:Int):Bool:=allR 64 (fun n=>!m.testBit n || decide (lo≤(n:Int)∧(n:Int)≤hi))
def ygk (x y:Nat):Nat:=mk (fun k=>x.testBit k && !y.testBit k)
theorem yjW {x y:Nat}:ygk x y=0↔∀k,k < 64→x.testBit k=true→y.testBit k=true:=by
 constructor
 ·intro h k hk hx
  have:=congrArg (fun z=>z.testBit k) h
  simp only [ygk,ybh,Nat.zero_testBit,hx,zzZ hk,zzo,Bool.not_eq_false'] at this
  exact this
 ·intro h
  rw [ygk,←yb1]
  refine ybf fun k hk=>?_
  cases hx:x.testBit k
  ·rfl
  ·rw [h k hk hx]; rfl
theorem yci {m:Nat} {lo hi:Int}:yba m lo hi=true↔∀k,k < 64→m.testBit k=true→lo≤(k:Int)∧(k:Int)≤hi:=by
 rw [yba,allR_iff]
 refine forall_congr' fun k=>forall_congr' fun hk=>?_
 cases m.testBit k <;> simp
theorem ygQ {lo hi:Int} {k:Nat} (hk:k < 64):(ybc lo hi 1).testBit k=decide (lo≤(k:Int)∧(k:Int)≤hi):=by
 rw [ybc,ybh,zzZ hk,zzo,ydc]
 rw [zze,zzY,zzY]
 constructor
 ·rintro ⟨_,h1,h2,_⟩; exact ⟨h1,h2⟩
 ·rintro ⟨h1,h2⟩; exact ⟨by omega,h1,h2,by omega⟩
theorem yhc (m:Nat) (lo hi:Int):(ygk m (ybc lo hi 1)=0)= (yba m lo hi=true):=by
 rw [eq_iff_iff,yjW,yci]
 refine forall_congr' fun k=>forall_congr' fun hk=>?_
 rw [ygQ hk,zzY]
/-! ### yey of masks -/
def yey (l:List (Nat × Nat)):List Value:=l.flatMap fun p=> [.int .u64 (p.1:Nat), .int .u64 (p.2:Nat)]
theorem pairs_len (l:List (Nat × Nat)):(yey l).length=l.length * 2:=by
 induction l with
 | nil=>rfl
 | cons x l ih=>simp only [yey,List.flatMap_cons,List.length_append,List.length_cons,List.length_nil] at ih⊢; rw [ih]; omega
theorem yg0:∀(l:List (Nat × Nat)) (k:Nat) (hk:k < l.length),(yey l)[k * 2]? =some (.int .u64 (l[k].1:Nat))∧(yey l)[k * 2+1]? =some (.int .u64 (l[k].2:Nat))
 | x :: l,0,_=>by simp [yey]
 | x :: l,k+1,hk=>by
   have e:yey (x :: l)= [.int .u64 (x.1:Nat), .int .u64 (x.2:Nat)] ++ yey l:=by simp [yey]
   obtain ⟨h1,h2⟩:=yg0 l k (by simpa using hk)
   refine ⟨?_,?_⟩
   ·rw [e,List.getElem?_append_right (by simp; omega),show (k+1) * 2 - [Value.int .u64 (x.1:Nat), .int .u64 (x.2:Nat)].length=k * 2 by simp; omega,h1]; simp
   ·rw [e,List.getElem?_append_right (by simp; omega),show (k+1) * 2+1 - [Value.int .u64 (x.1:Nat), .int .u64 (x.2:Nat)].length=k * 2+1 by simp; omega,h2]; simp
theorem Sl.atPair {w:World} {a:Option Addr} {l:List (Nat × Nat)} (h:Sl w a (yey l)) {k:Nat} (hk:k < l.length) :
  ∃b off,a=some ⟨b,off,none⟩∧b < w.heap.size∧∀j (h:j < l.length),w.cell? ⟨b,off+j * 2,none⟩=some (.int .u64 (l[j].1:Nat))∧w.cell? ⟨b,off+j * 2+1,none⟩=some (.int .u64 (l[j].2:Nat)):=by
 obtain ⟨b,off,rfl,hlt,hc⟩:=Sl.at h (k:=k * 2) (by rw [pairs_len]; omega)
 refine ⟨b,off,rfl,hlt,fun j hj=>?_⟩
 have hg:=yg0 l j hj
 have get:∀m v,(yey l)[m]? =some v→w.cell? ⟨b,off+m,none⟩=some v:=by
  intro m v hm
  obtain ⟨hlm,hv⟩:=zzq.1 hm
  rw [hc m hlm,hv]
 exact ⟨get _ _ hg.1,by rw [Nat.add_assoc]; exact get _ _ hg.2⟩
def yb5 (l:List (Nat × Nat)):Bool:=l.all (fun p=>ygk p.1 p.2 == 0)
theorem yij (a:Option Addr) (cap:Nat) (l:List (Nat × Nat)) (w:World) (hl:l.length≤1000) (hs:Sl w a (yey l)) (hb:∀p∈l,p.1 < 18446744073709551616∧p.2 < 18446744073709551616) :
  Calls Tryz.prog 34 #[.slice a l.length cap] w fun e w'=>e= .returned (.bool (yb5 l))∧Below w.heap.size w w':=by
 have Hs:=hid hs
 have Hb:=hid hb
 have hlI:(l.length:Int)≤1000:=by omega
 clear hs hb hl
 go_enter Tryz.func34,Tryz.ntmps34
 go_wp2
 go_loopw [7] (fun i wr=>∃k:Nat,i= .int .i64 k∧k≤l.length∧Hid (yb5 (l.take k)=true)∧Hid (Below w.heap.size w wr)) (fun i _=>l.length - (intOf i).toNat)
 case atStart=>exact ⟨0,rfl,by omega,by show _ = _; simp [yb5],Below.refl _ _⟩
 case round=>
  obtain ⟨k,rfl,hk,hI,HB⟩:=hrel
  by_cases hlt:k < l.length
  ·obtain ⟨b,off,rfl,hbk,hc⟩:=Hs.out.atPair hlt
   obtain ⟨e1,e2⟩:=hc k hlt
   have e1':=(HB.out.cell (p:=⟨b,off+k * 2,none⟩) hbk).trans e1
   have e2':=(HB.out.cell (p:=⟨b,off+k * 2+1,none⟩) hbk).trans e2
   have hbd:=Hb.out l[k] (zzr hlt)
   have ht:=hid (yam l k hlt)
   have hmem:=hid (zzr hlt)
   obtain ⟨p,hp⟩:∃p,l[k]=p:=⟨_,rfl⟩
   rw [hp] at e1' e2' hbd ht hmem
   have hand:=hid (yfo hbd.1 hbd.2)
   have hz:Hid (ygk p.1 p.2=mk (fun k=>p.1.testBit k && !p.2.testBit k)):=rfl
   rw [←hz.out] at hand
   clear hc hp e1 e2 hz hbd
   obtain ⟨x,y⟩:=p
   simp only [] at e1' e2' hand
   obtain ⟨q,hq⟩:∃q,ygk x y=q:=⟨_,rfl⟩
   rw [hq] at hand
   have Hq:=hid hq
   clear hq
   by_cases h0:q=0
   ·have hI2:Hid (yb5 (l.take (k+1))=true):=by
     show _ = _
     rw [ht.out,yb5,List.all_append]
     have:=hI.out
     rw [yb5] at this
     rw [this]
     simp [Hq.out,h0]
    subst h0
    have hbn:((0:Nat):Int)=0:=rfl
    have hb2:=hand.out
    go_wp2
    exact ⟨⟨k+1,by go_num,by omega,hI2.out,yaa HB.out HB.out.size⟩,by simp [intOf]; omega⟩
   ·have hr:Hid (yb5 l=false):=by
     show _ = _
     rw [yb5,List.all_eq_false]
     exact ⟨_,hmem.out,by simp [Hq.out,h0]⟩
    have hbq:((q:Int) == 0)=false:=by simp; omega
    have hbq2:((q:Int) != 0)=true:=by simp; omega
    have hb2:=hand.out
    clear h0
    go_wp2
    go_ret
    exact ⟨by rw [hr.out]; rfl,yaa HB.out HB.out.size⟩
  ·have hke:l.take k=l:=List.take_of_length_le (by omega)
   rw [hke] at hI
   clear hke
   go_wp2
   go_ret
   exact ⟨by rw [hI.out]; rfl,HB.out⟩
end
section
open Go.RowKit
def ydb (od:Nat→Nat) (most:Int):Bool:=decide (od 0=0) && allR 8 (fun i=>yba (od i) 1 most)
def ordB (oin:Int) (oback:Bool) (od:Nat→Nat):Bool:=
 if oin=0 then !oback && ydb od 0 else if oin=1 then ydb od 5 else if oin=2 then ydb od 53 else false
theorem yhq (m:Nat) (hm:m < 18446744073709551616):yba m 1 0=true↔m=0:=by
 rw [yci]
 constructor
 ·intro h
  apply Nat.eq_of_testBit_eq
  intro i
  rw [Nat.zero_testBit]
  by_cases hi:i < 64
  ·cases hb:m.testBit i
   ·rfl
   ·have:=h i hi hb; omega
  ·exact ydB hm (by omega)
 ·rintro rfl k hk h; rw [Nat.zero_testBit] at h; cases h
theorem tail_none (od:Nat→Nat) (h:∀i,i < 8→od i < 18446744073709551616):ydb od 0=true↔∀i,i < 8→od i=0:=by
 rw [ydb,zzX,zzY,allR_iff]
 constructor
 ·rintro ⟨_,h2⟩ i hi; exact (yhq _ (h i hi)).mp (h2 i hi)
 ·intro h2; exact ⟨h2 0 (by omega),fun i hi=>(yhq _ (h i hi)).mpr (h2 i hi)⟩
theorem yhU (s:Nat→Nat) (i:Nat) (h:i < 8) (W:World):(Instr.index 29 (.agg #[.int .u64 (s 0:Nat), .int .u64 (s 1:Nat), .int .u64 (s 2:Nat), .int .u64 (s 3:Nat), .int .u64 (s 4:Nat), .int .u64 (s 5:Nat), .int .u64 (s 6:Nat), .int .u64 (s 7:Nat)]) (.int .i64 i)).run Tryz.prog W= .ok (.int .u64 (s i:Nat)) W:=by
 obtain ⟨i0,hi0,hz0,hz1,hz2⟩:=info_parts ygn
 rcases yhk h with rfl | rfl | rfl | rfl | rfl | rfl | rfl | rfl
 all_goals
  simp [Instr.index,go_sem,part,sizeOf,typeInfo,hi0,hz1]
theorem ext_step {p:Nat→Bool} {k:Nat} (h:∀j,j < k→p j=true) (hk:p k=true):∀j,j < k+1→p j=true:=fun j hj=>by
 by_cases e:j=k
 ·rw [e]; exact hk
 ·exact h j (by omega)
theorem allR_no {p:Nat→Bool} {n k:Nat} (hk:k < n) (h:¬p k=true):allR n p=false:=by
 cases hb:allR n p
 ·rfl
 ·exact absurd (allR_iff.mp hb k hk) h
theorem allR_yes {p:Nat→Bool} {n k:Nat} (hn:n≤k) (h:∀j,j < k→p j=true):allR n p=true:=allR_iff.mpr (fun i hi=>h i (by omega))
theorem form8 (od:Nat→Nat):(Value.agg #[.int .u64 (od 0:Nat), .int .u64 (od 1:Nat), .int .u64 (od 2:Nat), .int .u64 (od 3:Nat), .int .u64 (od 4:Nat), .int .u64 (od 5:Nat), .int .u64 (od 6:Nat), .int .u64 (od 7:Nat)]).formed Tryz.prog 29=true:=by
 unfold Value.formed; simp only [Tryz.underlying29,cells8]; rfl
theorem key8:Tryz.prog.keyTypeAt 2 29=true:=by kernel_rfl
theorem eqIn_8 (od:Nat→Nat) (h:∀i,i < 8→od i < 18446744073709551616) (W:World) :
  (Op.equalIn 9999 29 (.agg #[.int .u64 (od 0:Nat), .int .u64 (od 1:Nat), .int .u64 (od 2:Nat), .int .u64 (od 3:Nat), .int .u64 (od 4:Nat), .int .u64 (od 5:Nat), .int .u64 (od 6:Nat), .int .u64 (od 7:Nat)])
    (.agg #[.int .u64 0, .int .u64 0, .int .u64 0, .int .u64 0, .int .u64 0, .int .u64 0, .int .u64 0, .int .u64 0])).run Tryz.prog W= .ok (ydb od 0) W:=by
 obtain ⟨r,hr,hi⟩:=run_equalIn_deep 9997 2 29 key8 W 3 3 _ _ _ _ (form8 od) (form8 (fun _=>0)) (lits_8 1 od h) (lits_8 1 (fun _=>0) (fun _ _=>by omega))
 have e:r=ydb od 0:=by
  rw [zze,hi,tail_none od h,all8]
  simp only [List.cons.injEq,yh9,Int.natCast_inj,and_true]
 rw [←e]
 exact hr
theorem yew (most o1:Int) (oback:Bool) (od:Nat→Nat) (w:World) (hmost:(most=5∧o1= (1:Int))∨(most=53∧o1=2)) (h:∀i,i < 8→od i < 18446744073709551616) :
  Calls Tryz.prog 35 #[ordv o1 oback od] w fun e w'=>e= .returned (.bool (ydb od most))∧Below w.heap.size w w':=by
 have H:=hid h
 have ho0:=h 0 (by omega)
 clear h
 have c1:Hid (∀W,Calls Tryz.prog 64 #[.int .i64 1, .int .i64 most, .int .i64 1] W fun e w'=>e= .returned (.int .u64 (ybc 1 most 1:Nat))∧W=w'):=fun W=>ybO 1 most 1 W (by omega) (by omega)
 have hix:=hid (fun k hk W=>yhU od k hk W)
 have hB:Hid (Below w.heap.size w (w.alloc (Obj.cells (ybT o1 oback od).toArray 31))):=yaa (Below.refl _ _) (zG _)
 obtain ⟨W1,hW1⟩:∃W1,w.alloc (Obj.cells (ybT o1 oback od).toArray 31)=W1:=⟨_,rfl⟩
 have HW1:=hid hW1
 rw [hW1] at hB
 clear hW1
 by_cases hz:od 0=0
 ·have hzb:(((od 0:Nat):Int) != 0)=false:=by simp; omega
  obtain ⟨tb,htb⟩:∃tb:Nat→Bool,tb=fun i=>yba (od i) 1 most:=⟨_,rfl⟩
  have hT:Hid (ydb od most=allR 8 tb):=by show _ = _; rw [ydb,zzZ hz,zzo,htb]
  rw [hT.out]
  obtain ⟨V,hV⟩:∃V,Value.agg #[.int .u64 (od 0:Nat), .int .u64 (od 1:Nat), .int .u64 (od 2:Nat), .int .u64 (od 3:Nat), .int .u64 (od 4:Nat), .int .u64 (od 5:Nat), .int .u64 (od 6:Nat), .int .u64 (od 7:Nat)]=V:=⟨_,rfl⟩
  have HV:=hid hV
  rw [hV] at hix
  have Hzb:=hid hzb
  have hstep:Hid (∀k,(hk:k < 8)→∃q:Nat,bits .andNot .u64 ((od k:Nat):Int) ((ybc 1 most 1:Nat):Int)=q∧(q=0↔tb k=true)):=fun k hk=>
   ⟨ygk (od k) (ybc 1 most 1),yfo (H.out k hk) (yaP _),by rw [yhc,htb]⟩
  clear hT hz ho0 hV hzb htb
  rcases hmost with ⟨rfl,rfl⟩ | ⟨rfl,rfl⟩
  all_goals
   have hzb:=Hzb.out
   go_enter Tryz.func35,Tryz.ntmps35
   go_wp2_with fail
   rw [HV.out]
   clear hzb
   rw [HW1.out]
   go_loopw [23] (fun i wr=>∃k:Nat,i= .int .i64 k∧k≤8∧Hid (∀j,j < k→tb j=true)∧wr=W1) (fun i _=>8 - (intOf i).toNat)
   case atStart=>exact ⟨0,rfl,by omega,fun j hj=>by omega,rfl⟩
   case round=>
    obtain ⟨k,rfl,hk,hI,rfl⟩:=hrel
    by_cases hlt:k < 8
    ·have hix':=hix.out k hlt
     obtain ⟨q,hq1,hq2⟩:=hstep.out k hlt
     have hkI:(k:Int) < 8:=by omega
     by_cases h0:q=0
     ·have hI2:=hid (ext_step hI.out (hq2.mp h0))
      subst h0
      rw [Int.natCast_zero] at hq1
      have Hq2:=hid hq2
      clear hq2
      go_wp2_with fail
      refine (c1.out _).mono ?_
      rintro e w' ⟨rfl,rfl⟩
      go_wp2
      exact ⟨⟨k+1,by go_num,by omega,hI2.out,trivial⟩,by simp [intOf]; omega⟩
     ·have hno:=fun h=>h0 (hq2.mpr h)
      have hr:=hid (allR_no (p:=tb) hlt hno)
      clear hno
      have hbq:((q:Int) != 0)=true:=by simp; omega
      clear hq2 h0
      go_wp2_with fail
      refine (c1.out _).mono ?_
      rintro e w' ⟨rfl,rfl⟩
      go_wp2
      go_ret
      exact ⟨by rw [hr.out]; rfl,hB.out⟩
    ·have hr:=hid (allR_yes (n:=8) (show 8≤k by omega) hI.out)
     go_wp2
     go_ret
     exact ⟨by rw [hr.out]; rfl,hB.out⟩
 ·have hr:Hid (ydb od most=false):=by show _ = _; rw [ydb,zzd hz,Bool.false_and]
  rw [hr.out]
  have hzb:(((od 0:Nat):Int) != 0)=true:=by simp; omega
  clear hz ho0
  rcases hmost with ⟨rfl,rfl⟩ | ⟨rfl,rfl⟩
  all_goals
   go_enter Tryz.func35,Tryz.ntmps35
   go_wp2
   go_ret
   rw [HW1.out]
   exact ⟨rfl,hB.out⟩
theorem yhI (oin:Int) (oback:Bool) (od:Nat→Nat) (w:World) (h0:i64B oin) (h:∀i,i < 8→od i < 18446744073709551616) :
  Calls Tryz.prog 35 #[ordv oin oback od] w fun e w'=>e= .returned (.bool (ordB oin oback od))∧Below w.heap.size w w':=by
 have hcase:oin=0∨oin=1∨oin=2∨(oin≠0∧oin≠1∧oin≠2):=by omega
 rcases hcase with rfl | rfl | rfl | ⟨n0,n1,n2⟩
 ·have heq:=fun W=>eqIn_8 od h W
  have hr:Hid (ordB 0 oback od= (!oback && ydb od 0)):=rfl
  rw [hr.out]
  obtain ⟨r,hrr⟩:∃r,ydb od 0=r:=⟨_,rfl⟩
  rw [hrr] at heq⊢
  clear hrr h hr
  cases r <;> cases oback
  all_goals
   go_enter Tryz.func35,Tryz.ntmps35
   go_wp2
   go_ret
   exact ⟨by first | rfl | exact yaT (by simp),yaa (Below.refl _ _) (zG _)⟩
 ·exact yew 5 1 oback od w (.inl ⟨rfl,rfl⟩) h
 ·exact yew 53 2 oback od w (.inr ⟨rfl,rfl⟩) h
 ·have hr:Hid (ordB oin oback od=false):=by show _ = _; rw [ordB,if_neg n0,if_neg n1,if_neg n2]
  have b0:(oin == 0)=false:=by simpa using n0
  have b1:(oin == 1)=false:=by simpa using n1
  have b2:(oin == 2)=false:=by simpa using n2
  rw [hr.out]
  clear h n0 n1 n2
  go_enter Tryz.func35,Tryz.ntmps35
  go_wp2
  go_ret
  exact ⟨rfl,yaa (Below.refl _ _) (zG _)⟩
end
section
open Go.RowKit
theorem yhs (w:World):Calls Tryz.prog 65 #[] w fun e w'=>e= .returned (.agg #[.int .i64 0, .int .i64 12622780799])∧Below w.heap.size w w':=by
 go_enter Tryz.func65,Tryz.ntmps65
 go_wp2
 refine bodyPost_ret (yad rfl _ _ w.heap.size 0 _ _ rfl (yau w _ _) Tryz.underlying84 rfl (by kernel_rfl)) rfl ⟨rfl,yaa (Below.refl _ _) (zG _)⟩
def ybY (i:Nat):Nat:=if i < 2 then ybc 0 59 1 else if i=2 then ybc 0 23 1 else if i=3 then ybc 1 12 1 else if i=6 then ybc 1 7 1 else ybc 1 31 1
def fullCl:Cl:={m:=ybY,or:=false,oin:=0,oback:=false,od:=fun _=>0,ys:=ybV,unit:=0,step:=1,anchor:=0,fr:=0,un:=12622780799}
theorem ydh:(Tryz.prog.info? 34).map (·.size)=some 30:=by kernel_rfl
theorem store_cl (W:World) (b:Nat) (cs:List Value) (hl:cs.length=30) (h1:cs.all (·.oneCell')=true) (ht:W.there b 0 30) :
  (Instr.storeAt 34 (.pointer (some ⟨b,0,none⟩)) (.agg cs.toArray)).run Tryz.prog W= .ok () (W.setCells b 0 cs):=by
 have:=run_storeAt_mid (P:=Tryz.prog) W b 0 34 cs.toArray (by rw [List.size_toArray,hl]; exact ht) (by rw [List.size_toArray,hl]; exact ydh) (by simpa using h1)
 exact this
def yas (W:World) (b:Nat) (cs:List Value):World:=W.setCells b 0 cs
def yiM (v u:Value):Sem Unit:=Instr.storeAt 34 v u
theorem yaK (v u:Value):Instr.storeAt 34 v u=yiM v u:=rfl
theorem yaA (W:World) (b:Nat) (x0 x1 x2 x3 x4 x5 x6 oi d0 d1 d2 d3 d4 d5 d6 d7 y0 y1 y2 y3 y4 y5 y6 u st an fr un:Int) (o ob:Bool) (ht:W.there b 0 30) :
  (yiM (.pointer (some ⟨b,0,none⟩)) (.agg #[.int .u64 x0, .int .u64 x1, .int .u64 x2, .int .u64 x3, .int .u64 x4, .int .u64 x5, .int .u64 x6, .bool o, .int .i64 oi, .bool ob, .int .u64 d0, .int .u64 d1, .int .u64 d2, .int .u64 d3, .int .u64 d4, .int .u64 d5, .int .u64 d6, .int .u64 d7, .int .u64 y0, .int .u64 y1, .int .u64 y2, .int .u64 y3, .int .u64 y4, .int .u64 y5, .int .u64 y6, .int .i64 u, .int .i64 st, .int .i64 an, .int .i64 fr, .int .i64 un])).run Tryz.prog W= .ok () (yas W b [.int .u64 x0, .int .u64 x1, .int .u64 x2, .int .u64 x3, .int .u64 x4, .int .u64 x5, .int .u64 x6, .bool o, .int .i64 oi, .bool ob, .int .u64 d0, .int .u64 d1, .int .u64 d2, .int .u64 d3, .int .u64 d4, .int .u64 d5, .int .u64 d6, .int .u64 d7, .int .u64 y0, .int .u64 y1, .int .u64 y2, .int .u64 y3, .int .u64 y4, .int .u64 y5, .int .u64 y6, .int .i64 u, .int .i64 st, .int .i64 an, .int .i64 fr, .int .i64 un]):=
 store_cl W b [.int .u64 x0, .int .u64 x1, .int .u64 x2, .int .u64 x3, .int .u64 x4, .int .u64 x5, .int .u64 x6, .bool o, .int .i64 oi, .bool ob, .int .u64 d0, .int .u64 d1, .int .u64 d2, .int .u64 d3, .int .u64 d4, .int .u64 d5, .int .u64 d6, .int .u64 d7, .int .u64 y0, .int .u64 y1, .int .u64 y2, .int .u64 y3, .int .u64 y4, .int .u64 y5, .int .u64 y6, .int .i64 u, .int .i64 st, .int .i64 an, .int .i64 fr, .int .i64 un] rfl rfl ht
attribute [local go_sem ↓] yaK
attribute [local go_sem] yaA
abbrev FuS (w:World) (b3:Nat) (W:World):Prop:=
 W.there w.heap.size 0 30∧W.cell? ⟨b3,0,none⟩=some (.int .i64 0)∧W.cell? ⟨b3,1,none⟩=some (.int .i64 12622780799)∧Below w.heap.size w W∧(w.heap.size < W.heap.size∧b3 < W.heap.size)
theorem FuS.keep {w W W':World} {b3:Nat} (h:FuS w b3 W) (hb:Below W.heap.size W W'):FuS w b3 W':=by
 obtain ⟨h1,h2,h3,h4,h5,h6⟩:=h
 exact ⟨yco h1 hb h5,(hb.cell (p:=⟨b3,0,none⟩) h6).trans h2,(hb.cell (p:=⟨b3,1,none⟩) h6).trans h3,h4.trans (hb.mono (by omega)),zH h5 hb.size,zH h6 hb.size⟩
theorem FuS.put {w W:World} {b3:Nat} (h:FuS w b3 W) (hne:b3≠w.heap.size) (cs:List Value):FuS w b3 (yas W w.heap.size cs):=by
 obtain ⟨h1,h2,h3,h4,h5,h6⟩:=h
 have hb:=yaQ (zG w.heap.size) cs 0 W h4
 have hsz:W.heap.size≤(W.setCells w.heap.size 0 cs).heap.size:=(World.keptBut_setCells w.heap.size (may:=fun _=>True) cs 0 W (fun _ _=>trivial)).size
 exact ⟨World.there_setCells h1 _ _ _,by rw [yas,World.cell?_setCells_out _ _ _ _ _ (fun e=>absurd e hne)]; exact h2,by rw [yas,World.cell?_setCells_out _ _ _ _ _ (fun e=>absurd e hne)]; exact h3,hb,zH h5 hsz,zH h6 hsz⟩
theorem yak {W:World} {b:Nat} (cs:List Value) (hl:cs.length=30) (h:W.there b 0 30):(yas W b cs).rangeAt b 0 cs:=World.rangeAt_setCells_same _ _ _ _ (by rw [hl]; exact h)
theorem yaj {B:Nat} {a W:World} {b:Nat} (h:Below B a W) (hb:B≤b) (cs:List Value):Below B a (yas W b cs):=yaQ hb cs 0 W h
theorem ybr (w:World):Calls Tryz.prog 22 #[] w fun e w'=>e= .returned (clv fullCl)∧Below w.heap.size w w':=by
 have c0:=hid (fun W=>yhs W)
 have c1:Hid (∀W,Calls Tryz.prog 64 #[.int .i64 0, .int .i64 59, .int .i64 1] W fun e w'=>e= .returned (.int .u64 (ybY 0:Nat))∧W=w'):=fun W=>ybO 0 59 1 W (by omega) (by omega)
 have c2:Hid (∀W,Calls Tryz.prog 64 #[.int .i64 1, .int .i64 31, .int .i64 1] W fun e w'=>e= .returned (.int .u64 (ybY 4:Nat))∧W=w'):=fun W=>ybO 1 31 1 W (by omega) (by omega)
 have c3:Hid (∀W,Calls Tryz.prog 64 #[.int .i64 0, .int .i64 23, .int .i64 1] W fun e w'=>e= .returned (.int .u64 (ybY 2:Nat))∧W=w'):=fun W=>ybO 0 23 1 W (by omega) (by omega)
 have c4:Hid (∀W,Calls Tryz.prog 64 #[.int .i64 1, .int .i64 12, .int .i64 1] W fun e w'=>e= .returned (.int .u64 (ybY 3:Nat))∧W=w'):=fun W=>ybO 1 12 1 W (by omega) (by omega)
 have c5:Hid (∀W,Calls Tryz.prog 64 #[.int .i64 1, .int .i64 7, .int .i64 1] W fun e w'=>e= .returned (.int .u64 (ybY 6:Nat))∧W=w'):=fun W=>ybO 1 7 1 W (by omega) (by omega)
 have c6:=hid (fun W=>yhv W)
 go_enter Tryz.func22,Tryz.ntmps22
 go_wp2_with fail
 refine (c1.out _).mono ?_
 rintro e w' ⟨rfl,rfl⟩
 go_wp2_with fail
 refine (c2.out _).mono ?_
 rintro e w' ⟨rfl,rfl⟩
 go_wp2_with fail
 refine (c0.out _).mono ?_
 rintro e w1 ⟨rfl,hB1⟩
 have hth:((w.alloc (.cells ((List.replicate 7 (Value.int .u64 0)) ++ [Value.bool false, .int .i64 0, .bool false] ++ (List.replicate 15 (Value.int .u64 0)) ++ (List.replicate 5 (Value.int .i64 0))).toArray 34)).there w.heap.size 0 30):=yat w _ _
 have hth1:=yco hth hB1 (by simp)
 have HB1:Hid (Below w.heap.size w w1):=(yaa (Below.refl _ _) (zG _)).trans (hB1.mono (by simp))
 have hs1:w.heap.size < w1.heap.size:=by have:=hB1.size; simp at this; omega
 have hn:=yaa (o:= .cells #[.int .i64 0, .int .i64 12622780799] 84) (Below.refl w1.heap.size w1) (zG _)
 have HS0:Hid (FuS w w1.heap.size (w1.alloc (.cells #[.int .i64 0, .int .i64 12622780799] 84)).drew):=
  ⟨yco hth1 hn.drew hs1,by show (w1.alloc _).cell? _ = _; simp [go_sem],by show (w1.alloc _).cell? _ = _; simp [go_sem],HB1.out.trans (hn.drew.mono (by omega)),by show _ < (w1.alloc _).heap.size; simp; omega,by show _ < (w1.alloc _).heap.size; simp⟩
 have d3:=hid (fun W (h:FuS w w1.heap.size W)=>yax (yd2 (c3.out W)) (fun _=>h.keep))
 have d4:=hid (fun W (h:FuS w w1.heap.size W)=>yax (yd2 (c4.out W)) (fun _=>h.keep))
 have d5:=hid (fun W (h:FuS w w1.heap.size W)=>yax (yd2 (c5.out W)) (fun _=>h.keep))
 have d6:=hid (fun W (h:FuS w w1.heap.size W)=>yax (c6.out W) (fun _=>h.keep))
 have hne3:w1.heap.size≠w.heap.size:=by omega
 clear hth hth1 hB1 hn
 go_wp2_with fail
 go_region_held3 (fun w'=>FuS w w1.heap.size w') (first | with_reducible exact HS0.out | with_reducible assumption | (refine FuS.put (by assumption) hne3 _))
  (first
    | (go_at_call 64; (first | with_reducible refine (d3.out _ (by assumption)).mono ?_ | with_reducible refine (d4.out _ (by assumption)).mono ?_ | with_reducible refine (d5.out _ (by assumption)).mono ?_); rintro e w' ⟨rfl,hS⟩)
    | (go_at_call 66; refine (d6.out _ (by assumption)).mono ?_; rintro e w' ⟨rfl,hS⟩))
 go_wp2
 refine bodyPost_ret (yad rfl _ _ w.heap.size 0 _ _ rfl (yak _ rfl hS.1) Tryz.underlying34 rfl ydh) rfl ⟨rfl,yaj hS.2.2.2.1 (zG _) _⟩
end
end Go.Proofs.YtjahgimnfliooaaGreatDoor
