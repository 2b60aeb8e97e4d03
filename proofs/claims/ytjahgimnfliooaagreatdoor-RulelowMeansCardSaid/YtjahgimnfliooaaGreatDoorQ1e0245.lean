/-
  roll.made: the disc of eight states.
  roll.at: the states of a roll's clauses on a day.
  roll.At: a roll's disc on a day.
-/
import Derived.Test.YtjahgimnfliooaaGreatDoorQbf6165
import Derived.Test.YtjahgimnfliooaaGreatDoorQ7eaca1
set_option maxRecDepth 100000
set_option maxHeartbeats 25600000
namespace Go.Proofs.YtjahgimnfliooaaGreatDoor
set_option linter.unusedVariables false
section
open Go.RowKit Go.Maps
def yjU (cs:List Cl) (x:Nat→St1) (n k:Nat):Bool:=(List.range n).any fun i=>secQ (atC cs i) (x i).a (x i).f (x i).u (x i).p k
theorem yfO (cs:List Cl) (x:Nat→St1) (n k:Nat):yjU cs x (n+1) k= (yjU cs x n k || secQ (atC cs n) (x n).a (x n).f (x n).u (x n).p k):=by
 rw [yjU,yjU,List.range_succ,List.any_append]; simp
theorem yiQ (c:Cl) (f u p:Int) (k:Nat):secQ c false f u p k=false:=by rw [secQ,Bool.false_and]
theorem yf6 (x:Nat→St1) {i:Nat} (hi:i < 8):(st8L x)[i * 4]? =some (.bool (x i).a)∧(st8L x)[i * 4+1]? =some (.int .i64 (x i).f)∧(st8L x)[i * 4+2]? =some (.int .i64 (x i).u)∧(st8L x)[i * 4+3]? =some (.int .i64 (x i).p):=by
 match i,hi with
 | 0,_=>exact ⟨rfl,rfl,rfl,rfl⟩
 | 1,_=>exact ⟨rfl,rfl,rfl,rfl⟩
 | 2,_=>exact ⟨rfl,rfl,rfl,rfl⟩
 | 3,_=>exact ⟨rfl,rfl,rfl,rfl⟩
 | 4,_=>exact ⟨rfl,rfl,rfl,rfl⟩
 | 5,_=>exact ⟨rfl,rfl,rfl,rfl⟩
 | 6,_=>exact ⟨rfl,rfl,rfl,rfl⟩
 | 7,_=>exact ⟨rfl,rfl,rfl,rfl⟩
 | n+8,hi=>omega
theorem RollS.mlt {W:World} {cs:List Cl} {br bk:Nat} {bps:List Nat} {F:Blk} {ws:Nat→Bool} {m:Nat} (h:RollS W cs br bk bps F ws m) {b:Nat} (hb:W.heap.size≤b):¬RM br bk bps b:=fun hm=>by have:=h.x.lt b (h.x.sub b hm); omega
structure MadI (W:World) (cs:List Cl) (br bk:Nat) (bps:List Nat) (F:Blk) (ws:Nat→Bool) (m:Nat) (x:Nat→St1) (k:Nat) (w:World):Prop where
 roll:∃F',RollS w cs br bk bps F' ws m∧GrF F F' W∧∀y,F' y→y≠W.heap.size+1
 disc:DiscAt w (W.heap.size+1) (yjU cs x k)
 eff:Eff (RM br bk bps) W w
 kn:w.heap[bk]? =W.heap[bk]?
 box:w.rangeAt W.heap.size 0 (st8L x)
theorem RMade_any {W:World} {cs:List Cl} {br bk:Nat} {bps:List Nat} {F:Blk} {ws:Nat→Bool} {m:Nat} (x:Nat→St1) (hx:∀i,i < 8→(x i).Ok) (h:RollS W cs br bk bps F ws m) :
  Calls Tryz.prog 155 #[.pointer (some ⟨br,0,none⟩),st8v x] W fun e W'=>∃b F',e= .returned (.pointer (some ⟨b,0,none⟩))∧RollS W' cs br bk bps F' ws m∧GrF F F' W∧DiF W' F' (RM br bk bps) b (ydI cs x)∧Eff (RM br bk bps) W W'∧W'.heap[bk]? =W.heap[bk]?:=by
 obtain ⟨W1,hW1⟩:∃W1,W.alloc (.cells (st8L x).toArray 210)=W1:=⟨_,rfl⟩
 have hB1:Below W.heap.size W W1:=by rw [←hW1]; exact yaa (Below.refl _ _) (zG _)
 have hl1:W1.heap.size=W.heap.size+1:=by rw [←hW1]; simp
 have hbox:W1.rangeAt W.heap.size 0 (st8L x):=by
  intro j v hv
  rw [←hW1,zzn]
  simpa [go_sem] using hv
 have c0:=hid (yek none 0 [] W1 (by simp) (Sl.nil _ _))
 obtain ⟨n,hnn⟩:∃n,cs.length=n:=⟨_,rfl⟩
 have h8:n≤8:=by have:=h.x.may; rw [mayL,zzX,zzY] at this; omega
 have H:=hid h
 have HB1:=hid hB1
 have Hl1:=hid hl1
 have Hbox:=hid hbox
 have HW1:=hid hW1
 have Hx:=hid hx
 clear h hB1 hl1 hbox hW1 hx
 go_enter Tryz.func155,Tryz.ntmps155
 go_wp2_with fail
 rw [HW1.out]
 refine c0.out.mono ?_
 rintro e w2 ⟨rfl,hD,hB2⟩
 have hI:Hid (MadI W cs br bk bps F ws m x 0 w2):=by
  have hB:=HB1.out.trans (hB2.mono HB1.out.size)
  refine ⟨⟨F,H.out.below hB,GrF.refl _ _,fun y hy e=>by have:=H.out.x.lt y hy; omega⟩,?_,Eff.of_below hB,hB.block bk H.out.known.lt,fun j v hv=>(hB2.cell (p:=⟨W.heap.size,0+j,none⟩) (by show W.heap.size < W1.heap.size; rw [Hl1.out]; omega)).trans (Hbox.out j v hv)⟩
  rw [←Hl1.out]
  exact hD.congr fun k _=>rfl
 obtain ⟨a0,c0',k0,-,-⟩:=H.out.x.cls
 have k2:w2.cell? ⟨br,0,none⟩=some (.slice a0 n c0'):=by
  have hB:=HB1.out.trans (hB2.mono HB1.out.size)
  rw [←hnn,←k0]; exact hB.cell (p:=⟨br,0,none⟩) H.out.rlt
 rw [Hl1.out]
 clear hD hB2 k0
 go_wp2_with fail
 clear k2
 have Hn:=hid hnn
 have Ha:∀k,k < n→k < 8:=fun k hk=>by omega
 have HA:=hid Ha
 clear hnn Ha
 go_loopw [13] (fun i wr=>∃k:Nat,i= .int .i64 k∧k≤n∧Hid (MadI W cs br bk bps F ws m x k wr)) (fun i _=>n - (intOf i).toNat)
 case atStart=>exact ⟨0,rfl,by omega,hI⟩
 case round=>
  obtain ⟨k,rfl,hk,HI⟩:=hrel
  by_cases hlt:k < n
  ·have hk8:k < 8:=HA.out k hlt
   obtain ⟨g0,g1,g2,g3⟩:=yf6 x hk8
   have x0:wr.cell? ⟨W.heap.size,k * 4,none⟩=some (.bool (x k).a):=by have:=HI.out.box _ _ g0; rwa [zzn] at this
   have x1:wr.cell? ⟨W.heap.size,k * 4+1,none⟩=some (.int .i64 (x k).f):=by have:=HI.out.box _ _ g1; rwa [zzn] at this
   have x2:wr.cell? ⟨W.heap.size,k * 4+2,none⟩=some (.int .i64 (x k).u):=by have:=HI.out.box _ _ g2; rwa [zzn] at this
   have x3:wr.cell? ⟨W.heap.size,k * 4+3,none⟩=some (.int .i64 (x k).p):=by have:=HI.out.box _ _ g3; rwa [zzn] at this
   have hkI:(k:Int) < 8:=by omega
   have Hok:=hid (Hx.out k hk8)
   clear g0 g1 g2 g3
   obtain ⟨s,hs⟩:∃s,x k=s:=⟨_,rfl⟩
   rw [hs] at x0 x1 x2 x3 Hok
   have Hs:=hid hs
   clear hs
   obtain ⟨sa,sf,su,sp⟩:=s
   cases sa
   ·have HI2:Hid (MadI W cs br bk bps F ws m x (k+1) wr):=by
     obtain ⟨i1,i2,i3,ik,i4⟩:=HI.out
     exact ⟨i1,i2.congr (fun t _=>by rw [yfO,Hs.out,yiQ,Bool.or_false]),i3,ik,i4⟩
    clear HI
    go_wp2_with fail
    exact ⟨⟨k+1,by go_num,by omega,HI2.out⟩,by simp [intOf]; omega⟩
   ·obtain ⟨F1,hr,hG,hF1⟩:=HI.out.roll
    have cP:=hid (RPart_any k ⟨true,sf,su,sp⟩ (by have:=Hn.out; omega) Hok.out hr)
    have HG:=hid hG
    have HF1:=hid hF1
    clear hr hG hF1
    go_wp2_with fail
    refine cP.out.mono ?_
    rintro e w3 ⟨b,F2,rfl,hr3,hG3,hd3,hE3,hk3⟩
    have hbl:=HI.out.disc.lt
    have hne:∀y,F2 y→y≠W.heap.size+1:=fun y hy e=>by
     rcases hG3.new y hy with h1 | h1
     ·exact HF1.out y h1 e
     ·omega
    have hD3:=HI.out.disc.eff hE3 (H.out.mlt (by omega))
    have cJ:=hid (ykI (W.heap.size+1) b _ _ w3 hD3 hd3.2.2 (hne b hd3.1))
    have HR3:=hid hr3
    have HG3:=hid (HG.out.trans hG3 HI.out.eff.size)
    have HE3:=hid hE3
    have HK3:=hid hk3
    have HNE:=hid hne
    clear hr3 hG3 hd3 hE3 hk3 hne hD3 hbl cP x0 x1 x2 x3
    go_wp2_with fail
    refine cJ.out.mono ?_
    rintro e w4 ⟨⟨v,rfl⟩,hD4,hE4⟩
    have HI4:Hid (MadI W cs br bk bps F ws m x (k+1) w4):=by
     have hbl:=HI.out.disc.lt
     have hs3:=HE3.out.size
     refine ⟨⟨F2,HR3.out.keep hE4.size (fun y hy=>hE4.block y (HR3.out.x.lt y hy) (HNE.out y hy)),HG3.out,HNE.out⟩,hD4.congr (fun t _=>by rw [yfO,Hs.out]),(HI.out.eff.trans HE3.out (fun _ h=> .inl h)).trans hE4 (fun y hy=> .inr (by omega)),(hE4.block bk (zH (zH H.out.known.lt HI.out.eff.size) hs3) (fun e=>by have:=H.out.known.lt; omega)).trans (HK3.out.trans HI.out.kn),fun j v hv=>?_⟩
     exact (hE4.cell (p:=⟨W.heap.size,0+j,none⟩) (by show W.heap.size < _; omega) (by show¬W.heap.size= _; omega)).trans ((HE3.out.cell (p:=⟨W.heap.size,0+j,none⟩) (by show W.heap.size < _; omega) (H.out.mlt (zG _))).trans (HI.out.box j v hv))
    clear hD4 hE4 cJ
    go_wp2
    exact ⟨⟨k+1,by go_num,by omega,HI4.out⟩,by simp [intOf]; omega⟩
  ·have hke:k=n:=by omega
   subst hke
   go_wp2
   go_ret
   obtain ⟨⟨F1,hr,hG,hF1⟩,i2,i3,ik,i4⟩:=HI.out
   refine ⟨W.heap.size+1,fun y=>F1 y∨y=W.heap.size+1,rfl,hr.wide (fun _ h=> .inl h) (fun y hy=>?_),⟨fun y hy=> .inl (hG.sub y hy),fun y hy=>?_⟩,⟨.inr rfl,H.out.mlt (by omega),?_⟩,i3,ik⟩
   ·rcases hy with hy | rfl
    ·exact hr.x.lt y hy
    ·exact i2.lt
   ·rcases hy with hy | rfl
    ·exact hG.new y hy
    ·exact .inr (by omega)
   ·exact i2.congr (fun t _=>by rw [ydI,Hn.out,yjU])
end
section
open Go.RowKit Go.Maps
def stK (cs:List Cl) (n:Int) (k:Nat) (i:Nat):St1:=if i < k then stN cs n i else st0
def actK (cs:List Cl) (n:Int) (k:Nat):Nat:=mk fun i=>decide (i < k) && ya0 (atC cs i) n
def ydy (cs:List Cl) (n:Int) (k:Nat):Bool:=(List.range k).all fun i=>!ya0 (atC cs i) n || decide (sF (atC cs i) n=0∧sU (atC cs i) n=86399∧sP (atC cs i) n=0)
def CS8 (w:World) (b:Nat) (x:Nat→St1):Prop:=∀i,i < 8→w.cell? ⟨b,i * 4,none⟩=some (.bool (x i).a)∧w.cell? ⟨b,i * 4+1,none⟩=some (.int .i64 (x i).f)∧w.cell? ⟨b,i * 4+2,none⟩=some (.int .i64 (x i).u)∧w.cell? ⟨b,i * 4+3,none⟩=some (.int .i64 (x i).p)
theorem CS8.range {w:World} {b:Nat} {x:Nat→St1} (h:CS8 w b x):w.rangeAt b 0 (st8L x):=by
 intro j v hv
 rw [zzn]
 have hj:j < 32:=(zzq.1 hv).1
 have hi:j / 4 < 8:=by omega
 obtain ⟨g0,g1,g2,g3⟩:=yf6 x hi
 obtain ⟨h0,h1,h2,h3⟩:=h _ hi
 have e:j=j / 4 * 4+j % 4:=by omega
 have hr:j % 4 < 4:=by omega
 generalize j % 4=r at e hr
 generalize j / 4=q at e g0 g1 g2 g3 h0 h1 h2 h3
 subst e
 match r,hr with
 | 0,_=>rw [Nat.add_zero] at hv⊢; rw [h0,←g0,hv]
 | 1,_=>rw [h1,←g1,hv]
 | 2,_=>rw [h2,←g2,hv]
 | 3,_=>rw [h3,←g3,hv]
 | n+4,hr=>omega
theorem CS8.of {w:World} {b:Nat} {x:Nat→St1} (h:w.rangeAt b 0 (st8L x)):CS8 w b x:=fun i hi=>by
 obtain ⟨g0,g1,g2,g3⟩:=yf6 x hi
 have r:=fun j v hv=>h j v hv
 simp only [zzn] at r
 exact ⟨r _ _ g0,r _ _ g1,r _ _ g2,r _ _ g3⟩
theorem CS8.below {w w':World} {b B:Nat} {x:Nat→St1} (h:CS8 w b x) (hb:Below B w w') (hB:b < B):CS8 w' b x:=fun i hi=>by
 obtain ⟨h0,h1,h2,h3⟩:=h i hi
 exact ⟨(hb.cell (p:=⟨b,_,none⟩) hB).trans h0,(hb.cell (p:=⟨b,_,none⟩) hB).trans h1,(hb.cell (p:=⟨b,_,none⟩) hB).trans h2,(hb.cell (p:=⟨b,_,none⟩) hB).trans h3⟩
theorem CS8.congr {w:World} {b:Nat} {x y:Nat→St1} (h:CS8 w b x) (e:∀i,i < 8→x i=y i):CS8 w b y:=fun i hi=>by rw [←e i hi]; exact h i hi
structure AtI (W:World) (cs:List Cl) (n:Int) (s:Nat→Int) (k:Nat) (w:World):Prop where
 bel:Below W.heap.size W w
 sh:ShS w W.heap.size s
 lt:W.heap.size+1 < w.heap.size
 st:CS8 w (W.heap.size+1) (stK cs n k)
 fz:∀i,w.frozen? ⟨W.heap.size+1,i,none⟩=false
theorem AtI.set {W w w4:World} {cs:List Cl} {n:Int} {s:Nat→Int} {k:Nat} {ta:Bool} {tf tu tp:Int} (h:AtI W cs n s k w) (hk:k < 8) (hB:Below w.heap.size w w4) (ht:stN cs n k= ⟨ta,tf,tu,tp⟩) :
  AtI W cs n s (k+1) ((((w4.setCell ⟨W.heap.size+1,k * 4,none⟩ (.bool ta)).setCell ⟨W.heap.size+1,k * 4+1,none⟩ (.int .i64 tf)).setCell ⟨W.heap.size+1,k * 4+2,none⟩ (.int .i64 tu)).setCell ⟨W.heap.size+1,k * 4+3,none⟩ (.int .i64 tp)):=by
 have hb:Below W.heap.size W w4:=h.bel.trans (hB.mono h.bel.size)
 have hl:=zH h.lt hB.size
 have hc:=h.st.below hB h.lt
 refine ⟨yab (yab (yab (yab hb (by omega)) (by omega)) (by omega)) (by omega),?_,by simpa using hl,fun i hi=>?_,fun i=>?_⟩
 ·have h2:=h.sh.below hB (by have:=h.lt; omega)
  have e:∀(o:Nat) (u:Value) (w':World),Below (W.heap.size+1) w' (w'.setCell ⟨W.heap.size+1,o,none⟩ u):=fun o u w'=>yab (Below.refl _ _) (zG _)
  exact (((h2.below (e _ _ _) (by omega)).below (e _ _ _) (by omega)).below (e _ _ _) (by omega)).below (e _ _ _) (by omega)
 ·obtain ⟨g0,g1,g2,g3⟩:=hc i hi
  by_cases e:i=k
  ·subst e
   have e2:stK cs n (i+1) i= ⟨ta,tf,tu,tp⟩:=by rw [stK,if_pos (by omega),ht]
   rw [e2]
   refine ⟨?_,?_,?_,?_⟩ <;> simp [go_sem,g0,g1,g2,g3]
  ·have e2:stK cs n (k+1) i=stK cs n k i:=by
    rw [stK,stK]
    by_cases h1:i < k
    ·rw [if_pos (by omega),if_pos h1]
    ·rw [if_neg (by omega),if_neg h1]
   rw [e2]
   refine ⟨?_,?_,?_,?_⟩ <;> simp [go_sem,g0,g1,g2,g3] <;> omega
 ·simp [go_sem,hB.frozen (p:=⟨W.heap.size+1,i,none⟩) h.lt,h.fz i]
theorem stG_stN {cs:List Cl} {n:Int} {i:Nat} (hi:i < cs.length):stG (atC cs i) n= (stN cs n i).v:=by
 rw [stG_parts,stN,if_pos hi]
theorem actK_zero (cs:List Cl) (n:Int):actK cs n 0=0:=by
 rw [actK]; exact (ybf fun i _=>by simp).trans yb1
theorem actK_yes {cs:List Cl} {n:Int} {k:Nat} (h64:k < 64) (h:ya0 (atC cs k) n=true):actK cs n k ||| 2 ^ k=actK cs n (k+1):=by
 rw [actK,mk_or h64,actK]
 refine ybf fun i hi=>?_
 by_cases e:i=k
 ·subst e; simp [h]
 ·have:decide (i < k+1)=decide (i < k):=decide_eq_decide.2 ⟨fun _=>by omega,fun _=>by omega⟩
  simp [e,this]
theorem actK_no {cs:List Cl} {n:Int} {k:Nat} (h:ya0 (atC cs k) n=false):actK cs n k=actK cs n (k+1):=by
 rw [actK,actK]
 refine ybf fun i hi=>?_
 by_cases e:i=k
 ·subst e; simp [h]
 ·have:decide (i < k+1)=decide (i < k):=decide_eq_decide.2 ⟨fun _=>by omega,fun _=>by omega⟩
  simp [this]
theorem actK_lt {cs:List Cl} {n:Int} {k:Nat} (h:k≤8):actK cs n k < 256:=by
 refine Nat.lt_pow_two_of_testBit (n:=8) _ (fun i hi=>?_)
 rw [actK,ybh,zzd (show¬i < k by omega),Bool.false_and,Bool.and_false]
theorem or_i64 {a b:Nat} (ha:a < 256) (hb:b < 256):bits .or .i64 (a:Int) (b:Int)= ((a ||| b:Nat):Int):=by
 show IntKind.i64.wrap ((BitVec.ofInt 64 (a:Int) ||| BitVec.ofInt 64 (b:Int)).toNat:Int)= _
 rw [BitVec.toNat_or,ybd (by omega),ybd (by omega)]
 have:=Nat.or_lt_two_pow (n:=8) ha hb
 generalize a ||| b=c at *
 rw [IntKind.wrap_i64]
 omega
theorem pow_k {k:Nat} (h:k < 8):wrap64 ((2:Int) ^ k)= ((2 ^ k:Nat):Int)∧2 ^ k < 256:=by
 match k,h with
 | 0,_=>exact ⟨by simp [wrap64],by decide⟩
 | 1,_=>exact ⟨by simp [wrap64],by decide⟩
 | 2,_=>exact ⟨by simp [wrap64],by decide⟩
 | 3,_=>exact ⟨by simp [wrap64],by decide⟩
 | 4,_=>exact ⟨by simp [wrap64],by decide⟩
 | 5,_=>exact ⟨by simp [wrap64],by decide⟩
 | 6,_=>exact ⟨by simp [wrap64],by decide⟩
 | 7,_=>exact ⟨by simp [wrap64],by decide⟩
 | n+8,h=>omega
theorem or_k {a k:Nat} (ha:a < 256) (h:k < 8):bits .or .i64 (a:Int) (wrap64 ((2:Int) ^ k))= ((a ||| 2 ^ k:Nat):Int):=by
 rw [(pow_k h).1]; exact or_i64 ha (pow_k h).2
theorem yd3 {P:Program} {fn:Func} {p t u:Tmp} {ty:TypeId} (h:fn.results= #[.cell p ty, .tmp t, .tmp u]) (tmps:Array Value) (w:World) (b o:Nat) (cs:List Value) (d:TypeDesc)
  (hp:tmps.getD p undef= .pointer (some ⟨b,o,none⟩)) (hc:w.rangeAt b o cs) (hu:P.underlying ty=some d) (hd:d.isRow=true) (hi:(P.info? ty).map (·.size)=some cs.length) :
  (results fn tmps).run P w= .ok (.tuple #[.agg cs.toArray,tmps.getD t undef,tmps.getD u undef]) w:=by
 have hp':tmps[p]?.getD undef= .pointer (some ⟨b,o,none⟩):=by simpa using hp
 simp [results,h,hp',asAddr,run_loadVar_mid w b o ty cs d hc hu hd hi]
theorem yd8:(Tryz.prog.info? 210).map (·.size)=some 32:=by kernel_rfl
def ydp (v:Value):Sem Value:=Instr.loadAt 210 v
theorem yi4 (v:Value):Instr.loadAt 210 v=ydp v:=rfl
def yf4 (v u:Value):Sem Unit:=Instr.storeAt 210 v u
theorem ygP (v u:Value):Instr.storeAt 210 v u=yf4 v u:=rfl
attribute [local go_sem ↓] eql_stS yi4 ygP
theorem RAt1_any {W:World} {cs:List Cl} {br bk:Nat} {bps:List Nat} {F:Blk} {ws:Nat→Bool} {m:Nat} (n:Int) (h0:0≤n) (h1:n < 146097) (h:RollS W cs br bk bps F ws m) :
  Calls Tryz.prog 154 #[.pointer (some ⟨br,0,none⟩),shN n] W fun e W'=>e= .returned (.tuple #[st8v (stN cs n), .int .i64 (actM cs n:Nat), .bool (yel cs n)])∧Below W.heap.size W W':=by
 obtain ⟨N,hN⟩:∃N,cs.length=N:=⟨_,rfl⟩
 obtain ⟨a1,c1,gvs,k1,s1,l1,v1⟩:=h.x.laps
 rw [hN] at k1
 have HK:=hid h
 have Hv:=hid v1
 have Hs1:=hid s1
 have Hl1:=hid l1
 have HN:=hid hN
 have hn2:Hid (0≤n∧n < 146097):=⟨h0,h1⟩
 clear h s1 v1 hN h0 h1 l1
 rw [←ybg]
 have Hs:Hid (shq (shF n)=shN n):=ybg n
 obtain ⟨s,hs⟩:∃s,shF n=s:=⟨_,rfl⟩
 rw [hs] at Hs⊢
 clear hs
 rw [shq]
 go_enter Tryz.func154,Tryz.ntmps154
 obtain ⟨W2,hW2⟩:∃W2,(W.alloc (.cells (yaV s).toArray 88)).alloc (.cells (st8L (fun _=>st0)).toArray 210)=W2:=⟨_,rfl⟩
 have hI:Hid (AtI W cs n s 0 W2):=by
  have hb:=yaa (o:= .cells (yaV s).toArray 88) (Below.refl W.heap.size W) (zG _)
  have hb2:=yaa (o:= .cells (st8L (fun _=>st0)).toArray 210) (Below.refl (W.alloc (.cells (yaV s).toArray 88)).heap.size _) (zG _)
  rw [hW2] at hb2
  refine ⟨hb.trans (hb2.mono hb.size),?_,?_,?_,?_⟩
  ·exact ShC.below (ycF W 88 _ _ _ _ _ _ _ _ _ _) hb2 (by simp)
  ·rw [←hW2]; simp
  ·refine CS8.congr (x:=fun _=>st0) (CS8.of fun j v hv=>?_) (fun i _=>by rw [stK,if_neg (by omega)])
   rw [←hW2,zzn,show W.heap.size+1= (W.alloc (.cells (yaV s).toArray 88)).heap.size by simp]
   simpa [go_sem] using hv
  ·intro i
   rw [←hW2,show W.heap.size+1= (W.alloc (.cells (yaV s).toArray 88)).heap.size by simp]
   exact yaB _ _ _ i
 have k2:W2.cell? ⟨br,1,none⟩=some (.slice a1 N c1):=(hI.out.bel.cell (p:=⟨br,1,none⟩) HK.out.rlt).trans k1
 have HW2:Hid ((W.alloc (.cells #[.int .i64 (s 0), .int .i64 (s 1), .int .i64 (s 2), .int .i64 (s 3), .int .i64 (s 4), .int .i64 (s 5), .int .i64 (s 6), .int .i64 (s 7), .int .i64 (s 8), .int .i64 (s 9)] 88)).alloc (.cells zl0 210)=W2):=hW2
 clear hW2 k1
 go_upto_region 2 with fail
 rw [HW2.out]
 go_wp2_with fail
 clear k2
 go_loopw [5,6,14] (fun a q i wr=>∃k:Nat,i= .int .i64 k∧k≤N∧a= .int .i64 (actK cs n k:Nat)∧q= .bool (ydy cs n k)∧Hid (AtI W cs n s k wr)) (fun _ _ i _=>N - (intOf i).toNat)
 case atStart=>exact ⟨0,rfl,by omega,by rw [actK_zero]; rfl,rfl,hI⟩
 case round=>
  obtain ⟨k,rfl,hk,rfl,rfl,HI⟩:=hrel
  by_cases hlt:k < N
  ·obtain ⟨lo,hi,hv,hhi,hFb⟩:=Hv.out k (by have:=HN.out; omega)
   have hc:=HK.out.x.ok (atC cs k) (by rw [ycu (by have:=HN.out; omega)]; exact zzr _)
   obtain ⟨y1,y2,y3,y4,y5,y6,hgv,hcall⟩:=hv.call hc hn2.out.1 hn2.out.2
   have cL:=hid (fun W' (hB:Below W.heap.size W W')=>by have:=hcall W' (zI hhi hB.size) (fun b _ h2=>hB.block b (by omega)); rw [←Hs.out,shq,stG_stN (by have:=HN.out; omega)] at this; exact this)
   obtain ⟨b1,o1,rfl,lb1,-,-,gc⟩:=Hs1.out.at (j:=k) (by have:=HN.out; have:=Hl1.out; omega)
   have gk:wr.cell? ⟨b1,o1+k,none⟩=some (ydd y1 y2 y3 y4 y5 y6):=by
    rw [←hgv,List.getD_eq_getElem?_getD,zzp (by have:=HN.out; have:=Hl1.out; omega)]
    exact (HI.out.bel.cell (p:=⟨b1,o1+k,none⟩) lb1).trans (gc k (by have:=HN.out; have:=Hl1.out; omega))
   dsimp only [ydd] at gk
   obtain ⟨s0,s1,s2,s3,s4,s5,s6,s7,s8,s9⟩:=HI.out.sh
   have h8:(k:Int) < 8:=by
    have:=HK.out.x.may; rw [mayL,zzX,zzY] at this; have:=HN.out; omega
   clear hv hhi hFb hc hgv hcall gc
   go_wp2_with fail
   refine (cL.out _ HI.out.bel).mono ?_
   rintro e w4 ⟨rfl,hB4⟩
   clear s0 s1 s2 s3 s4 s5 s6 s7 s8 s9 gk
   obtain ⟨t,ht⟩:∃t,stN cs n k=t:=⟨_,rfl⟩
   rw [ht]
   have Ht:=hid ht
   have HB4:=hid hB4
   clear ht hB4
   obtain ⟨ta,tf,tu,tp⟩:=t
   have fz:=(fun i=>(HB4.out.frozen (p:=⟨W.heap.size+1,i,none⟩) HI.out.lt).trans (HI.out.fz i):∀i,w4.frozen? ⟨W.heap.size+1,i,none⟩=false)
   have hst:=HI.out.st.below HB4.out HI.out.lt
   obtain ⟨c0,c1',c2,c3⟩:=hst k (by omega)
   clear hst
   go_upto_region 6 with fail
   have HI5:=hid (HI.out.set (by omega) HB4.out Ht.out)
   obtain ⟨W5,hW5⟩:∃W5,(((w4.setCell ⟨W.heap.size+1,k * 4,none⟩ (.bool ta)).setCell ⟨W.heap.size+1,k * 4+1,none⟩ (.int .i64 tf)).setCell ⟨W.heap.size+1,k * 4+2,none⟩ (.int .i64 tu)).setCell ⟨W.heap.size+1,k * 4+3,none⟩ (.int .i64 tp)=W5:=⟨_,rfl⟩
   rw [hW5] at HI5⊢
   clear hW5 c0 c1' c2 c3 fz
   obtain ⟨x0,x1,x2,x3⟩:=HI5.out.st k (by omega)
   rw [show stK cs n (k+1) k= ⟨ta,tf,tu,tp⟩ by rw [stK,if_pos (by omega),Ht.out]] at x0 x1 x2 x3
   have hparts:ya0 (atC cs k) n=ta∧sF (atC cs k) n=tf∧sU (atC cs k) n=tu∧sP (atC cs k) n=tp:=by
    have h:=Ht.out
    rw [stN,if_pos (by have:=HN.out; omega)] at h
    injection h with e1 e2 e3 e4
    exact ⟨e1,e2,e3,e4⟩
   have hok:St1.Ok ⟨ta,tf,tu,tp⟩:=by rw [←Ht.out]; exact stN_ok HK.out.x.ok hn2.out.1 hn2.out.2 k
   have hwk:ydy cs n (k+1)= (ydy cs n k && (!ta || decide (tf=0∧tu=86399∧tp=0))):=by
    rw [ydy,ydy,List.range_succ,List.all_append,List.all_cons,List.all_nil,hparts.1,hparts.2.1,hparts.2.2.1,hparts.2.2.2,Bool.and_true]
   have HP:=hid hparts
   obtain ⟨q,hq⟩:∃q,ydy cs n k=q:=⟨_,rfl⟩
   rw [hq] at hwk⊢
   clear hparts hq
   obtain ⟨aN,haN⟩:∃A,actK cs n k=A:=⟨_,rfl⟩
   rw [haN]
   have HaN:=hid haN
   clear haN
   cases ta
   ·have HA:Hid (actK cs n (k+1)=aN):=by rw [←HaN.out]; exact (actK_no HP.out.1).symm
    have HW:Hid (ydy cs n (k+1)=q):=by rw [hwk]; cases q <;> rfl
    clear hwk
    go_wp2_with fail
    exact ⟨⟨k+1,by go_num,by omega,by rw [HA.out],by rw [HW.out],HI5⟩,by simp [intOf]; omega⟩
   ·have HA:Hid (aN ||| 2 ^ k=actK cs n (k+1)):=by rw [←HaN.out]; exact actK_yes (by omega) HP.out.1
    have he:=hid (fun w=>ykf true tf tu tp true 0 86399 0 w hok.f hok.u hok.p ⟨by decide,by decide⟩ ⟨by decide,by decide⟩ ⟨by decide,by decide⟩)
    have hd:(decide (true=true∧tf=0∧tu=86399∧tp=0))=decide (tf=0∧tu=86399∧tp=0):=by simp
    rw [hd] at he
    obtain ⟨d,hdd⟩:∃d,decide (tf=0∧tu=86399∧tp=0)=d:=⟨_,rfl⟩
    rw [hdd] at he hwk
    have HW:Hid (ydy cs n (k+1)= (q && d)):=by rw [hwk]; rfl
    clear hwk hd hdd
    have he5:=he.out W5
    have hor:=hid (or_k (a:=aN) (k:=k) (by rw [←HaN.out]; exact actK_lt (by omega)) (by omega))
    cases q
    ·go_wp2_with fail
     exact ⟨⟨k+1,by go_num,by omega,by rw [hor.out,HA.out],by rw [HW.out]; rfl,HI5⟩,by simp [intOf]; omega⟩
    ·go_wp2_with fail
     exact ⟨⟨k+1,by go_num,by omega,by rw [hor.out,HA.out],by rw [HW.out]; rfl,HI5⟩,by simp [intOf]; omega⟩
  ·have hke:k=N:=by omega
   subst hke
   have hx:Hid (CS8 wr (W.heap.size+1) (stN cs n)):=HI.out.st.congr (fun i _=>by
    rw [stK]
    by_cases h:i < k
    ·rw [if_pos h]
    ·rw [if_neg h,stN,if_neg (by have:=HN.out; omega)])
   have hld:(ydp (.pointer (some ⟨W.heap.size+1,0,none⟩))).run Tryz.prog wr= .ok (st8v (stN cs n)) wr:=run_loadAt_mid wr _ 0 210 (st8L (stN cs n)) _ hx.out.range Tryz.underlying210 rfl yd8
   have hth:wr.there (W.heap.size+1) 0 32:=fun j hj=>⟨by rw [hx.out.range j _ (zzp (by simpa using hj))]; rfl,by rw [zzn]; exact HI.out.fz j⟩
   obtain ⟨W9,hW9⟩:∃W9,wr.setCells (W.heap.size+1) 0 (st8L (stN cs n))=W9:=⟨_,rfl⟩
   have hst:(yf4 (.pointer (some ⟨W.heap.size+1,0,none⟩)) (st8v (stN cs n))).run Tryz.prog wr= .ok () W9:=by
    rw [←hW9]
    exact run_storeAt_mid (P:=Tryz.prog) wr (W.heap.size+1) 0 210 (st8L (stN cs n)).toArray hth yd8 (by rw [List.all_toArray]; rfl)
   have hr9:W9.rangeAt (W.heap.size+1) 0 (st8L (stN cs n)):=by rw [←hW9]; exact World.rangeAt_setCells_same _ _ _ _ hth
   have hld9:(ydp (.pointer (some ⟨W.heap.size+1,0,none⟩))).run Tryz.prog W9= .ok (st8v (stN cs n)) W9:=run_loadAt_mid W9 _ 0 210 (st8L (stN cs n)) _ hr9 Tryz.underlying210 rfl yd8
   have HB9:Hid (Below W.heap.size W W9):=by show Below _ _ _; rw [←hW9]; exact yaQ (by omega) _ _ _ HI.out.bel
   have HA:Hid (actK cs n k=actM cs n):=by have:=HN.out; rw [←this]; rfl
   have HW:Hid (ydy cs n k=yel cs n):=by have:=HN.out; rw [←this]; rfl
   have Hr9:=hid hr9
   clear hr9 hW9
   obtain ⟨V,hV⟩:∃V,st8v (stN cs n)=V:=⟨_,rfl⟩
   rw [hV] at hld hst hld9
   have HV:=hid hV
   clear hV
   go_wp2
   refine bodyPost_ret (yd3 rfl _ _ (W.heap.size+1) 0 (st8L (stN cs n)) _ rfl Hr9.out Tryz.underlying210 rfl yd8) rfl ⟨?_,HB9.out⟩
   rw [←HA.out,←HW.out]
   rfl
end
section
open Go.RowKit Go.Maps
def yhK (cs:List Cl) (n:Int) (ws:Nat→Bool) (m:Nat) (ws':Nat→Bool) (m':Nat):Prop:=
 (actM cs n=0∧ws' =ws∧m' =m)∨
 (actM cs n≠0∧yel cs n=true∧ws' = (fun i=>ws i || decide (i=actM cs n))∧m' =if ws (actM cs n) then m else m+1)∨
 (actM cs n≠0∧yel cs n=false∧ws' =ws∧(m' =m∨m' =m+1))
def AtR (W:World) (cs:List Cl) (br bk:Nat) (bps:List Nat) (F:Blk) (ws:Nat→Bool) (m:Nat) (n:Int) (e:Ending) (W':World):Prop:=
 ∃(d:Option Nat) (F':Blk) (ws':Nat→Bool) (m':Nat),e= .returned (dptr d)∧RollS W' cs br bk bps F' ws' m'∧GrF F F' W∧Eff (RM br bk bps) W W'∧yhK cs n ws m ws' m'∧(d=none→actM cs n=0)∧∀b,d=some b→DiF W' F' (RM br bk bps) b (dayQ cs n)
theorem actM_lt8 {cs:List Cl} {n:Int} (h:cs.length≤8):actM cs n < 256:=actK_lt (k:=cs.length) h
theorem RollS.ws_same {W:World} {cs:List Cl} {br bk:Nat} {bps:List Nat} {F:Blk} {ws:Nat→Bool} {m:Nat} (h:RollS W cs br bk bps F ws m) {j:Nat} (hj:ws j=true):(fun i=>ws i || decide (i=j))=ws:=by
 funext i
 by_cases e:i=j
 ·subst e; simp [hj]
 ·simp [e]
theorem yji {cs:List Cl} {n:Int} (h8:cs.length≤8) (h0:0≤n) (h1:n < 146097) (h:actM cs n=0) {k:Nat} (hk:k < 86400):dayQ cs n k=false:=by
 rw [←yc4 h0 h1 hk,ydI,List.any_eq_false]
 intro i hi
 rw [List.mem_range] at hi
 rw [stN,if_pos hi]
 show¬secQ (atC cs i) (ya0 (atC cs i) n) _ _ _ k=true
 rw [actM_zero.1 h i hi (by omega),yiQ]
 simp
def HasK (W:World) (b:Nat) (x:Value):Prop:=∃es clock,W.heap[b]? =some (.map es clock)∧∃e∈es.toList,e.key=x
theorem HasK.block {W W':World} {b:Nat} {x:Value} (h:HasK W b x) (hb:W'.heap[b]? =W.heap[b]?):HasK W' b x:=by
 obtain ⟨es,clock,h1,h2⟩:=h
 exact ⟨es,clock,hb.trans h1,h2⟩
theorem k8_key {v:Value} (h:K8 v):∃l,keyOf Tryz.prog 210 v=some l:=by
 obtain ⟨x,h,hok⟩:=h
 rw [h]; exact key_st8 x hok
theorem yib {W:World} {cs:List Cl} {F M:Blk} {bk n:Nat} {V:Value} (h:MapS K8 (G8 cs W F M) W bk n) (hV:K8 V) :
  (¬HasK W bk V∧(Instr.lookup 148 (.map (some bk)) V true).run Tryz.prog W= .ok (.tuple #[.pointer none, .bool false]) W)∨
  (HasK W bk V∧∃v,G8 cs W F M V v∧(Instr.lookup 148 (.map (some bk)) V true).run Tryz.prog W= .ok (.tuple #[v, .bool true]) W):=by
 obtain ⟨es,clock,h1,h2,h3⟩:=h
 have ht:Tryz.prog.underlying 148=some (.map 210 105):=by rw [Tryz.underlying148]
 have hz:(zeroValue 105).run Tryz.prog W= .ok (.pointer none) W:=by rfl
 obtain ⟨lx,hlx⟩:=k8_key hV
 rcases keyedSt8.find W hlx es.toList (fun e he=>k8_key (h3 e he).1) with ⟨g1,g2⟩ | ⟨j,e0,g1,g2,g3⟩
 ·refine .inl ⟨fun ⟨es',clock',q1,e,q2,q3⟩=>?_,by simp [Instr.lookup,run_underlying ht,MapKept.run_getObj_map h1,(yhd W).check _ V hV,g1,hz,Result.andThen]⟩
  rw [h1] at q1
  injection q1 with q1
  injection q1 with q1 _
  rw [←q1] at q2
  exact g2 e q2 q3
 ·refine .inr ⟨⟨es,clock,h1,e0,List.mem_of_getElem? g2,g3⟩,e0.val,?_,by simp [Instr.lookup,run_underlying ht,MapKept.run_getObj_map h1,(yhd W).check _ V hV,g1,Result.andThen]⟩
  have:=(h3 e0 (List.mem_of_getElem? g2)).2
  rwa [g3] at this
theorem yfg {W W':World} {G:Value→Value→Prop} {bk n:Nat} {V v:Value} (h:MapS K8 G W bk n) (hV:K8 V) (hr:(Instr.mapUpdate 148 (.map (some bk)) V v).run Tryz.prog W= .ok () W'):HasK W' bk V:=by
 obtain ⟨es,clock,h1,h2,h3⟩:=h
 have ht:Tryz.prog.underlying 148=some (.map 210 105):=by rw [Tryz.underlying148]
 rcases (yhd W).find V hV es.toList (fun e he=>(h3 e he).1) with g1 | ⟨j,e0,g1,g2,g3⟩
 ·have e:(Instr.mapUpdate 148 (.map (some bk)) V v).run Tryz.prog W= .ok () (Go.ChangeMaps.setBlock W bk (.map (es.push ⟨V,v,clock⟩) (clock+1))):=by
   simp [Instr.mapUpdate,run_underlying ht,MapKept.run_getObj_map h1,(yhd W).check false V hV,g1,MapKept.run_setObj_map _ h1,Result.andThen,Go.ChangeMaps.setBlock]
  rw [e] at hr
  injection hr with _ hr
  rw [←hr]
  exact ⟨_,_,Go.ChangeMaps.heap_setBlock_same h1 _,⟨V,v,clock⟩,by simp,rfl⟩
 ·have hj:es[j]? =some e0:=by rw [←g2,Array.getElem?_toList]
  have e:(Instr.mapUpdate 148 (.map (some bk)) V v).run Tryz.prog W= .ok () (Go.ChangeMaps.setBlock W bk (.map (es.modify j fun e=>{e with key:=V,val:=v}) clock)):=by
   simp [Instr.mapUpdate,run_underlying ht,MapKept.run_getObj_map h1,(yhd W).check false V hV,g1,hj,g3,(yhd W).stays V hV,MapKept.run_setObj_map _ h1,Result.andThen,Go.ChangeMaps.setBlock]
  rw [e] at hr
  injection hr with _ hr
  rw [←hr]
  refine ⟨_,_,Go.ChangeMaps.heap_setBlock_same h1 _,{e0 with key:=V,val:=v},?_,rfl⟩
  rw [Array.toList_modify]
  refine List.mem_of_getElem? (i:=j) ?_
  rw [List.getElem?_modify,g2]; simp
def AtX (W:World) (cs:List Cl) (bk:Nat) (n:Int) (m:Nat) (W':World) (m':Nat):Prop:=
 actM cs n≠0→yel cs n=false→HasK W' bk (st8v (stN cs n))∧(HasK W bk (st8v (stN cs n))→m' =m)
def AtR2 (W:World) (cs:List Cl) (br bk:Nat) (bps:List Nat) (F:Blk) (ws:Nat→Bool) (m:Nat) (n:Int) (e:Ending) (W':World):Prop:=
 ∃(d:Option Nat) (F':Blk) (ws':Nat→Bool) (m':Nat),e= .returned (dptr d)∧RollS W' cs br bk bps F' ws' m'∧GrF F F' W∧Eff (RM br bk bps) W W'∧yhK cs n ws m ws' m'∧(d=none→actM cs n=0)∧(∀b,d=some b→DiF W' F' (RM br bk bps) b (dayQ cs n))∧AtX W cs bk n m W' m'
theorem AtR2.at {W:World} {cs:List Cl} {br bk:Nat} {bps:List Nat} {F:Blk} {ws:Nat→Bool} {m:Nat} {n:Int} {e:Ending} {W':World} (h:AtR2 W cs br bk bps F ws m n e W'):AtR W cs br bk bps F ws m n e W':=by
 obtain ⟨d,F',ws',m',h1,h2,h3,h4,h5,h6,h7,-⟩:=h
 exact ⟨d,F',ws',m',h1,h2,h3,h4,h5,h6,h7⟩
end
end Go.Proofs.YtjahgimnfliooaaGreatDoor
