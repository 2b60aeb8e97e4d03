/-
  seek.Prev and seek.Last.
  What Next and Prev of a set tell, in plain words.
  Verdicts that are the same; ferialaw21.fault, lives.
  A verdict in a box; verdicts of two sets, and of the same ones turned.
  meet.Work: how many days are asked for, and how many discs are made.
  roll.Steps: how many clauses of a set have a step below a day.
  Sets without a step below a day, of the whole window: how many discs a roll makes of them.
  How many discs two rolls make, of sets without a step below a day (plain).
  A region that draws its order and ends with stores: its state is held up to the stores alone.
-/
import Derived.Test.YthimhfmnikfgaaaGreatDoorQ7d5902
import Derived.Test.YthimhfmnikfgaaaGreatDoorQe5c17c
import Derived.Test.YthimhfmnikfgaaaGreatDoorQ20334b
import Derived.Test.YthimhfmnikfgaaaGreatDoorQ034676
import Derived.Deep.CutRange
import Derived.BigQuiet
import Derived.Test.YthimhfmnikfgaaaGreatDoorQ7a4f8b
import Derived.OrdersIn
import Derived.OrdersHeld
import Derived.Deep.RegionHeld3
import Derived.Sort.CutIn
namespace Go.Proofs.YthimhfmnikfgaaaGreatDoor
set_option linter.unusedVariables false
section
open Go.RowKit Go.Maps
attribute [local go_sem] Oper.semAt_some
structure PvC (b:Nat) (T x y:Int) (O:Blk) (W:World):Prop where
 two:TwoC (b+1) x y O W
 c3:W.cell? ⟨b,0,none⟩=some (.int .i64 T)
 o3:O b
theorem PvC.keep {b:Nat} {T x y:Int} {O:Blk} {W W':World} (h:PvC b T x y O W) (hs:W.heap.size≤W'.heap.size) (hb:∀c,O c→W'.heap[c]? =W.heap[c]?):PvC b T x y O W':=
 ⟨h.two.keep hs hb,(World.cell?_of_block (w:=W) (a:=⟨b,0,none⟩) (hb _ h.o3)).trans h.c3,h.o3⟩
def PvT (h0 h1 h2 h3 h4 h5 h6 h7 h8 h9:Value) (ds:List Deferred) (a:Act):Prop:=∃u:Nat→Value,a= {tmps:=#[h0,h1,h2,h3,h4,h5,h6,h7,h8,h9,u 0,u 1,u 2,u 3,u 4,u 5,u 6,u 7,u 8,u 9,u 10,u 11,u 12,u 13,u 14,u 15,u 16,u 17,u 18,u 19,u 20,u 21,u 22,u 23,u 24,u 25,u 26,u 27,u 28,u 29,u 30,u 31,u 32,u 33,u 34,u 35,u 36,u 37,u 38],defers:=ds}
theorem PvT.of {h0 h1 h2 h3 h4 h5 h6 h7 h8 h9 u10 u11 u12 u13 u14 u15 u16 u17 u18 u19 u20 u21 u22 u23 u24 u25 u26 u27 u28 u29 u30 u31 u32 u33 u34 u35 u36 u37 u38 u39 u40 u41 u42 u43 u44 u45 u46 u47 u48:Value} {ds:List Deferred}:PvT h0 h1 h2 h3 h4 h5 h6 h7 h8 h9 ds {tmps:=#[h0,h1,h2,h3,h4,h5,h6,h7,h8,h9,u10,u11,u12,u13,u14,u15,u16,u17,u18,u19,u20,u21,u22,u23,u24,u25,u26,u27,u28,u29,u30,u31,u32,u33,u34,u35,u36,u37,u38,u39,u40,u41,u42,u43,u44,u45,u46,u47,u48],defers:=ds}:=
 ⟨fun i=>(#[u10,u11,u12,u13,u14,u15,u16,u17,u18,u19,u20,u21,u22,u23,u24,u25,u26,u27,u28,u29,u30,u31,u32,u33,u34,u35,u36,u37,u38,u39,u40,u41,u42,u43,u44,u45,u46,u47,u48]:Array Value).getD i undef,rfl⟩
end
section
open Go.RowKit Go.Maps
theorem next_fault {l:List Cl} {t:Int} (h:faultL l≠0):nextP l t= (0,faultL l):=by rw [nextP,if_pos h]
theorem prev_fault {l:List Cl} {t:Int} (h:faultL l≠0):prevP l t= (0,faultL l):=by rw [prevP,if_pos h]
theorem held_lt {t y:Int} (h0:0≤y) (h1:y < 12622780800):heldI t+1≤y↔t < y:=by rw [heldI]; omega
theorem held_gt {t y:Int} (h0:0≤y) (h1:y < 12622780800):y≤heldI t - 1↔y < t:=by rw [heldI]; omega
def NextI (cs:List Cl) (t x:Int):Prop:=instB cs x=true∧t < x∧∀y,t < y→y < x→instB cs y=false
theorem next_cases {l:List Cl} {t:Int} (h:faultL l=0):(∃x,nextP l t= (x,0)∧NextI l t x)∨(nextP l t= (0,15)∧∀y,t < y→instB l y=false):=by
 rw [nextP,if_neg (by simp [h])]
 have hp:=instA_up l (heldI t+1) 12622780799
 have hm:∀y,y∈instA l (heldI t+1) 12622780799↔t < y∧instB l y=true:=fun y=>by
  rw [instA_mem]
  constructor
  ·rintro ⟨h1,h2,h3⟩
   have:=inst_win h3
   exact ⟨(held_lt this.1 this.2).1 h1,h3⟩
  ·rintro ⟨h1,h3⟩
   have:=inst_win h3
   exact ⟨(held_lt this.1 this.2).2 h1,by omega,h3⟩
 generalize instA l (heldI t+1) 12622780799=L at *
 cases L with
 | nil=>
   refine .inr ⟨rfl,fun y hy=>?_⟩
   cases e:instB l y
   ·rfl
   ·have:=(hm y).2 ⟨hy,e⟩; cases this
 | cons x L=>
   have hx:=(hm x).1 (by simp)
   refine .inl ⟨x,rfl,hx.2,hx.1,fun y h1 h2=>?_⟩
   cases e:instB l y
   ·rfl
   ·rcases List.mem_cons.1 ((hm y).2 ⟨h1,e⟩) with h3 | h3
    ·omega
    ·have:=(List.pairwise_cons.1 hp).1 y h3; omega
theorem prev_cases {l:List Cl} {t:Int} (h:faultL l=0):(∃x,prevP l t= (x,0)∧LastI l t x)∨(prevP l t= (0,15)∧∀y,y < t→instB l y=false):=by
 rw [prevP,if_neg (by simp [h])]
 have hp:(instA l 0 (heldI t - 1)).reverse.Pairwise (·> ·):=List.pairwise_reverse.2 (instA_up l 0 (heldI t - 1))
 have hm:∀y,y∈(instA l 0 (heldI t - 1)).reverse↔y < t∧instB l y=true:=fun y=>by
  rw [List.mem_reverse,instA_mem]
  constructor
  ·rintro ⟨h1,h2,h3⟩
   have:=inst_win h3
   exact ⟨(held_gt this.1 this.2).1 h2,h3⟩
  ·rintro ⟨h1,h3⟩
   have:=inst_win h3
   exact ⟨this.1,(held_gt this.1 this.2).2 h1,h3⟩
 generalize (instA l 0 (heldI t - 1)).reverse=L at *
 cases L with
 | nil=>
   refine .inr ⟨rfl,fun y hy=>?_⟩
   cases e:instB l y
   ·rfl
   ·have:=(hm y).2 ⟨hy,e⟩; cases this
 | cons x L=>
   have hx:=(hm x).1 (by simp)
   refine .inl ⟨x,rfl,hx.2,hx.1,fun y h1 h2=>?_⟩
   cases e:instB l y
   ·rfl
   ·rcases List.mem_cons.1 ((hm y).2 ⟨h2,e⟩) with h3 | h3
    ·omega
    ·have:=(List.pairwise_cons.1 hp).1 y h3; omega
theorem ends {l:List Cl}:((nextP l (-1)).2=0↔(prevP l 12622780800).2=0)∧(nextP l (-1)).1≤(prevP l 12622780800).1:=by
 by_cases h:faultL l=0
 ·rcases next_cases (t:=-1) h with ⟨x,e1,g1,g2,g3⟩ | ⟨e1,g⟩
  ·rcases prev_cases (t:=12622780800) h with ⟨y,e2,f1,f2,f3⟩ | ⟨e2,f⟩
   ·rw [e1,e2]
    refine ⟨Iff.rfl,?_⟩
    show x≤y
    apply Int.le_of_not_gt
    intro h3
    have:=f3 x h3 (inst_win g1).2
    rw [g1] at this; cases this
   ·have:=f x (inst_win g1).2; rw [g1] at this; cases this
  ·rcases prev_cases (t:=12622780800) h with ⟨y,e2,f1,f2,f3⟩ | ⟨e2,f⟩
   ·have:=g y (by have:=(inst_win f1).1; omega); rw [f1] at this; cases this
   ·rw [e1,e2]; exact ⟨Iff.rfl,Int.le_refl _⟩
 ·rw [next_fault h,prev_fault h]
  exact ⟨Iff.rfl,Int.le_refl _⟩
end
section
open Go.RowKit Go.Maps
/-! ### verdicts that are the same -/
/-! ### the chapter's example -/
structure LvM (W0:World) (bc:Nat) (C F:Cl) (A B V:Option Nat) (W:World):Prop where
 bel:Below W0.heap.size W0 W
 c0:ClB W0 bc C∧bc < W0.heap.size
 sa:∀g,A=some g→Sl W (some ⟨g,0,none⟩) (cls [F])
 sb:∀g,B=some g→Sl W (some ⟨g,0,none⟩) (cls [C])
 sv:∀b,V=some b→W0.heap.size≤b∧W.cell? ⟨b,0,none⟩=some (.bool false)∧W.cell? ⟨b,1,none⟩=some (.int .i64 0)∧W.cell? ⟨b,2,none⟩=some (.bool false)∧∀i,W.frozen? ⟨b,i,none⟩=false
 lv:∀b,V=some b→b < W.heap.size
section
variable {W0 W W':World} {bc:Nat} {C F:Cl} {A B V:Option Nat}
theorem LvM.below (h:LvM W0 bc C F A B V W) (hB:Below W.heap.size W W'):LvM W0 bc C F A B V W':=
 ⟨h.bel.trans (hB.mono h.bel.size),h.c0,fun g hg=>(h.sa g hg).below hB,fun g hg=>(h.sb g hg).below hB,fun b hb=>by
  obtain ⟨h1,h2,h3,h4,h5⟩:=h.sv b hb
  have hl:=h.lv b hb
  exact ⟨h1,(hB.cell (p:=⟨b,0,none⟩) hl).trans h2,(hB.cell (p:=⟨b,1,none⟩) hl).trans h3,(hB.cell (p:=⟨b,2,none⟩) hl).trans h4,fun i=>(hB.frozen (p:=⟨b,i,none⟩) hl).trans (h5 i)⟩,fun b hb=>zH (h.lv b hb) hB.size⟩
theorem LvM.whole {g:Nat} (h:LvM W0 bc C F none B V W) (hO:OwnR W W' [F] (.slice (some ⟨g,0,none⟩) 1 1)) (hB:Below W.heap.size W W'):LvM W0 bc C F (some g) B V W':=
 ⟨(h.below hB).bel,h.c0,fun g' hg=>by cases hg; exact owns_sl hO,(h.below hB).sb,(h.below hB).sv,(h.below hB).lv⟩
theorem LvM.slice (h:LvM W0 bc C F A none V W) (t:TypeId):LvM W0 bc C F A (some W.heap.size) V (W.alloc (.cells (clList C).toArray t)):=by
 have hB:=below_new (o:= .cells (clList C).toArray t) (Below.refl W.heap.size W) (zG _)
 have h':=h.below hB
 refine ⟨h'.bel,h.c0,h'.sa,fun g hg=>?_,h'.sv,h'.lv⟩
 cases hg
 have:=sl_range (cs:=clList C) (range_new W (clList C) t) (by simp)
 rwa [show cls [C]=clList C from List.append_nil _]
end
end
section
open Go.RowKit Go.Maps
structure VrB (W:World) (b:Nat) (y:Bool) (t:Int) (f:Bool):Prop where
 c0:W.cell? ⟨b,0,none⟩=some (.bool y)
 c1:W.cell? ⟨b,1,none⟩=some (.int .i64 t)
 c2:W.cell? ⟨b,2,none⟩=some (.bool f)
 lt:b < W.heap.size
theorem VrB.below {W W':World} {b:Nat} {y:Bool} {t:Int} {f:Bool} (h:VrB W b y t f) (hB:Below W.heap.size W W'):VrB W' b y t f:=
 ⟨(hB.cell (p:=⟨b,0,none⟩) h.lt).trans h.c0,(hB.cell (p:=⟨b,1,none⟩) h.lt).trans h.c1,(hB.cell (p:=⟨b,2,none⟩) h.lt).trans h.c2,zH h.lt hB.size⟩
theorem fault_may {l:List Cl} (h:faultL l=0):mayL l=true:=by rw [may_fault,decide_eq_true h]
end
section
open Go.RowKit Go.Maps
def WorkR (IA IB:Nat→Nat→(Nat→Bool)→Nat→Prop) (la lb:List Cl) (e:Ending):Prop:=
 (faultL la≠0∧e= .returned (.tuple #[.int .i64 0, .int .i64 0, .int .i64 (faultL la)]))∨
 (faultL la=0∧faultL lb≠0∧e= .returned (.tuple #[.int .i64 0, .int .i64 0, .int .i64 (faultL lb)]))∨
 (faultL la=0∧faultL lb=0∧∃(t:Int) (ok:Bool) (wa wb:Nat→Bool) (ma mb j k:Nat),e= .returned (.tuple #[.int .i64 (j:Nat), .int .i64 ((ma:Int)+mb), .int .i64 0])∧
   FirstD (fun p q=>p != q) la lb (hF la) (hU la) (hF lb) (hU lb) (dM (hF la) (hU la) (hF lb) (hU lb)) t ok j∧IA k j wa ma∧IB k j wb mb∧k≤(dM (hF la) (hU la) (hF lb) (hU lb)).length)
theorem FirstD.j_le {pw:Bool→Bool→Bool} {la lb:List Cl} {f0 u0 f1 u1:Int} {D:List Int} {t:Int} {ok:Bool} {j:Nat} (h:FirstD pw la lb f0 u0 f1 u1 D t ok j):j≤D.length:=by
 rcases h with ⟨-,k,h1,h2,-⟩ | ⟨-,-,h1,-⟩ <;> omega
set_option maxRecDepth 100000 in
set_option maxHeartbeats 6400000 in
theorem MWork_any (a:Option Addr) (cap:Nat) (la:List Cl) (b:Option Addr) (capb:Nat) (lb:List Cl) (W:World) (IA IB:Nat→Nat→(Nat→Bool)→Nat→Prop)
  (sA:∀k j n ws m ws' m',(dM (hF la) (hU la) (hF lb) (hU lb))[k]? =some n→IA k j ws m→AtStep la n ws m ws' m'→IA (k+1) (j+1) ws' m') (sB:∀k j n ws m ws' m',(dM (hF la) (hU la) (hF lb) (hU lb))[k]? =some n→IB k j ws m→AtStep lb n ws m ws' m'→IB (k+1) (j+1) ws' m')
  (nA:∀k j ws m,IA k j ws m→IA (k+1) j ws m) (nB:∀k j ws m,IB k j ws m→IB (k+1) j ws m)
  (bA:∀k j ws m,IA k j ws m→j≤146097→m < 4611686018427387904) (bB:∀k j ws m,IB k j ws m→j≤146097→m < 4611686018427387904)
  (iA:faultL la=0→IA 0 0 (fun _=>false) 0) (iB:faultL lb=0→IB 0 0 (fun _=>false) 0)
  (hl:la.length≤1000) (hlc:la.length≤cap) (hs:Sl W a (cls la)) (hno:a=none→cap=0) (hok:∀c∈la,c.Ok)
  (hlb:lb.length≤1000) (hlcb:lb.length≤capb) (hsb:Sl W b (cls lb)) (hnob:b=none→capb=0) (hokb:∀c∈lb,c.Ok) (hT:Tab W) :
  Calls Tryz.prog 19 #[.slice a la.length cap, .slice b lb.length capb] W fun e W'=>WorkR IA IB la lb e∧Below W.heap.size W W':=by
 have cB:=hid (MBegin_any a cap la b capb lb 55 (fun p q=>p != q) W hl hlc hs hno hok hlb hlcb hsb hnob hokb hT)
 have HS:=hid (And.intro sA (And.intro sB (And.intro nA (And.intro nB (And.intro bA bB)))))
 have HI:=hid (And.intro iA iB)
 clear hl hlc hs hno hok hlb hlcb hsb hnob hokb hT sA sB nA nB bA bB iA iB
 go_enter Tryz.func19,Tryz.ntmps19
 go_wp2_with fail
 refine cB.out.mono ?_
 rintro e w2 ⟨hR,hB2⟩
 have HB2:=hid hB2
 clear hB2 cB
 rcases hR with ⟨hf,rfl⟩ | ⟨hf,hf2,rfl⟩ | ⟨hf,hf2,x,fm,ra,rb,Fa,Fb,rfl,hA,hx,hfm,hM⟩
 ·obtain ⟨X,hX⟩:∃X,faultL la=X:=⟨_,rfl⟩
  have HR:Hid (WorkR IA IB la lb (.returned (.tuple #[.int .i64 0, .int .i64 0, .int .i64 (faultL la)]))):= .inl ⟨hf,rfl⟩
  rw [hX] at hf HR⊢
  have hX0:(X == 0)=false:=by simpa using hf
  have hX1:(X != 0)=true:=by simpa using hf
  clear hX HS HI
  go_wp2
  refine bodyPost_ret (results_tmp3 rfl _ _ _) rfl ?_
  exact ⟨HR.out,HB2.out⟩
 ·obtain ⟨X,hX⟩:∃X,faultL lb=X:=⟨_,rfl⟩
  have HR:Hid (WorkR IA IB la lb (.returned (.tuple #[.int .i64 0, .int .i64 0, .int .i64 (faultL lb)]))):= .inr (.inl ⟨hf,hf2,rfl⟩)
  rw [hX] at hf2 HR⊢
  have hX0:(X == 0)=false:=by simpa using hf2
  have hX1:(X != 0)=true:=by simpa using hf2
  clear hX HS HI hf
  go_wp2
  refine bodyPost_ret (results_tmp3 rfl _ _ _) rfl ?_
  exact ⟨HR.out,HB2.out⟩
 ·have Hx:=hid (And.intro hx (And.intro hfm hM))
  have Hf:=hid (And.intro hf hf2)
  have cF:=hid (MFirstG_any (W:=w2) IA IB HS.out.1 HS.out.2.1 HS.out.2.2.1 HS.out.2.2.2.1 HS.out.2.2.2.2.1 HS.out.2.2.2.2.2 (fun args w=>by simp [go_sem]) differC hA (HI.out.1 hf) (HI.out.2 hf2))
  clear hA hx hfm hM hf hf2 HI
  go_wp2_with fail
  refine cF.out.mono ?_
  rintro e w3 ⟨t,ok,Fa',Fb',wa',wb',ma',mb',j,k,rfl,hD,hA3,hE3,-,-,iA,iB,hk⟩
  have hj:j≤146097:=zI hD.j_le (dM_len _ _ _ _)
  have ba:=HS.out.2.2.2.2.1 k j wa' ma' iA hj
  have bb:=HS.out.2.2.2.2.2 k j wb' mb' iB hj
  have hw:IntKind.i64.wrap ((ma':Int)+mb')= (ma':Int)+mb':=IntWalk.i64_in _ (by omega)
  have HR:Hid (WorkR IA IB la lb (.returned (.tuple #[.int .i64 (j:Nat), .int .i64 ((ma':Int)+mb'), .int .i64 0]))):= .inr (.inr ⟨Hf.out.1,Hf.out.2,t,ok,wa',wb',ma',mb',j,k,rfl,hD,iA,iB,hk⟩)
  have HB3:Hid (Below W.heap.size W w3):=HB2.out.trans (hE3.below (fun c hc=>by
   rcases hc with rfl | rfl | hc
   ·exact Hx.out.1
   ·exact Hx.out.2.1
   ·exact Hx.out.2.2 c hc) HB2.out.size)
  have x0:=hA3.c0
  have x1:=hA3.c1
  have x4:=hA3.c4
  have mA:=hid (fun n=>RMadeN_any (W:=w3.drewN n) (hA3.two.a.keep (zG _) (fun _ _=>rfl)))
  have mB:=hid (fun n=>RMadeN_any (W:=w3.drewN n) (hA3.two.b.keep (zG _) (fun _ _=>rfl)))
  clear hD hA3 hE3 iA iB cF HS Hx Hf hj ba bb hk
  go_wp2_with fail
  go_quiet (first
   | (go_at_call 57; with_reducible refine (mA.out _).mono ?_; exact fun _ _ h=>⟨h.1,_,h.2.symm⟩)
   | (go_at_call 57; with_reducible refine (mB.out _).mono ?_; exact fun _ _ h=>⟨h.1,_,h.2.symm⟩))
  clear x0 x1 x4 mA mB
  go_wp2
  refine bodyPost_ret (results_tmp3 rfl _ _ _) rfl ?_
  exact ⟨HR.out,below_drewN HB3.out _⟩
end
section
open Go.RowKit Go.Maps
attribute [local go_sem ↓] loadAt_cl storeAt_cl
attribute [local go_sem] run_storeClS
def stpB (c:Cl):Bool:=mayC c && (decide (c.unit < 3) && decide (1 < c.step))
theorem countP_snoc {p:Cl→Bool} {l:List Cl} {k:Nat} (hk:k < l.length):(l.take (k+1)).countP p= (l.take k).countP p+if p l[k] then 1 else 0:=by
 rw [take_snoc l k hk,List.countP_append]; cases h:p l[k] <;> simp [h]
theorem countP_bd (p:Cl→Bool) (l:List Cl) (k:Nat):(l.take k).countP p≤k:=zI List.countP_le_length (by rw [List.length_take]; omega)
set_option maxRecDepth 100000 in
set_option maxHeartbeats 3200000 in
theorem RSteps_any (a:Option Addr) (cap:Nat) (l:List Cl) (w:World) (hl:l.length≤1000) (hs:Sl w a (cls l)) (hok:∀c∈l,c.Ok) :
  Calls Tryz.prog 53 #[.slice a l.length cap] w fun e w'=>e= .returned (.int .i64 (l.countP stpB:Nat))∧Below w.heap.size w w':=by
 have cM:=hid (fun (c:Cl) (hc:c.Ok) W=>CMayCl_any c W hc)
 have Hs:=hid hs
 have Hok:=hid hok
 clear hs hok
 go_enter Tryz.func53,Tryz.ntmps53
 go_wp2_with fail
 go_loopw [3,5,8] (fun v _ i wr=>∃k q:Nat,i= .int .i64 k∧k≤l.length∧v= .int .i64 q∧q≤k∧Hid (q= (l.take k).countP stpB)∧Hid (Below w.heap.size w wr)) (fun _ _ i _=>l.length - (intOf i).toNat)
 case atStart=>exact ⟨0,0,rfl,by omega,rfl,by omega,(rfl:(0:Nat)=0),Below.refl _ _⟩
 case round=>
  obtain ⟨k,q,rfl,hk,rfl,hqk,Hq,HB⟩:=hrel
  by_cases hlt:k < l.length
  ·obtain ⟨b,off,rfl,hbk,hr⟩:=Hs.out.atCl hlt
   have hr':=range_below hr HB.out hbk
   have hcOk:=hid (Hok.out _ (List.getElem_mem hlt))
   have Hsn:=hid (countP_snoc (p:=stpB) hlt)
   obtain ⟨c,hc⟩:∃c,l[k]=c:=⟨_,rfl⟩
   rw [hc] at hr' hcOk Hsn
   have le:=ld_at hr'
   have hth2:(wr.alloc (.cells zL.toArray 35)).there wr.heap.size 0 30:=there_new wr _ _
   have hn2:=below_new (o:= .cells zL.toArray 35) (Below.refl wr.heap.size wr) (zG _)
   obtain ⟨W1,hW1⟩:∃W1,putCl (wr.alloc (.cells zL.toArray 35)) wr.heap.size (clList c)=W1:=⟨_,rfl⟩
   have hC1:ClB W1 wr.heap.size c:=by rw [←hW1]; exact putCl_range _ rfl hth2
   have hb1:Below wr.heap.size wr W1:=by rw [←hW1]; exact putCl_below hn2 (zG _) _
   have hs1:wr.heap.size < W1.heap.size:=by rw [←hW1,putCl_eq,size_setCells,World.size_alloc]; omega
   have HW1:=hid hW1
   have HC1:=hid hC1
   have HB1:=hid (HB.out.trans (hb1.mono HB.out.size))
   have Hs1:=hid hs1
   have cM1:=hid (cM.out c hcOk.out W1)
   have hsp:Hid (stpB c= (mayC c && (decide (c.unit < 3) && decide (1 < c.step)))):=rfl
   obtain ⟨mv,hmv⟩:∃m,mayC c=m:=⟨_,rfl⟩
   rw [hmv] at cM1 hsp
   clear hW1 hn2 hb1 hs1 hC1 hr hr' hc hmv
   go_upto_region 5 with fail
   rw [HW1.out]
   have l1:=HC1.out.ld
   clear le hth2
   go_wp2_with fail
   refine cM1.out.mono ?_
   rintro e w2 ⟨rfl,hB2⟩
   have HC2:=hid (HC1.out.below hB2 Hs1.out)
   have HB2:=hid (HB1.out.trans (hB2.mono HB1.out.size))
   obtain ⟨t0,t1,-,-,-⟩:=HC2.out.tail
   clear hB2 l1
   cases mv
   ·have hz:Hid (q= (l.take (k+1)).countP stpB):=by show _ = _; rw [Hsn.out,hsp.out,←Hq.out]; rfl
    go_wp2
    exact ⟨⟨k+1,q,by go_num,by omega,rfl,by omega,hz,HB2⟩,by simp [intOf]; omega⟩
   ·by_cases h3:c.unit < 3
    ·by_cases h1:1 < c.step
     ·have hz:Hid (q+1= (l.take (k+1)).countP stpB):=by show _ = _; rw [Hsn.out,hsp.out,decide_eq_true h3,decide_eq_true h1,←Hq.out]; rfl
      go_wp2
      exact ⟨⟨k+1,q+1,by go_num,by omega,by go_num,by omega,hz,HB2⟩,by simp [intOf]; omega⟩
     ·have hz:Hid (q= (l.take (k+1)).countP stpB):=by show _ = _; rw [Hsn.out,hsp.out,decide_eq_false h1,←Hq.out]; simp
      go_wp2
      exact ⟨⟨k+1,q,by go_num,by omega,rfl,by omega,hz,HB2⟩,by simp [intOf]; omega⟩
    ·have hz:Hid (q= (l.take (k+1)).countP stpB):=by show _ = _; rw [Hsn.out,hsp.out,decide_eq_false h3,←Hq.out]; simp
     go_wp2
     exact ⟨⟨k+1,q,by go_num,by omega,rfl,by omega,hz,HB2⟩,by simp [intOf]; omega⟩
  ·obtain rfl:k=l.length:=by omega
   rw [List.take_length] at Hq
   go_wp2
   go_ret
   exact ⟨congrArg (fun n:Nat=>Ending.returned (.int .i64 (n:Int))) Hq.out,HB.out⟩
end
section
open Go.RowKit Go.Maps
theorem size_lt {u:Int} (h:0 < sizeU u):u < 3:=by
 rcases unit_cases u with rfl | rfl | rfl | ⟨-,-,-,h4⟩
 ·decide
 ·decide
 ·decide
 ·omega
theorem may_steps {l:List Cl} (h:mayL l=true) {c:Cl} (hc:c∈l):stpB c= (decide (c.unit < 3) && decide (1 < c.step)):=by
 rw [mayL,Bool.and_eq_true,List.all_eq_true] at h
 rw [stpB,h.2 c hc,Bool.true_and]
/-! ### how many whole sets are made -/
theorem act_pow {cs:List Cl} {n:Int} (h8:cs.length≤8):actM cs n < 2 ^ cs.length:=by
 refine Nat.lt_pow_two_of_testBit _ fun i hi=>?_
 rw [actM,mk_test,decide_eq_false (show¬i < cs.length by omega),Bool.false_and,Bool.and_false]
theorem cntW_add {ws:Nat→Bool} {a:Nat} (ha:a < 256):cntW (fun i=>ws i || decide (i=a))=if ws a then cntW ws else cntW ws+1:=by
 have key:∀(l:List Nat),l.Nodup→a∈l→l.countP (fun i=>ws i || decide (i=a))=if ws a then l.countP ws else l.countP ws+1:=by
  intro l
  induction l with
  | nil=>intro _ h; cases h
  | cons x l ih=>
    intro hn hm
    obtain ⟨hx,hn⟩:=List.nodup_cons.1 hn
    rw [List.countP_cons,List.countP_cons]
    by_cases e:x=a
    ·subst e
     have hno:l.countP (fun i=>ws i || decide (i=x))=l.countP ws:=List.countP_congr fun i hi=>by
      have:i≠x:=fun e=>hx (e ▸ hi)
      simp [this]
     rw [hno]
     cases ws x <;> simp
    ·have hm2:a∈l:=by
      rcases List.mem_cons.1 hm with h | h
      ·exact absurd h.symm e
      ·exact h
     rw [ih hn hm2]
     have e1:decide (x=a)=false:=by simp [e]
     cases ws a <;> cases ws x <;> simp [e1] <;> omega
 exact key _ List.nodup_range (List.mem_range.2 ha)
theorem count_below (M N:Nat):(List.range M).countP (fun j=>decide (j < N))≤N:=by
 induction M with
 | zero=>simp
 | succ M ih=>
   by_cases h:M < N
   ·have h1:(List.range (M+1)).countP (fun j=>decide (j < N))≤M+1:=zI List.countP_le_length (by rw [List.length_range]; exact zG _)
    omega
   ·rw [List.range_succ,List.countP_append,List.countP_cons,List.countP_nil,decide_eq_false h]
    simpa using ih
theorem cntW_le {ws:Nat→Bool} {N:Nat} (h:∀j,ws j=true→j < N):cntW ws≤N:=
 zI (List.countP_mono_left fun j _ hj=>by simpa using h j hj) (count_below 256 N)
structure KnI (cs:List Cl) (n0:Int) (k:Nat) (ws:Nat→Bool) (m:Nat):Prop where
 cnt:m=cntW ws
 low:∀j,ws j=true→j < 2 ^ cs.length
 day:0 < k→actM cs n0=0∨ws (actM cs n0)=true
theorem KnI.le {cs:List Cl} {n0:Int} {k:Nat} {ws:Nat→Bool} {m:Nat} (h:KnI cs n0 k ws m):m≤2 ^ cs.length:=by rw [h.cnt]; exact cntW_le h.low
theorem KnI.step {cs:List Cl} {n0 n:Int} {k:Nat} {ws ws':Nat→Bool} {m m':Nat} (h:KnI cs n0 k ws m) (h8:cs.length≤8) (hw:wholeB cs n=true) (hs:AtStep cs n ws m ws' m') (hk:k=0→n=n0):KnI cs n0 (k+1) ws' m':=by
 have ha:actM cs n < 2 ^ cs.length:=act_pow h8
 have ha2:actM cs n < 256:=actM_lt8 h8
 rcases hs with ⟨a,rfl,rfl⟩ | ⟨a,-,rfl,rfl⟩ | ⟨-,v,-⟩
 ·refine ⟨h.cnt,h.low,fun _=>?_⟩
  by_cases hk0:k=0
  ·rw [←hk hk0]; exact .inl a
  ·exact h.day (by omega)
 ·refine ⟨?_,fun j hj=>?_,fun _=>?_⟩
  ·rw [cntW_add ha2,h.cnt]
  ·rw [Bool.or_eq_true,decide_eq_true_eq] at hj
   rcases hj with hj | hj
   ·exact h.low j hj
   ·rw [hj]; exact ha
  ·by_cases hk0:k=0
   ·rw [←hk hk0]; exact .inr (by simp)
   ·exact (h.day (by omega)).imp id (fun h=>by rw [h]; rfl)
 ·rw [hw] at v; cases v
end
section
open Go.RowKit Go.Maps
def noStep (cs:List Cl):Prop:=∀c∈cs,0 < sizeU c.unit→c.step≤1
theorem noStep_of {cs:List Cl} (hm:mayL cs=true) (h:cs.countP stpB=0):noStep cs:=fun c hc hz=>by
 have h1:=List.countP_eq_zero.1 h c hc
 rw [may_steps hm hc] at h1
 have h2:=size_lt hz
 rw [decide_eq_true h2,Bool.true_and,decide_eq_true_eq] at h1
 omega
theorem edge_day {cs:List Cl} {n:Int} (hs:noStep cs) (h0:0≤n) (h1:n < 146097) (hw:wholeB cs n=false):∃c∈cs,n=frD c∨n=unD c:=by
 rw [wholeB,←Bool.not_eq_true,List.all_eq_true] at hw
 have hw2:∃i∈List.range cs.length,¬((!liveD (atC cs i) n || decide (sF (atC cs i) n=0∧sU (atC cs i) n=86399∧sP (atC cs i) n=0))=true):=by
  apply Classical.byContradiction
  intro hno
  refine hw fun i hi=>?_
  apply Classical.byContradiction
  exact fun hx=>hno ⟨i,hi,hx⟩
 obtain ⟨i,hi,hx⟩:=hw2
 rw [List.mem_range] at hi
 rw [atC_get hi] at hx
 have hc:=List.getElem_mem hi
 obtain ⟨c,he⟩:∃c,cs[i]=c:=⟨_,rfl⟩
 rw [he] at hx hc
 refine ⟨c,hc,?_⟩
 rw [Bool.or_eq_true,decide_eq_true_eq,Bool.not_eq_true'] at hx
 cases hl:liveD c n
 ·exact absurd (.inl hl) hx
 ·have hp:sP c n=0:=by
   rw [sP,hl,if_pos rfl,phaseC,if_neg (fun h=>by have:=hs c hc h.2; omega)]
  have hh:heldB c.fr c.un=true:=by
   rw [liveD,okD,Bool.and_eq_true,Bool.and_eq_true] at hl; exact hl.1.1
  have hr:frD c≤n∧n≤unD c:=by
   rw [liveD,onD,Bool.and_eq_true,Bool.and_eq_true,Bool.and_eq_true,decide_eq_true_eq,decide_eq_true_eq] at hl; exact ⟨hl.2.1,hl.2.2.1⟩
  obtain ⟨e1,e2,e3⟩:=lap_days hh
  have hF:sF c n=max (max 0 c.fr) (86400 * n) - 86400 * n:=by rw [sF,hl,if_pos rfl,stF]
  have hU:sU c n=min (min 12622780799 c.un) (86400 * n+86399) - 86400 * n:=by rw [sU,hl,if_pos rfl,stU]
  apply Classical.byContradiction
  intro hno
  refine hx (.inr ⟨?_,?_,hp⟩) <;> omega
theorem whole_all {cs:List Cl} {n:Int} (hs:noStep cs) (hw:∀c∈cs,c.fr≤0∧12622780799≤c.un) (h0:0≤n) (h1:n < 146097):wholeB cs n=true:=by
 rw [wholeB,List.all_eq_true]
 intro i hi
 rw [List.mem_range] at hi
 rw [atC_get hi]
 have hc:=List.getElem_mem hi
 obtain ⟨c,he⟩:∃c,cs[i]=c:=⟨_,rfl⟩
 rw [he] at hc⊢
 obtain ⟨g1,g2⟩:=hw c hc
 rw [Bool.or_eq_true,decide_eq_true_eq]
 cases hl:liveD c n
 ·exact .inl rfl
 ·refine .inr ⟨?_,?_,?_⟩
  ·rw [sF,hl,if_pos rfl,stF]; omega
  ·rw [sU,hl,if_pos rfl,stU]; omega
  ·rw [sP,hl,if_pos rfl,phaseC,if_neg (fun h=>by have:=hs c hc h.2; omega)]
theorem countP_one {L:List Int} (hL:L.Pairwise (·< ·)) (x:Int):L.countP (fun n=>decide (n=x))≤1:=by
 induction L with
 | nil=>simp
 | cons y L ih=>
   obtain ⟨h1,h2⟩:=List.pairwise_cons.1 hL
   rw [List.countP_cons]
   by_cases e:y=x
   ·have hz:L.countP (fun n=>decide (n=x))=0:=by
     rw [List.countP_eq_zero]
     intro n hn
     have:=h1 n hn
     simp; omega
    rw [hz]; split <;> omega
   ·rw [if_neg (by simpa using e)]
    exact ih h2
theorem countP_split (p q:Int→Bool) (L:List Int):L.countP p≤L.countP (fun n=>p n && !q n)+L.countP q:=by
 induction L with
 | nil=>simp
 | cons y L ih=>
   rw [List.countP_cons,List.countP_cons,List.countP_cons]
   cases hp:p y <;> cases hq:q y <;> simp <;> omega
theorem edges_le {L:List Int} (hL:L.Pairwise (·< ·)):∀(cs:List Cl) (p:Int→Bool),(∀n∈L,p n=true→∃c∈cs,n=frD c∨n=unD c)→L.countP p≤2 * cs.length
 | [],p,h=>by
   have:L.countP p=0:=by
    rw [List.countP_eq_zero]
    intro n hn hp
    obtain ⟨c,hc,-⟩:=h n hn hp
    cases hc
   omega
 | c :: cs,p,h=>by
   have s1:=countP_split p (fun n=>decide (n=frD c)) L
   have s2:=countP_split (fun n=>p n && !decide (n=frD c)) (fun n=>decide (n=unD c)) L
   have o1:=countP_one hL (frD c)
   have o2:=countP_one hL (unD c)
   have ih:=edges_le hL cs (fun n=>p n && !decide (n=frD c) && !decide (n=unD c)) fun n hn hp=>by
    rw [Bool.and_eq_true,Bool.and_eq_true,Bool.not_eq_true',Bool.not_eq_true',decide_eq_false_iff_not,decide_eq_false_iff_not] at hp
    obtain ⟨c',hc',he⟩:=h n hn hp.1.1
    rcases List.mem_cons.1 hc' with rfl | hc'
    ·rcases he with he | he
     ·exact absurd he hp.1.2
     ·exact absurd he hp.2
    ·exact ⟨c',hc',he⟩
   rw [List.length_cons]
   omega
theorem daysL_rise (f u:Int):(daysL f u).Pairwise (·< ·):=by
 rw [List.pairwise_iff_getElem]
 intro i j hi hj h
 rw [daysL_get hi,daysL_get hj]; omega
structure WkI (cs:List Cl) (D:List Int) (wh:Prop) (k j:Nat) (ws:Nat→Bool) (m:Nat):Prop where
 mj:m≤j
 cnt:wh→m≤cntW ws+(D.take k).countP (fun n=>!wholeB cs n)
 low:wh→∀i,ws i=true→i < 2 ^ cs.length
theorem WkI.start (cs:List Cl) (D:List Int) (wh:Prop):WkI cs D wh 0 0 (fun _=>false) 0:=⟨zG 0,fun _=>Nat.zero_le _,fun _ i h=>by cases h⟩
theorem take_countP_le (p:Int→Bool) (D:List Int) (k:Nat):(D.take k).countP p≤(D.take (k+1)).countP p:=by
 rcases Nat.lt_or_ge k D.length with h | h
 ·rw [take_snoc D k h,List.countP_append]; omega
 ·rw [List.take_of_length_le h,List.take_of_length_le (by omega)]; exact zG _
theorem WkI.skip {cs:List Cl} {D:List Int} {wh:Prop} {k j:Nat} {ws:Nat→Bool} {m:Nat} (h:WkI cs D wh k j ws m):WkI cs D wh (k+1) j ws m:=
 ⟨h.mj,fun hw=>by have:=h.cnt hw; have:=take_countP_le (fun n=>!wholeB cs n) D k; omega,h.low⟩
theorem WkI.step {cs:List Cl} {D:List Int} {wh:Prop} {k j:Nat} {n:Int} {ws ws':Nat→Bool} {m m':Nat} (h8:wh→cs.length≤8) (hn:D[k]? =some n) (h:WkI cs D wh k j ws m) (hs:AtStep cs n ws m ws' m'):WkI cs D wh (k+1) (j+1) ws' m':=by
 have hle:=take_countP_le (fun n=>!wholeB cs n) D k
 have hj:=h.mj
 rcases hs with ⟨_,rfl,rfl⟩ | ⟨_,hw,rfl,rfl⟩ | ⟨_,hw,rfl,hm⟩
 ·exact ⟨by omega,fun hh=>by have:=h.cnt hh; omega,h.low⟩
 ·refine ⟨by split <;> omega,fun hh=>?_,fun hh i hi=>?_⟩
  ·rw [cntW_add (actM_lt8 (h8 hh))]
   have:=h.cnt hh
   split <;> omega
  ·rw [Bool.or_eq_true,decide_eq_true_eq] at hi
   rcases hi with hi | hi
   ·exact h.low hh i hi
   ·rw [hi]; exact act_pow (h8 hh)
 ·refine ⟨by omega,fun hh=>?_,h.low⟩
  obtain ⟨hk,he⟩:=List.getElem?_eq_some_iff.1 hn
  have h1:=h.cnt hh
  rw [take_snoc D k hk,List.countP_append,List.countP_cons,List.countP_nil,he,hw]
  simp
  omega
theorem WkI.bound {cs:List Cl} {D:List Int} {wh:Prop} {k j:Nat} {ws:Nat→Bool} {m:Nat} (h:WkI cs D wh k j ws m) (hw:wh) (hs:noStep cs) (hD:D.Pairwise (·< ·)) (hr:∀n∈D,0≤n∧n < 146097):m≤2 ^ cs.length+2 * cs.length:=by
 have h1:=h.cnt hw
 have h2:=cntW_le (h.low hw)
 have h3:=edges_le (L:=D.take k) (hD.sublist (List.take_sublist k D)) cs (fun n=>!wholeB cs n) fun n hn hp=>by
  have:=hr n (List.mem_of_mem_take hn)
  exact edge_day hs this.1 this.2 (by simpa using hp)
 omega
theorem WkI.whole {cs:List Cl} {D:List Int} {wh:Prop} {k j:Nat} {ws:Nat→Bool} {m:Nat} (h:WkI cs D wh k j ws m) (hw:wh) (hs:noStep cs) (hu:∀c∈cs,c.fr≤0∧12622780799≤c.un) (hr:∀n∈D,0≤n∧n < 146097):m≤2 ^ cs.length:=by
 have h1:=h.cnt hw
 have h2:=cntW_le (h.low hw)
 have h3:(D.take k).countP (fun n=>!wholeB cs n)=0:=by
  rw [List.countP_eq_zero]
  intro n hn
  have:=hr n (List.mem_of_mem_take hn)
  rw [whole_all hs hu this.1 this.2]; simp
 omega
end
section
open Go.RowKit
section
variable {P:Program} {ops:Array Oper} {Q:Exit→Act→World→Prop} {md:Region.Mode} {S:World→Prop} {Z:Nat→Bool}
def OrdE (P:Program) (md:Region.Mode) (ops:Array Oper) (Q:Exit→Act→World→Prop) (S:World→Prop) (Z:Nat→Bool):Nat→Array Bool→Act→World→Prop
 | 0,l,a,w=>Region.ready md ops l= []∧Q .normal a w
 | n+1,l,a,w=>(Region.ready md ops l= []→Q .normal a w)∧∀i∈Region.ready md ops l,wpOp P ops Q i (fun a' w'=>(Z i=false→S w')∧OrdE P md ops Q S Z n (l.setIfInBounds i true) a' w') a w
theorem OrdE.any:∀(n:Nat) (l:Array Bool) (a:Act) (w:World),OrdE P md ops Q S Z n l a w→wpAny P md ops Q n l a w
 | 0,_,_,_,h=>h
 | n+1,_,_,_,h=>⟨h.1,fun i hi=>wpOp_mono (fun a' w' h'=>OrdE.any n _ a' w' h'.2) (h.2 i hi)⟩
def waitsB (md:Region.Mode) (ops:Array Oper) (z i:Nat):Bool:=match ops[z]? with
 | some o=>o.after.toList.any fun e=>Region.binds md e && e.on == i
 | none=>true
theorem waits_no {z i:Nat} {l:Array Bool} (h:waitsB md ops z i=true) (hi:l.getD i true=false):z ∉ Region.ready md ops l:=by
 intro hz
 obtain ⟨-,o,ho,hall⟩:=mem_ready.1 hz
 rw [waitsB,ho] at h
 obtain ⟨e,he,hb⟩:=List.any_eq_true.1 h
 rw [Bool.and_eq_true,beq_iff_eq] at hb
 have h1:=hall e (by simpa using he) hb.1
 rw [hb.2] at h1
 rcases Nat.lt_or_ge i l.size with h' | h'
 ·simp [h'] at hi h1; rw [hi] at h1; cases h1
 ·simp [Array.getElem?_eq_none h'] at h1
def allWait (md:Region.Mode) (ops:Array Oper) (Z:Nat→Bool) (i:Nat):Bool:=(List.range ops.size).all fun z=>!Z z || waitsB md ops z i
theorem OrdE.first {i:Nat} {oi:Oper} {v:Value} (hi:ops[i]? =some oi) (hsel:∀(j:Nat) (o:Oper) cs b,ops[j]? =some o→o.op≠ .select cs b) (hQ:∀c a w,Q (.panic c) (a.put oi.dst v) w→Q (.panic c) a w) (hz:allWait md ops Z i=true) :
  ∀(n:Nat) (l:Array Bool) (a:Act) (w:World),(∀j oj,ops[j]? =some oj→j≠i→l.getD j true=false→(∀e∈oj.after,Region.binds md e=true→e.on≠i)→oi.apart ops oj=true)→
   i∈Region.ready md ops l→YieldsIf P ops S oi v a→S w→OrdE P md ops Q S Z n (l.setIfInBounds i true) (a.put oi.dst v) w→OrdE P md ops Q S Z (n+1) l a w
 | n,l,a,w,hf,hr,hy,hS,H=>by
   refine ⟨fun h=>(by rw [h] at hr; cases hr),fun j hj=>?_⟩
   by_cases hji:j=i
   ·subst hji; exact hy.wpOp hi hS ⟨fun _=>hS,H⟩
   have h0:=(mem_ready.1 hr).1
   have hZ:Z j=false:=by
    cases e:Z j
    ·rfl
    ·have hlt:j < ops.size:=by obtain ⟨-,o,ho,-⟩:=mem_ready.1 hj; exact (Array.getElem?_eq_some_iff.1 ho).1
     have hw:=List.all_eq_true.1 hz j (List.mem_range.2 hlt)
     rw [e] at hw
     exact absurd hj (waits_no (by simpa using hw) h0)
   cases n with
   | zero=>
     have:=ready_mono hj hji
     rw [H.1] at this; cases this
   | succ n=>
     obtain ⟨hju,oj,hoj,hall⟩:=mem_ready.1 hj
     have hno:∀e∈oj.after,Region.binds md e=true→e.on≠i:=fun e he hb heq=>by
      have h1:=hall e he hb
      rw [heq] at h1
      rcases Nat.lt_or_ge i l.size with h' | h'
      ·simp [h'] at h0 h1; rw [h0] at h1; cases h1
      ·simp [Array.getElem?_eq_none h'] at h1
     refine wpOp_mono (fun a' w' h3=>⟨fun _=>h3.2.1 hZ,OrdE.first hi hsel hQ hz n (l.setIfInBounds j true) a' w' (fun k ok hk hki hun hn=>?_) (ready_mono hr (Ne.symm hji)) h3.1 (h3.2.1 hZ) ?_⟩)
      (wpOp_putIf hoj (hf j oj hoj hji hju hno) (fun cs b=>hsel i oi cs b hi) (fun cs b=>hsel j oj cs b hoj) hQ hy (H.2 j (ready_mono hj hji)))
     ·refine hf k ok hk hki ?_ hn
      by_cases hjk:j=k
      ·subst hjk; exact hju
      ·rw [getD_set_ne true hjk] at hun; exact hun
     ·rw [Array.setIfInBounds_comm _ _ hji]; exact h3.2.2
theorem OrdE.take {i:Nat} {oi:Oper} {v:Value} {n:Nat} {l:Array Bool} {a:Act} {w:World} (hi:ops[i]? =some oi) (hs:Region.noSelect ops=true) (hf:Region.free md ops l i=true) (hr:(Region.ready md ops l).contains i=true) (hz:allWait md ops Z i=true)
  (hQ:∀c a w,Q (.panic c) (a.put oi.dst v) w→Q (.panic c) a w) (hw:Region.wanted oi (yielded ops a.tmps)=true) (hS:S w) (hy:∀w,S w→(execOp a.eval oi).run P w= .ok (.value v) w)
  (h:OrdE P md ops Q S Z n (l.setIfInBounds i true) (a.put oi.dst v) w):OrdE P md ops Q S Z (n+1) l a w:=
 OrdE.first hi (Region.noSelect_spec hs) hQ hz n l a w (Region.free_spec hi hf) (by simpa using hr) (.inl ⟨hw,hy⟩) hS h
theorem OrdE.skip {i:Nat} {oi:Oper} {n:Nat} {l:Array Bool} {a:Act} {w:World} (hi:ops[i]? =some oi) (hs:Region.noSelect ops=true) (hf:Region.free md ops l i=true) (hr:(Region.ready md ops l).contains i=true) (hz:allWait md ops Z i=true)
  (hQ:∀c a w,Q (.panic c) (a.put oi.dst undef) w→Q (.panic c) a w) (hw:Region.wanted oi (yielded ops a.tmps)=false) (hS:S w)
  (h:OrdE P md ops Q S Z n (l.setIfInBounds i true) (a.put oi.dst undef) w):OrdE P md ops Q S Z (n+1) l a w:=
 OrdE.first hi (Region.noSelect_spec hs) hQ hz n l a w (Region.free_spec hi hf) (by simpa using hr) (.inr ⟨hw,rfl⟩) hS h
theorem OrdE.one {i:Nat} {oi:Oper} {n:Nat} {l:Array Bool} {a:Act} {w:World} (hi:ops[i]? =some oi) (hr:Region.ready md ops l= [i])
  (h:∀K:Act→World→Prop,Hid (∀a w,(Z i=false→S w)→OrdE P md ops Q S Z n (l.setIfInBounds i true) a w→K a w)→if Region.wanted oi (yielded ops a.tmps)=true then Oper.wp P oi a w K Q else K (a.put oi.dst undef) w):OrdE P md ops Q S Z (n+1) l a w:=
 ⟨fun h0=>(by rw [hr] at h0; cases h0),fun j hj=>by
  rw [hr,List.mem_singleton] at hj
  subst hj
  exact wpOp_step hi (fun K' hK=>h K' (fun a w h1 h2=>hK a w ⟨h1,h2⟩))⟩
theorem OrdE.two {i j:Nat} {oi oj:Oper} {n:Nat} {l:Array Bool} {a:Act} {w:World} (hi:ops[i]? =some oi) (hj:ops[j]? =some oj) (hr:Region.ready md ops l= [i,j])
  (h1:∀K:Act→World→Prop,Hid (∀a w,(Z i=false→S w)→OrdE P md ops Q S Z n (l.setIfInBounds i true) a w→K a w)→if Region.wanted oi (yielded ops a.tmps)=true then Oper.wp P oi a w K Q else K (a.put oi.dst undef) w)
  (h2:∀K:Act→World→Prop,Hid (∀a w,(Z j=false→S w)→OrdE P md ops Q S Z n (l.setIfInBounds j true) a w→K a w)→if Region.wanted oj (yielded ops a.tmps)=true then Oper.wp P oj a w K Q else K (a.put oj.dst undef) w):OrdE P md ops Q S Z (n+1) l a w:=
 ⟨fun h0=>(by rw [hr] at h0; cases h0),fun k hk=>by
  rw [hr] at hk
  rcases List.mem_cons.1 hk with rfl | hk
  ·exact wpOp_step hi (fun K' hK=>h1 K' (fun a w h1 h2=>hK a w ⟨h1,h2⟩))
  ·rw [List.mem_singleton] at hk
   subst hk
   exact wpOp_step hj (fun K' hK=>h2 K' (fun a w h1 h2=>hK a w ⟨h1,h2⟩))⟩
theorem OrdE.done {l:Array Bool} {a:Act} {w:World} (hr:Region.ready md ops l= []) (h:Q .normal a w):∀n,OrdE P md ops Q S Z n l a w
 | 0=>⟨hr,h⟩
 | _+1=>⟨fun _=>h,by rw [hr]; simp⟩
end
section
variable {P:Program} {ops:Array Oper} {Q:Exit→Act→World→Prop} {md:Region.Mode} {S:World→Prop} {Z:Nat→Bool} {n:Nat} {l:Array Bool} {a:Act} {w:World} {oi:Oper}
theorem eT (i:Nat) {v:Value} (hy:∀w,S w→(execOp a.eval oi).run P w= .ok (.value v) w) (h:OrdE P md ops Q S Z n (l.setIfInBounds i true) (a.put oi.dst v) w) (hi:ops[i]? =some oi:=by rfl) (hs:Region.noSelect ops=true:=by kernel_rfl)
  (hf:Region.free md ops l i=true:=by kernel_rfl) (hr:(Region.ready md ops l).contains i=true:=by kernel_rfl) (hz:allWait md ops Z i=true:=by kernel_rfl) (hQ:∀c a w,Q (.panic c) (a.put oi.dst v) w→Q (.panic c) a w:=by exact fun _ _ _ h=>h)
  (hw:Region.wanted oi (yielded ops a.tmps)=true:=by rfl) (hS:S w:=by assumption):OrdE P md ops Q S Z (n+1) l a w:=OrdE.take hi hs hf hr hz hQ hw hS hy h
theorem eO (i:Nat) (h:∀K:Act→World→Prop,Hid (∀a w,(Z i=false→S w)→OrdE P md ops Q S Z n (l.setIfInBounds i true) a w→K a w)→if Region.wanted oi (yielded ops a.tmps)=true then Oper.wp P oi a w K Q else K (a.put oi.dst undef) w)
  (hi:ops[i]? =some oi:=by rfl) (hr:Region.ready md ops l= [i]:=by kernel_rfl):OrdE P md ops Q S Z (n+1) l a w:=OrdE.one hi hr h
end
theorem ePut:(∀(a:Act) (d:Tmp) (v:Value),a.put (some d) v= {a with tmps:=a.tmps.setIfInBounds d v})∧(∀(a:Act) (v:Value),a.put none v=a)∧(type_of% @List.getElem_toArray.{0})∧(type_of% @List.getElem_cons_succ.{0})∧(type_of% @List.getElem_cons_zero.{0})∧(type_of% @List.setIfInBounds_toArray.{0})∧(type_of% @List.set_cons_zero.{0})∧(type_of% @List.set_cons_succ.{0}):=
 ⟨fun _ _ _=>rfl,fun _ _=>rfl,@List.getElem_toArray.{0},@List.getElem_cons_succ.{0},@List.getElem_cons_zero.{0},@List.setIfInBounds_toArray.{0},@List.set_cons_zero.{0},@List.set_cons_succ.{0}⟩
theorem regE {id:Nat} {P:Program} {ops:Array Oper} (Z:Nat→Bool) {S:World→Prop} {Q:Exit→Act→World→Prop} {a:Act} {w:World} (hm:P.follows .mixedOrders=true) (hS:S w.drew)
  (h:S w.drew→OrdE P .any ops Q S Z ops.size (Array.replicate ops.size false) a w.drew):(Code.region id ops true).wp P Q a w:=
 wp_region_any hm (OrdE.any _ _ _ _ (h hS))
end
end Go.Proofs.YthimhfmnikfgaaaGreatDoor
