/-
  A set held within days: what CastBrief asks (plain).
  ferialaw22.bits and marks.
  Forty rows in a heap, a face and an array of rows: the state of ferialaw22.face.
  The rows of ferialaw22.face, one by one: the appends of a day, and the face behind the days.
-/
import Derived.Test.YtkpgfmonhfnhdaaGreatDoorQ4dafe6
import Derived.Test.YtkpgfmonhfnhdaaGreatDoorQ4e1493
import Derived.Test.YtkpgfmonhfnhdaaGreatDoorQ060903
import Derived.Test.YtkpgfmonhfnhdaaGreatDoorQd4b665
import Derived.Test.YtkpgfmonhfnhdaaGreatDoorQ3e71e3
import Derived.Test.YtkpgfmonhfnhdaaGreatDoorQ9a3e48
import Derived.Test.YtkpgfmonhfnhdaaGreatDoorQe2101f
import Derived.Test.YtkpgfmonhfnhdaaGreatDoorQe64574
namespace Go.Proofs.YtkpgfmonhfnhdaaGreatDoor
set_option linter.unusedVariables false
section
open Go.RowKit Go.Maps
attribute [local irreducible] secL
def hdCl (F U:Int) (c:Cl):Cl:={c with fr:=yal (max (max 0 c.fr) F) (min (min 12622780799 c.un) U),un:=yak (max (max 0 c.fr) F) (min (min 12622780799 c.un) U)}
theorem hd_ok {F U:Int} {c:Cl} (h:c.Ok) (hF:i64B F) (hU:i64B U):(hdCl F U c).Ok:=by
 have h1:=h.fr
 have h2:=h.un
 have b:i64B (yal (max (max 0 c.fr) F) (min (min 12622780799 c.un) U))∧i64B (yak (max (max 0 c.fr) F) (min (min 12622780799 c.un) U)):=by
  simp only [i64B] at *
  rcases yaO (max (max 0 c.fr) F) (min (min 12622780799 c.un) U) with ⟨e1,e2,e3⟩ | ⟨e1,e2,e3⟩
  ·rw [e1,e2]; omega
  ·rw [e1,e2]; omega
 exact {h with fr:=b.1,un:=b.2}
theorem hd_rng {F U t:Int} {c:Cl} (h:hasC (hdCl F U c) t=true):F≤t∧t≤U:=by
 rw [hasC,Bool.and_eq_true,Bool.and_eq_true,Bool.and_eq_true,winB,betB] at h
 have h1:=h.2.2.1
 rw [Bool.and_eq_true,decide_eq_true_eq,decide_eq_true_eq] at h1
 simp only [hdCl] at h1
 rcases yaO (max (max 0 c.fr) F) (min (min 12622780799 c.un) U) with ⟨e1,e2,e3⟩ | ⟨e1,e2,e3⟩
 ·rw [e1,e2] at h1; omega
 ·rw [e1,e2] at h1; omega
theorem fault_no {l:List Cl} (h8:l.length≤8) (hm:mayL l=false):yaG l=1:=by
 rw [yaG,if_neg (by omega),if_neg]
 intro h
 rw [mayL,h,decide_eq_true h8] at hm
 cases hm
theorem yjt {l:List Cl} (h:mayL l=true):yaG l=0:=by rw [ycK,decide_eq_true_eq] at h; exact h
theorem yiH {W:World} {b:Nat} {F G:Cl} {k:Nat} {u:Value} (h:ClB W b F) (hk:k < 30) (e:yad G= (yad F).set k u):ClB (W.setCell ⟨b,k,none⟩ u) b G:=by
 have h6:=h.at k (List.getElem?_eq_getElem (show k < (yad F).length from hk))
 intro j v hv
 by_cases hj:j=k
 ·subst hj
  have hv':u=v:=by
   rw [e,List.getElem?_set_self (show j < (yad F).length from hk)] at hv
   simpa using hv
  rw [←hv',Nat.zero_add]
  exact World.cell?_setCell_same _ _ _ (by rw [h6])
 ·rw [e,List.getElem?_set_ne (by omega)] at hv
  rw [World.cell?_setCell_other _ _ _ _ (by intro e; injection e with _ e2 _; exact hj (by omega))]
  exact h j v hv
theorem ycA (a:Addr) (b:Nat):∀(vs:List Value) (o:Nat) (W:World),(W.setCells b o vs).frozen? a=W.frozen? a
 | [],_,_=>rfl
 | v :: vs,o,W=>by rw [World.setCells,ycA a b vs (o+1)]; simp [go_sem]
theorem cls_snoc (l:List Cl) (c:Cl):cls (l ++ [c])=cls l ++ yad c:=by
 rw [cls,cls,List.flatMap_append]; simp
theorem yju {l:List Cl} (h:8 < l.length):yaG l=5:=by rw [yaG,if_pos h]
theorem yiE (l:List Cl) (a b:Int):(dayS l (yae a b)).Pairwise (·< ·):=by
 rw [dayS,yae]
 exact (List.Pairwise.map _ (fun a b h=>by omega) (List.pairwise_lt_range)).filter _
theorem day_cut {l:List Cl} {f T:Int} (h0:0≤f) (h1:T≤146096):dayS (l.map (hdCl (86400 * f) (86400 * T+86399))) (yae 0 146096)=dayS (l.map (hdCl (86400 * f) (86400 * T+86399))) (yae f T):=by
 refine ydM (yiE _ _ _) (yiE _ _ _) fun D=>?_
 rw [dayS,dayS,List.mem_filter,List.mem_filter,yaP,yaP]
 constructor
 ·rintro ⟨-,h⟩
  refine ⟨?_,h⟩
  obtain ⟨k,hk,hq⟩:=ybW.1 h
  rw [dayQ,List.any_eq_true] at hq
  obtain ⟨c,hc,ht⟩:=hq
  obtain ⟨d,-,rfl⟩:=List.mem_map.1 hc
  have:=hd_rng ht
  omega
 ·rintro ⟨h,k⟩
  exact ⟨by omega,k⟩
theorem yia {q:Nat→Bool} {x:Int} (h:x∈secL q):0≤x∧x < 86400:=by
 obtain ⟨j,hj,-,rfl⟩:=yaw.1 h; omega
theorem fst_rng (q:Nat→Bool):0≤fstI (secL q)∧fstI (secL q) < 86400:=by
 rw [fstI]
 cases e:(secL q)[0]? with
 | none=>exact ⟨by simp,by simp⟩
 | some x=>exact yia (List.mem_of_getElem? e)
theorem lst_rng (q:Nat→Bool):0≤lstI (secL q)∧lstI (secL q) < 86400:=by
 rw [lstI]
 cases e:(secL q)[(secL q).length - 1]? with
 | none=>exact ⟨by simp,by simp⟩
 | some x=>exact yia (List.mem_of_getElem? e)
theorem fi_rng {l:List Cl} {X:List Int} (h:∀D∈X,0≤D∧D≤146096):0≤fiV l X∧fiV l X≤12622780799:=by
 unfold fiV
 cases e:X[0]? with
 | none=>exact ⟨by simp,by simp⟩
 | some D=>
   have h1:=h D (List.mem_of_getElem? e)
   have h2:=fst_rng (dayQ l D)
   simp only []; omega
theorem la_rng {l:List Cl} {X:List Int} (h:∀D∈X,0≤D∧D≤146096):0≤laV l X∧laV l X≤12622780799:=by
 unfold laV
 cases e:X[X.length - 1]? with
 | none=>exact ⟨by simp,by simp⟩
 | some D=>
   have h1:=h D (List.mem_of_getElem? e)
   have h2:=lst_rng (dayQ l D)
   simp only []; omega
theorem fcU_lt (X:List Int) {i:Nat} (h:3≤i):fcU 0 0 0 X i < 18446744073709551616:=by
 rw [fcU,if_neg (by omega),if_neg (by omega),if_neg (by omega)]
 split
 ·exact yan _
 ·split
  ·exact wof_lt _ _
  ·split
   ·exact yan _
   ·split
    ·exact yan _
    ·split
     ·exact yan _
     ·exact yan _
theorem FaceP.lt {l:List Cl} {u:Nat→Nat} {fi la n:Int} {ev sq:Bool} (h:FaceP l u fi la n ev sq):∀i,i < 46→u i < 18446744073709551616:=fun i hi=>by
 by_cases e:i < 3
 ·exact h.hm.lt i e
 ·rw [h.us i (by omega) hi]; exact fcU_lt _ (by omega)
theorem day_all (l:List Cl):∀D∈dayS l (yae 0 146096),0≤D∧D≤146096:=fun D h=>by
 rw [dayS,List.mem_filter,yaP] at h; exact h.1
theorem FaceP.bd {l:List Cl} {u:Nat→Nat} {fi la n:Int} {ev sq:Bool} (h:FaceP l u fi la n ev sq):i64B fi∧i64B la∧i64B n∧0≤fi∧0≤la∧0≤n:=by
 have h1:=fi_rng (l:=l) (day_all l)
 have h2:=la_rng (l:=l) (day_all l)
 have h3:(dayS l (yae 0 146096)).length≤146097:=by rw [dayS]; exact zI (List.length_filter_le _ _) (by rw [yaH]; decide)
 rw [←h.fi] at h1
 rw [←h.la] at h2
 have h4:=h.n
 unfold i64B
 omega
theorem FaceP.eql {l:List Cl} {u:Nat→Nat} {fi la n:Int} {ev sq:Bool} (h:FaceP l u fi la n ev sq) (W:World):(ygM (fcv u fi la n ev sq) (fcv u fi la n ev sq)).run Tryz.prog W= .ok (.bool true) W:=by
 obtain ⟨h1,h2,h3,-⟩:=h.bd
 exact eqlFc_run u fi la n ev sq W h.lt h1 h2 h3
theorem FaceP.ref {ks:List Cl} {u:Nat→Nat} {fi la n:Int} {ev sq:Bool} (h:FaceP ks u fi la n ev sq):fcv (fcR ks (dayS ks (yae 0 146096))) (fiV ks (dayS ks (yae 0 146096))) (laV ks (dayS ks (yae 0 146096))) ((dayS ks (yae 0 146096)).length:Nat) (evB (lsL ks (dayS ks (yae 0 146096)))) (sqA (lsL ks (dayS ks (yae 0 146096))))=fcv u fi la n ev sq:=by
 obtain ⟨h1,h2,h3,h4,h5,h6⟩:=h.unique (face_rows ks rfl)
 rw [←h2,←h3,←h4,←h5,←h6]
 exact fcv_same _ _ _ _ _ fun i hi=>(h1 i hi).symm
theorem fc_box (w1:World) (u:Nat→Nat) (fi la n:Int) (ev sq:Bool):∃w3,(yco (.pointer (some ⟨w1.heap.size,0,none⟩)) (fcv u fi la n ev sq)).run Tryz.prog (w1.alloc (.cells zl0 28))= .ok () w3∧Hid (FcB w1.heap.size u fi la n ev sq w3)∧Hid (Below w1.heap.size w1 w3):=by
 have e8:=ydS w1 28
 exact ⟨_,e8.st u fi la n ev sq,e8.put u fi la n ev sq,(yaa (Below.refl _ _) (zG _)).trans ((Eff.setCells (O:=fun x=>x=w1.heap.size) rfl (fcL u fi la n ev sq) 0 _ (Eff.refl _ _)).below (by rintro b rfl; exact zG _) (by simp))⟩
theorem eqgFc (x y:Operand) (u:Nat→Nat) (fi la n:Int) (ev sq:Bool) (a:Array Value) (W:World):(eqGuard .eql 28 x y (fcv u fi la n ev sq) (.agg a)).run Tryz.prog W= .ok () W:=run_eqGuard_agg W .eql _ x y _ _ Tryz.eqGuardType28
theorem eqgFc2 (x y:Operand) (u u':Nat→Nat) (fi la n fi' la' n':Int) (ev sq ev' sq':Bool) (W:World):(eqGuard .eql 28 x y (fcv u fi la n ev sq) (fcv u' fi' la' n' ev' sq')).run Tryz.prog W= .ok () W:=run_eqGuard_agg W .eql _ x y _ _ Tryz.eqGuardType28
theorem eqlFcz (W:World):(ygM (fcv (fun _=>0) 0 0 0 false false) (.agg zl0)).run Tryz.prog W= .ok (.bool true) W:=by kernel_rfl
end
section
open Go.RowKit Go.Maps
theorem yaq (a:Option Addr) (cap:Nat) (l:List Int) (w:World) (hl:l.length≤9223372036854775807) (hs:Sl w a (ints l)) :
  Calls Tryz.prog 15 #[.slice a l.length cap] w fun e w'=>e= .returned (.int .u64 (ofM l))∧Below w.heap.size w w':=by
 have c1:=hid (ROf_any a cap l w hl hs)
 obtain ⟨m,hm⟩:∃m,ofM l=m:=⟨_,rfl⟩
 rw [hm] at c1⊢
 go_enter Tryz.func15,Tryz.ntmps15
 go_wp2_with fail
 refine c1.out.mono ?_
 rintro e w1 ⟨rfl,hB⟩
 go_wp2
 go_ret
 exact ⟨rfl,hB⟩
def mkL (p:Nat→Bool):List Value:=(List.range 64).map fun i=> .bool (p i)
theorem mkL_len (p:Nat→Bool):(mkL p).length=64:=by simp [mkL]
theorem mkL_at (p:Nat→Bool) {i:Nat} (hi:i < 64):(mkL p)[i]? =some (.bool (p i)):=by simp [mkL,hi]
set_option maxHeartbeats 800000 in
theorem yg1 (p:Nat→Bool) (w:World) :
  Calls Tryz.prog 34 #[.agg (mkL p).toArray] w fun e w'=>∃v,e= .returned v∧w'.ownsRow w.heap.size 3 1 v (sel p 64).length (ints (sel p 64))∧Below w.heap.size w w':=by
 have hc:Hid (∀i,i < 64→(w.alloc (.cells (mkL p).toArray 83)).cell? ⟨w.heap.size,i,none⟩=some (.bool (p i))):=fun i hi=>by
  rw [World.cell?,World.alloc_heap_new]
  simpa using mkL_at p hi
 obtain ⟨A,hA⟩:∃A,(mkL p).toArray=A:=⟨_,rfl⟩
 rw [hA] at hc⊢
 go_enter Tryz.func34,Tryz.ntmps34
 go_wp2
 obtain ⟨W1,hW1⟩:∃W1,w.alloc (.cells A 83)=W1:=⟨_,rfl⟩
 have HB1:Hid (Below w.heap.size w W1):=hW1 ▸ yaa (Below.refl _ _) (zG _)
 have s1:W1.heap.size=w.heap.size+1:=by rw [←hW1]; simp
 have hz:Hid (w.heap.size < W1.heap.size):=by show _ < _; omega
 rw [hW1] at hc⊢
 obtain ⟨b0,hb0⟩:∃b,w.heap.size=b:=⟨_,rfl⟩
 rw [hb0] at hc hz⊢
 clear hW1 hA s1
 go_loopw [3,4] (fun v i wr=>∃(n m cap:Nat) (a:Option Addr),i= .int .i64 n∧n≤64∧v= .slice a m cap∧Hid (m= (sel p n).length)∧m≤n∧wr.ownsRow W1.heap.size 3 1 (.slice a m cap) m (ints (sel p n))∧Below W1.heap.size W1 wr) (fun _ i _=>(64 - intOf i).toNat)
 case atStart=>exact ⟨0,0,0,none,rfl,by omega,rfl,(rfl:(0:Nat)=0),by omega,World.ownsRow_nil _ _ _ _,Below.refl _ _⟩
 case round=>
  obtain ⟨n,m,cap,a,rfl,hn,rfl,hme,hm,hown,hB⟩:=hrel
  by_cases hlt:n < 64
  ·have hsz:=hB.size
   have e1:wr.cell? ⟨b0,n,none⟩=some (.bool (p n)):=(hB.cell (p:=⟨b0,n,none⟩) hz.out).trans (hc.out n hlt)
   by_cases hb:p n=true
   ·have Hy:=hid (ybB hb)
    rw [hb] at e1
    clear hb
    go_wp2_with (at_builtin; refine app1 eInt (.tmp 12) (.tmp 14) rfl rfl rfl rfl rfl hown rfl (by omega) (by omega) hsz ?_)
    intro a' cap' w' hown2 hg2 hb2 hf2
    have hB2:=hB.trans hb2
    rw [←yb1,←yaJ,←Hy.out] at hown2
    clear e1
    go_wp2
    exact ⟨⟨n+1,m+1,cap',a',by go_num,by omega,rfl,by show _ = _; rw [Hy.out,List.length_append,←hme.out]; rfl,by omega,hown2,hB2⟩,by simp [intOf]; omega⟩
   ·have hb':p n=false:=by simpa using hb
    have Hy:=hid (ycH hb')
    rw [hb'] at e1
    clear hb hb'
    go_wp2
    exact ⟨⟨n+1,m,cap,a,by go_num,by omega,rfl,by show _ = _; rw [Hy.out]; exact hme.out,by omega,by rw [Hy.out]; exact hown,hB⟩,by simp [intOf]; omega⟩
  ·obtain rfl:n=64:=by omega
   subst hb0
   have HE:Hid (wr.ownsRow w.heap.size 3 1 (.slice a m cap) m (ints (sel p 64))):=ybx hown (Nat.le_of_lt hz.out)
   have HB:Hid (Below w.heap.size w wr):=HB1.out.trans (hB.mono (Nat.le_of_lt hz.out))
   clear hown hB
   go_wp2
   go_ret
   refine ⟨_,rfl,?_,HB.out⟩
   rw [←hme.out]; exact HE.out
end
section
open Go.RowKit Go.Maps
attribute [local irreducible] secL
def updV {α:Type} (V:Nat→α) (i:Nat) (v:α):Nat→α:=fun j=>if j=i then v else V j
theorem yaX {α:Type} (V:Nat→α) (i:Nat) (v:α):updV V i v i=v:=if_pos rfl
theorem yao {α:Type} (V:Nat→α) {i j:Nat} (v:α) (h:j≠i):updV V i v j=V j:=if_neg h
structure RwS (B:Nat) (V:Nat→Value) (L:Nat→List Int) (W:World):Prop where
 own:∀i,i < 40→W.ownsRow B 3 1 (V i) (L i).length (ints (L i))
 ne:∀i j,i < 40→j < 40→i≠j→∀k,(V i).ownBlock=some k→(V j).ownBlock≠some k
 b:B≤W.heap.size
structure GrS (O:Nat→Prop) (V:Nat→Value) (W:World) (V':Nat→Value) (W':World):Prop where
 size:W.heap.size≤W'.heap.size
 keep:∀b,b < W.heap.size→¬O b→(∀i,i < 40→(V i).ownBlock≠some b)→W'.heap[b]? =W.heap[b]?
 row:∀i,i < 40→∀k,(V' i).ownBlock=some k→(∃j,j < 40∧(V j).ownBlock=some k)∨W.heap.size≤k
section
variable {B:Nat} {V V' V'':Nat→Value} {L:Nat→List Int} {W W' W'':World} {O:Nat→Prop}
theorem GrS.refl (O:Nat→Prop) (V:Nat→Value) (W:World):GrS O V W V W:=⟨zG _,fun _ _ _ _=>rfl,fun i hi k hk=> .inl ⟨i,hi,hk⟩⟩
theorem GrS.trans (h:GrS O V W V' W') (k:GrS O V' W' V'' W''):GrS O V W V'' W'':=by
 refine ⟨zI h.size k.size,fun b hb hO hV=>?_,fun i hi j hj=>?_⟩
 ·refine (k.keep b (zH hb h.size) hO fun i hi e=>?_).trans (h.keep b hb hO hV)
  rcases h.row i hi b e with ⟨j,hj,e⟩ | e
  ·exact hV j hj e
  ·omega
 ·rcases k.row i hi j hj with ⟨m,hm,e⟩ | e
  ·exact h.row m hm j e
  ·have:=h.size; exact .inr (by omega)
theorem GrS.of_below (hB:Below W.heap.size W W'):GrS O V W V W':=⟨hB.size,fun b hb _ _=>hB.block b hb,fun i hi k hk=> .inl ⟨i,hi,hk⟩⟩
theorem RwS.call (h:RwS B V L W) (hB:Below W.heap.size W W'):RwS B V L W':=⟨fun i hi=>ycg (h.own i hi) hB (zG _),h.ne,zI h.b hB.size⟩
theorem RwS.eff (h:RwS B V L W) (hE:Eff O W W') (hO:∀b,O b→b < B):RwS B V L W':=by
 refine ⟨fun i hi=>yaC (h.own i hi) fun b hb=>?_,h.ne,zI h.b hE.size⟩
 have hl:=yaB (h.own i hi) hb
 exact hE.block b hl.2 fun e=>by have:=hO b e; omega
theorem RwS.as {L':Nat→List Int} (h:RwS B V L W) (e:∀i,i < 40→L' i=L i):RwS B V L' W:=⟨fun i hi=>by rw [e i hi]; exact h.own i hi,h.ne,h.b⟩
theorem RwS.off (h:RwS B V L W) {b:Nat} (hb:W.heap.size≤b):∀i,i < 40→(V i).ownBlock≠some b:=fun i hi e=>by
 have:=yaB (h.own i hi) e; omega
theorem RwS.app (h:RwS B V L W) {i:Nat} (hi:i < 40) {v:Value} {n:Nat} {news:List Int} (hn:n= (L i).length+news.length) (ho:W'.ownsRow B 3 1 v n (ints (L i) ++ ints news)) (hg:W.grownBy W' (V i).ownBlock)
  (hf:∀k,v.ownBlock=some k→(V i).ownBlock=some k∨W.heap.size≤k):RwS B (updV V i v) (updV L i (L i ++ news)) W'∧GrS O V W (updV V i v) W':=by
 refine ⟨⟨fun j hj=>?_,fun j m hj hm hne k hk=>?_,zI h.b hg.size⟩,hg.size,fun b hb _ hV=>hg.block b hb fun e=>hV i hi e.symm,fun j hj k hk=>?_⟩
 ·by_cases e:j=i
  ·subst e
   rw [yaX,yaX,List.length_append,←hn,yaJ]; exact ho
  ·rw [yao _ _ e,yao _ _ e]
   refine (h.own j hj).kept hg ?_
   cases hv:(V j).ownBlock with
   | none=>exact .inl rfl
   | some k=>exact .inr fun e2=>h.ne j i hj hi e k hv e2.symm
 ·by_cases e:j=i
  ·subst e
   rw [yaX] at hk
   rw [yao _ _ (Ne.symm hne)]
   rcases hf k hk with h1 | h1
   ·exact h.ne j m hj hm hne k h1
   ·exact h.off h1 m hm
  ·rw [yao _ _ e] at hk
   by_cases e2:m=i
   ·subst e2
    rw [yaX]
    intro e3
    rcases hf k e3 with h1 | h1
    ·exact h.ne j m hj hm hne k hk h1
    ·exact h.off h1 j hj hk
   ·rw [yao _ _ e2]; exact h.ne j m hj hm hne k hk
 ·by_cases e:j=i
  ·subst e
   rw [yaX] at hk
   rcases hf k hk with h1 | h1
   ·exact .inl ⟨j,hj,h1⟩
   ·exact .inr h1
  ·rw [yao _ _ e] at hk
   exact .inl ⟨j,hj,hk⟩
structure Off (B:Nat) (V:Nat→Value) (W:World) (b:Nat):Prop where
 lo:B≤b
 hi:b < W.heap.size
 ne:∀i,i < 40→(V i).ownBlock≠some b
theorem Off.grs {b:Nat} (h:Off B V W b) (g:GrS O V W V' W') (hO:∀b,O b→b < B):Off B V' W' b∧W'.heap[b]? =W.heap[b]?:=by
 refine ⟨⟨h.lo,zH h.hi g.size,fun i hi e=>?_⟩,g.keep b h.hi (fun e=>by have:=hO b e; have:=h.lo; omega) h.ne⟩
 rcases g.row i hi b e with ⟨j,hj,e⟩ | e
 ·exact h.ne j hj e
 ·have:=h.hi; omega
theorem RwS.new (h:RwS B V L W) {b:Nat} (hb:W.heap.size≤b) (hs:b < W'.heap.size):Off B V W' b:=⟨zI h.b hb,hs,h.off hb⟩
def SlO (B:Nat) (V:Nat→Value) (W:World) (a:Option Addr) (xs:List Int):Prop:=
 xs= []∨∃b off,a=some ⟨b,off,none⟩∧Off B V W b∧∀j (h:j < xs.length),W.cell? ⟨b,off+j,none⟩=some (.int .i64 xs[j])
theorem SlO.sl {a:Option Addr} {xs:List Int} (h:SlO B V W a xs):Sl W a (ints xs):=by
 rcases h with rfl | ⟨b,off,rfl,ho,hc⟩
 ·exact .inl rfl
 ·refine .inr ⟨b,off,rfl,ho.hi,fun j hj=>?_⟩
  have hj':j < xs.length:=by rw [ya8] at hj; exact hj
  rw [hc j hj']; simp [ints]
theorem SlO.grs {a:Option Addr} {xs:List Int} (h:SlO B V W a xs) (g:GrS O V W V' W') (hO:∀b,O b→b < B):SlO B V' W' a xs:=by
 rcases h with rfl | ⟨b,off,rfl,ho,hc⟩
 ·exact .inl rfl
 ·have k:=ho.grs g hO
  exact .inr ⟨b,off,rfl,k.1,fun j hj=>(World.cell?_of_block (w:=W) (a:=⟨b,off+j,none⟩) k.2).trans (hc j hj)⟩
theorem RwS.slo (h:RwS B V L W) {a:Option Addr} {m n cap:Nat} {xs:List Int} (ho:W'.ownsRow W.heap.size 3 1 (.slice a m cap) n (ints xs)):SlO B V W' a xs:=by
 obtain ⟨a',cap',e,hs,-⟩:=ya6 ho
 injection e with e1 e2 e3
 subst e1
 rcases hs with hs | ⟨b,off,rfl,hb,hc⟩
 ·refine .inl ?_
  have:(ints xs).length=0:=by rw [hs]; rfl
  rw [ya8] at this
  exact List.eq_nil_of_length_eq_zero this
 ·have hlo:W.heap.size≤b:=by
   rcases ho.2 with ⟨e,-⟩ | ⟨g,c,cur,e,hg,-⟩
   ·cases e
   ·injection e with e1
    injection e1 with e1
    injection e1 with e1
    omega
  refine .inr ⟨b,off,rfl,h.new hlo hb,fun j hj=>?_⟩
  rw [hc j (by rw [ya8]; exact hj)]; simp [ints]
def NthS (b:Nat) (V:Nat→Value) (W:World):Prop:=∀j,j < 32→W.cell? ⟨b,j,none⟩=some (V (8+j))∧W.frozen? ⟨b,j,none⟩=false
theorem NthS.block {b:Nat} (h:NthS b V W) (hb:W'.heap[b]? =W.heap[b]?):NthS b V W':=fun j hj=>
 ⟨(World.cell?_of_block (w:=W) (a:=⟨b,j,none⟩) hb).trans (h j hj).1,(World.frozen?_of_block (w:=W) (a:=⟨b,j,none⟩) hb).trans (h j hj).2⟩
theorem NthS.as {b:Nat} (h:NthS b V W) {i:Nat} (hi:i < 8) (v:Value):NthS b (updV V i v) W:=fun j hj=>by
 rw [yao _ _ (by omega)]; exact h j hj
theorem NthS.set {b:Nat} (h:NthS b V W) {i:Nat} (hi:i < 32) (v:Value):NthS b (updV V (8+i) v) (W.setCell ⟨b,i,none⟩ v):=fun j hj=>by
 refine ⟨?_,by simpa [go_sem] using (h j hj).2⟩
 by_cases e:j=i
 ·subst e; rw [yaX]; exact World.cell?_setCell_same _ _ _ (by rw [(h j hj).1])
 ·rw [yao _ _ (by omega),yay e]; exact (h j hj).1
structure RfS (w:World) (b7 b16 B:Nat) (V:Nat→Value) (L:Nat→List Int) (fi la n:Int) (ev sq:Bool) (W:World):Prop where
 f:FcB b7 (fun _=>0) fi la n ev sq W
 r:RwS B V L W
 m:NthS b16 V W
 e:Below w.heap.size w W
 lt:w.heap.size≤b7∧w.heap.size≤b16∧b7 < B∧b16 < B∧b7≠b16
end
section
variable {w:World} {b7 b16 B:Nat} {V:Nat→Value} {L:Nat→List Int} {fi la n:Int} {ev sq:Bool} {W W' W'':World}
abbrev O2 (b7 b16:Nat):Nat→Prop:=fun b=>b=b7∨b=b16
theorem RfS.two (h:RfS w b7 b16 B V L fi la n ev sq W):∀b,O2 b7 b16 b→b < B:=fun b hb=>by
 have:=h.lt
 rcases hb with rfl | rfl <;> omega
theorem RfS.call (h:RfS w b7 b16 B V L fi la n ev sq W) (hB:Below W.heap.size W W'):RfS w b7 b16 B V L fi la n ev sq W'∧GrS (O2 b7 b16) V W V W':=
 ⟨⟨h.f.block hB.size (hB.block _ h.f.lt),h.r.call hB,h.m.block (hB.block _ (by have:=h.lt; have:=h.r.b; omega)),h.e.trans (hB.mono h.e.size),h.lt⟩, .of_below hB⟩
theorem RfS.face {fi' la' n':Int} {ev' sq':Bool} (h:RfS w b7 b16 B V L fi la n ev sq W) (hE:Eff (fun b=>b=b7) W W') (hf:FcB b7 (fun _=>0) fi' la' n' ev' sq' W'):RfS w b7 b16 B V L fi' la' n' ev' sq' W'∧GrS (O2 b7 b16) V W V W':=by
 have hl:=h.lt
 have hb:=h.r.b
 refine ⟨⟨hf,h.r.eff hE (fun b e=>by omega),h.m.block (hE.block _ (by omega) (by omega)),h.e.trans (hE.below (fun b e=>by omega) h.e.size),h.lt⟩,hE.size,fun b hb hO _=>hE.block b hb (fun e=>hO (.inl e)),fun i hi k hk=> .inl ⟨i,hi,hk⟩⟩
theorem RfS.app (h:RfS w b7 b16 B V L fi la n ev sq W) {i:Nat} (hi:i < 8) {v:Value} {m:Nat} {news:List Int} (hn:m= (L i).length+news.length) (ho:W'.ownsRow B 3 1 v m (ints (L i) ++ ints news)) (hg:W.grownBy W' (V i).ownBlock) (hB:Below B W W')
  (hf:∀k,v.ownBlock=some k→(V i).ownBlock=some k∨W.heap.size≤k):RfS w b7 b16 B (updV V i v) (updV L i (L i ++ news)) fi la n ev sq W'∧GrS (O2 b7 b16) V W (updV V i v) W':=by
 have hl:=h.lt
 have k:=h.r.app (O:=O2 b7 b16) (show i < 40 by omega) hn ho hg hf
 exact ⟨⟨h.f.block hB.size (hB.block _ (by omega)),k.1,(h.m.block (hB.block _ (by omega))).as hi v,h.e.trans (hB.mono (by omega)),h.lt⟩,k.2⟩
theorem RfS.put (h:RfS w b7 b16 B V L fi la n ev sq W) {i:Nat} (hi:i < 32) {v:Value} {m:Nat} {news:List Int} (hn:m= (L (8+i)).length+news.length) (ho:W'.ownsRow B 3 1 v m (ints (L (8+i)) ++ ints news)) (hg:W.grownBy W' (V (8+i)).ownBlock) (hB:Below B W W')
  (hf:∀k,v.ownBlock=some k→(V (8+i)).ownBlock=some k∨W.heap.size≤k):RfS w b7 b16 B (updV V (8+i) v) (updV L (8+i) (L (8+i) ++ news)) fi la n ev sq (W'.setCell ⟨b16,i,none⟩ v)∧GrS (O2 b7 b16) V W (updV V (8+i) v) (W'.setCell ⟨b16,i,none⟩ v):=by
 have hl:=h.lt
 have k:=h.r.app (O:=O2 b7 b16) (show 8+i < 40 by omega) hn ho hg hf
 have hE:Eff (fun b=>b=b16) W' (W'.setCell ⟨b16,i,none⟩ v):=(Eff.refl (fun b=>b=b16) W').set rfl _ _
 have hb:=k.1.b
 have hf7:=h.f.block hB.size (hB.block _ (by omega))
 exact ⟨⟨hf7.block hE.size (hE.block _ hf7.lt (by omega)),k.1.eff hE (fun b e=>by omega),(h.m.block (hB.block _ (by omega))).set hi v,(h.e.trans (hB.mono (by omega))).trans (hE.below (fun b e=>by omega) (zI h.e.size hB.size)),h.lt⟩,
  k.2.trans ⟨hE.size,fun b hb hO _=>hE.block b hb (fun e=>hO (.inr e)),fun i hi k hk=> .inl ⟨i,hi,hk⟩⟩⟩
theorem RfS.as {L':Nat→List Int} (h:RfS w b7 b16 B V L fi la n ev sq W) (e:∀i,i < 40→L' i=L i):RfS w b7 b16 B V L' fi la n ev sq W:=⟨h.f,h.r.as e,h.m,h.e,h.lt⟩
end
end
section
open Go.RowKit Go.Maps
attribute [local irreducible] secL
def ycF (wk i:Nat):Nat:=if i < 8 then i else if i % 8=wk then i / 8+7 else 100
theorem yfA (wk:Nat) {i:Nat} (hi:i < 8):ycF wk i=i:=if_pos hi
theorem turn_hi {wk q:Nat} (hw:wk < 8) (hq:q < 4):ycF wk (8+(8 * q+wk))=8+q:=by
 rw [ycF,if_neg (by omega),if_pos (by omega)]; omega
theorem turn_lo1 {wk i j:Nat} (hi:i < 8) (h:ycF wk j=i):j=i:=by
 rw [ycF] at h
 split at h
 ·exact h
 ·split at h <;> omega
theorem turn_hi1 {wk q j:Nat} (hw:wk < 8) (hq:q < 4) (hj:j < 40) (h:ycF wk j=8+q):j=8+(8 * q+wk):=by
 rw [ycF] at h
 split at h
 ·omega
 ·split at h <;> omega
def ybP (R N:Nat→List Int) (wk k i:Nat):List Int:=if ycF wk i < k then R i ++ N i else R i
section
variable {R N:Nat→List Int} {wk k i:Nat}
theorem yfC (h:ycF wk i=k):ybP R N wk k i=R i:=by rw [ybP,if_neg (by omega)]
theorem yi8 (R N:Nat→List Int) (wk i:Nat):R i=ybP R N wk 0 i:=by rw [ybP,if_neg (by omega)]
theorem yh6 (h:ycF wk i=k) (hu:∀j,j < 40→ycF wk j=k→j=i):∀j,j < 40→ybP R N wk (k+1) j=updV (ybP R N wk k) i (R i ++ N i) j:=fun j hj=>by
 by_cases e:j=i
 ·subst e; rw [yaX,ybP,if_pos (by omega)]
 ·have h1:ycF wk j≠k:=fun h=>e (hu j hj h)
  rw [yao _ _ e,ybP,ybP]
  by_cases h2:ycF wk j < k
  ·rw [if_pos (by omega),if_pos h2]
  ·rw [if_neg (by omega),if_neg h2]
theorem stepL_end (h:∀i,8≤i→i < 40→i % 8≠wk→N i= []):∀i,i < 40→R i ++ N i=ybP R N wk 12 i:=fun i hi=>by
 rw [ybP]
 by_cases h2:ycF wk i < 12
 ·rw [if_pos h2]
 ·rw [if_neg h2]
  have h8:8≤i:=by
   apply Classical.byContradiction
   intro hn
   rw [yfA wk (by omega)] at h2; omega
  rw [h i h8 hi (fun e=>h2 (by rw [ycF,if_neg (by omega),if_pos e]; omega)),List.append_nil]
end
theorem low4 {α:Type} (V:Nat→α) {j:Nat} (hj:j < 8) (i0 i1 i2 i3:Nat) (v0 v1 v2 v3:α):updV (updV (updV (updV V (8+i0) v0) (8+i1) v1) (8+i2) v2) (8+i3) v3 j=V j:=by
 rw [yao _ _ (by omega),yao _ _ (by omega),yao _ _ (by omega),yao _ _ (by omega)]
section
variable {w:World} {b7 b16 B:Nat} {V:Nat→Value} {R N:Nat→List Int} {wk:Nat} {fi la n:Int} {ev sq:Bool} {W W':World}
theorem RfS.ownK {k i:Nat} (h:RfS w b7 b16 B V (ybP R N wk k) fi la n ev sq W) (hi:i < 40) (ht:ycF wk i=k):W.ownsRow B 3 1 (V i) (R i).length (ints (R i)):=by
 have e:=h.r.own i hi
 rw [yfC ht] at e
 exact e
theorem RfS.appK {k i:Nat} (h:RfS w b7 b16 B V (ybP R N wk k) fi la n ev sq W) (hi:i < 8) (ht:ycF wk i=k) {v:Value} {m:Nat} (hn:m= (R i).length+(N i).length) (ho:W'.ownsRow B 3 1 v m (ints (R i) ++ ints (N i))) (hg:W.grownBy W' (V i).ownBlock) (hB:Below B W W')
  (hf:∀k,v.ownBlock=some k→(V i).ownBlock=some k∨W.heap.size≤k):RfS w b7 b16 B (updV V i v) (ybP R N wk (k+1)) fi la n ev sq W'∧GrS (O2 b7 b16) V W (updV V i v) W':=by
 have e:=yfC (R:=R) (N:=N) ht
 have k':=h.app hi (m:=m) (news:=N i) (by rw [e]; exact hn) (by rw [e]; exact ho) hg hB hf
 rw [e] at k'
 exact ⟨k'.1.as (yh6 ht fun j _ hj=>by rw [yfA wk hi] at ht; subst ht; exact turn_lo1 hi hj),k'.2⟩
theorem RfS.putK {q:Nat} (h:RfS w b7 b16 B V (ybP R N wk (8+q)) fi la n ev sq W) (hw:wk < 8) (hq:q < 4) {v:Value} {m:Nat} (hn:m= (R (8+(8 * q+wk))).length+(N (8+(8 * q+wk))).length) (ho:W'.ownsRow B 3 1 v m (ints (R (8+(8 * q+wk))) ++ ints (N (8+(8 * q+wk))))) (hg:W.grownBy W' (V (8+(8 * q+wk))).ownBlock) (hB:Below B W W')
  (hf:∀k,v.ownBlock=some k→(V (8+(8 * q+wk))).ownBlock=some k∨W.heap.size≤k):RfS w b7 b16 B (updV V (8+(8 * q+wk)) v) (ybP R N wk (8+q+1)) fi la n ev sq (W'.setCell ⟨b16,8 * q+wk,none⟩ v)∧GrS (O2 b7 b16) V W (updV V (8+(8 * q+wk)) v) (W'.setCell ⟨b16,8 * q+wk,none⟩ v):=by
 have ht:=turn_hi (wk:=wk) hw hq
 have e:=yfC (R:=R) (N:=N) ht
 have k':=h.put (i:=8 * q+wk) (by omega) (m:=m) (news:=N (8+(8 * q+wk))) (by rw [e]; exact hn) (by rw [e]; exact ho) hg hB hf
 rw [e] at k'
 exact ⟨k'.1.as (yh6 ht fun j hj h=>turn_hi1 hw hq hj h),k'.2⟩
theorem yhG {ops:Array Oper} {rest:List Oper} {o:Oper} {a:Act} {Q:Exit→Act→World→Prop} (s x:Operand) (i:Nat) (hI:Hid (RfS w b7 b16 B V (ybP R N wk i) fi la n ev sq W)) (hi:i < 8)
  (hgd:o.guard=none) (ho:o.op= .call {callee:= .builtin .append,args:=#[s,x],argTypes:=#[53,53]}) (hs:a.eval s=V i) {ax:Option Addr} {m c:Nat} (hx:a.eval x= .slice ax m c) (hm:Hid (m= (N i).length)) (hsrc:Sl W ax (ints (N i))) (hnone:ax=none→c=0) (hR:(R i).length≤20000000) (hN:(N i).length≤64)
  (K:∀a' q cap' w',Hid (RfS w b7 b16 B (updV V i (.slice a' q cap')) (ybP R N wk (i+1)) fi la n ev sq w'∧GrS (O2 b7 b16) V W (updV V i (.slice a' q cap')) w')→wpList Tryz.prog ops Q rest (a.put o.dst (.slice a' q cap')) w'):wpList Tryz.prog ops Q (o :: rest) a W:=by
 obtain rfl:=hm.out
 have ht:=yfA wk hi
 refine appN eInt s x hgd ho hs hx (hI.out.ownK (by omega) ht) (news:=ints (N i)) (by rw [ya8]; omega) hsrc hnone (fun u hu=>?_) (by omega) (by omega) hI.out.r.b ?_
 ·obtain ⟨y,-,rfl⟩:=List.mem_map.1 hu; rfl
 ·intro a' cap' w' h1 h2 h3 h4
  exact K a' _ cap' w' (hI.out.appK hi ht rfl h1 h2 h3 h4)
theorem ydE {ops:Array Oper} {rest:List Oper} {o:Oper} {a:Act} {Q:Exit→Act→World→Prop} (s x:Operand) (i:Nat) (hI:Hid (RfS w b7 b16 B V (ybP R N wk i) fi la n ev sq W)) (hi:i < 8)
  (hgd:o.guard=none) (ho:o.op= .call {callee:= .builtin .append,args:=#[s,x],argTypes:=#[53,53]}) (hs:a.eval s=V i) {g:Nat} (hx:a.eval x= .slice (some ⟨g,0,none⟩) 1 1) (hg:g=W.heap.size) {y:Int} (hN:Hid (N i= [y])) (hR:(R i).length≤20000000)
  (K:∀a' q cap' w',Hid (RfS w b7 b16 B (updV V i (.slice a' q cap')) (ybP R N wk (i+1)) fi la n ev sq w'∧GrS (O2 b7 b16) V W (updV V i (.slice a' q cap')) w')→wpList Tryz.prog ops Q rest (a.put o.dst (.slice a' q cap')) w'):wpList Tryz.prog ops Q (o :: rest) a (W.alloc (.cells #[.int .i64 y] 3)):=by
 have ht:=yfA wk hi
 refine app1 eInt s x hgd ho hs hx hg (hI.out.ownK (by omega) ht) rfl (by omega) (by omega) hI.out.r.b ?_
 intro a' cap' w' h1 h2 h3 h4
 exact K a' _ cap' w' (hI.out.appK hi ht (by rw [hN.out,List.length_singleton]) (by rw [hN.out]; exact h1) h2 h3 h4)
theorem yiK {o:Oper} {a:Act} {K:Act→World→Prop} {Q:Exit→Act→World→Prop} (s x:Operand) (q:Nat) (hI:Hid (RfS w b7 b16 B V (ybP R N wk (8+q)) fi la n ev sq W)) (hw:wk < 8) (hq:q < 4)
  (ho:o.op= .call {callee:= .builtin .append,args:=#[s,x],argTypes:=#[53,53]}) (hs:a.eval s=V (8+(8 * q+wk))) (hx:a.eval x= .slice (some ⟨W.heap.size,0,none⟩) 1 1) {y:Int} (hN:Hid (N (8+(8 * q+wk))= [y])) (hR:(R (8+(8 * q+wk))).length≤20000000)
  (KK:∀a' m cap' w',Hid (RfS w b7 b16 B (updV V (8+(8 * q+wk)) (.slice a' m cap')) (ybP R N wk (8+q+1)) fi la n ev sq (w'.setCell ⟨b16,8 * q+wk,none⟩ (.slice a' m cap'))∧GrS (O2 b7 b16) V W (updV V (8+(8 * q+wk)) (.slice a' m cap')) (w'.setCell ⟨b16,8 * q+wk,none⟩ (.slice a' m cap')))→
    Hid (W.heap.size≤w'.heap.size∧∀b,b < W.heap.size→b < B∨Off B V W b→w'.heap[b]? =W.heap[b]?)→K (a.put o.dst (.slice a' m cap')) w'):Oper.wp Tryz.prog o a (W.alloc (.cells #[.int .i64 y] 3)) K Q:=by
 have ht:=turn_hi (wk:=wk) hw hq
 have hown:=hI.out.ownK (i:=8+(8 * q+wk)) (by omega) ht
 have hb:=hI.out.r.b
 have hsl:Sl (W.alloc (.cells #[.int .i64 y] 3)) (some ⟨W.heap.size,0,none⟩) [.int .i64 y]:=by
  refine .inr ⟨W.heap.size,0,rfl,by simp,fun j hj=>?_⟩
  have:j=0:=by simp at hj; omega
  subst this
  simp
 obtain ⟨a',cap',w',hr,h1,h2,h3,h4⟩:=yeB eInt (W.alloc (.cells #[.int .i64 y] 3)) o.type (hown.alloc _) (news:= [.int .i64 y]) (m:=1) (ax:=some ⟨W.heap.size,0,none⟩) (c:=1) rfl
  hsl (fun h=>by cases h) (fun u hu=>by simp at hu; subst hu; rfl) (by omega) (by omega) (by simp; omega)
 have g2:=ybs (World.grownBy_alloc W _ _) h2
 have g3:=((Below.refl B W).alloc hb _).trans h3
 refine yhY s x ho hs hx hr (KK a' _ cap' w' (hI.out.putK hw hq (by rw [hN.out,List.length_singleton]) (by rw [hN.out]; exact h1) g2 g3 (fun k hk=>?_)) ⟨g2.size,fun b hb' hc=>?_⟩)
 ·rcases h4 k hk with h | h
  ·exact .inl h
  ·refine .inr (zI ?_ h); simp
 ·rcases hc with h | h
  ·exact g3.block b h
  ·exact g2.block b hb' fun e=>h.ne (8+(8 * q+wk)) (by omega) e.symm
end
structure FsS (w:World) (b7 b16 B:Nat) (V:Nat→Value) (L:Nat→List Int) (u:Nat→Nat) (fi la n:Int) (ev sq:Bool) (W:World):Prop where
 f:FcB b7 u fi la n ev sq W
 r:RwS B V L W
 m:NthS b16 V W
 e:Below w.heap.size w W
 lt:w.heap.size≤b7∧w.heap.size≤b16∧b7 < B∧b16 < B∧b7≠b16
section
variable {w:World} {b7 b16 B:Nat} {V:Nat→Value} {L:Nat→List Int} {u:Nat→Nat} {fi la n:Int} {ev sq:Bool} {W W':World}
theorem FsS.call (h:FsS w b7 b16 B V L u fi la n ev sq W) (hB:Below W.heap.size W W'):FsS w b7 b16 B V L u fi la n ev sq W':=
 ⟨h.f.block hB.size (hB.block _ h.f.lt),h.r.call hB,h.m.block (hB.block _ (by have:=h.lt; have:=h.r.b; omega)),h.e.trans (hB.mono h.e.size),h.lt⟩
theorem FsS.eff {u':Nat→Nat} (h:FsS w b7 b16 B V L u fi la n ev sq W) (hE:Eff (fun b=>b=b7) W W') (hf:FcB b7 u' fi la n ev sq W'):FsS w b7 b16 B V L u' fi la n ev sq W':=by
 have hl:=h.lt
 have hb:=h.r.b
 exact ⟨hf,h.r.eff hE (fun b e=>by omega),h.m.block (hE.block _ (by omega) (by omega)),h.e.trans (hE.below (fun b e=>by omega) h.e.size),h.lt⟩
theorem FsS.set (h:FsS w b7 b16 B V L u fi la n ev sq W) {k:Nat} (hk:k < 46) (v:Nat):FsS w b7 b16 B V L (updV u k v) fi la n ev sq (W.setCell ⟨b7,k,none⟩ (.int .u64 (v:Nat))):=
 h.eff ((Eff.refl (fun b=>b=b7) W).set rfl _ _) (h.f.set hk v fun i _=>rfl)
theorem FsS.as {u':Nat→Nat} (h:FsS w b7 b16 B V L u fi la n ev sq W) (e:∀i,i < 46→u' i=u i):FsS w b7 b16 B V L u' fi la n ev sq W:=⟨h.f.as e,h.r,h.m,h.e,h.lt⟩
theorem FsS.row (h:FsS w b7 b16 B V L u fi la n ev sq W) {i:Nat} (hi:i < 40):∃a cap,V i= .slice a (L i).length cap∧Sl W a (ints (L i)):=by
 obtain ⟨a,cap,e,hs,-⟩:=ya6 (h.r.own i hi)
 exact ⟨a,cap,e,hs⟩
theorem RfS.fs (h:RfS w b7 b16 B V L fi la n ev sq W):FsS w b7 b16 B V L (fun _=>0) fi la n ev sq W:=⟨h.f,h.r,h.m,h.e,h.lt⟩
theorem FcB.put7 (h:FcB b7 u fi la n ev sq W) (f:Nat→Nat):FcB b7 (fun i=>if 7≤i∧i < 14 then f (i - 7) else u i) fi la n ev sq (((((((W.setCell ⟨b7,7,none⟩ (.int .u64 (f 0:Nat))).setCell ⟨b7,8,none⟩ (.int .u64 (f 1:Nat))).setCell ⟨b7,9,none⟩ (.int .u64 (f 2:Nat))).setCell ⟨b7,10,none⟩ (.int .u64 (f 3:Nat))).setCell ⟨b7,11,none⟩ (.int .u64 (f 4:Nat))).setCell ⟨b7,12,none⟩ (.int .u64 (f 5:Nat))).setCell ⟨b7,13,none⟩ (.int .u64 (f 6:Nat))):=by
 have e:=((((((h.set (k:=7) (by omega) (f 0) fun i _=>rfl).set (k:=8) (by omega) (f 1) fun i _=>rfl).set (k:=9) (by omega) (f 2) fun i _=>rfl).set (k:=10) (by omega) (f 3) fun i _=>rfl).set (k:=11) (by omega) (f 4) fun i _=>rfl).set (k:=12) (by omega) (f 5) fun i _=>rfl).set (k:=13) (by omega) (f 6) fun i _=>rfl
 refine e.as fun i hi=>?_
 by_cases c:7≤i∧i < 14
 ·rw [if_pos c]
  have:i=7∨i=8∨i=9∨i=10∨i=11∨i=12∨i=13:=by omega
  rcases this with rfl | rfl | rfl | rfl | rfl | rfl | rfl <;> rfl
 ·rw [if_neg c,if_neg (by omega),if_neg (by omega),if_neg (by omega),if_neg (by omega),if_neg (by omega),if_neg (by omega),if_neg (by omega)]
end
def yet (v x:Value):Sem Unit:=Instr.storeAt 25 v x
theorem yhj (v x:Value):Instr.storeAt 25 v x=yet v x:=rfl
theorem info7u:(Tryz.prog.info? 25).map (·.size)=some 7:=by kernel_rfl
section
variable {w:World} {b7 b16 B:Nat} {V:Nat→Value} {L:Nat→List Int} {u:Nat→Nat} {fi la n:Int} {ev sq:Bool} {W W':World}
def l7u (f:Nat→Nat):List Value:= [.int .u64 (f 0:Nat), .int .u64 (f 1:Nat), .int .u64 (f 2:Nat), .int .u64 (f 3:Nat), .int .u64 (f 4:Nat), .int .u64 (f 5:Nat), .int .u64 (f 6:Nat)]
theorem FcB.st7 (h:FcB b7 u fi la n ev sq W) (f:Nat→Nat):(yet (.pointer (some ⟨b7,7,none⟩)) (wv f)).run Tryz.prog W= .ok () (W.setCells b7 7 (l7u f)):=by
 have ht:W.there b7 7 (l7u f).toArray.size:=fun j hj=>by
  have hj7:j < 7:=by simpa [l7u] using hj
  exact ⟨by rw [h.c (7+j) (by omega)]; rfl,h.z (7+j)⟩
 unfold yet
 exact run_storeAt_mid W b7 7 25 (l7u f).toArray ht info7u (by simp [l7u,Value.oneCell'])
theorem FsS.put7 (h:FsS w b7 b16 B V L u fi la n ev sq W) (f:Nat→Nat):FsS w b7 b16 B V L (fun i=>if 7≤i∧i < 14 then f (i - 7) else u i) fi la n ev sq (W.setCells b7 7 (l7u f)):=
 h.eff (Eff.setCells (O:=fun x=>x=b7) rfl (l7u f) 7 W (Eff.refl _ _)) (by simp only [l7u,World.setCells]; exact h.f.put7 f)
end
def uwR (l:List Cl) (X:List Int) (w i:Nat):Nat:=if i < 14 then fcR l X i else if (i - 14) % 8 < w then fcR l X i else 0
theorem uwR_zero (l:List Cl) (X:List Int):∀i,i < 46→uwR l X 0 i=if 7≤i∧i < 14 then wof (rowL l X 7) (i - 7) else updV (updV (updV (updV (updV (updV (updV (fun _=>0) 2 (ofM (rowL l X 0))) 1 (ofM (rowL l X 1))) 0 (ofM (rowL l X 2))) 3 (ofM (rowL l X 3))) 4 (ofM (rowL l X 4))) 5 (ofM (rowL l X 5))) 6 (ofM (rowL l X 6)) i:=fun i hi=>by
 rw [uwR]
 by_cases c:i < 14
 ·rw [if_pos c]
  by_cases d:7≤i
  ·rw [if_pos ⟨d,c⟩,fcR,if_neg (by omega),if_neg (by omega),if_neg (by omega),if_neg (by omega),if_pos c]
  ·rw [if_neg (by omega)]
   have:i=0∨i=1∨i=2∨i=3∨i=4∨i=5∨i=6:=by omega
   rcases this with rfl | rfl | rfl | rfl | rfl | rfl | rfl <;> rfl
 ·rw [if_neg c,if_neg (by omega),if_neg (by omega),yao _ _ (by omega),yao _ _ (by omega),yao _ _ (by omega),yao _ _ (by omega),yao _ _ (by omega),yao _ _ (by omega),yao _ _ (by omega)]
theorem uwR_succ (l:List Cl) (X:List Int) {w:Nat} (hw:w < 8):∀i,i < 46→uwR l X (w+1) i=updV (updV (updV (updV (uwR l X w) (14+w) (ofM (rowL l X (8+w)))) (22+w) (ofM (rowL l X (8+(8+w))))) (30+w) (ofM (rowL l X (8+(16+w))))) (38+w) (ofM (rowL l X (8+(24+w)))) i:=fun i hi=>by
 have key:∀j,14≤j→fcR l X j=ofM (rowL l X (j - 6)):=fun j hj=>by
  rw [fcR,if_neg (by omega),if_neg (by omega),if_neg (by omega),if_neg (by omega),if_neg (by omega)]
 by_cases c:i < 14
 ·rw [yao _ _ (by omega),yao _ _ (by omega),yao _ _ (by omega),yao _ _ (by omega),uwR,if_pos c,uwR,if_pos c]
 ·by_cases d:(i - 14) % 8=w
  ·rw [uwR,if_neg c,if_pos (by omega),key i (by omega)]
   by_cases e:i=38+w
   ·rw [e,yaX]; congr 2; omega
   ·rw [yao _ _ e]
    by_cases e:i=30+w
    ·rw [e,yaX]; congr 2; omega
    ·rw [yao _ _ e]
     by_cases e:i=22+w
     ·rw [e,yaX]; congr 2; omega
     ·rw [yao _ _ e]
      obtain rfl:i=14+w:=by omega
      rw [yaX]; congr 2; omega
  ·rw [yao _ _ (by omega),yao _ _ (by omega),yao _ _ (by omega),yao _ _ (by omega),uwR,uwR,if_neg c,if_neg c]
   by_cases e:(i - 14) % 8 < w
   ·rw [if_pos e,if_pos (by omega)]
   ·rw [if_neg e,if_neg (by omega)]
theorem uwR_end (l:List Cl) (X:List Int):∀i,i < 46→fcR l X i=uwR l X 8 i:=fun i hi=>by
 rw [uwR]
 by_cases c:i < 14
 ·rw [if_pos c]
 ·rw [if_neg c,if_pos (by omega)]
end
end Go.Proofs.YtkpgfmonhfnhdaaGreatDoor
