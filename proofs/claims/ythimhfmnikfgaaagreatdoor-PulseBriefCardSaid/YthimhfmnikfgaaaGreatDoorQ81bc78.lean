/-
  pulse.inner: the beats of a disc's seconds, minutes and hours.
  The law of a range over a function that has a state of its own, once more: the teller's blocks do not hold the loop's.
  seek.All's function, walked: it tells the instants of a set, from one to another one.
  seek.Next and seek.First.
  tally.counter (and its function) and tally.part.
  Keys that are two pointers: what meet.asked keeps.
-/
import Derived.Test.YthimhfmnikfgaaaGreatDoorQc1bf1f
import Derived.Test.YthimhfmnikfgaaaGreatDoorQ4bf0e9
import Derived.Test.YthimhfmnikfgaaaGreatDoorQ2c5ed6
import Derived.BigRegion
import Derived.Test.YthimhfmnikfgaaaGreatDoorQ30fd51
import Derived.Test.YthimhfmnikfgaaaGreatDoorQ4031f0
import Derived.Test.YthimhfmnikfgaaaGreatDoorQ19f617
import Derived.LaidEql
import Derived.Laws.EntriesVeiled
import Derived.Test.YthimhfmnikfgaaaGreatDoorQ6013e0
namespace Go.Proofs.YthimhfmnikfgaaaGreatDoor
set_option linter.unusedVariables false
section
open Go.RowKit Go.Maps
attribute [local go_sem] Oper.semAt_some
attribute [local go_sem ↓] loadAt_3b storeAt_3b
theorem dall_enters (args:Array Value) (w:World):(callFunc 151 args).run Tryz.prog w= .ok (.enter 151 args) w:=by simp [go_sem]
def szI (u:Nat):Int:=if u=0 then 1 else if u=1 then 60 else 3600
theorem szI_pos (u:Nat):1≤szI u∧szI u≤3600:=by rw [szI]; split; omega; split <;> omega
theorem szU {u:Nat} (h:u < 3):sizeU (u:Int)=szI u:=by
 have:u=0∨u=1∨u=2:=by omega
 rcases this with rfl | rfl | rfl <;> rfl
def nrB (xs:List Int) (u:Nat):Bt:=xs.foldl (fun b x=>takeB b (x / szI u)) (false,0,0)
theorem nrB_snoc {xs:List Int} {k:Nat} (hk:k < xs.length) (u:Nat):nrB (xs.take (k+1)) u=takeB (nrB (xs.take k) u) (xs[k] / szI u):=by
 rw [nrB,take_snoc xs k hk,List.foldl_append]; rfl
theorem nrB_q (xs:List Int) (u:Nat):∀k,k≤xs.length→BeatQ (fun v=>∃x∈xs.take k,v=x / szI u) (nrB (xs.take k) u)
 | 0,_=>BeatP.congr BeatP.empty fun v=>⟨fun h=>h.elim,fun ⟨x,h,_⟩=>by cases h⟩
 | k+1,hk=>by
   rw [nrB_snoc (by omega)]
   refine BeatP.congr ((nrB_q xs u k (by omega)).take _) fun v=>?_
   rw [take_snoc xs k (by omega)]
   constructor
   ·rintro (⟨x,h,rfl⟩ | rfl)
    ·exact ⟨x,List.mem_append.2 (.inl h),rfl⟩
    ·exact ⟨_,List.mem_append.2 (.inr (List.mem_singleton.2 rfl)),rfl⟩
   ·rintro ⟨x,h,rfl⟩
    rcases List.mem_append.1 h with h | h
    ·exact .inl ⟨x,h,rfl⟩
    ·rw [List.mem_singleton] at h; subst h; exact .inr rfl
theorem div_rng {x z:Int} (h0:0≤x) (h1:x < 86400) (hz:1≤z):0≤x / z∧x / z < 86400:=
 ⟨Int.ediv_nonneg h0 (by omega),Int.lt_of_le_of_lt (Int.ediv_le_self z h0) h1⟩
theorem nrB_bd {xs:List Int} (hx:∀x∈xs,0≤x∧x < 86400) (u k:Nat) (hk:k≤xs.length):M62 (nrB (xs.take k) u).2.1∧M62 (nrB (xs.take k) u).2.2:=by
 have h:=BeatP.bd (M:=86399) (nrB_q xs u k hk) (by omega) fun v ⟨x,hm,e⟩=>by
  have h1:=hx x (List.mem_of_mem_take hm)
  have h2:=div_rng h1.1 h1.2 (szI_pos u).1
  omega
 simp only [M62]
 omega
theorem nsec_rng (q:Nat→Bool):∀x∈secL q,0≤x∧x < 86400:=fun x hx=>by
 rw [secL,sel_mem] at hx
 obtain ⟨k,h1,_,h2⟩:=hx
 omega
def NrI (b:Nat) (xs:List Int):OwnP:=fun k O W=>BtS b 3 (nrB (xs.take k)) W∧O b∧∀c,O c→c < W.heap.size
theorem nrI_stab (b:Nat) (xs:List Int):StabO (NrI b xs):=fun k O W W' ⟨h1,h2,h3⟩ hs hO=>⟨h1.block hs (hO b h2),h2,fun c hc=>zH (h3 c hc) hs⟩
set_option maxRecDepth 100000 in
set_option maxHeartbeats 3200000 in
theorem Inner_any (d:Nat) (q:Nat→Bool) (w:World) (hT:Tab w) (h:DiscAt w d q) :
  Calls Tryz.prog 147 #[.pointer (some ⟨d,0,none⟩)] w fun e w'=>e= .returned (bv3 (nrB (secL q)))∧Below w.heap.size w w':=by
 obtain ⟨W1,hW1⟩:∃W1,(w.alloc (.cells #[.bool false, .int .i64 0, .int .i64 0, .bool false, .int .i64 0, .int .i64 0, .bool false, .int .i64 0, .int .i64 0] 155)).alloc (.cells #[.bool false, .int .i64 0, .int .i64 0, .bool false, .int .i64 0, .int .i64 0, .bool false, .int .i64 0, .int .i64 0] 155)=W1:=⟨_,rfl⟩
 have hB1:Below w.heap.size w W1:=by rw [←hW1]; exact below_new (below_new (Below.refl _ _) (zG _)) (by simp)
 have s1:W1.heap.size=w.heap.size+2:=by rw [←hW1]; simp
 have hA1:BtS (w.heap.size+1) 3 (nrB []) W1:=by
  have e:BtS (w.alloc (.cells #[.bool false, .int .i64 0, .int .i64 0, .bool false, .int .i64 0, .int .i64 0, .bool false, .int .i64 0, .int .i64 0] 155)).heap.size 3 (nrB []) ((w.alloc (.cells #[.bool false, .int .i64 0, .int .i64 0, .bool false, .int .i64 0, .int .i64 0, .bool false, .int .i64 0, .int .i64 0] 155)).alloc (.cells #[.bool false, .int .i64 0, .int .i64 0, .bool false, .int .i64 0, .int .i64 0, .bool false, .int .i64 0, .int .i64 0] 155)):=btS_new _ _ 3
  rw [World.size_alloc] at e
  rw [←hW1]; exact e
 have hA0:BtS w.heap.size 3 (fun _=>(false,0,0)) W1:=by
  have e:BtS w.heap.size 3 (fun _=>(false,0,0)) (w.alloc (.cells #[.bool false, .int .i64 0, .int .i64 0, .bool false, .int .i64 0, .int .i64 0, .bool false, .int .i64 0, .int .i64 0] 155)):=btS_new w _ 3
  rw [←hW1]
  exact e.block (by simp) (Below.heap_alloc _ _ _ (by simp))
 have cA:=hid (DcAllO_any (some d) q W1 (h.below hB1 h.lt))
 have HT:=hid hT
 have HB1:=hid hB1
 have HW1:=hid hW1
 have S1:=hid s1
 have HA1:=hid hA1
 have HA0:=hid hA0
 have hlen:=secL_len q
 have hmem:Hid (∀x∈secL q,0≤x∧x < 86400):=nsec_rng q
 obtain ⟨X,hX⟩:∃X,secL q=X:=⟨_,rfl⟩
 rw [hX] at hlen hmem cA
 rw [hX]
 clear hW1 hB1 s1 hA1 hA0 hT h hX
 refine (wf_calls (r:=none) (n:=1)).mp ?_
 refine callsIn_of_wp_marks Tryz.func147 rfl trivial ?_ rfl
 simp only [Tryz.ntmps147,List.size_toArray,List.length_cons,List.length_nil,Nat.reduceAdd,Nat.reduceSub,Array.replicate_succ,Array.replicate_zero,List.push_toArray,List.append_toArray,List.nil_append,List.cons_append]
 gi_wp2_with fail
 rw [HW1.out]
 refine (wf_calls.mpr cA.out).mono ?_
 rintro e w2 ⟨rfl,ht,hB2,hl2⟩
 obtain ⟨t,t1,t2,t3⟩:=ht.out
 have hB02:Below w.heap.size w w2:=HB1.out.trans (hB2.mono HB1.out.size)
 have hA2:BtS (w.heap.size+1) 3 (nrB []) w2:=HA1.out.block hB2.size (hB2.block _ HA1.out.lt)
 have tl:Tells2 Tryz.prog 151 #[.pointer (some ⟨W1.heap.size,0,none⟩)] X (fun b=>b=w.heap.size+1) w2:=by
  intro y J Jx O W hO hB hC hJ
  rw [←t3] at hC⊢
  have hnO:¬O W1.heap.size:=fun h=>by
   rcases hO _ h with h | h
   ·have:=S1.out; omega
   ·omega
  exact DiscIter_any t W1.heap.size y J Jx O W t2 hC hJ (zH hl2 hB.size) hnO (t1.below hB hl2) (HT.out.later (hB02.trans (hB.mono hB02.size))) (fun h=>by
   have h0:=HT.out.1
   rcases hO _ h with h | h
   ·omega
   ·have:=hB02.size; omega)
 have TL:=hid tl
 have HB02:=hid hB02
 have HB12:=hid hB2
 have HA2:=hid hA2
 clear tl hB02 hA2 ht t1 t3 hB2 cA
 gi_wp2_with fail
 refine range_outer2 (gf:=151) (lb:=#[.pointer (some ⟨W1.heap.size,0,none⟩)]) rfl dall_enters X (fun b=>b=w.heap.size+1) rfl TL.out
  (NrI (w.heap.size+1) X) (fun _ _ _ _=>False) (nrI_stab _ _) (fun _ _ _ _ _ h _ _=>h.elim) (fun k O W h=>h.2.2) (fun _ _ _ _ h=>h.elim) ⟨HA2.out,rfl,fun c hc=>by rw [hc]; exact HA2.out.lt⟩
  (fun k O a' W=>NrI (w.heap.size+1) X k O W∧∀hk:k < X.length,a' = {tmps:=#[.pointer (some ⟨d,0,none⟩),undef, .pointer (some ⟨w.heap.size,0,none⟩), .pointer (some ⟨w.heap.size+1,0,none⟩), .int .i64 X[k],undef, .pointer (some ⟨d,0,none⟩), .func (.func 151) #[] #[.pointer (some ⟨W1.heap.size,0,none⟩)], .int .i64 X[k],undef,undef,undef,undef,undef,undef,undef,undef,undef,undef,undef,undef],defers:= []})
  (fun l o k O a' W' hr hn h=>⟨stab_put (nrI_stab _ _) h.1 hn o,h.2⟩) ?assign ?body ?done ?stop
 case assign=>
  intro l k O W K hk hI hG hK
  gi_wp2
  exact hK _ O W (Grow.refl _ _) ⟨hI,fun _=>rfl⟩
 case stop=>
  rintro c k O' W' h1 h2 hG h
  exact h.elim
 case body=>
  rintro l k O a' W hk hG hl hrec hnl ⟨⟨hA,hO,hlt⟩,ha⟩
  rw [ha hk]
  have hx:=hmem.out _ (List.getElem_mem hk)
  have hsn:Hid (∀u,nrB (X.take (k+1)) u=takeB (nrB (X.take k) u) (X[k] / szI u)):=fun u=>nrB_snoc hk u
  have hbd:Hid (∀u,M62 (nrB (X.take k) u).2.1∧M62 (nrB (X.take k) u).2.2):=fun u=>nrB_bd hmem.out u k (Nat.le_of_lt hk)
  obtain ⟨x,hxe⟩:∃x,X[k]=x:=⟨_,rfl⟩
  rw [hxe] at hx hsn
  rw [hxe]
  obtain ⟨x0,x1⟩:=hx
  obtain ⟨B,hB⟩:∃B,nrB (X.take k)=B:=⟨_,rfl⟩
  rw [hB] at hA hsn hbd
  have HA:=hid hA
  have HO:=hid hO
  have Hlt:=hid hlt
  have Hx:=hid (And.intro x0 x1)
  have Hrec:=hid hrec
  have Hnl:=hid hnl
  have Hk:=hid hk
  clear hxe ha hO hlt hA hB hk hG hrec hnl hl
  gi_wp2_with fail
  gi_loopw [9] (fun iv wr=>∃j:Nat,iv= .int .i64 j∧j≤3∧Hid (BtS (w.heap.size+1) 3 (fun i=>if i < j then takeB (B i) (x / szI i) else B i) wr∧Eff O W wr)) (fun iv _=>3 - (intOf iv).toNat)
  case atStart=>exact ⟨0,rfl,by omega,HA.out.congr (fun u _=>by simp),Eff.refl _ _⟩
  case round=>
   obtain ⟨j,rfl,hj,HI⟩:=hrel
   by_cases hj3:j < 3
   ·have hji:(j:Int) < 3:=by omega
    have hj0:(0:Int)≤(j:Int):=by omega
    have cS:=hid (fun W=>Size_any (j:Int) W)
    rw [szU hj3] at cS
    have hz:=szI_pos j
    have hd:=div_rng x0 x1 hz.1
    have hb:=HI.out.1.at' j hj3
    rw [if_neg (by omega)] at hb
    have cT:=hid (fun W' (hB:Below wr.heap.size wr W')=>BTake_any (x / szI j) (hb.below hB) (hbd.out j).1 (hbd.out j).2 (show M62 (x / szI j) from ⟨hd.1,by omega⟩))
    have hst:Hid (∀W',Bt1 (w.heap.size+1) (j * 3) (takeB (B j) (x / szI j)) W'→OnlyB (w.heap.size+1) (j * 3) wr W'→BtS (w.heap.size+1) 3 (fun i=>if i < j+1 then takeB (B i) (x / szI i) else B i) W'∧Eff O W W'):=fun W' h1 h2=>
     ⟨(HI.out.1.step h1 h2).congr (fun u hu=>by
       by_cases e:u=j
       ·subst e; rw [if_pos (by omega),if_pos rfl]
       ·rw [if_neg e]
        by_cases e2:u < j
        ·rw [if_pos (by omega),if_pos e2]
        ·rw [if_neg (by omega),if_neg e2]),HI.out.2.trans h2.eff (fun c hc=>by subst hc; exact .inl HO.out)⟩
    obtain ⟨z,hze⟩:∃z,szI j=z:=⟨_,rfl⟩
    rw [hze] at cS hz hd cT hst
    have hz0:z≠0:=by omega
    have hq:IntKind.i64.wrap (Int.tdiv x z)=x / z:=by rw [Int.tdiv_eq_ediv_of_nonneg x0]; exact IntWalk.i64_in _ (by omega)
    have Hji:=hid hji
    obtain ⟨y,hy⟩:∃y,x / z=y:=⟨_,rfl⟩
    rw [hy] at hq cT hst hd
    clear hb hze hy hd
    gi_upto_region 7 with fail
    refine regW (S:=fun _=>True) (by kernel_rfl) (by kernel_rfl) (by rintro ⟨_,_,h⟩; exact h) trivial (fun hHeld=>?_)
    refine zT 0 (v:=?_) ?_ ?_
    rotate_left
    ·intro w' hSw; go_simp; (try with_reducible rfl)
    try simp only [zP]
    refine zT 1 (v:=?_) ?_ ?_
    rotate_left
    ·intro w' hSw; go_simp; (try with_reducible rfl)
    try simp only [zP]
    refine zT 2 (v:=?_) ?_ ?_
    rotate_left
    ·intro w' hSw; go_simp; (try with_reducible rfl)
    try simp only [zP]
    refine zT 3 (v:=?_) ?_ ?_
    rotate_left
    ·intro w' hSw; go_simp; (try with_reducible rfl)
    try simp only [zP]
    refine wpAnyH_ready (rs:= [4]) (by kernel_rfl) (by simp) ?_
    refine AllReadyH.cons rfl (fun K hK=>?_) AllReadyH.nil
    go_simp
    refine (cS.out _).mono ?_
    rintro e w7 ⟨rfl,hB7⟩
    have HB7:Hid (Below wr.heap.size wr w7):=(Below.refl _ _).drew.trans hB7
    refine hK.out _ _ trivial (fun hHeld=>?_)
    clear hK K hB7 cS
    try simp only [zP]
    refine zT 5 (v:=?_) ?_ ?_
    rotate_left
    ·intro w' hSw; go_simp; (try with_reducible rfl)
    try simp only [zP]
    refine wpAnyH_ready (rs:= [6]) (by kernel_rfl) (by simp) ?_
    refine AllReadyH.cons rfl (fun K hK=>?_) AllReadyH.nil
    go_simp
    refine (cT.out w7 HB7.out).mono ?_
    rintro e w8 ⟨⟨v,rfl⟩,hT8,hO8⟩
    have HN:=hid (hst.out w8 hT8 ((OnlyB.of_below HB7.out HI.out.1.lt).trans hO8))
    refine hK.out _ _ trivial (fun hHeld=>?_)
    clear hK K hT8 hO8 cT hst
    try simp only [zP]
    refine wpAnyH_done (by kernel_rfl) ?_ _
    clear hHeld
    gi_wp2
    exact ⟨⟨j+1,by go_num,by omega,HN.out⟩,by simp [intOf]; omega⟩
   ·obtain rfl:j=3:=by omega
    have hfin:Hid (BtS (w.heap.size+1) 3 (nrB (X.take (k+1))) wr):=HI.out.1.congr (fun u hu=>by rw [hsn.out u,if_pos hu])
    have hnl:∀c,O c→c < wr.heap.size:=fun c hc=>zH (Hlt.out c hc) HI.out.2.size
    have Hnl:=hid hnl
    clear hsn hbd hnl hj hj3
    gi_wp2
    exact ⟨O,⟨fun _ h=>h,fun _ h=> .inl h,HI.out.2⟩,hfin.out,HO.out,Hnl.out⟩
 case done=>
  rintro O' W' hG ⟨hA,hO,hlt⟩ hD hnD
  rw [List.take_length] at hA
  have hA9:BtS w.heap.size 3 (fun _=>(false,0,0)) W':=by
   have h2:=HA0.out.block (HB12.out.size) (HB12.out.block _ HA0.out.lt)
   exact h2.block hG.eff.size (hG.eff.block _ h2.lt (by omega))
  have HB9:Hid (Below w.heap.size w W'):=HB02.out.trans (hG.eff.below (by rintro b rfl; omega) HB02.out.size)
  have HD:=hid hD
  have HnD:Hid (¬w2.heap.size=w.heap.size∧w2.heap.size < W'.heap.size):=⟨fun e=>by have:=HB02.out.size; have:=HA2.out.lt; omega,(Array.getElem?_eq_some_iff.1 hD).1⟩
  have hld:=hA.ld3
  have hst:=hA9.st3 (nrB X)
  have HA9:=hid (hA9.put (nrB X))
  have HE9:Hid (Eff (fun x=>x=w.heap.size) W' (W'.setCells w.heap.size 0 (btL 3 (nrB X)))):=Eff.setCells (O:=fun x=>x=w.heap.size) rfl (btL 3 (nrB X)) 0 W' (Eff.refl _ W')
  have HDx:Hid ((W'.setCells w.heap.size 0 (btL 3 (nrB X))).heap[w2.heap.size]? =some (.deferred (some []))):=by
   show _ = _
   rw [HE9.out.block w2.heap.size (zH HnD.out.2 (zG _)) (fun e=>HnD.out.1 e)]
   exact HD.out
  clear hG hA hO hlt hD hnD hA9
  gi_wp2
  refine ⟨by simp, .inl ⟨_,_,rfl,run_takeDeferred HDx.out,?_⟩⟩
  have hX:=HA9.out.block (W':=(W'.setCells w.heap.size 0 (btL 3 (nrB X))).putObj w2.heap.size (.deferred none)) (by rw [World.putObj_size]; exact zG _) (World.putObj_heap_other (fun e=>HnD.out.1 e.symm))
  exact ⟨_,results_cell_mid rfl _ _ w.heap.size 0 _ _ rfl hX.range Tryz.underlying155 rfl (by rw [btL_len]; exact info3b),rfl,below_putObj (HB9.out.trans (HE9.out.below (by rintro b rfl; exact zG _) HB9.out.size)) HB02.out.size _⟩
end
section
open Go.RowKit
theorem range_outerG {P:Program} {m:Nat} {g:Operand} {ps:Array Tmp} {assign body:Code} {Q:Exit→Act→World→Prop} {a:Act} {w:World} {gf:Nat} {lb:Array Value} {n:Nat} {V:Nat→Array Value→Blk→World→Prop} {H HN HS:Blk→World→Prop} {M F:Blk}
  (hg:a.eval g= .func (.func gf) #[] lb) (eg:∀args w,(callFunc gf args).run P w= .ok (.enter gf args) w) (Ow:Blk) (hps:∀k vs F W,V k vs F W→vs.size=ps.size) (hseq:TellsH P gf lb n V H HN HS M) (hH:HostOk H M) (hN:HostOk HN M) (hS:HostOk HS M) (hF:H F w) (hFO:∀b,F b→¬Ow b)
  (I:OwnF) (Ix:Code→OwnF) (hI:StabF M I) (hIx:∀c,StabF M (Ix c)) (hIl:LtF I) (hIxl:∀c,LtF (Ix c)) (h0:I 0 Ow F w)
  (A:Nat→Blk→Blk→Act→World→Prop) (hA:∀l o k O F a' W,(∃r,W.heap[l]? =some (.loop r))→¬O l→¬F l→A k O F a' W→A k O F a' (W.putObj l o))
  (hassign:∀l k O F W vs (K:Act→World→Prop),k < n→I k O F W→(∀b,F b→¬O b∧b≠l)→V k vs F W→GrowM M Ow O w W→(∀a' O' W',Grow O O' W W'→A k O' F a' W'→K a' W')→
    assign.wpIn (WF (some l)) m P (Exit.then K (fun _ _ _=>False)) {tmps:=(ps.zip vs).foldl (fun t (p,v)=>t.setIfInBounds p v) a.tmps,defers:= []} W)
  (hbody:∀l k O F a' W,k < n→GrowM M Ow O w W→w.heap.size≤l→(∃r,W.heap[l]? =some (.loop r))→¬O l→¬F l→A k O F a' W→body.wpIn (WF (some l)) m P (RPost (atF I F) (fun c=>atF (Ix c) F) k O W) a' W)
  (hdone:∀O' F' W',GrowM M Ow O' w W'→HN F' W'→(∀b,F b→F' b)→(∀b,F' b→F b∨w.heap.size≤b)→(∀b,F' b→¬O' b)→I n O' F' W'→W'.heap[w.heap.size]? =some (.deferred (some []))→¬O' w.heap.size→¬F' w.heap.size→Q .normal {a with defers:={target:= .collected w.heap.size,args:=#[]} :: a.defers} W')
  (hstop:∀c k O' F' W',1≤k→k≤n→GrowM M Ow O' w W'→HS F' W'→(∀b,F b→F' b)→(∀b,F' b→F b∨w.heap.size≤b)→(∀b,F' b→¬O' b)→Ix c k O' F' W'→W'.heap[w.heap.size]? =some (.deferred (some []))→¬O' w.heap.size→¬F' w.heap.size→
    c.wpIn (WF none) m P Q {a with defers:={target:= .collected w.heap.size,args:=#[]} :: a.defers} W') :
  (Code.rangeFunc g ps assign body).wpIn (WF none) m P Q a w:=by
 refine wpIn_rangeFunc ?_
 intro fn hfn
 obtain ⟨W1,hW1⟩:∃W1,(w.alloc (.deferred (some []))).alloc (.loop (loopRec fn a.tmps ps assign body w.heap.size .ready none))=W1:=⟨_,rfl⟩
 have hL1:W1.heap[w.heap.size+1]? =some (.loop (loopRec fn a.tmps ps assign body w.heap.size .ready none)):=by
  rw [←hW1]; have:=World.alloc_heap_new (w.alloc (.deferred (some []))) (.loop (loopRec fn a.tmps ps assign body w.heap.size .ready none)); rwa [World.size_alloc] at this
 have hB1:Below w.heap.size w W1:=by rw [←hW1]; exact ((Below.refl _ w).alloc (zG _) _).alloc (by simp) _
 have hK1:W1.heap[w.heap.size]? =some (.deferred (some [])):=by
  rw [←hW1]; exact (Below.heap_alloc _ _ _ (by simp)).trans (World.alloc_heap_new w _)
 have hlt:=hIl 0 Ow F w h0
 have hFlt:=hH.lt F w hF
 have hF1:H F W1:=hH.stab F w W1 hF hB1.size (fun b hb=>hB1.block b (hFlt b hb))
 have hMlt:∀b,M b→b < w.heap.size:=fun b hb=>hFlt b (hH.sub F w hF b hb)
 have hJ:RJF (loopRec fn a.tmps ps assign body w.heap.size .ready none) (w.heap.size+1) (some w.heap.size) I 0 (fun b=>Ow b∨b=w.heap.size+1∨some w.heap.size=some b) F W1:=
  ⟨Ow,fun b=>Iff.rfl,fun h=>by have:=hlt _ h; omega,fun d hd=>by cases hd; exact ⟨fun h=>by have:=hlt _ h; omega,by omega,hK1⟩,hI 0 Ow F F w W1 h0 hB1.size (fun _ h=>h) (fun b hb=>hB1.block b (hb.elim (hlt b) (fun h=>hFlt b h.1))),hL1⟩
 have hlc:=heap_lt hL1
 have hC:=loop_clientH (P:=P) (m:=m) (fn:=fn) (tmps:=a.tmps) (D:=w.heap.size) (l:=w.heap.size+1) (Dk:=some w.heap.size) (n:=n) (V:=V) (M:=M) hps hI hIx hIl hIxl A hA Ow (fun b=>Ow b∨b=w.heap.size+1∨some w.heap.size=some b) w W1 (by omega) (fun O O1 W hO hG=>⟨fun b hb=>by
   have hb2:=hlt b hb
   rcases (hO b).mp (hG.sub b (.inl hb)) with h | h | h
   ·exact h
   ·omega
   ·cases h; omega,fun b hb=>by
   rcases hG.new b ((hO b).mpr (.inl hb)) with (h | h | h) | h
   ·exact .inl h
   ·exact .inr (by omega)
   ·cases h; exact .inr (by omega)
   ·exact .inr (by have:=hB1.size; omega),(Eff.of_below (O:=fun b=>Ow b∨M b) hB1).trans hG.eff fun b hb=>by
   rcases hb with (h | h | h) | h
   ·exact .inl (.inl h)
   ·exact .inr (by omega)
   ·cases h; exact .inr (by omega)
   ·exact .inl (.inr h)⟩) (hassign (w.heap.size+1)) (fun k O F a' W hk hG=>hbody (w.heap.size+1) k O F a' W hk hG (by omega))
 have hcall:=hseq _ _ _ _ F W1 hF1 (fun b hb h=>by
  have:=hFlt b hb
  rcases h with h | h | h
  ·exact hFO b hb h
  ·omega
  ·cases h; omega) hC hJ
 refine ⟨w.heap.size+1,[{target:= .collected w.heap.size,args:=#[]}],W1,{target:= .fn (.func gf) lb,args:=#[.func (.yield (w.heap.size+1)) #[] #[]]},W1,gf,
  #[.func (.yield (w.heap.size+1)) #[] #[]] ++ lb,W1,?_,?_,fun _ _=>trivial,?_,(fun h=>nomatch h),?_⟩
 ·rw [←hW1]; exact run_enterLoop_outer _ _ _ _ _
 ·simp only [resolve,hg]; simp [go_sem]
 ·simp [invoke,go_sem,eg]
 ·refine wf_calls.mpr (hcall.mono ?_)
  have back:∀(X:OwnF) (H2:Blk→World→Prop) (k:Nat) (O' F':Nat→Prop) (W2:World) (st:LoopState) (pe:Option Code),StabF M X→HostOk H2 M→st≠ .busy→GrowM M (fun b=>Ow b∨b=w.heap.size+1∨some w.heap.size=some b) O' W1 W2→
    H2 F' W2→(∀b,F' b→¬O' b)→RJF (loopRec fn a.tmps ps assign body w.heap.size st pe) (w.heap.size+1) (some w.heap.size) X k O' F' W2→
    (Instr.endLoop (w.heap.size+1)).run P W2= .ok pe (W2.putObj (w.heap.size+1) (.loop (loopRec fn a.tmps ps assign body w.heap.size .exhausted pe)))∧∃O2,GrowM M Ow O2 w (W2.putObj (w.heap.size+1) (.loop (loopRec fn a.tmps ps assign body w.heap.size .exhausted pe)))∧
      H2 F' (W2.putObj (w.heap.size+1) (.loop (loopRec fn a.tmps ps assign body w.heap.size .exhausted pe)))∧(∀b,F' b→¬O2 b)∧X k O2 F' (W2.putObj (w.heap.size+1) (.loop (loopRec fn a.tmps ps assign body w.heap.size .exhausted pe)))∧
      (W2.putObj (w.heap.size+1) (.loop (loopRec fn a.tmps ps assign body w.heap.size .exhausted pe))).heap[w.heap.size]? =some (.deferred (some []))∧¬O2 w.heap.size:=by
   rintro X H2 k O' F' W2 st pe hX hH2 hst hGM hF2 hFO2 ⟨O1,hO,hnl,hD,hi,hl⟩
   have hr:=run_endLoop (P:=P) hl hst
   have hO1:∀b,O1 b→O' b:=fun b hb=>(hO b).mpr (.inl hb)
   have hOl:O' (w.heap.size+1):=(hO _).mpr (.inr (.inl rfl))
   refine ⟨hr,O1,⟨fun b hb=>?_,fun b hb=>?_,?_⟩,hH2.stab F' W2 _ hF2 (by rw [World.putObj_size]; exact zG _) (fun b hb=>World.putObj_heap_other (fun e=>hFO2 b hb (e ▸ hOl))),fun b hb h=>hFO2 b hb (hO1 b h),hX _ _ _ _ _ _ hi (by rw [World.putObj_size]; exact zG _) (fun _ h=>h) (fun b hb=>World.putObj_heap_other (fun e=>by
     rcases hb with hb | hb
     ·exact hnl (e ▸ hb)
     ·exact hFO2 b hb.1 (e ▸ hOl))),(World.putObj_heap_other (by omega)).trans (hD _ rfl).2.2,(hD _ rfl).1⟩
   ·have hb2:=hlt b hb
    rcases (hO b).mp (hGM.sub b (.inl hb)) with h | h | h
    ·exact h
    ·omega
    ·cases h; omega
   ·rcases hGM.new b ((hO b).mpr (.inl hb)) with (h | h | h) | h
    ·exact .inl h
    ·exact .inr (by omega)
    ·cases h; exact .inr (by omega)
    ·exact .inr (by have:=hB1.size; omega)
   ·refine Eff.putObj ((Eff.of_below (O:=fun b=>Ow b∨M b) hB1).trans hGM.eff fun b hb=>?_) (.inr (by omega)) _
    rcases hb with (h | h | h) | h
    ·exact .inl (.inl h)
    ·exact .inr (by omega)
    ·cases h; exact .inr (by omega)
    ·exact .inl (.inr h)
  rintro e W2 ⟨⟨v,rfl⟩,O',F',hGM,hFs,hFn,hFO2,hend⟩
  have hFn2:∀b,F' b→F b∨w.heap.size≤b:=fun b hb=>by
   rcases hFn b hb with h | h
   ·exact .inl h
   ·exact .inr (by have:=hB1.size; omega)
  have nFD:¬F' w.heap.size:=fun h=>hFO2 _ h (hGM.sub _ (.inr (.inr rfl)))
  rcases hend with ⟨hF2,hj⟩ | ⟨hF2,k,hk1,hk2,c,hj⟩
  ·obtain ⟨h1,O2,h2,h3,h4,h5,h6,h7⟩:=back I HN n O' F' W2 .ready none hI hN (by simp) hGM hF2 hFO2 hj
   exact ⟨none,_,h1,hdone O2 F' _ h2 h3 hFs hFn2 h4 h5 h6 h7 nFD⟩
  ·obtain ⟨h1,O2,h2,h3,h4,h5,h6,h7⟩:=back (Ix c) HS k O' F' W2 .done (some c) (hIx c) hS (by simp) hGM hF2 hFO2 hj
   exact ⟨some c,_,h1,hstop c k O2 F' _ hk1 hk2 h2 h3 hFs hFn2 h4 h5 h6 h7 nFD⟩
end
section
open Go.RowKit Go.Maps
attribute [local go_sem] Oper.semAt_some
structure BxF (M:Blk) (xf xu:Nat) (f u:Int) (F:Blk) (W:World):Prop where
 inf:F xf∧¬M xf
 inu:F xu∧¬M xu
 cf:W.cell? ⟨xf,0,none⟩=some (.int .i64 f)
 cu:W.cell? ⟨xu,0,none⟩=some (.int .i64 u)
theorem BxF.keep {M:Blk} {xf xu:Nat} {f u:Int} {F F':Blk} {W W':World} (h:BxF M xf xu f u F W) (hF:∀b,F b→F' b) (hb:∀b,F b∧¬M b→W'.heap[b]? =W.heap[b]?):BxF M xf xu f u F' W':=
 ⟨⟨hF _ h.inf.1,h.inf.2⟩,⟨hF _ h.inu.1,h.inu.2⟩,(World.cell?_of_block (w:=W) (a:=⟨xf,0,none⟩) (hb _ h.inf)).trans h.cf,(World.cell?_of_block (w:=W) (a:=⟨xu,0,none⟩) (hb _ h.inu)).trans h.cu⟩
structure HSk (cs:List Cl) (br bk:Nat) (bps:List Nat) (xe xf xu xr:Nat) (f u:Int) (Inv:(Nat→Bool)→Nat→Prop) (F:Blk) (W:World):Prop where
 roll:∃ws m,RollS W cs br bk bps F ws m∧Inv ws m
 bx:BxF (RM br bk bps) xf xu f u F W
 ine:F xe∧¬RM br bk bps xe
 inr:F xr∧¬RM br bk bps xr
 ce:W.cell? ⟨xe,0,none⟩=some (.int .i64 0)
 cr:W.cell? ⟨xr,0,none⟩=some (.pointer (some ⟨br,0,none⟩))
section
variable {cs:List Cl} {br bk:Nat} {bps:List Nat} {xe xf xu xr:Nat} {f u:Int} {Inv Inv':(Nat→Bool)→Nat→Prop} {F F':Blk} {W W':World}
theorem HSk.keep (h:HSk cs br bk bps xe xf xu xr f u Inv F W) (hs:W.heap.size≤W'.heap.size) (hb:∀b,F b→W'.heap[b]? =W.heap[b]?):HSk cs br bk bps xe xf xu xr f u Inv F W':=by
 obtain ⟨ws,m,h1,h2⟩:=h.roll
 exact ⟨⟨ws,m,h1.keep hs hb,h2⟩,h.bx.keep (fun _ h=>h) (fun b hF=>hb b hF.1),h.ine,h.inr,(World.cell?_of_block (w:=W) (a:=⟨xe,0,none⟩) (hb _ h.ine.1)).trans h.ce,(World.cell?_of_block (w:=W) (a:=⟨xr,0,none⟩) (hb _ h.inr.1)).trans h.cr⟩
theorem HSk.lt (h:HSk cs br bk bps xe xf xu xr f u Inv F W):∀b,F b→b < W.heap.size:=by
 obtain ⟨ws,m,h1,h2⟩:=h.roll; exact h1.x.lt
theorem HSk.sub (h:HSk cs br bk bps xe xf xu xr f u Inv F W):∀b,RM br bk bps b→F b:=by
 obtain ⟨ws,m,h1,h2⟩:=h.roll; exact h1.x.sub
theorem HSk.host:HostOk (HSk cs br bk bps xe xf xu xr f u Inv) (RM br bk bps):=⟨fun F W W' h hs hb=>h.keep hs hb,fun F W h=>h.lt,fun F W h=>h.sub⟩
theorem HSk.step (h:HSk cs br bk bps xe xf xu xr f u Inv F W) {ws:Nat→Bool} {m:Nat} (hR:RollS W' cs br bk bps F' ws m) (hI:Inv' ws m) (hF:∀b,F b→F' b) (hb:∀b,F b→¬RM br bk bps b→W'.heap[b]? =W.heap[b]?):HSk cs br bk bps xe xf xu xr f u Inv' F' W':=
 ⟨⟨ws,m,hR,hI⟩,h.bx.keep hF (fun b hF=>hb b hF.1 hF.2),⟨hF _ h.ine.1,h.ine.2⟩,⟨hF _ h.inr.1,h.inr.2⟩,(World.cell?_of_block (w:=W) (a:=⟨xe,0,none⟩) (hb _ h.ine.1 h.ine.2)).trans h.ce,(World.cell?_of_block (w:=W) (a:=⟨xr,0,none⟩) (hb _ h.inr.1 h.inr.2)).trans h.cr⟩
end
def InvS (j:Nat) (ws:Nat→Bool) (m:Nat):Prop:=m≤j
theorem invS_step {cs:List Cl} {n:Int} {j:Nat} {ws ws':Nat→Bool} {m m':Nat} (h:InvS j ws m) (hs:AtStep cs n ws m ws' m'):InvS (j+1) ws' m':=by
 have:=(at_more hs).1; rw [InvS] at h⊢; omega
theorem rollall_enters (args:Array Value) (w:World):(callFunc 124 args).run Tryz.prog w= .ok (.enter 124 args) w:=by simp [go_sem]
structure SkD (cs:List Cl) (M:Blk) (n:Int) (d bx:Nat) (O F:Blk) (W:World):Prop where
 dj:∀b,F b→¬O b
 di:DiF W F M d (dayQ cs n)
 tab:Tab W∧F 0
 lt:∀b,F b→b < W.heap.size
 lx:bx < W.heap.size
 nx:¬O bx∧¬F bx
 sh:ShS W bx (shF n)
theorem SkD.put {cs:List Cl} {M:Blk} {n:Int} {d bx l:Nat} {O F:Blk} {W:World} {o:Obj} (h:SkD cs M n d bx O F W) (hr:∃r,W.heap[l]? =some (.loop r)) (hF:¬F l):SkD cs M n d bx O F (W.putObj l o):=by
 have ps:(W.putObj l o).heap.size=W.heap.size:=World.putObj_size
 have ko:∀b,F b→(W.putObj l o).heap[b]? =W.heap[b]?:=fun b hb=>World.putObj_heap_other (fun e=>hF (e ▸ hb))
 exact ⟨h.dj,⟨h.di.1,h.di.2.1,h.di.2.2.block (by rw [ps]; exact zG _) (ko _ h.di.1)⟩,⟨⟨by rw [ps]; exact h.tab.1.1,fun i hi=>(World.cell?_of_block (w:=W) (a:=⟨0,i,none⟩) (ko _ h.tab.2)).trans (h.tab.1.2 i hi)⟩,h.tab.2⟩,by rw [ps]; exact h.lt,by rw [ps]; exact h.lx,h.nx,shS_put h.sh hr⟩
def SkT (h0 h1 h2 h3 h4 h5 h6 h7:Value) (ds:List Deferred) (a:Act):Prop:=∃V:Nat→Value,a= {tmps:=#[h0,h1,h2,h3,h4,h5,h6,h7,V 8,V 9,V 10,V 11,V 12,V 13,V 14,V 15,V 16,V 17,V 18,V 19,V 20,V 21,V 22,V 23,V 24,V 25,V 26,V 27,V 28,V 29,V 30,V 31,V 32,V 33,V 34,V 35,V 36,V 37,V 38,V 39,V 40,V 41,V 42,V 43,V 44,V 45,V 46,V 47,V 48,V 49,V 50,V 51,V 52,V 53,V 54,V 55,V 56,V 57,V 58],defers:=ds}
theorem SkT.of {h0 h1 h2 h3 h4 h5 h6 h7 u8 u9 u10 u11 u12 u13 u14 u15 u16 u17 u18 u19 u20 u21 u22 u23 u24 u25 u26 u27 u28 u29 u30 u31 u32 u33 u34 u35 u36 u37 u38 u39 u40 u41 u42 u43 u44 u45 u46 u47 u48 u49 u50 u51 u52 u53 u54 u55 u56 u57 u58:Value} {ds:List Deferred}:SkT h0 h1 h2 h3 h4 h5 h6 h7 ds {tmps:=#[h0,h1,h2,h3,h4,h5,h6,h7,u8,u9,u10,u11,u12,u13,u14,u15,u16,u17,u18,u19,u20,u21,u22,u23,u24,u25,u26,u27,u28,u29,u30,u31,u32,u33,u34,u35,u36,u37,u38,u39,u40,u41,u42,u43,u44,u45,u46,u47,u48,u49,u50,u51,u52,u53,u54,u55,u56,u57,u58],defers:=ds}:=⟨fun i=>(#[u8,u9,u10,u11,u12,u13,u14,u15,u16,u17,u18,u19,u20,u21,u22,u23,u24,u25,u26,u27,u28,u29,u30,u31,u32,u33,u34,u35,u36,u37,u38,u39,u40,u41,u42,u43,u44,u45,u46,u47,u48,u49,u50,u51,u52,u53,u54,u55,u56,u57,u58]:Array Value).getD (#[0,0,0,0,0,0,0,0,0,1,2,3,4,5,6,7,8,9,10,11,12,13,14,15,16,17,18,19,20,21,22,23,24,25,26,27,28,29,30,31,32,33,34,35,36,37,38,39,40,41,42,43,44,45,46,47,48,49,50].getD i 0) undef,rfl⟩
end
section
open Go.RowKit Go.Maps
attribute [local go_sem] Oper.semAt_some
structure TwoC (b:Nat) (x y:Int) (O:Blk) (W:World):Prop where
 c4:W.cell? ⟨b,0,none⟩=some (.int .i64 x)
 c5:W.cell? ⟨b+1,0,none⟩=some (.int .i64 y)
 f4:W.frozen? ⟨b,0,none⟩=false
 f5:W.frozen? ⟨b+1,0,none⟩=false
 o4:O b
 o5:O (b+1)
 lt:∀c,O c→c < W.heap.size
theorem TwoC.keep {b:Nat} {x y:Int} {O:Blk} {W W':World} (h:TwoC b x y O W) (hs:W.heap.size≤W'.heap.size) (hb:∀c,O c→W'.heap[c]? =W.heap[c]?):TwoC b x y O W':=
 ⟨(World.cell?_of_block (w:=W) (a:=⟨b,0,none⟩) (hb _ h.o4)).trans h.c4,(World.cell?_of_block (w:=W) (a:=⟨b+1,0,none⟩) (hb _ h.o5)).trans h.c5,
  (World.frozen?_of_block (w:=W) (a:=⟨b,0,none⟩) (hb _ h.o4)).trans h.f4,(World.frozen?_of_block (w:=W) (a:=⟨b+1,0,none⟩) (hb _ h.o5)).trans h.f5,h.o4,h.o5,fun c hc=>zH (h.lt c hc) hs⟩
theorem TwoC.set {b:Nat} {x y x' y':Int} {O:Blk} {W:World} (h:TwoC b x y O W):TwoC b x' y' O ((W.setCell ⟨b,0,none⟩ (.int .i64 x')).setCell ⟨b+1,0,none⟩ (.int .i64 y')):=by
 obtain ⟨h1,h2,h3,h4,h5,h6,h7⟩:=h
 refine ⟨?_,?_,?_,?_,h5,h6,fun c hc=>by simpa using h7 c hc⟩ <;> simp [go_sem,h1,h2,h3,h4]
end
section
open Go.RowKit Go.Maps
theorem run_same_diff {P:Program} {w:World} {d x:Nat} (cd:(w.cell? ⟨d,0,none⟩).isSome=true) (cx:(w.cell? ⟨x,0,none⟩).isSome=true) (hd:∀i,w.frozen? ⟨d,i,none⟩=false) (hx:∀i,w.frozen? ⟨x,i,none⟩=false) (hne:d≠x) :
  (sameAddr ⟨d,0,none⟩ ⟨x,0,none⟩).run P w= .ok false w:=by
 have key:∀b,(w.cell? ⟨b,0,none⟩).isSome=true→∃c t s,w.heap[b]? =some (.cells c t s):=fun b h=>by
  unfold World.cell? at h
  split at h
  ·exact ⟨_,_,_,by assumption⟩
  ·cases h
 obtain ⟨c1,t1,s1,e1⟩:=key d cd
 obtain ⟨c2,t2,s2,e2⟩:=key x cx
 have sd:w.shape? d=some (t1,c1.size):=by unfold World.shape?; rw [e1]
 have sx:w.shape? x=some (t2,c2.size):=by unfold World.shape?; rw [e2]
 simp [sameAddr,hne,noView,viewAt,mayBeOne,stringish,hd,hx,sd,sx]
structure CntC (bl:Nat) (c:Option Nat) (m:Int) (W:World):Prop where
 cl:W.cell? ⟨bl,0,none⟩=some (dptr c)
 cm:W.cell? ⟨bl+1,0,none⟩=some (.int .i64 m)
 fl:W.frozen? ⟨bl,0,none⟩=false
 fm:W.frozen? ⟨bl+1,0,none⟩=false
 lt:bl+1 < W.heap.size
theorem CntC.block {bl:Nat} {c:Option Nat} {m:Int} {W W':World} (h:CntC bl c m W) (hs:W.heap.size≤W'.heap.size) (h0:W'.heap[bl]? =W.heap[bl]?) (h1:W'.heap[bl+1]? =W.heap[bl+1]?):CntC bl c m W':=
 ⟨(World.cell?_of_block (w:=W) (a:=⟨bl,0,none⟩) h0).trans h.cl,(World.cell?_of_block (w:=W) (a:=⟨bl+1,0,none⟩) h1).trans h.cm,
  (World.frozen?_of_block (w:=W) (a:=⟨bl,0,none⟩) h0).trans h.fl,(World.frozen?_of_block (w:=W) (a:=⟨bl+1,0,none⟩) h1).trans h.fm,zH h.lt hs⟩
theorem CntC.set {bl:Nat} {c c':Option Nat} {m m':Int} {W:World} (h:CntC bl c m W):CntC bl c' m' ((W.setCell ⟨bl,0,none⟩ (dptr c')).setCell ⟨bl+1,0,none⟩ (.int .i64 m')):=by
 obtain ⟨h1,h2,h3,h4,h5⟩:=h
 refine ⟨?_,?_,?_,?_,by simpa using h5⟩ <;> simp [go_sem,h1,h2,h3,h4]
def Knows (c:Option Nat) (m:Int) (M F:Blk) (W:World):Prop:=∀x,c=some x→F x∧¬M x∧∃q,DiscAt W x q∧m= ((secL q).length:Nat)
theorem Knows.none {m:Int} {M F:Blk} {W:World}:Knows none m M F W:=fun x h=>by cases h
theorem Knows.keep {c:Option Nat} {m:Int} {M F F':Blk} {W W':World} (h:Knows c m M F W) (hs:W.heap.size≤W'.heap.size) (hF:∀b,F b→F' b) (hb:∀b,F b∧¬M b→W'.heap[b]? =W.heap[b]?):Knows c m M F' W':=fun x hx=>by
 obtain ⟨h1,h2,q,h3,h4⟩:=h x hx
 exact ⟨hF x h1,h2,q,h3.block hs (hb x ⟨h1,h2⟩),h4⟩
end
section
open Go.RowKit Go.Maps
def PtrOk (w:World) (d:Option Nat):Prop:=∀x,d=some x→(w.cell? ⟨x,0,none⟩).isSome=true∧∀i,w.frozen? ⟨x,i,none⟩=false
theorem PtrOk.disc {w:World} {d:Option Nat} {q:Nat→Bool} (h:DiscO w d q):PtrOk w d:=fun x hx=>by
 subst hx
 obtain ⟨f,h1,h2,-⟩:=h
 exact ⟨by rw [h1 0 (by omega)]; rfl,h2⟩
theorem PtrOk.block {w w':World} {d:Option Nat} (h:PtrOk w d) (hb:∀x,d=some x→w'.heap[x]? =w.heap[x]?):PtrOk w' d:=fun x hx=>by
 obtain ⟨h1,h2⟩:=h x hx
 exact ⟨by rw [World.cell?_of_block (w:=w) (a:=⟨x,0,none⟩) (hb x hx)]; exact h1,fun i=>(World.frozen?_of_block (w:=w) (a:=⟨x,i,none⟩) (hb x hx)).trans (h2 i)⟩
theorem ptrEq_run {w:World} {d e:Option Nat} (hd:PtrOk w d) (he:PtrOk w e) (n:Nat):(Op.equalIn (n+1) 125 (dptr d) (dptr e)).run Tryz.prog w= .ok (decide (d=e)) w:=by
 have hp:=Tryz.underlying125
 cases d with
 | none=>
   cases e with
   | none=>simp [Op.equalIn,run_underlying hp,dptr]
   | some y=>simp [Op.equalIn,run_underlying hp,dptr]
 | some x=>
   cases e with
   | none=>simp [Op.equalIn,run_underlying hp,dptr]
   | some y=>
     have hi:((Tryz.prog.info? 205).map fun i=>decide (i.size≠0))=some true:=by kernel_rfl
     cases hj:Tryz.prog.info? 205 with
     | none=>rw [hj] at hi; cases hi
     | some j=>
       rw [hj] at hi
       have hsz:j.size≠0:=by simpa using hi
       have hs:(sameAddr ⟨x,0,none⟩ ⟨y,0,none⟩).run Tryz.prog w= .ok (decide (x=y)) w:=by
        by_cases hne:x=y
        ·subst hne; rw [run_sameAddr_same]; simp
        ·rw [run_same_diff (hd x rfl).1 (he y rfl).1 (hd x rfl).2 (he y rfl).2 hne]; simp [hne]
       simp [Op.equalIn,run_underlying hp,sizeOf,typeInfo,hj,hsz,hs,dptr]
end
end Go.Proofs.YthimhfmnikfgaaaGreatDoor
