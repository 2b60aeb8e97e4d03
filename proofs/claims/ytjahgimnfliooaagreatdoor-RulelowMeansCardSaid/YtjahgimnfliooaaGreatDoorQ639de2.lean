/-
  The law of a range over a function that has a state of its own: while it tells it turns the blocks M, and reads those of F.
  week.Days makes a function that tells the shapes of days, from one to another one.
  What roll.All and roll.Back tell, and of which blocks they are good.
-/
import Derived.Test.YtjahgimnfliooaaGreatDoorQf9f2c2
import Derived.Test.YtjahgimnfliooaaGreatDoorQ4951b9
import Derived.Test.YtjahgimnfliooaaGreatDoorQbd5244
import Derived.BigQuiet
import Derived.Deep.CutRange
import Derived.Test.YtjahgimnfliooaaGreatDoorQ3571b4
set_option maxRecDepth 100000
set_option maxHeartbeats 25600000
namespace Go.Proofs.YtjahgimnfliooaaGreatDoor
set_option linter.unusedVariables false
section
open Go.RowKit
abbrev OwnF:=Nat→Blk→Blk→World→Prop
abbrev atF (I:OwnF) (F:Blk):OwnP:=fun k O W=>I k O F W
def StabF (M:Blk) (I:OwnF):Prop:=∀k O F F' W W',I k O F W→W.heap.size≤W'.heap.size→(∀b,F b→F' b)→(∀b,O b∨(F b∧¬M b)→W'.heap[b]? =W.heap[b]?)→I k O F' W'
def LtF (I:OwnF):Prop:=∀k O F W,I k O F W→∀b,O b→b < W.heap.size
theorem StabF.of {M:Blk} {I:OwnP} (h:ybD I):StabF M (fun k O _ W=>I k O W):=fun k O F F' W W' hi hs _ hO=>h k O W W' hi hs (fun b hb=>hO b (.inl hb))
theorem LtF.of {I:OwnP} (h:LtO I):LtF (fun k O _ W=>I k O W):=fun k O _ W hi=>h k O W hi
structure GrowM (M O O':Blk) (W W':World):Prop where
 sub:∀b,O b→O' b
 new:∀b,O' b→O b∨W.heap.size≤b
 eff:Eff (fun b=>O b∨M b) W W'
theorem GrowM.refl (M O:Blk) (W:World):GrowM M O O W W:=⟨fun _ h=>h,fun _ h=> .inl h,Eff.refl _ _⟩
theorem Grow.toM {O O':Blk} {W W':World} (h:Grow O O' W W') (M:Blk):GrowM M O O' W W':=⟨h.sub,h.new,h.eff.wide fun b hb=> .inl hb⟩
theorem GrowM.trans {M O O' O2:Blk} {A B C:World} (h:GrowM M O O' A B) (k:GrowM M O' O2 B C):GrowM M O O2 A C:=
 ⟨fun b hb=>k.sub b (h.sub b hb),fun b hb=>by
  rcases k.new b hb with h1 | h1
  ·exact h.new b h1
  ·exact .inr (zI h.eff.size h1),h.eff.trans k.eff fun b hb=>by
  rcases hb with h1 | h1
  ·rcases h.new b h1 with h2 | h2
   ·exact .inl (.inl h2)
   ·exact .inr h2
  ·exact .inl (.inr h1)⟩
structure HostOk (H:Blk→World→Prop) (M:Blk):Prop where
 stab:∀F W W',H F W→W.heap.size≤W'.heap.size→(∀b,F b→W'.heap[b]? =W.heap[b]?)→H F W'
 lt:∀F W,H F W→∀b,F b→b < W.heap.size
 sub:∀F W,H F W→∀b,M b→F b
theorem HostOk.eff {H:Blk→World→Prop} {M F O:Blk} {W W':World} (h:HostOk H M) (hF:H F W) (he:Eff O W W') (hd:∀b,F b→¬O b):H F W':=
 h.stab F W W' hF he.size (fun b hb=>he.block b (h.lt F W hF b hb) (hd b hb))
structure ClientH (P:Program) (y:Value) (n:Nat) (V:Nat→Array Value→Blk→World→Prop) (M:Blk) (J Jx:OwnF) (O0:Blk) (W0:World):Prop where
 form:∃f fi cap,y= .func f fi cap
 stab:StabF M J
 stabx:StabF M Jx
 lt:LtF J
 ltx:LtF Jx
 call:∀k O F W vs,k < n→J k O F W→(∀b,F b→¬O b)→V k vs F W→GrowM M O0 O W0 W→CallV P y vs W fun e W'=>∃O':Blk,(∀b,O b→O' b)∧(∀b,O' b→O b∨W.heap.size≤b)∧Eff O W W'∧
  ((e= .returned (.bool true)∧J (k+1) O' F W')∨(e= .returned (.bool false)∧Jx (k+1) O' F W'))
def ToldH (n:Nat) (HN HS:Blk→World→Prop) (M:Blk) (J Jx:OwnF) (O F:Blk) (W W':World):Prop:=
 ∃O' F':Blk,GrowM M O O' W W'∧(∀b,F b→F' b)∧(∀b,F' b→F b∨W.heap.size≤b)∧(∀b,F' b→¬O' b)∧((HN F' W'∧J n O' F' W')∨(HS F' W'∧∃k,1≤k∧k≤n∧Jx k O' F' W'))
def TellsH (P:Program) (gf:Nat) (lb:Array Value) (n:Nat) (V:Nat→Array Value→Blk→World→Prop) (H HN HS:Blk→World→Prop) (M:Blk):Prop:=
 ∀(y:Value) (J Jx:OwnF) (O F:Blk) (W:World),H F W→(∀b,F b→¬O b)→ClientH P y n V M J Jx O W→J 0 O F W→Calls P gf (#[y] ++ lb) W fun e W'=>(∃v,e= .returned v)∧ToldH n HN HS M J Jx O F W W'
def RJF (rc:Loop) (l:Nat) (Dk:Option Nat) (I:OwnF):OwnF:=fun k O F W=>RJ rc l Dk (atF I F) k O W
theorem RJF.stab {rc:Loop} {l:Nat} {Dk:Option Nat} {M:Blk} {I:OwnF} (hI:StabF M I):StabF M (RJF rc l Dk I):=by
 rintro k O F F' W W' ⟨O1,h1,h2,h3,h4,h5⟩ hs hF hO
 exact ⟨O1,h1,h2,fun d hd=>⟨(h3 d hd).1,(h3 d hd).2.1,(hO d (.inl ((h1 d).mpr (.inr (.inr hd))))).trans (h3 d hd).2.2⟩,hI k O1 F F' W W' h4 hs hF (fun b hb=>hO b (hb.imp (fun h=>(h1 b).mpr (.inl h)) id)),(hO l (.inl ((h1 l).mpr (.inr (.inl rfl))))).trans h5⟩
theorem RJF.lt {rc:Loop} {l:Nat} {Dk:Option Nat} {I:OwnF} (hI:LtF I):LtF (RJF rc l Dk I):=fun k O F W h=>RJ.lt (I:=atF I F) (fun k O W=>hI k O F W) k O W h
theorem yha {P:Program} {m:Nat} {fn:FuncId} {tmps:Array Value} {ps:Array Tmp} {assign body:Code} {D l:Nat} {Dk:Option Nat} {n:Nat} {V:Nat→Array Value→Blk→World→Prop} {M:Blk}
  (hps:∀k vs F W,V k vs F W→vs.size=ps.size) {I:OwnF} {Ix:Code→OwnF} (hI:StabF M I) (hIx:∀c,StabF M (Ix c)) (hIl:LtF I) (hIxl:∀c,LtF (Ix c))
  (A:Nat→Blk→Blk→Act→World→Prop) (hA:∀l o k O F a' W,(∃r,W.heap[l]? =some (.loop r))→¬O l→¬F l→A k O F a' W→A k O F a' (W.putObj l o))
  (Ow O0:Blk) (w W1:World) (hwl:w.heap.size≤l) (hconv:∀O O1 W,(∀b,O b↔O1 b∨b=l∨Dk=some b)→GrowM M O0 O W1 W→GrowM M Ow O1 w W)
  (hassign:∀k O F W vs (K:Act→World→Prop),k < n→I k O F W→(∀b,F b→¬O b∧b≠l)→V k vs F W→GrowM M Ow O w W→(∀a' O' W',Grow O O' W W'→A k O' F a' W'→K a' W')→
    assign.wpIn (WF (some l)) m P (Exit.then K (fun _ _ _=>False)) {tmps:=(ps.zip vs).foldl (fun t (p,v)=>t.setIfInBounds p v) tmps,defers:= []} W)
  (hbody:∀k O F a' W,k < n→GrowM M Ow O w W→(∃r,W.heap[l]? =some (.loop r))→¬O l→¬F l→A k O F a' W→body.wpIn (WF (some l)) m P (yis (atF I F) (fun c=>atF (Ix c) F) k O W) a' W) :
  ClientH P (.func (.yield l) #[] #[]) n V M (RJF (yag fn tmps ps assign body D .ready none) l Dk I) (fun k O F W=>∃c,RJF (yag fn tmps ps assign body D .done (some c)) l Dk (Ix c) k O F W) O0 W1 where
 form:=⟨_,_,_,rfl⟩
 stab:=RJF.stab hI
 stabx:=fun k O F F' W W' ⟨c,h⟩ hs hF hO=>⟨c,RJF.stab (hIx c) k O F F' W W' h hs hF hO⟩
 lt:=RJF.lt hIl
 ltx:=fun k O F W ⟨c,h⟩=>RJF.lt (hIxl c) k O F W h
 call:=by
  rintro k O F W vs hk ⟨O1,hO,hnl,hD,hi,hll⟩ hFO hV hG0
  have hG:=hconv O O1 W hO hG0
  have hlt:=yan hll
  have hFl:¬F l:=fun h=>hFO l h ((hO l).mpr (.inr (.inl rfl)))
  have hy:=run_yield (P:=P) (args:=vs) hll (hps _ _ _ _ hV)
  refine .inr ⟨l,_,_,_,_,rfl,hy,fun m'=>ydl (r:=none) (m:=m) (roundIn_of_wpIn trivial ?_)⟩
  clear hy
  refine hassign k O1 F W vs _ hk hi (fun b hb=>⟨fun h=>hFO b hb ((hO b).mpr (.inl h)),fun h=>hFO b hb ((hO b).mpr (.inr (.inl h)))⟩) hV hG ?_
  intro a' O2 Wa hg2 ha
  have hla:=(hg2.eff.block l hlt hnl).trans hll
  have hDa:∀d,Dk=some d→Wa.heap[d]? =some (.deferred (some [])):=fun d hd=>(hg2.eff.block d (yan (hD d hd).2.2) (hD d hd).1).trans (hD d hd).2.2
  have hnew:∀b,b < W.heap.size→¬O1 b→¬O2 b:=fun b hb hn h=>by
   rcases hg2.new b h with h1 | h1
   ·exact hn h1
   ·omega
  have hnl2:=hnew l hlt hnl
  have hsz2:=hg2.eff.size
  refine ⟨_,run_beginRound hla rfl,?_⟩
  obtain ⟨Wb,hWb⟩:∃Wb,Wa.putObj l (.loop (yag fn tmps ps assign body D .busy none))=Wb:=⟨_,rfl⟩
  have hWs:Wb.heap.size=Wa.heap.size:=by rw [←hWb]; exact World.putObj_size
  have hWo:∀b,b≠l→Wb.heap[b]? =Wa.heap[b]?:=fun b hb=>by rw [←hWb]; exact World.putObj_heap_other hb
  have hWl:Wb.heap[l]? =some (.loop (yag fn tmps ps assign body D .busy none)):=by rw [←hWb]; exact World.putObj_heap_same (yan hla)
  have hEb:Eff O W Wb:=by rw [←hWb]; exact (hg2.eff.wide (fun b hb=>(hO b).mpr (.inl hb))).putObj (.inl ((hO l).mpr (.inr (.inl rfl)))) _
  have hGa:=hG.trans (hg2.toM M)
  have hb:=hbody k O2 F a' Wb hk ⟨hGa.sub,hGa.new,by rw [←hWb]; exact hGa.eff.putObj (.inr hwl) _⟩ ⟨_,hWl⟩ hnl2 hFl (by rw [←hWb]; exact hA _ _ _ _ _ _ _ ⟨_,hla⟩ hnl2 hFl ha)
  rw [hWb]
  refine wpIn_mono hb ?_
  have fin:∀(jump:Option Code) (O3:Nat→Prop) (W3:World),Grow O2 O3 Wb W3→∀(X:OwnF),StabF M X→X (k+1) O3 F W3→∃O':Nat→Prop,(∀b,O b→O' b)∧(∀b,O' b→O b∨W.heap.size≤b)∧
    (Instr.endRound l jump).run P W3= .ok (.bool jump.isNone) (W3.putObj l (.loop (yag fn tmps ps assign body D (if jump.isNone then .ready else .done) jump)))∧Eff O W (W3.putObj l (.loop (yag fn tmps ps assign body D (if jump.isNone then .ready else .done) jump)))∧
    RJF (yag fn tmps ps assign body D (if jump.isNone then .ready else .done) jump) l Dk X (k+1) O' F (W3.putObj l (.loop (yag fn tmps ps assign body D (if jump.isNone then .ready else .done) jump))):=fun jump O3 W3 hg3 X hX hx=>by
   have hl3:=(hg3.eff.block l (yan hWl) hnl2).trans hWl
   have hnew3:∀b,b < Wb.heap.size→¬O2 b→¬O3 b:=fun b hb hn h=>by
    rcases hg3.new b h with h1 | h1
    ·exact hn h1
    ·omega
   have hend:=run_endRound (P:=P) jump hl3
   refine ⟨fun b=>O3 b∨b=l∨Dk=some b,fun b hb=>?_,fun b hb=>?_,?_,?_,O3,fun b=>Iff.rfl,hnew3 l (yan hWl) hnl2,fun d hd=>?_,?_,?_⟩
   ·rcases (hO b).mp hb with h | h
    ·exact .inl (hg3.sub b (hg2.sub b h))
    ·exact .inr h
   ·rcases hb with h | h
    ·rcases hg3.new b h with h1 | h1
     ·rcases hg2.new b h1 with h2 | h2
      ·exact .inl ((hO b).mpr (.inl h2))
      ·exact .inr h2
     ·exact .inr (by omega)
    ·exact .inl ((hO b).mpr (.inr h))
   ·exact hend
   ·refine Eff.putObj (hEb.trans (hg3.eff) fun b hb=>?_) (.inl ((hO l).mpr (.inr (.inl rfl)))) _
    rcases hg2.new b hb with h2 | h2
    ·exact .inl ((hO b).mpr (.inl h2))
    ·exact .inr h2
   ·obtain ⟨d1,d2,d3⟩:=hD d hd
    have hd2:=hnew d (yan d3) d1
    have hdb:d < Wb.heap.size:=by have:=yan (hDa d hd); omega
    exact ⟨hnew3 d hdb hd2,d2,(World.putObj_heap_other d2).trans ((hg3.eff.block d hdb hd2).trans ((hWo d d2).trans (hDa d hd)))⟩
   ·exact hX _ _ _ _ _ _ hx (by rw [World.putObj_size]; exact zG _) (fun _ h=>h) (fun b hb=>World.putObj_heap_other (fun e=>by
     rcases hb with hb | hb
     ·exact hnew3 l (yan hWl) hnl2 (e ▸ hb)
     ·exact hFl (e ▸ hb.1)))
   ·exact World.putObj_heap_same (yan hl3)
  rintro e a3 W3 hp
  cases e with
  | normal=>
    obtain ⟨O3,hg3,hi3⟩:=hp
    obtain ⟨O',h1,h2,h3,h4,h5⟩:=fin none O3 W3 hg3 I hI hi3
    exact ⟨_,_,h3,O',h1,h2,h4, .inl ⟨rfl,h5⟩⟩
  | ret=>
    obtain ⟨O3,hg3,hi3⟩:=hp
    obtain ⟨O',h1,h2,h3,h4,h5⟩:=fin (some .ret) O3 W3 hg3 _ (hIx _) hi3
    exact ⟨_,_,h3,O',h1,h2,h4, .inr ⟨rfl,_,h5⟩⟩
  | exit id=>
    obtain ⟨O3,hg3,hi3⟩:=hp
    obtain ⟨O',h1,h2,h3,h4,h5⟩:=fin (some (.exit id)) O3 W3 hg3 _ (hIx _) hi3
    exact ⟨_,_,h3,O',h1,h2,h4, .inr ⟨rfl,_,h5⟩⟩
  | goto t=>
    obtain ⟨O3,hg3,hi3⟩:=hp
    obtain ⟨O',h1,h2,h3,h4,h5⟩:=fin (some (.goto t)) O3 W3 hg3 _ (hIx _) hi3
    exact ⟨_,_,h3,O',h1,h2,h4, .inr ⟨rfl,_,h5⟩⟩
  | panic ch=>exact hp.elim
  | outgrown=>exact hp.elim
end
section
open Go.RowKit
theorem WDays_any (a b:Int) (w:World):Calls Tryz.prog 105 #[.int .i64 a, .int .i64 b] w fun e w'=>e= .returned (.func (.func 153) #[] #[.pointer (some ⟨w.heap.size,0,none⟩), .pointer (some ⟨w.heap.size+1,0,none⟩)])∧
  w'.cell? ⟨w.heap.size,0,none⟩=some (.int .i64 (max a 0))∧w'.cell? ⟨w.heap.size+1,0,none⟩=some (.int .i64 (min b 146096))∧Below w.heap.size w w'∧w.heap.size+1 < w'.heap.size:=by
 go_enter Tryz.func105,Tryz.ntmps105
 go_upto_region 1 with fail
 go_region
 go_wp2
 all_goals
  go_ret
  refine ⟨rfl,?_,?_,(yaa (yaa (Below.refl _ _) (zG _)) (by simp)).drew,by simp⟩
 ·simp [go_sem]; omega
 ·simp [go_sem]; omega
 ·simp [go_sem]; omega
 ·simp [go_sem]; omega
 ·simp [go_sem]; omega
 ·simp [go_sem]; omega
 ·simp [go_sem]; omega
 ·simp [go_sem]; omega
def yb0 (l:List Int):List (Array Value):=l.map fun n=>#[shN n]
theorem ycZ (l:List Int):(yb0 l).length=l.length:=by simp [yb0]
theorem yfI {l:List Int} {k:Nat} (h:k < (yb0 l).length):(yb0 l)[k]= #[shN (l[k]'(by rw [ycZ] at h; exact h))]:=by simp [yb0]
theorem yjz {f:Int} (h0:0≤f) (h1:f < 146097):∃y m d o:Int,(y=fY f∧m=fMo f∧d=fD f∧o=fOr f)∧
  (∀W,Calls Tryz.prog 84 #[.int .i64 f] W fun e w'=>e= .returned (.tuple #[.int .i64 y, .int .i64 m, .int .i64 d, .bool true])∧Below W.heap.size W w')∧
  (∀W,Calls Tryz.prog 85 #[.int .i64 y, .int .i64 m, .int .i64 d] W fun e w'=>e= .returned (.tuple #[.int .i64 o, .bool true])∧Below W.heap.size W w'):=by
 obtain ⟨y0,y1,m0,m1,d0,d1⟩:=yaL h0 h1
 obtain ⟨g1,g2,g3⟩:=yhh h0 h1
 have hm:((fMo f).toNat:Int)=fMo f:=by omega
 refine ⟨_,_,_,_,⟨rfl,rfl,rfl,rfl⟩,fun W=>yfw f W h0 h1,fun W=>?_⟩
 have:=yju (fY f) (fMo f).toNat (fD f) W (by omega) (by omega) (by omega) (by omega) d0 (by rw [hm]; exact d1)
 rw [hm,g1] at this; exact this
theorem yjA {n y m d o:Int} (h0:0≤n) (h1:n < 146097) (hv:y=fY n∧m=fMo n∧d=fD n∧o=fOr n) :
  (∀W,Calls Tryz.prog 86 #[.int .i64 n, .int .i64 y, .int .i64 m, .int .i64 d, .int .i64 o] W fun e w'=>e= .returned (shN n)∧Below W.heap.size W w')∧
  (∀W,Calls Tryz.prog 132 #[.int .i64 y, .int .i64 m] W fun e w'=>e= .returned (.int .i64 (lenI y m))∧Below W.heap.size W w')∧
  0≤y∧y≤3000∧1≤m∧m≤12∧1≤d∧d≤31∧1≤o∧o≤366:=by
 obtain ⟨rfl,rfl,rfl,rfl⟩:=hv
 obtain ⟨y0,y1,m0,m1,d0,d1⟩:=yaL h0 h1
 obtain ⟨g1,g2,g3⟩:=yhh h0 h1
 have hl:=ybm (fY n) (fMo n)
 have hp:=ybn (fY n)
 exact ⟨fun W=>yfH n _ _ _ _ W h0 (by omega) y0 (by omega) m0 m1 d0 d1 g2 g3,fun W=>yda _ _ W (by omega) m0 m1,by omega,by omega,m0,m1,d0,by omega,g2,by omega⟩
theorem week_next {n y m d o:Int} (h0:0≤n) (h1:n < 146097) (hv:y=fY n∧m=fMo n∧d=fD n∧o=fOr n) :
  (d+1≤lenI y m→n+1 < 146097→y=fY (n+1)∧m=fMo (n+1)∧d+1=fD (n+1)∧o+1=fOr (n+1))∧
  (¬d+1≤lenI y m→m+1≤12→n+1 < 146097→y=fY (n+1)∧m+1=fMo (n+1)∧1=fD (n+1)∧o+1=fOr (n+1))∧
  (¬d+1≤lenI y m→¬m+1≤12→n+1 < 146097→y+1=fY (n+1)∧1=fMo (n+1)∧1=fD (n+1)∧1=fOr (n+1)):=by
 obtain ⟨rfl,rfl,rfl,rfl⟩:=hv
 refine ⟨fun h hn=>?_,fun h h2 hn=>?_,fun h h2 hn=>?_⟩
 ·obtain ⟨a,b,c,e⟩:=(ye0 h0 hn).1 h; exact ⟨a.symm,b.symm,c.symm,e.symm⟩
 ·obtain ⟨a,b,c,e⟩:=(ye0 h0 hn).2.1 h h2; exact ⟨a.symm,b.symm,c.symm,e.symm⟩
 ·obtain ⟨a,b,c,e⟩:=(ye0 h0 hn).2.2 h h2; exact ⟨a.symm,b.symm,c.symm,e.symm⟩
theorem yhu (f t:Int) (b1 b2:Nat) (y:Value) (J Jx:OwnP) (O:Nat→Prop) (W:World) (h0:0≤f) (hf1:f≤146097) (h1:t≤146096) (ht0:-1≤t)
  (hC:ClientV Tryz.prog y (yb0 (yao f t)) J Jx O W) (hJ:J 0 O W) (hb1:b1 < W.heap.size) (hb2:b2 < W.heap.size) (n1:¬O b1) (n2:¬O b2)
  (c1:W.cell? ⟨b1,0,none⟩=some (.int .i64 f)) (c2:W.cell? ⟨b2,0,none⟩=some (.int .i64 t)) :
  Calls Tryz.prog 153 #[y, .pointer (some ⟨b1,0,none⟩), .pointer (some ⟨b2,0,none⟩)] W fun e W'=>(∃v,e= .returned v)∧ToldV (yb0 (yao f t)) J Jx O W W':=by
 obtain ⟨yf,yi,yc,rfl⟩:=hC.form
 have HC:=hid hC
 have HJ:=hid hJ
 have HN:=hid (And.intro n1 n2)
 refine (wf_calls (r:=none) (n:=1)).mp ?_
 by_cases hft:t < f
 ·have hx:yao f t= []:=yfk hft
  rw [hx]
  clear hC hJ n1 n2 hx HC
  gi_enter Tryz.func153,Tryz.ntmps153
  gi_wp2
  refine bodyPost_ret (results_none rfl _ _ _) rfl ?_
  exact ⟨⟨_,rfl⟩,O,fun _ h=>h,fun _ h=> .inl h,Eff.refl _ _, .inl HJ.out⟩
 ·obtain ⟨L,hL⟩:∃L,(yao f t).length=L:=⟨_,rfl⟩
  have hLe:f+(L:Int)=t+1:=by rw [←hL,ybC]; omega
  have HL:Hid ((yb0 (yao f t)).length=L):=by show _ = _; rw [ycZ,hL]
  have hget:Hid (∀k (hk:k < (yb0 (yao f t)).length),(yb0 (yao f t))[k]= #[shN (f+k)]):=fun k hk=>by rw [yfI hk,ycP]
  obtain ⟨xs,hxs⟩:∃xs,yb0 (yao f t)=xs:=⟨_,rfl⟩
  rw [hxs] at HL hget HC⊢
  obtain ⟨vy,vm,vd,vo,hv,cD,cO⟩:=yjz h0 (show f < 146097 by omega)
  have HV:=hid hv
  have CD:=hid cD
  have CO:=hid cO
  have HC1:=hid c1
  have HC2:=hid c2
  clear hC hJ n1 n2 hxs hL hv cD cO
  gi_enter Tryz.func153,Tryz.ntmps153
  gi_wp2_with fail
  refine (wf_calls.mpr (CD.out _)).mono ?_
  rintro e w1 ⟨rfl,hB1⟩
  have HB1:=hid hB1
  clear hB1
  gi_wp2_with fail
  refine (wf_calls.mpr (CO.out _)).mono ?_
  rintro e w2 ⟨rfl,hB2⟩
  have hB2':Below W.heap.size W w2:=HB1.out.trans (hB2.mono HB1.out.size)
  have HB2:=hid hB2'
  have k1:=(hB2'.cell (p:=⟨b1,0,none⟩) hb1).trans HC1.out
  have HJ2:Hid (J 0 O w2):=HC.out.stab 0 O W w2 HJ.out hB2'.size (fun b hb=>hB2'.block b (HC.out.lt 0 O W HJ.out b hb))
  clear hB2 hB2' c1 c2
  gi_wp2_with fail
  gi_loopw [4,5,6,8,10] (fun y4 m5 d6 o8 n10 wr=>∃(k:Nat) (vy vm vd vo:Int) (O':Nat→Prop),y4= .int .i64 vy∧m5= .int .i64 vm∧d6= .int .i64 vd∧o8= .int .i64 vo∧n10= .int .i64 (f+k)∧k≤L∧
   Hid (k < L→vy=fY (f+k)∧vm=fMo (f+k)∧vd=fD (f+k)∧vo=fOr (f+k))∧Hid (J k O' wr∧(∀b,O b→O' b)∧(∀b,O' b→O b∨W.heap.size≤b)∧Eff O W wr)) (fun y4 m5 d6 o8 n10 wr=>(t+1 - intOf n10).toNat)
  case atStart=>exact ⟨0,vy,vm,vd,vo,O,rfl,rfl,rfl,rfl,by simp,by omega,fun _=>by simpa using HV.out,HJ2.out,fun _ h=>h,fun _ h=> .inl h,Eff.of_below HB2.out⟩
  case round=>
   obtain ⟨k,vy,vm,vd,vo,O',rfl,rfl,rfl,rfl,rfl,hk,hvv,hI⟩:=hrel
   have q2:=(hI.out.2.2.2.cell (p:=⟨b2,0,none⟩) hb2 HN.out.2).trans HC2.out
   by_cases hlt:k < L
   ·obtain ⟨cS,cL,v0,v1,v2,v3,v4,v5,v6,v7⟩:=yjA (show 0≤f+k by omega) (show f+k < 146097 by omega) (hvv.out hlt)
    obtain ⟨x1,x2,x3⟩:=week_next (show 0≤f+k by omega) (show f+k < 146097 by omega) (hvv.out hlt)
    have X1:=hid x1
    have X2:=hid x2
    have X3:=hid x3
    have CS:=hid cS
    have CL:=hid cL
    obtain ⟨ln,hln⟩:∃ln,lenI vy vm=ln:=⟨_,rfl⟩
    rw [hln] at X1 X2 X3 CL
    have hkx:k < xs.length:=by rw [HL.out]; exact hlt
    have Hkx:=hid hkx
    clear x1 x2 x3 cS cL hln hvv hkx
    gi_wp2_with fail
    refine (wf_calls.mpr (CS.out _)).mono ?_
    rintro e w3 ⟨rfl,hB3⟩
    have hE3:Eff O W w3:=hI.out.2.2.2.trans (Eff.of_below (O:=O') hB3) hI.out.2.2.1
    have hJ3:J k O' w3:=HC.out.stab k O' wr w3 hI.out.1 hB3.size (fun b hb=>hB3.block b (HC.out.lt k O' wr hI.out.1 b hb))
    have hcall:=HC.out.call k O' w3 Hkx.out hJ3 ⟨hI.out.2.1,hI.out.2.2.1,hE3⟩
    rw [hget.out k Hkx.out] at hcall
    have Hcall:=hid hcall
    have HE3:=hid hE3
    clear hB3 hE3 hJ3 hcall
    gi_wp2_with (refine callv (.tmp 34) (.tmp 40) _ rfl rfl rfl rfl Hcall.out ?_)
    rintro e W4 O4 hOO hO4 hE4 hend
    have hE44:Eff O W W4:=HE3.out.trans hE4 hI.out.2.2.1
    have hOs:Hid ((∀b,O b→O4 b)∧(∀b,O4 b→O b∨W.heap.size≤b)∧Eff O W W4):=⟨fun b h=>hOO b (hI.out.2.1 b h),fun b h=>by
     rcases hO4 b h with h1 | h1
     ·exact hI.out.2.2.1 b h1
     ·have:=HE3.out.size; exact .inr (by omega),hE44⟩
    clear hOO hO4 hE4 hE44 q2
    rcases hend with ⟨rfl,hJ4⟩ | ⟨rfl,hJ4⟩
    ·have HJ4:=hid hJ4
     clear hJ4
     refine ⟨_,rfl,?_⟩
     have stab:Hid (∀w5,Below W4.heap.size W4 w5→J (k+1) O4 w5∧(∀b,O b→O4 b)∧(∀b,O4 b→O b∨W.heap.size≤b)∧Eff O W w5):=fun w5 hB5=>
      ⟨HC.out.stab (k+1) O4 W4 w5 HJ4.out hB5.size (fun b hb=>hB5.block b (HC.out.lt (k+1) O4 W4 HJ4.out b hb)),hOs.out.1,hOs.out.2.1,hOs.out.2.2.trans (Eff.of_below (O:=O4) hB5) hOs.out.2.1⟩
     gi_wp2_with fail
     refine (wf_calls.mpr (CL.out _)).mono ?_
     rintro e w5 ⟨rfl,hB5⟩
     have HB5:=hid hB5
     clear hB5
     by_cases g1:vd+1≤ln
     ·gi_wp2
      refine ⟨⟨k+1,_,_,_,_,O4,rfl,rfl,rfl,rfl,by go_num,by omega,fun hk1=>?_,stab.out _ HB5.out⟩,by simp [intOf]; omega⟩
      have:=X1.out g1 (by omega)
      rwa [show f+(k:Int)+1=f+((k+1:Nat):Int) by omega] at this
     ·by_cases g2:vm+1≤12
      ·gi_wp2
       refine ⟨⟨k+1,_,_,_,_,O4,rfl,rfl,rfl,rfl,by go_num,by omega,fun hk1=>?_,stab.out _ HB5.out⟩,by simp [intOf]; omega⟩
       have:=X2.out g1 g2 (by omega)
       rwa [show f+(k:Int)+1=f+((k+1:Nat):Int) by omega] at this
      ·gi_wp2
       refine ⟨⟨k+1,_,_,_,_,O4,rfl,rfl,rfl,rfl,by go_num,by omega,fun hk1=>?_,stab.out _ HB5.out⟩,by simp [intOf]; omega⟩
       have:=X3.out g1 g2 (by omega)
       rwa [show f+(k:Int)+1=f+((k+1:Nat):Int) by omega] at this
    ·have HJ4:=hid hJ4
     clear hJ4
     refine ⟨_,rfl,?_⟩
     gi_wp2
     refine bodyPost_ret (results_none rfl _ _ _) rfl ?_
     exact ⟨⟨_,rfl⟩,O4,hOs.out.1,hOs.out.2.1,hOs.out.2.2, .inr ⟨k+1,by omega,by rw [HL.out]; omega,HJ4.out⟩⟩
   ·obtain rfl:k=L:=by omega
    gi_wp2
    go_end0
    exact ⟨⟨_,rfl⟩,O',hI.out.2.1,hI.out.2.2.1,hI.out.2.2.2, .inl (by rw [HL.out]; exact hI.out.1)⟩
theorem yjy (f t:Int) (b1 b2:Nat) (Ow:Nat→Prop) (w:World) (h0:0≤f) (hf1:f≤146097) (h1:t≤146096) (ht0:-1≤t) (hb1:b1 < w.heap.size) (hb2:b2 < w.heap.size) (n1:¬Ow b1) (n2:¬Ow b2)
  (c1:w.cell? ⟨b1,0,none⟩=some (.int .i64 f)) (c2:w.cell? ⟨b2,0,none⟩=some (.int .i64 t)) :
  TellsV Tryz.prog 153 #[.pointer (some ⟨b1,0,none⟩), .pointer (some ⟨b2,0,none⟩)] (yb0 (yao f t)) Ow w:=by
 intro y J Jx O W hO hB hC hJ
 exact yhu f t b1 b2 y J Jx O W h0 hf1 h1 ht0 hC hJ (zH hb1 hB.size) (zH hb2 hB.size) (fun h=>by rcases hO b1 h with h1 | h1; exact n1 h1; omega) (fun h=>by rcases hO b2 h with h1 | h1; exact n2 h1; omega)
  ((hB.cell (p:=⟨b1,0,none⟩) hb1).trans c1) ((hB.cell (p:=⟨b2,0,none⟩) hb2).trans c2)
theorem yhO (args:Array Value) (w:World):(callFunc 153 args).run Tryz.prog w= .ok (.enter 153 args) w:=by simp [go_sem]
end
section
open Go.RowKit Go.Maps
theorem shS_put {W:World} {b l:Nat} {s:Nat→Int} {o:Obj} (h:ShS W b s) (hr:∃r,W.heap[l]? =some (.loop r)):ShS (W.putObj l o) b s:=by
 obtain ⟨h0,h1,h2,h3,h4,h5,h6,h7,h8,h9⟩:=h
 exact ⟨yaF hr h0,yaF hr h1,yaF hr h2,yaF hr h3,yaF hr h4,yaF hr h5,yaF hr h6,yaF hr h7,yaF hr h8,yaF hr h9⟩
def dayS (cs:List Cl) (l:List Int):List Int:=l.filter fun n=>anyQ (dayQ cs n)
def cntA (cs:List Cl) (l:List Int) (k:Nat):Nat:=(dayS cs (l.take k)).length
theorem cntA_all (cs:List Cl) (l:List Int):cntA cs l l.length= (dayS cs l).length:=by rw [cntA,List.take_length]
theorem cntA_snoc {cs:List Cl} {l:List Int} {k:Nat} {n:Int} (h:l[k]? =some n):cntA cs l (k+1)=cntA cs l k+if anyQ (dayQ cs n) then 1 else 0:=by
 obtain ⟨hk,rfl⟩:=zzq.1 h
 rw [cntA,yam l k hk,dayS,List.filter_append,List.length_append,cntA,dayS]
 cases hq:anyQ (dayQ cs l[k]) <;> simp [hq]
theorem cntA_at {cs:List Cl} {l:List Int} {k:Nat} {n:Int} (h:l[k]? =some n) (hq:anyQ (dayQ cs n)=true):(dayS cs l)[cntA cs l k]? =some n:=by
 obtain ⟨hk,rfl⟩:=zzq.1 h
 have e:dayS cs l=dayS cs (l.take k) ++ (l[k] :: dayS cs (l.drop (k+1))):=by
  rw [dayS,dayS,dayS]
  conv=>lhs; rw [←List.take_append_drop k l,List.drop_eq_getElem_cons hk]
  rw [List.filter_append,List.filter_cons,if_pos hq]
 rw [e,cntA,List.getElem?_append_right (zG _),Nat.sub_self]; rfl
def VRoll (cs:List Cl) (M:Blk) (xs:List Int) (k:Nat) (vs:Array Value) (F:Blk) (W:World):Prop:=
 ∃n d,xs[k]? =some n∧0≤n∧n < 146097∧vs= #[shN n, .pointer (some ⟨d,0,none⟩)]∧DiF W F M d (dayQ cs n)∧(Tab W∧F 0∧¬M 0)∧∀b,F b→b < W.heap.size
structure HA (cs:List Cl) (br bk:Nat) (bps:List Nat) (x1 x2 x3:Nat) (f t:Int) (Inv:(Nat→Bool)→Nat→Prop) (F:Blk) (W:World):Prop where
 roll:∃ws m,RollS W cs br bk bps F ws m∧Inv ws m
 inF:F x1∧F x2∧F x3
 out:¬RM br bk bps x1∧¬RM br bk bps x2∧¬RM br bk bps x3
 c1:W.cell? ⟨x1,0,none⟩=some (.int .i64 f)
 c2:W.cell? ⟨x2,0,none⟩=some (.int .i64 t)
 c3:W.cell? ⟨x3,0,none⟩=some (.pointer (some ⟨br,0,none⟩))
section
variable {cs:List Cl} {br bk:Nat} {bps:List Nat} {x1 x2 x3:Nat} {f t:Int} {Inv Inv':(Nat→Bool)→Nat→Prop} {F F':Blk} {W W':World}
theorem HA.keep (h:HA cs br bk bps x1 x2 x3 f t Inv F W) (hs:W.heap.size≤W'.heap.size) (hb:∀b,F b→W'.heap[b]? =W.heap[b]?):HA cs br bk bps x1 x2 x3 f t Inv F W':=by
 obtain ⟨ws,m,h1,h2⟩:=h.roll
 have c:∀b,F b→W'.cell? ⟨b,0,none⟩=W.cell? ⟨b,0,none⟩:=fun b hF=>zzJ (w:=W) (a:=⟨b,0,none⟩) (hb b hF)
 exact ⟨⟨ws,m,h1.keep hs hb,h2⟩,h.inF,h.out,(c _ h.inF.1).trans h.c1,(c _ h.inF.2.1).trans h.c2,(c _ h.inF.2.2).trans h.c3⟩
theorem HA.lt (h:HA cs br bk bps x1 x2 x3 f t Inv F W):∀b,F b→b < W.heap.size:=by
 obtain ⟨ws,m,h1,h2⟩:=h.roll; exact h1.x.lt
theorem HA.sub (h:HA cs br bk bps x1 x2 x3 f t Inv F W):∀b,RM br bk bps b→F b:=by
 obtain ⟨ws,m,h1,h2⟩:=h.roll; exact h1.x.sub
theorem HA.host:HostOk (HA cs br bk bps x1 x2 x3 f t Inv) (RM br bk bps):=⟨fun F W W' h hs hb=>h.keep hs hb,fun F W h=>h.lt,fun F W h=>h.sub⟩
theorem HA.hostE {I:Nat→(Nat→Bool)→Nat→Prop}:HostOk (fun F W=>∃j,HA cs br bk bps x1 x2 x3 f t (I j) F W) (RM br bk bps):=⟨fun F W W' ⟨j,h⟩ hs hb=>⟨j,h.keep hs hb⟩,fun F W ⟨j,h⟩=>h.lt,fun F W ⟨j,h⟩=>h.sub⟩
theorem HA.step {ws':Nat→Bool} {m':Nat} (h:HA cs br bk bps x1 x2 x3 f t Inv F W) (hR:RollS W' cs br bk bps F' ws' m') (hF:∀b,F b→F' b) (hE:Eff (RM br bk bps) W W') (hI:Inv' ws' m'):HA cs br bk bps x1 x2 x3 f t Inv' F' W':=by
 have hlt:=h.lt
 have c:∀b,F b→¬RM br bk bps b→W'.cell? ⟨b,0,none⟩=W.cell? ⟨b,0,none⟩:=fun b hF hn=>hE.cell (p:=⟨b,0,none⟩) (hlt b hF) hn
 exact ⟨⟨ws',m',hR,hI⟩,⟨hF _ h.inF.1,hF _ h.inF.2.1,hF _ h.inF.2.2⟩,h.out,(c _ h.inF.1 h.out.1).trans h.c1,(c _ h.inF.2.1 h.out.2.1).trans h.c2,(c _ h.inF.2.2 h.out.2.2).trans h.c3⟩
end
def IG (M O F:Blk) (W:World) (R:Blk→Blk→World→Prop) (O2:Blk) (W':World):Prop:=
 ∃O1 F1:Blk,(∀b,O2 b↔O1 b∨F1 b)∧(∀b,F1 b→¬O1 b)∧R O1 F1 W'∧(∀b,O b→O1 b)∧(∀b,O1 b→O b∨W.heap.size≤b)∧(∀b,F b→F1 b)∧(∀b,F1 b→F b∨W.heap.size≤b)∧(∀b,F b→¬M b→W'.heap[b]? =W.heap[b]?)
section
variable {M O F:Blk} {W W1 W':World} {R R':Blk→Blk→World→Prop} {O2:Blk}
theorem IG.keep (h:IG M O F W R O2 W1) (hs:W1.heap.size≤W'.heap.size) (hb:∀b,O2 b→W'.heap[b]? =W1.heap[b]?)
  (hR:∀O1 F1,R O1 F1 W1→W1.heap.size≤W'.heap.size→(∀b,O1 b∨F1 b→W'.heap[b]? =W1.heap[b]?)→R O1 F1 W'):IG M O F W R O2 W':=by
 obtain ⟨O1,F1,e,h1,h2,h3,h4,h5,h6,h7⟩:=h
 exact ⟨O1,F1,e,h1,hR O1 F1 h2 hs (fun b g=>hb b ((e b).2 g)),h3,h4,h5,h6,fun b g n=>(hb b ((e b).2 (.inr (h5 b g)))).trans (h7 b g n)⟩
theorem IG.lt (h:IG M O F W R O2 W1) (hR:∀O1 F1,R O1 F1 W1→∀b,O1 b∨F1 b→b < W1.heap.size):∀b,O2 b→b < W1.heap.size:=by
 obtain ⟨O1,F1,e,h1,h2,h3⟩:=h
 exact fun b hb=>hR O1 F1 h2 b ((e b).1 hb)
theorem IG.growM {O1:Blk} (hM:∀b,M b→F b) (hlt:∀b,F b→b < W.heap.size) (h3:∀b,O b→O1 b) (h4:∀b,O1 b→O b∨W.heap.size≤b) (h7:∀b,F b→¬M b→W'.heap[b]? =W.heap[b]?) (hE:Eff (fun b=>O b∨F b) W W'):GrowM M O O1 W W':=
 ⟨h3,h4,⟨hE.os,hE.tape,hE.output,hE.size,fun b hb hn=>by
  by_cases hF:F b
  ·exact h7 b hF (fun h=>hn (.inr h))
  ·exact hE.block b hb (fun h=>h.elim (fun h=>hn (.inl h)) hF)⟩⟩
end
theorem ig_step {M F O1 F1 F2:Blk} {W W6 w7:World} (h1:∀b,F1 b→¬O1 b) (h5:∀b,F b→F1 b) (h6:∀b,F1 b→F b∨W.heap.size≤b) (h7:∀b,F b→¬M b→W6.heap[b]? =W.heap[b]?)
  (hlt1:∀b,O1 b→b < W6.heap.size) (hltF:∀b,F1 b→b < W6.heap.size) (hM:∀b,M b→F1 b) (hG:GrF F1 F2 W6) (hE:Eff M W6 w7) (hs:W.heap.size≤W6.heap.size) :
  (∀b,F2 b→¬O1 b)∧(∀b,F b→F2 b)∧(∀b,F2 b→F b∨W.heap.size≤b)∧(∀b,F b→¬M b→w7.heap[b]? =W.heap[b]?)∧(∀b,O1 b∨(F1 b∧¬M b)→w7.heap[b]? =W6.heap[b]?)∧
  ∀O6:Blk,(∀b,O6 b↔O1 b∨F1 b)→Grow O6 (fun b=>O1 b∨F2 b) W6 w7:=by
 refine ⟨fun b hb ho=>?_,fun b hb=>hG.sub b (h5 b hb),fun b hb=>?_,fun b hb hn=>(hE.block b (hltF b (h5 b hb)) hn).trans (h7 b hb hn),fun b hb=>?_,fun O6 e=>⟨fun b hb=>((e b).1 hb).imp id (hG.sub b),fun b hb=>?_,hE.wide (fun b hb=>(e b).2 (.inr (hM b hb)))⟩⟩
 ·rcases hG.new b hb with h | h
  ·exact h1 b h ho
  ·have:=hlt1 b ho; omega
 ·rcases hG.new b hb with h | h
  ·exact h6 b h
  ·exact .inr (by omega)
 ·rcases hb with h | h
  ·exact hE.block b (hlt1 b h) (fun hm=>h1 b (hM b hm) h)
  ·exact hE.block b (hltF b h.1) h.2
 ·rcases hb with h | h
  ·exact .inl ((e b).2 (.inl h))
  ·exact (hG.new b h).imp (fun h=>(e b).2 (.inr h)) id
theorem ig_yield {M O F O1 O3 F2:Blk} {W w7 W8:World} (h1:∀b,F2 b→¬O1 b) (h3:∀b,O b→O1 b) (h4:∀b,O1 b→O b∨W.heap.size≤b) (h5:∀b,F b→F2 b) (h7:∀b,F b→¬M b→w7.heap[b]? =W.heap[b]?)
  (hltF:∀b,F2 b→b < w7.heap.size) (x1:∀b,O1 b→O3 b) (x2:∀b,O3 b→O1 b∨w7.heap.size≤b) (x3:Eff O1 w7 W8) (hs:W.heap.size≤w7.heap.size) :
  (∀b,F2 b→¬O3 b)∧(∀b,O b→O3 b)∧(∀b,O3 b→O b∨W.heap.size≤b)∧(∀b,F b→¬M b→W8.heap[b]? =W.heap[b]?)∧(∀b,F2 b→W8.heap[b]? =w7.heap[b]?)∧Grow (fun b=>O1 b∨F2 b) (fun b=>O3 b∨F2 b) w7 W8:=by
 have keep:∀b,F2 b→W8.heap[b]? =w7.heap[b]?:=fun b hb=>x3.block b (hltF b hb) (h1 b hb)
 refine ⟨fun b hb ho=>?_,fun b hb=>x1 b (h3 b hb),fun b hb=>?_,fun b hb hn=>(keep b (h5 b hb)).trans (h7 b hb hn),keep,⟨fun b hb=>hb.imp (x1 b) id,fun b hb=>?_,x3.wide (fun b hb=> .inl hb)⟩⟩
 ·rcases x2 b ho with h | h
  ·exact h1 b hb h
  ·have:=hltF b hb; omega
 ·rcases x2 b hb with h | h
  ·exact h4 b h
  ·exact .inr (by omega)
 ·rcases hb with h | h
  ·exact (x2 b h).imp .inl id
  ·exact .inl (.inr h)
theorem day_disc {W:World} {cs:List Cl} {n:Int} {d:Option Nat} {F M:Blk} (h8:cs.length≤8) (h0:0≤n) (h1:n < 146097) (hn:d=none→actM cs n=0) (hs:∀b,d=some b→DiF W F M b (dayQ cs n)):DiscO W d (dayQ cs n):=by
 cases d with
 | none=>exact fun k hk=>yji h8 h0 h1 (hn rfl) hk
 | some b=>exact (hs b rfl).2.2
theorem yhQ {W W':World} {b:Nat} {s:Nat→Int} (h:ShS W b s) (hb:W'.heap[b]? =W.heap[b]?):ShS W' b s:=by
 have c:∀i,W'.cell? ⟨b,i,none⟩=W.cell? ⟨b,i,none⟩:=fun i=>zzJ (w:=W) (a:=⟨b,i,none⟩) hb
 obtain ⟨h0,h1,h2,h3,h4,h5,h6,h7,h8,h9⟩:=h
 exact ⟨(c _).trans h0,(c _).trans h1,(c _).trans h2,(c _).trans h3,(c _).trans h4,(c _).trans h5,(c _).trans h6,(c _).trans h7,(c _).trans h8,(c _).trans h9⟩
end
end Go.Proofs.YtjahgimnfliooaaGreatDoor
