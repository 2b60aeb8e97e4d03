/-
  pulse.outer: which day, week, month and year a day is.
  What the beats of a clause's instants are, day by day (plain).
-/
import Derived.Test.YtmjljpdeohbfbaaGreatDoorQd1d555
import Derived.Test.YtmjljpdeohbfbaaGreatDoorQ4b8353
import Derived.Test.YtmjljpdeohbfbaaGreatDoorQ9230ad
import Derived.BigRegion
import Derived.Test.YtmjljpdeohbfbaaGreatDoorQbfbe63
import Derived.Test.YtmjljpdeohbfbaaGreatDoorQeab382
namespace Go.Proofs.YtmjljpdeohbfbaaGreatDoor
set_option linter.unusedVariables false
section
open Go.RowKit Go.Maps
def L7 (f:Nat→Int):List Value:=(List.range 7).map fun i=> .int .i64 (f i)
theorem L7_len (f:Nat→Int):(L7 f).length=7:=by simp [L7]
theorem L7_at (f:Nat→Int) {j:Nat} (hj:j < (L7 f).length):(L7 f)[j]= .int .i64 (f j):=by simp [L7]
structure Ar7 (b:Nat) (f:Nat→Int) (W:World):Prop where
 c:∀i,i < 7→W.cell? ⟨b,i,none⟩=some (.int .i64 (f i))
 z:∀i,W.frozen? ⟨b,i,none⟩=false
 lt:b < W.heap.size
theorem Ar7.block {b:Nat} {f:Nat→Int} {W W':World} (h:Ar7 b f W) (hs:W.heap.size≤W'.heap.size) (hb:W'.heap[b]? =W.heap[b]?):Ar7 b f W':=
 ⟨fun i hi=>(World.cell?_of_block (w:=W) (a:=⟨b,i,none⟩) hb).trans (h.c i hi),fun i=>(World.frozen?_of_block (w:=W) (a:=⟨b,i,none⟩) hb).trans (h.z i),zH h.lt hs⟩
def arr7 (f:Nat→Int):Value:= .agg (L7 f).toArray
theorem info7i:(Tryz.prog.info? 50).map (·.size)=some 7:=by kernel_rfl
theorem Ar7.range {b:Nat} {f:Nat→Int} {W:World} (h:Ar7 b f W):W.rangeAt b 0 (L7 f):=fun j v hv=>by
 obtain ⟨hj,e⟩:=List.getElem?_eq_some_iff.1 hv
 rw [L7_at] at e
 rw [Nat.zero_add,h.c j (by rw [L7_len] at hj; exact hj),←e]
theorem Ar7.there {b:Nat} {f:Nat→Int} {W:World} (h:Ar7 b f W) (g:Nat→Int):W.there b 0 (L7 g).toArray.size:=fun j hj=>by
 rw [List.size_toArray,L7_len] at hj
 rw [Nat.zero_add]
 exact ⟨by rw [h.c j hj]; rfl,h.z j⟩
def load7iS (v:Value):Sem Value:=Instr.loadAt 50 v
theorem loadAt_7i (v:Value):Instr.loadAt 50 v=load7iS v:=rfl
def store7iS (v u:Value):Sem Unit:=Instr.storeAt 50 v u
theorem storeAt_7i (v u:Value):Instr.storeAt 50 v u=store7iS v u:=rfl
theorem Ar7.ld {b:Nat} {f:Nat→Int} {W:World} (h:Ar7 b f W):(load7iS (.pointer (some ⟨b,0,none⟩))).run Tryz.prog W= .ok (arr7 f) W:=by
 unfold load7iS
 simp only [Instr.loadAt,Instr.sureAddr,Sem.run_bind,Sem.run_pure,Result.andThen_ok,run_loadVar_mid W b 0 50 (L7 f) _ h.range Tryz.underlying50 rfl (by rw [L7_len]; exact info7i)]
 rfl
theorem Ar7.st {b:Nat} {f:Nat→Int} {W:World} (h:Ar7 b f W) (g:Nat→Int):(store7iS (.pointer (some ⟨b,0,none⟩)) (arr7 g)).run Tryz.prog W= .ok () (W.setCells b 0 (L7 g)):=by
 unfold store7iS
 rw [arr7,run_storeAt_mid W b 0 50 (L7 g).toArray (h.there g) (by rw [List.size_toArray,L7_len]; exact info7i) (by simp [L7,Value.oneCell'])]
theorem Ar7.put {b:Nat} {f:Nat→Int} {W:World} (h:Ar7 b f W) (g:Nat→Int):Ar7 b g (W.setCells b 0 (L7 g)):=by
 have hs:=(Eff.setCells (O:=fun x=>x=b) rfl (L7 g) 0 W (Eff.refl _ W)).size
 refine ⟨fun i hi=>?_,fun i=>by rw [World.frozen?_setCells]; exact h.z i,zH h.lt hs⟩
 have:=World.cell?_setCells_in b (L7 g) 0 W (fun j hj=>by rw [L7_len] at hj; rw [Nat.zero_add,h.c j hj]; rfl) i (by rw [L7_len]; exact hi)
 rw [Nat.zero_add,L7_at] at this
 exact this
theorem ar7_new (w:World) (t:TypeId):Ar7 w.heap.size (fun _=>0) (w.alloc (.cells #[.int .i64 0, .int .i64 0, .int .i64 0, .int .i64 0, .int .i64 0, .int .i64 0, .int .i64 0] t)):=by
 refine ⟨fun i hi=>?_,fun i=>frozen_fresh w _ t i,by simp⟩
 rw [World.cell?,World.alloc_heap_new]
 have h7:i=0∨i=1∨i=2∨i=3∨i=4∨i=5∨i=6:=by omega
 rcases h7 with rfl | rfl | rfl | rfl | rfl | rfl | rfl <;> rfl
def outF (n:Int) (u:Nat):Int:=if u=3 then n else if u=4 then wkN n else if u=5 then 12 * fY n+fMo n else if u=6 then fY n else 0
theorem outF_arr (n:Int):arr7 (outF n)= .agg #[.int .i64 0, .int .i64 0, .int .i64 0, .int .i64 n, .int .i64 (wkN n), .int .i64 (12 * fY n+fMo n), .int .i64 (fY n)]:=rfl
attribute [local go_sem ↓] loadAt_7i storeAt_7i
set_option maxRecDepth 100000 in
set_option maxHeartbeats 3200000 in
theorem POuter_any (n:Int) (W:World) (h0:0≤n) (h1:n < 146097):Calls Tryz.prog 120 #[shN n] W fun e W'=>e= .returned (arr7 (outF n))∧Below W.heap.size W W':=by
 have cW:=hid (fun W=>WNumber_any n W h0 (by omega))
 obtain ⟨y0,y1,m0,m1,-,-⟩:=fDate_year h0 h1
 have HO:Hid (arr7 (outF n)= .agg #[.int .i64 0, .int .i64 0, .int .i64 0, .int .i64 n, .int .i64 (wkN n), .int .i64 (12 * fY n+fMo n), .int .i64 (fY n)]):=outF_arr n
 have hW0:ShS (W.alloc (.cells (shList (shF n)).toArray 148)) W.heap.size (shF n):=shC_new W 148 _ _ _ _ _ _ _ _ _ _
 have hs1:shF n 1=fY n:=rfl
 have hs2:shF n 2=fMo n:=rfl
 have hs0:shF n 0=n:=rfl
 rw [←shq_shF]
 obtain ⟨s,hs⟩:∃s,shF n=s:=⟨_,rfl⟩
 rw [hs] at hW0 hs1 hs2 hs0⊢
 obtain ⟨W1,hW1⟩:∃W1,(W.alloc (.cells (shList s).toArray 148)).alloc (.cells #[.int .i64 0, .int .i64 0, .int .i64 0, .int .i64 0, .int .i64 0, .int .i64 0, .int .i64 0] 50)=W1:=⟨_,rfl⟩
 have HB1:Hid (Below W.heap.size W W1):=by rw [←hW1]; exact below_new (below_new (Below.refl _ _) (zG _)) (by simp)
 have S1:Hid (W1.heap.size=W.heap.size+1+1):=by show _ = _; rw [←hW1]; simp
 have HA1:Hid (Ar7 (W.heap.size+1) (fun _=>0) W1):=by
  have e:=ar7_new (W.alloc (.cells (shList s).toArray 148)) 50
  rw [World.size_alloc] at e
  rw [←hW1]; exact e
 have HS1:Hid (ShS W1 W.heap.size s):=by rw [←hW1]; exact shS_blk hW0 (Below.heap_alloc _ _ _ (by simp))
 have HW1:=hid hW1
 have Hs:=hid hs
 have hyw:IntKind.i64.wrap (12 * fY n)=12 * fY n:=IntWalk.i64_in _ (by omega)
 have hmw:IntKind.i64.wrap (12 * fY n+fMo n)=12 * fY n+fMo n:=IntWalk.i64_in _ (by omega)
 obtain ⟨y,hy⟩:∃y,fY n=y:=⟨_,rfl⟩
 obtain ⟨m,hm⟩:∃m,fMo n=m:=⟨_,rfl⟩
 obtain ⟨k,hk⟩:∃k,wkN n=k:=⟨_,rfl⟩
 rw [hy,hm,hk] at HO
 rw [hy] at hs1 hyw
 rw [hy,hm] at hmw
 rw [hm] at hs2
 rw [hk] at cW
 obtain ⟨A,hA⟩:∃A,outF n=A:=⟨_,rfl⟩
 rw [hA] at HO
 rw [hA]
 have hc:Hid (∀w,Below W1.heap.size W1 w→w.cell? ⟨W.heap.size,0,none⟩=some (.int .i64 n)∧w.cell? ⟨W.heap.size,1,none⟩=some (.int .i64 y)∧w.cell? ⟨W.heap.size,2,none⟩=some (.int .i64 m)):=fun w hB=>by
  have l0:W.heap.size < W1.heap.size:=by rw [S1.out]; omega
  obtain ⟨a0,a1,a2,-⟩:=HS1.out
  exact ⟨(hB.cell (p:=⟨W.heap.size,0,none⟩) l0).trans (hs0 ▸ a0),(hB.cell (p:=⟨W.heap.size,1,none⟩) l0).trans (hs1 ▸ a1),(hB.cell (p:=⟨W.heap.size,2,none⟩) l0).trans (hs2 ▸ a2)⟩
 clear hW0 hs0 hs1 hs2 hs hW1 hy hm hk hA y0 y1 m0 m1
 unfold shq
 go_enter Tryz.func120,Tryz.ntmps120
 go_upto_region 1 with fail
 rw [HW1.out]
 refine wp_region_held_drew (S:=fun w=>Hid (w.cell? ⟨W.heap.size,0,none⟩=some (.int .i64 n)∧w.cell? ⟨W.heap.size,1,none⟩=some (.int .i64 y)∧w.cell? ⟨W.heap.size,2,none⟩=some (.int .i64 m))) (by kernel_rfl) (hid (hc.out _ (Below.refl _ _).drew)) (fun hHeld=>?_)
 refine zT 0 (v:=?_) ?_ ?_
 rotate_left
 ·intro w' hSw; obtain ⟨q0,q1,q2⟩:=hSw.out; clear hSw; go_simp; (try with_reducible rfl)
 try simp only [zP]
 refine zT 1 (v:=?_) ?_ ?_
 rotate_left
 ·intro w' hSw; obtain ⟨q0,q1,q2⟩:=hSw.out; clear hSw; go_simp; (try with_reducible rfl)
 try simp only [zP]
 refine zT 2 (v:=?_) ?_ ?_
 rotate_left
 ·intro w' hSw; obtain ⟨q0,q1,q2⟩:=hSw.out; clear hSw; go_simp; (try with_reducible rfl)
 try simp only [zP]
 refine zT 3 (v:=?_) ?_ ?_
 rotate_left
 ·intro w' hSw; obtain ⟨q0,q1,q2⟩:=hSw.out; clear hSw; go_simp; (try with_reducible rfl)
 try simp only [zP]
 refine zT 5 (v:=?_) ?_ ?_
 rotate_left
 ·intro w' hSw; obtain ⟨q0,q1,q2⟩:=hSw.out; clear hSw; go_simp; (try with_reducible rfl)
 try simp only [zP]
 refine zT 6 (v:=?_) ?_ ?_
 rotate_left
 ·intro w' hSw; obtain ⟨q0,q1,q2⟩:=hSw.out; clear hSw; go_simp; (try with_reducible rfl)
 try simp only [zP]
 refine zT 7 (v:=?_) ?_ ?_
 rotate_left
 ·intro w' hSw; obtain ⟨q0,q1,q2⟩:=hSw.out; clear hSw; go_simp; (try with_reducible rfl)
 try simp only [zP]
 refine zT 8 (v:=?_) ?_ ?_
 rotate_left
 ·intro w' hSw; obtain ⟨q0,q1,q2⟩:=hSw.out; clear hSw; go_simp; (try with_reducible rfl)
 try simp only [zP]
 refine zT 9 (v:=?_) ?_ ?_
 rotate_left
 ·intro w' hSw; obtain ⟨q0,q1,q2⟩:=hSw.out; clear hSw; go_simp; (try with_reducible rfl)
 try simp only [zP]
 refine zT 10 (v:=?_) ?_ ?_
 rotate_left
 ·intro w' hSw; obtain ⟨q0,q1,q2⟩:=hSw.out; clear hSw; go_simp; (try with_reducible rfl)
 try simp only [zP]
 refine zT 11 (v:=?_) ?_ ?_
 rotate_left
 ·intro w' hSw; obtain ⟨q0,q1,q2⟩:=hSw.out; clear hSw; go_simp; (try with_reducible rfl)
 try simp only [zP]
 refine zT 12 (v:=?_) ?_ ?_
 rotate_left
 ·intro w' hSw; obtain ⟨q0,q1,q2⟩:=hSw.out; clear hSw; go_simp; (try with_reducible rfl)
 try simp only [zP]
 refine wpAnyH_ready (rs:= [4]) (by kernel_rfl) (by simp) ?_
 refine AllReadyH.cons rfl (fun K hK=>?_) AllReadyH.nil
 go_simp
 refine (cW.out _).mono ?_
 rintro e w2 ⟨rfl,rfl⟩
 (try go_wp2_with fail)
 refine hK.out _ _ (by assumption) (fun hHeld=>?_)
 clear hK K
 try simp only [zP]
 refine zT 13 (v:=?_) ?_ ?_
 rotate_left
 ·intro w' hSw; obtain ⟨q0,q1,q2⟩:=hSw.out; clear hSw; go_simp; (try with_reducible rfl)
 try simp only [zP]
 refine wpAnyH_ready (rs:= [14]) (by kernel_rfl) (by simp) ?_
 refine AllReadyH.cons rfl (fun K hK=>?_) AllReadyH.nil
 have hA2:=HA1.out.block (W':=W1.drew) (zG _) rfl
 have hst:=hA2.st A
 rw [HO.out] at hst
 have HP:=hid (hA2.put A)
 have hE:Eff (fun c=>c=W.heap.size+1) W1.drew (W1.drew.setCells (W.heap.size+1) 0 (L7 A)):=Eff.setCells (O:=fun x=>x=W.heap.size+1) rfl (L7 A) 0 _ (Eff.refl _ _)
 have HE:=hid hE
 have hS3:(W1.drew.setCells (W.heap.size+1) 0 (L7 A)).cell? ⟨W.heap.size,0,none⟩=some (.int .i64 n)∧(W1.drew.setCells (W.heap.size+1) 0 (L7 A)).cell? ⟨W.heap.size,1,none⟩=some (.int .i64 y)∧(W1.drew.setCells (W.heap.size+1) 0 (L7 A)).cell? ⟨W.heap.size,2,none⟩=some (.int .i64 m):=by
  have l0:W.heap.size < W1.drew.heap.size:=by show _ < W1.heap.size; rw [S1.out]; omega
  obtain ⟨a0,a1,a2⟩:=hc.out W1.drew (Below.refl _ _).drew
  exact ⟨(hE.cell (p:=⟨W.heap.size,0,none⟩) l0 (by simp)).trans a0,(hE.cell (p:=⟨W.heap.size,1,none⟩) l0 (by simp)).trans a1,(hE.cell (p:=⟨W.heap.size,2,none⟩) l0 (by simp)).trans a2⟩
 clear hA2 hE
 go_simp
 (try go_wp2_with fail)
 refine hK.out _ _ (hid hS3) (fun hHeld=>?_)
 clear hK K hst hS3
 try simp only [zP]
 refine wpAnyH_done (by kernel_rfl) ?_ _
 clear hHeld
 go_wp2
 exact bodyPost_ret (results_cell_mid rfl _ _ (W.heap.size+1) 0 _ _ rfl HP.out.range Tryz.underlying50 rfl (by rw [L7_len]; exact info7i)) rfl ⟨rfl,HB1.out.drew.trans (HE.out.below (by rintro b rfl; exact zG _) (by show _≤W1.heap.size; rw [S1.out]; omega)|>.mono (by omega))⟩
end
section
open Go.RowKit Go.Maps
def unN (n:Int) (j u:Nat):Int:=if u < 3 then (86400 * n+j) / szI u else outF n u
theorem outF_bd {n:Int} (h0:0≤n) (h1:n < 146097) (u:Nat):0≤outF n u∧outF n u≤146097:=by
 obtain ⟨y0,y1,m0,m1,-,-⟩:=fDate_year h0 h1
 have hk:=wkN_bd h0 h1
 rw [outF]
 split
 ·omega
 ·split
  ·omega
  ·split
   ·omega
   ·split <;> omega
theorem szI_dvd (u:Nat):86400 % szI u=0:=by rw [szI]; split; rfl; split <;> rfl
theorem unN_low {n:Int} {j u:Nat} (hu:u < 3):unN n j u=n * (86400 / szI u)+(j:Int) / szI u:=by
 have h3:u=0∨u=1∨u=2:=by omega
 rcases h3 with rfl | rfl | rfl
 ·show (86400 * n+j) / 1=n * (86400 / 1)+(j:Int) / 1; omega
 ·show (86400 * n+j) / 60=n * (86400 / 60)+(j:Int) / 60; omega
 ·show (86400 * n+j) / 3600=n * (86400 / 3600)+(j:Int) / 3600; omega
theorem unN_bd {n:Int} (h0:0≤n) (h1:n < 146097) {j:Nat} (hj:j < 86400) (u:Nat):0≤unN n j u∧unN n j u≤12622780799:=by
 rw [unN]
 split
 ·have hz:=szI_pos u
  exact ⟨Int.ediv_nonneg (by omega) (by omega),Int.le_trans (Int.ediv_le_self _ (by omega)) (by omega)⟩
 ·have:=outF_bd h0 h1 u; omega
def UD (cs:List Cl) (k u:Nat) (x:Int):Prop:=∃(i:Nat) (D:Int) (j:Nat),i < k∧(dayS cs (daysL 0 146096))[i]? =some D∧j < 86400∧dayQ cs D j=true∧x=unN D j u
def BQ (cs:List Cl) (k:Nat) (B:Nat→Bt):Prop:=∀u,u < 7→BeatQ (UD cs k u) (B u)
theorem BQ.zero (cs:List Cl):BQ cs 0 (fun _=>(false,0,0)):=fun u _=>BeatP.congr BeatP.empty fun x=>⟨fun h=>h.elim,fun ⟨i,_,_,h,_⟩=>by omega⟩
theorem day_rng {cs:List Cl} {i:Nat} {D:Int} (h:(dayS cs (daysL 0 146096))[i]? =some D):0≤D∧D < 146097∧∃j,j < 86400∧dayQ cs D j=true:=by
 have hm:=List.mem_of_getElem? h
 rw [dayS,List.mem_filter,daysL_mem] at hm
 obtain ⟨⟨a,b⟩,c⟩:=hm
 refine ⟨a,by omega,?_⟩
 rw [anyQ,List.any_eq_true] at c
 obtain ⟨j,hj,hq⟩:=c
 exact ⟨j,List.mem_range.1 hj,hq⟩
theorem UD.rng {cs:List Cl} {k u:Nat} {x:Int} (h:UD cs k u x):0≤x∧x≤12622780799:=by
 obtain ⟨i,D,j,-,hD,hj,-,rfl⟩:=h
 obtain ⟨a,b,-⟩:=day_rng hD
 exact unN_bd a b hj u
theorem BQ.bd {cs:List Cl} {k:Nat} {B:Nat→Bt} (h:BQ cs k B) {u:Nat} (hu:u < 7):M62 (B u).2.1∧M62 (B u).2.2:=by
 have:=BeatP.bd (M:=12622780799) (h u hu) (by omega) fun x hx=>hx.rng
 simp only [M62]; omega
theorem UD.more {cs:List Cl} {k u:Nat} {D:Int} (hD:(dayS cs (daysL 0 146096))[k]? =some D) (x:Int):UD cs (k+1) u x↔UD cs k u x∨∃j,j < 86400∧dayQ cs D j=true∧x=unN D j u:=by
 constructor
 ·rintro ⟨i,D',j,hi,h1,h2,h3,h4⟩
  rcases Nat.lt_succ_iff_lt_or_eq.1 hi with h | h
  ·exact .inl ⟨i,D',j,h,h1,h2,h3,h4⟩
  ·subst h
   rw [hD] at h1
   cases h1
   exact .inr ⟨j,h2,h3,h4⟩
 ·rintro (⟨i,D',j,hi,h⟩ | ⟨j,h⟩)
  ·exact ⟨i,D',j,by omega,h⟩
  ·exact ⟨k,D,j,by omega,hD,h⟩
theorem BeatP.shift {S:Int→Prop} {f g:Int} (h:BeatP S true f g) (c:Int):BeatP (fun x=>S (x - c)) true (c+f) g:=
 ⟨fun e=>(by cases e),fun _=>(by show S (c+f - c); rw [show c+f - c=f by omega]; exact h.yes rfl),h.ge,fun d=>by
  rw [h.dvd d]
  constructor
  ·intro p x y hx hy
   have:=p _ _ hx hy
   rwa [show x - c - (y - c)=x - y by omega] at this
  ·intro p x y hx hy
   have:=p (x+c) (y+c) (by show S (x+c - c); rw [show x+c - c=x by omega]; exact hx) (by show S (y+c - c); rw [show y+c - c=y by omega]; exact hy)
   rwa [show x+c - (y+c)=x - y by omega] at this⟩
def nxB (D:Int) (N B:Nat→Bt) (u:Nat):Bt:=if u < 3 then gcdB (takeB (B u) (D * (86400 / szI u)+(N u).2.1)) (N u).2.2 else takeB (B u) (outF D u)
theorem secL_has {q:Nat→Bool} {x:Int}:x∈secL q↔∃j,j < 86400∧q j=true∧x= (j:Int):=by rw [secL]; exact sel_mem
attribute [local irreducible] secL
theorem BQ.next {cs:List Cl} {k:Nat} {D:Int} {B:Nat→Bt} (h:BQ cs k B) (hD:(dayS cs (daysL 0 146096))[k]? =some D):BQ cs (k+1) (nxB D (nrB (secL (dayQ cs D))) B):=fun u hu=>by
 obtain ⟨a,b,j0,hj0,hq0⟩:=day_rng hD
 rw [nxB]
 by_cases h3:u < 3
 ·rw [if_pos h3]
  have hn:=nrB_q (secL (dayQ cs D)) u _ (zG _)
  rw [List.take_length] at hn
  obtain ⟨N,hN⟩:∃N,nrB (secL (dayQ cs D)) u=N:=⟨_,rfl⟩
  rw [hN] at hn⊢
  obtain ⟨y,f,g⟩:=N
  simp only [BeatQ] at hn
  have hy:y=true:=by
   cases y
   ·exact absurd ⟨(j0:Int),secL_has.2 ⟨j0,hj0,hq0,rfl⟩,rfl⟩ ((hn.no rfl).2.2 ((j0:Int) / szI u))
   ·rfl
  subst hy
  refine BeatP.congr ((h u hu).both (hn.shift (D * (86400 / szI u)))) fun x=>?_
  rw [UD.more hD]
  refine or_congr Iff.rfl ?_
  constructor
  ·rintro ⟨v,hv,e⟩
   obtain ⟨j,h1,h2,rfl⟩:=secL_has.1 hv
   exact ⟨j,h1,h2,by rw [unN_low h3]; omega⟩
  ·rintro ⟨j,h1,h2,rfl⟩
   exact ⟨j,secL_has.2 ⟨j,h1,h2,rfl⟩,by rw [unN_low h3]; omega⟩
 ·rw [if_neg h3]
  refine BeatP.congr ((h u hu).take (outF D u)) fun x=>?_
  rw [UD.more hD]
  refine or_congr Iff.rfl ?_
  constructor
  ·rintro rfl; exact ⟨j0,hj0,hq0,by rw [unN,if_neg h3]⟩
  ·rintro ⟨j,_,_,rfl⟩; rw [unN,if_neg h3]
theorem nrB_day {cs:List Cl} {D:Int} {j0:Nat} (hj0:j0 < 86400) (hq0:dayQ cs D j0=true) (u:Nat):M62 (nrB (secL (dayQ cs D)) u).2.1∧M62 (nrB (secL (dayQ cs D)) u).2.2∧(nrB (secL (dayQ cs D)) u).2.1 < 86400:=by
 have hn:=nrB_q (secL (dayQ cs D)) u _ (zG _)
 rw [List.take_length] at hn
 have:=BeatP.bd (M:=86399) hn (by omega) fun v ⟨x,hm,e⟩=>by
  obtain ⟨j,h1,-,rfl⟩:=secL_has.1 hm
  have h2:=div_rng (x:=(j:Int)) (by omega) (by omega) (szI_pos u).1
  omega
 simp only [M62]; omega
end
end Go.Proofs.YtmjljpdeohbfbaaGreatDoor
