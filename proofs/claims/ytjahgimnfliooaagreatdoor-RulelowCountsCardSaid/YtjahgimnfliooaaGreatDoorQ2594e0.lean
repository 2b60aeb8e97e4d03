/-
  meet.asked.day: the least second of a day that is found.
-/
import Derived.Test.YtjahgimnfliooaaGreatDoorQf040af
import Derived.BigRegion
import Derived.Deep.RegionHeld3
import Derived.Deep.Cut
set_option maxRecDepth 100000
set_option maxHeartbeats 25600000
namespace Go.Proofs.YtjahgimnfliooaaGreatDoor
open Go.RowKit Go.Maps
set_option linter.unusedVariables false
def dadr (d:Option Nat):Option Addr:=d.map fun b=>⟨b,0,none⟩
theorem ya4 (d:Option Nat):dptr d= .pointer (dadr d):=by cases d <;> rfl
def lookMd (v x:Value):Sem Value:=Instr.lookup 170 v x false
theorem look_md (v x:Value):Instr.lookup 170 v x false=lookMd v x:=rfl
def lenF (v:Value):Sem Value:=Builtin.len_ #[170] 3 #[v]
theorem len_f (v:Value):Builtin.len_ #[170] 3 #[v]=lenF v:=rfl
def updMd (v x y:Value):Sem Unit:=Instr.mapUpdate 170 v x y
theorem upd_md (v x y:Value):Instr.mapUpdate 170 v x y=updMd v x y:=rfl
attribute [local go_sem ↓] look_md len_f upd_md
def FindC (g:Nat) (pw:Bool→Bool→Bool):Prop:=∀(d e:Option Nat) (qa qb:Nat→Bool) (W:World),Tab W→DiscO W d qa→DiscO W e qb→Calls Tryz.prog g #[dptr d,dptr e] W fun r w'=>(∃n ok,r= .returned (.tuple #[.int .i64 n, .bool ok])∧FirstOf (fun k=>pw (qa k) (qb k)) n ok)∧Below W.heap.size W w'
theorem MDay_any {x fm g:Nat} {pw:Bool→Bool→Bool} {la lb:List Cl} {ra rb:RN} {f0 u0 f1 u1 days:Int} {Fa Fb:Blk} {wa wb:Nat→Bool} {ma mb:Nat} {W:World} (n:Int) (h0:0≤n) (h1:n < 146097) (hma:ma < 4611686018427387904) (hmb:mb < 4611686018427387904)
  (hg:∀args w,(callFunc g args).run Tryz.prog w= .ok (.enter g args) w) (hF:FindC g pw) (h:AsS x fm (.func (.func g) #[] #[]) pw la lb ra rb f0 u0 f1 u1 Fa Fb wa wb ma mb days W) :
  Calls Tryz.prog 158 #[.pointer (some ⟨x,0,none⟩),shN n] W fun e W'=>∃at' ok Fa' Fb' wa' wb' ma' mb',e= .returned (.tuple #[.int .i64 at', .bool ok])∧FirstOf (fun k=>pw (dayQ la n k) (dayQ lb n k)) at' ok∧
   AsS x fm (.func (.func g) #[] #[]) pw la lb ra rb f0 u0 f1 u1 Fa' Fb' wa' wb' ma' mb' days W'∧Eff (fun b=>b=fm∨ra.M b∨rb.M b) W W'∧GrF Fa Fa' W∧GrF Fb Fb' W∧ybn la n wa ma wa' ma'∧ybn lb n wb mb wb' mb':=by
 have cA:=hid (fun (W':World) Fa wa ma Fb wb mb (hm:ma < 4611686018427387904) (hT:TwoR W' la lb ra rb Fa Fb wa wb ma mb)=>AtA_any n h0 h1 hm hT)
 have cB:=hid (fun (W':World) Fa wa ma Fb wb mb (hm:mb < 4611686018427387904) (hT:TwoR W' la lb ra rb Fa Fb wa wb ma mb)=>AtB_any n h0 h1 hm hT)
 simp only [ya4] at cA cB
 rw [←yaK] at cA cB⊢
 obtain ⟨s,hs⟩:∃s,shF n=s:=⟨_,rfl⟩
 rw [hs,shq] at cA cB
 rw [hs,shq]
 obtain ⟨W1,hW1⟩:∃W1,W.alloc (.cells (yaV s).toArray 88)=W1:=⟨_,rfl⟩
 have hB1:Below W.heap.size W W1:=by rw [←hW1]; exact yaa (Below.refl _ _) (zG _)
 have hS1:ShS W1 W.heap.size s:=by rw [←hW1]; exact ybL W 88 _ _ _ _ _ _ _ _ _ _
 have hH1:=h.below hB1
 have l1:W.heap.size < W1.heap.size:=by rw [←hW1]; simp
 have hc:Hid (∀w,Eff (fun b=>ra.M b∨rb.M b) W1 w→w.cell? ⟨x,0,none⟩=some (.pointer (some ⟨ra.br,0,none⟩))∧w.cell? ⟨x,1,none⟩=some (.pointer (some ⟨rb.br,0,none⟩))∧ShS w W.heap.size s):=fun w hE=>by
  have nMx:¬(ra.M x∨rb.M x):=fun hm=>hm.elim (fun h1=>h.nx.1 (h.two.a.x.sub x h1)) (fun h1=>h.nx.2 (h.two.b.x.sub x h1))
  have lx:=hH1.hul.lt
  refine ⟨(hE.cell (p:=⟨x,0,none⟩) lx nMx).trans hH1.c0,(hE.cell (p:=⟨x,1,none⟩) lx nMx).trans hH1.c1,ycv hS1 (hE.block _ l1 (fun hm=>?_))⟩
  rcases hm with hm | hm
  ·have:=h.two.a.x.lt _ (h.two.a.x.sub _ hm); omega
  ·have:=h.two.b.x.lt _ (h.two.b.x.sub _ hm); omega
 have HW1:=hid hW1
 have HB1:=hid hB1
 have HH:=hid h
 have HH1:=hid hH1
 obtain ⟨Wd,hWd⟩:∃Wd,W1.drew=Wd:=⟨_,rfl⟩
 have DP0:Hid (DP W1 la lb ra rb n Fa Fb wa wb ma mb none none none Fa Fb wa wb ma mb Wd):=by rw [←hWd]; exact (DP.start hH1.two).below (Below.refl _ _).drew
 have HWd:=hid hWd
 clear hWd hs hW1 hB1 hS1 hH1 l1 h
 go_enter Tryz.func158,Tryz.ntmps158
 go_upto_region 1 with fail
 rw [HW1.out]
 go_cut [6] from 9 (fun x6 wx=>DayM x fm (.func (.func g) #[] #[]) pw la lb ra rb f0 u0 f1 u1 Fa Fb wa wb ma mb days n W1 x6 wx)
 case first=>
  refine wp_region_held_drew (S:=fun w=>Hid (Eff (fun b=>ra.M b∨rb.M b) W1 w)) (by kernel_rfl) (hid (by rw [HWd.out]; exact DP0.out.eff)) (fun hHeld=>?_)
  rw [HWd.out]
  clear hHeld
  have hHeld:Hid (Eff (fun b=>ra.M b∨rb.M b) W1 Wd):=hid DP0.out.eff
  refine zhF 0 (hc.out) ?_
  refine zhF 1 (hc.out) ?_
  refine zhF 2 (hc.out) ?_
  refine zhF 3 (hc.out) ?_
  refine zhF 4 (hc.out) ?_
  refine zhF 6 (hc.out) ?_
  refine zhF 7 (hc.out) ?_
  refine zhF 8 (hc.out) ?_
  refine zhF 9 (hc.out) ?_
  refine zhF 10 (hc.out) ?_
  refine wpAnyH_ready (rs:= [5,13]) (by kernel_rfl) (by simp) ?_
  refine AllReadyH.cons rfl (fun K hK=>?_) (AllReadyH.cons rfl (fun K hK=>?_) AllReadyH.nil)
  ·go_simp
   refine (cA.out _ _ _ _ _ _ _ (by first | exact hma | exact hmb) DP0.out.two).mono ?_
   rintro e w0 ⟨dA,FA,qA,mA,rfl,hT,hG,hE,hS,hD⟩
   have DP0:=hid (DP0.out.atA hT hG hE hS hD)
   clear hT hG hE hS hD
   (try go_wp2_with fail)
   refine hK.out _ _ (hid DP0.out.eff) (fun hHeld=>?_)
   clear hK K
   try simp only [zP]
   refine wpAnyH_ready (rs:= [11,13]) (by kernel_rfl) (by simp) ?_
   refine AllReadyH.cons rfl (fun K hK=>?_) (AllReadyH.cons rfl (fun K hK=>?_) AllReadyH.nil)
   ·go_simp
    refine (cB.out _ _ _ _ _ _ _ (by first | exact hma | exact hmb) DP0.out.two).mono ?_
    rintro e w1 ⟨dB,FB,qB,mB,rfl,hT,hG,hE,hS,hD⟩
    have DP1:=hid (DP0.out.atB hT hG hE hS hD)
    clear hT hG hE hS hD
    (try go_wp2_with fail)
    refine hK.out _ _ (hid DP1.out.eff) (fun hHeld=>?_)
    clear hK K
    try simp only [zP]
    refine zhD 12 ?_
    refine zzK 13 (fun K hK=>?_)
    go_simp
    (try go_wp2_with fail)
    have hdp3:=DP1.out.alloc 230
    obtain ⟨w3,hw3⟩:∃w',World.alloc w1 (.cells #[.pointer none, .pointer none] 230)=w':=⟨_,rfl⟩
    rw [hw3] at hdp3⊢
    have DP3:=hid hdp3
    clear hw3 hdp3
    refine hK.out _ _ (hid DP3.out.eff) (fun hHeld=>?_)
    clear hK K
    try simp only [zP]
    refine zzK 14 (fun K hK=>?_)
    obtain ⟨-,-,-,-,p5,pz⟩:=DP3.out.pn _ rfl
    have c0:=p5 0 (by omega)
    have c1:=p5 1 (by omega)
    clear p5
    go_simp
    have hday:=DP3.out.day HH1.out
    rw [ya4,ya4] at hday
    clear c0 c1 pz
    (try go_wp2_with fail)
    refine hK.out _ _ (hid (by obtain ⟨_,_,_,_,_,_,_,_,_,_,_,hE,_⟩:=hday; exact hE)) (fun hHeld=>?_)
    clear hK K
    try simp only [zP]
    refine wpAnyH_done (by kernel_rfl) ?_ _
    clear hHeld
    go_wp2_with fail
    go_meet
    exact hday
   ·go_simp
    (try go_wp2_with fail)
    have hdp1:=DP0.out.alloc 230
    obtain ⟨w1,hw1⟩:∃w',World.alloc w0 (.cells #[.pointer none, .pointer none] 230)=w':=⟨_,rfl⟩
    rw [hw1] at hdp1⊢
    have DP1:=hid hdp1
    clear hw1 hdp1
    refine hK.out _ _ (hid DP1.out.eff) (fun hHeld=>?_)
    clear hK K
    try simp only [zP]
    refine zzK 11 (fun K hK=>?_)
    go_simp
    refine (cB.out _ _ _ _ _ _ _ (by first | exact hma | exact hmb) DP1.out.two).mono ?_
    rintro e w2 ⟨dB,FB,qB,mB,rfl,hT,hG,hE,hS,hD⟩
    have DP2:=hid (DP1.out.atB hT hG hE hS hD)
    clear hT hG hE hS hD
    (try go_wp2_with fail)
    refine hK.out _ _ (hid DP2.out.eff) (fun hHeld=>?_)
    clear hK K
    try simp only [zP]
    refine zhD 12 ?_
    refine zzK 14 (fun K hK=>?_)
    obtain ⟨-,-,-,-,p5,pz⟩:=DP2.out.pn _ rfl
    have c0:=p5 0 (by omega)
    have c1:=p5 1 (by omega)
    clear p5
    go_simp
    have hday:=DP2.out.day HH1.out
    rw [ya4,ya4] at hday
    clear c0 c1 pz
    (try go_wp2_with fail)
    refine hK.out _ _ (hid (by obtain ⟨_,_,_,_,_,_,_,_,_,_,_,hE,_⟩:=hday; exact hE)) (fun hHeld=>?_)
    clear hK K
    try simp only [zP]
    refine wpAnyH_done (by kernel_rfl) ?_ _
    clear hHeld
    go_wp2_with fail
    go_meet
    exact hday
  ·go_simp
   (try go_wp2_with fail)
   have hdp0:=DP0.out.alloc 230
   obtain ⟨w0,hw0⟩:∃w',World.alloc Wd (.cells #[.pointer none, .pointer none] 230)=w':=⟨_,rfl⟩
   rw [hw0] at hdp0⊢
   have DP0:=hid hdp0
   clear hw0 hdp0
   refine hK.out _ _ (hid DP0.out.eff) (fun hHeld=>?_)
   clear hK K
   try simp only [zP]
   refine zzK 5 (fun K hK=>?_)
   go_simp
   refine (cA.out _ _ _ _ _ _ _ (by first | exact hma | exact hmb) DP0.out.two).mono ?_
   rintro e w1 ⟨dA,FA,qA,mA,rfl,hT,hG,hE,hS,hD⟩
   have DP1:=hid (DP0.out.atA hT hG hE hS hD)
   clear hT hG hE hS hD
   (try go_wp2_with fail)
   refine hK.out _ _ (hid DP1.out.eff) (fun hHeld=>?_)
   clear hK K
   try simp only [zP]
   refine zzK 11 (fun K hK=>?_)
   go_simp
   refine (cB.out _ _ _ _ _ _ _ (by first | exact hma | exact hmb) DP1.out.two).mono ?_
   rintro e w2 ⟨dB,FB,qB,mB,rfl,hT,hG,hE,hS,hD⟩
   have DP2:=hid (DP1.out.atB hT hG hE hS hD)
   clear hT hG hE hS hD
   (try go_wp2_with fail)
   refine hK.out _ _ (hid DP2.out.eff) (fun hHeld=>?_)
   clear hK K
   try simp only [zP]
   refine zhD 12 ?_
   refine zzK 14 (fun K hK=>?_)
   obtain ⟨-,-,-,-,p5,pz⟩:=DP2.out.pn _ rfl
   have c0:=p5 0 (by omega)
   have c1:=p5 1 (by omega)
   clear p5
   go_simp
   have hday:=DP2.out.day HH1.out
   rw [ya4,ya4] at hday
   clear c0 c1 pz
   (try go_wp2_with fail)
   refine hK.out _ _ (hid (by obtain ⟨_,_,_,_,_,_,_,_,_,_,_,hE,_⟩:=hday; exact hE)) (fun hHeld=>?_)
   clear hK K
   try simp only [zP]
   refine wpAnyH_done (by kernel_rfl) ?_ _
   clear hHeld
   go_wp2_with fail
   go_meet
   exact hday
 case rest=>
  obtain ⟨b6,d,e,Fa',Fb',wa',wb',ma',mb',rfl,hA,hE,hGa,hGb,hSa,hSb,hDa,hDb,p0,p1,pz,q1,q2,q3,q4⟩:=hcut
  rw [ya4] at p0 p1
  obtain ⟨Wd,hWd⟩:∃Wd,wc.drew=Wd:=⟨_,rfl⟩
  have hBd:Below wc.heap.size wc Wd:=by rw [←hWd]; exact (Below.refl _ _).drew
  have hAd:=hA.below hBd
  have hDad:=hDa.keep hBd.size (fun _ h=>h) (fun b hb=>hBd.block b (hA.two.a.x.lt b hb.1))
  have hDbd:=hDb.keep hBd.size (fun _ h=>h) (fun b hb=>hBd.block b (hA.two.b.x.lt b hb.1))
  have a0:=(hBd.cell (p:=⟨b6,0,none⟩) q2).trans p0
  have a1:=(hBd.cell (p:=⟨b6,1,none⟩) q2).trans p1
  have q2d:b6 < Wd.heap.size:=zH q2 hBd.size
  have hne:b6≠fm:=fun e=>by have:=HH1.out.fine.lt; omega
  have HEd:Hid (Eff (fun b=>b=fm∨ra.M b∨rb.M b) W Wd):=((Eff.of_below (O:=fun b=>b=fm∨ra.M b∨rb.M b) HB1.out).trans hE (fun _ h=> .inl (.inr h))).trans (Eff.of_below (O:=fun b=>b=fm∨ra.M b∨rb.M b) hBd) (fun _ h=> .inl h)
  have HGa:Hid (GrF Fa Fa' W):=⟨hGa.sub,fun b hb=>(hGa.new b hb).imp id (zI HB1.out.size)⟩
  have HGb:Hid (GrF Fb Fb' W):=⟨hGb.sub,fun b hb=>(hGb.new b hb).imp id (zI HB1.out.size)⟩
  have HSa:=hid hSa
  have HSb:=hid hSb
  have HDa:=hid hDad
  have HDb:=hid hDbd
  have HWd:Hid (Wd=wc.drew):=hWd.symm
  have hx3:=hAd.c3
  have HAd:=hid hAd
  have HQ:=hid (And.intro q2d (And.intro q3 (And.intro q4 hne)))
  have HZ:Hid (∀i,Wd.frozen? ⟨b6,i,none⟩=false):=fun i=>(hBd.frozen (p:=⟨b6,i,none⟩) q2).trans (pz i)
  have hL:=hAd.fine.lookup (fineT Wd Fa' Fb' ra rb) (t:=170) Tryz.underlying170 (z:= .bool false) (by rfl) false (x:= .agg #[dptr d,dptr e]) ⟨d,e,_,_,rfl,hDad,hDbd⟩
  clear hWd hBd hAd hA hE hGa hGb hSa hSb hDa hDb hDad hDbd p0 p1 pz q1 q2 q3 q4 q2d hne
  rcases hL with q | ⟨v,hv,q⟩
  rotate_left
  ·obtain ⟨rfl,hfi⟩:=hv.none HDa.out HDb.out
   rw [ya4,ya4] at q
   replace q:(lookMd (.map (some fm)) (.agg #[.pointer (dadr d), .pointer (dadr e)])).run Tryz.prog Wd= .ok (.bool true) Wd:=q
   have HFi:=hid hfi
   clear hv hfi
   go_upto_region 2 with fail
   refine wp_region_held_drew (S:=fun w=>Hid (Wd=w)) (by kernel_rfl) HWd (fun hHeld=>?_)
   refine zhC 0 ?_
   refine zhC 1 ?_
   refine zhC 2 ?_
   refine zhC 3 ?_
   refine zhC 4 ?_
   refine zhC 5 ?_
   refine wpAnyH_done (by kernel_rfl) ?_ _
   rw [←HWd.out]
   clear hHeld q hx3 a0 a1
   go_wp2
   exact bodyPost_ret (v:= .tuple #[.int .i64 0, .bool false]) (by simp [results,Tryz.results158,go_sem]) rfl ⟨_,_,Fa',Fb',wa',wb',ma',mb',rfl,HFi.out,HAd.out,HEd.out,HGa.out,HGb.out,HSa.out,HSb.out⟩
  ·rw [ya4,ya4] at q
   replace q:(lookMd (.map (some fm)) (.agg #[.pointer (dadr d), .pointer (dadr e)])).run Tryz.prog Wd= .ok (.bool false) Wd:=q
   go_upto_region 2 with fail
   refine wp_region_held_drew (S:=fun w=>Hid (Wd=w)) (by kernel_rfl) HWd (fun hHeld=>?_)
   refine zhC 0 ?_
   refine zhC 1 ?_
   refine zhC 2 ?_
   refine zhC 3 ?_
   refine zhC 4 ?_
   refine zhC 5 ?_
   refine wpAnyH_done (by kernel_rfl) ?_ _
   rw [←HWd.out]
   clear hHeld q
   go_upto_region 4 with fail
   have h4:Hid (∀w,Below Wd.heap.size Wd w→w.cell? ⟨x,2,none⟩=some (.func (.func g) #[] #[])∧w.cell? ⟨x,3,none⟩=some (.map (some fm))∧w.cell? ⟨b6,0,none⟩=some (.pointer (dadr d))∧w.cell? ⟨b6,1,none⟩=some (.pointer (dadr e))):=fun w hw=>
    ⟨(hw.cell (p:=⟨x,2,none⟩) HAd.out.hul.lt).trans HAd.out.c2,(hw.cell (p:=⟨x,3,none⟩) HAd.out.hul.lt).trans hx3,(hw.cell (p:=⟨b6,0,none⟩) HQ.out.1).trans a0,(hw.cell (p:=⟨b6,1,none⟩) HQ.out.1).trans a1⟩
   clear hx3 a0 a1
   refine wp_region_held_drew (S:=fun w=>Hid (Below Wd.heap.size Wd w)) (by kernel_rfl) (hid (Below.refl _ _).drew) (fun hHeld=>?_)
   refine zhF 0 (h4.out) ?_
   refine zhF 1 (h4.out) ?_
   refine zhF 2 (h4.out) ?_
   refine zhF 3 (h4.out) ?_
   refine zhF 4 (h4.out) ?_
   refine zhF 5 (h4.out) ?_
   refine zhF 6 (h4.out) ?_
   refine zhF 7 (h4.out) ?_
   refine zzK 8 (fun K hK=>?_)
   go_simp
   have hf:=hF d e (dayQ la n) (dayQ lb n) _ (HAd.out.below hHeld.out).two.a.x.tab.1 (HDa.out.keep hHeld.out.size (fun _ h=>h) (fun b hb=>hHeld.out.block b (HAd.out.two.a.x.lt b hb.1))).disc (HDb.out.keep hHeld.out.size (fun _ h=>h) (fun b hb=>hHeld.out.block b (HAd.out.two.b.x.lt b hb.1))).disc
   rw [ya4,ya4] at hf
   refine hf.mono ?_
   rintro r w4 ⟨⟨at',ok,rfl,hfi⟩,hB4⟩
   have hH4:Hid (Below Wd.heap.size Wd w4):=hHeld.out.trans (hB4.mono hHeld.out.size)
   have HFi:=hid hfi
   clear hf hB4 hfi hHeld
   (try go_wp2_with fail)
   refine hK.out _ _ hH4 (fun hHeld=>?_)
   clear hK K hH4
   try simp only [zP]
   refine zhD 9 ?_
   refine zhD 10 ?_
   refine zhD 11 ?_
   refine zhD 12 ?_
   refine zhD 13 ?_
   refine wpAnyH_done (by kernel_rfl) ?_ _
   have HB4:=hHeld
   clear hHeld
   have HA4:=hid (HAd.out.below HB4.out)
   have HE4:=hid (HEd.out.trans (Eff.of_below (O:=fun b=>b=fm∨ra.M b∨rb.M b) HB4.out) (fun _ h=> .inl h))
   cases ok
   rotate_left
   ·clear h4
    go_wp2
    exact bodyPost_ret (v:= .tuple #[.int .i64 at', .bool true]) (by simp [results,Tryz.results158,go_sem]) rfl ⟨_,_,Fa',Fb',wa',wb',ma',mb',rfl,HFi.out,HA4.out,HE4.out,HGa.out,HGb.out,HSa.out,HSb.out⟩
   ·have HN:Hid (∀k,k < 86400→pw (dayQ la n k) (dayQ lb n k)=false):=by
     rcases HFi.out with ⟨h,_⟩ | ⟨_,_,h⟩
     ·cases h
     ·exact h
    have hx3:w4.cell? ⟨x,3,none⟩=some (.map (some fm)):=HA4.out.c3
    have HDa4:=hid (HDa.out.keep (W':=w4) HB4.out.size (fun _ h=>h) (fun b hb=>HB4.out.block b (HAd.out.two.a.x.lt b hb.1)))
    have HDb4:=hid (HDb.out.keep (W':=w4) HB4.out.size (fun _ h=>h) (fun b hb=>HB4.out.block b (HAd.out.two.b.x.lt b hb.1)))
    have Q4:=hid (And.intro (h4.out _ HB4.out).2.2.1 (And.intro (h4.out _ HB4.out).2.2.2 (And.intro HQ.out.2.2.2 (zH HQ.out.1 HB4.out.size))))
    have HQn:Hid (¬Fa' b6∧¬Fb' b6):=⟨HQ.out.2.1,HQ.out.2.2.1⟩
    obtain ⟨k,hk,hPk,ql⟩:=HA4.out.fine.count (t:=170) Tryz.underlying170 3
    replace ql:(lenF (.map (some fm))).run Tryz.prog w4= .ok (.int .i64 k) w4:=ql
    have HPk:=hid hPk
    have Hkk:=hid hk
    clear h4 hPk hk
    by_cases hk:(k:Int)=512
    ·have hkd:((k:Int) == 512)=true:=by rw [hk]; rfl
     clear hk
     go_wp2_with (with_reducible refine ycr (t:=170) (.tmp 51) rfl rfl Tryz.underlying170 HA4.out.fine rfl ?_)
     intro W6 hM6 hg6
     have HA6:=hid (HA4.out.map hg6 (hM6.mono (by omega) (fun _ h=>h) (fun _ _ h=>h)))
     have ka:∀b,Fa' b∧¬ra.M b→W6.heap[b]? =w4.heap[b]?:=fun b hb=>hg6.block b (HA4.out.two.a.x.lt b hb.1) (fun e=>HA4.out.nf.1 (by cases e; exact hb.1))
     have kb:∀b,Fb' b∧¬rb.M b→W6.heap[b]? =w4.heap[b]?:=fun b hb=>hg6.block b (HA4.out.two.b.x.lt b hb.1) (fun e=>HA4.out.nf.2 (by cases e; exact hb.1))
     have HM6:Hid (MapS (FineK W6 Fa' Fb' ra rb) (FineG pw W6 Fa' Fb' ra rb) W6 fm 511):=hM6.mono (by omega) (fun v hv=>hv.keep hg6.size (fun _ h=>h) (fun _ h=>h) ka kb) (fun k v hv=>hv.keep hg6.size (fun _ h=>h) (fun _ h=>h) ka kb)
     have HE6:=hid (HE4.out.trans (Eff.of_grown (M:=fun b=>b=fm∨ra.M b∨rb.M b) hg6 (.inl rfl)) (fun _ h=> .inl h))
     have HDa6:=hid (HDa4.out.keep (W':=W6) hg6.size (fun _ h=>h) ka)
     have HDb6:=hid (HDb4.out.keep (W':=W6) hg6.size (fun _ h=>h) kb)
     have hb6:=hg6.block b6 Q4.out.2.2.2 (fun e=>Q4.out.2.2.1 (by cases e; rfl))
     have Q6:=hid (And.intro ((zzJ (w:=w4) (a:=⟨b6,0,none⟩) hb6).trans Q4.out.1) (And.intro ((zzJ (w:=w4) (a:=⟨b6,1,none⟩) hb6).trans Q4.out.2.1) (And.intro Q4.out.2.2.1 (zH Q4.out.2.2.2 hg6.size))))
     clear ql hkd hx3 hM6 hg6 ka kb hb6
     obtain ⟨W7,hW7⟩:∃W7,World.drew W6=W7:=⟨_,rfl⟩
     have hB7:Below W6.heap.size W6 W7:=by rw [←hW7]; exact (Below.refl _ _).drew
     have hA7:=HA6.out.below hB7
     have HW7:Hid (W7=W6.drew):=hW7.symm
     clear hW7
     have hE7:=HE6.out.trans (Eff.of_below (O:=fun b=>b=fm∨ra.M b∨rb.M b) hB7) (fun _ h=> .inl h)
     have hM7:=(HM6.out.keep (w':=W7) (hB7.block fm HM6.out.lt)).mono (zG _) (K':=FineK W7 Fa' Fb' ra rb) (G':=FineG pw W7 Fa' Fb' ra rb)
      (fun v hv=>hv.keep hB7.size (fun _ h=>h) (fun _ h=>h) (fun b hb=>hB7.block b (HA6.out.two.a.x.lt b hb.1)) (fun b hb=>hB7.block b (HA6.out.two.b.x.lt b hb.1)))
      (fun k v hv=>hv.keep hB7.size (fun _ h=>h) (fun _ h=>h) (fun b hb=>hB7.block b (HA6.out.two.a.x.lt b hb.1)) (fun b hb=>hB7.block b (HA6.out.two.b.x.lt b hb.1)))
     have hd7:=HDa6.out.keep (W':=W7) hB7.size (fun _ h=>h) (fun b hb=>hB7.block b (HA6.out.two.a.x.lt b hb.1))
     have he7:=HDb6.out.keep (W':=W7) hB7.size (fun _ h=>h) (fun b hb=>hB7.block b (HA6.out.two.b.x.lt b hb.1))
     obtain ⟨W8,q8,hM8,hg8⟩:=hM7.update (fineT W7 Fa' Fb' ra rb) (t:=170) (e:=4) Tryz.underlying170 (x:= .agg #[dptr d,dptr e]) ⟨d,e,_,_,rfl,hd7,he7⟩ (v:= .bool true) ⟨rfl,d,e,_,_,rfl,hd7,he7,HN.out⟩
     rw [ya4,ya4] at q8
     replace q8:(updMd (.map (some fm)) (.agg #[.pointer (dadr d), .pointer (dadr e)]) (.bool true)).run Tryz.prog W7= .ok () W8:=q8
     have HA8:=hid (hA7.map hg8 (hM8.mono (zG _) (fun _ h=>h) (fun _ _ h=>h)))
     have HE8:=hid (hE7.trans (Eff.of_grown (M:=fun b=>b=fm∨ra.M b∨rb.M b) hg8 (.inl rfl)) (fun _ h=> .inl h))
     have h8:Hid (∀w,w=W7∨w=W8→w.cell? ⟨x,3,none⟩=some (.map (some fm))∧w.cell? ⟨b6,0,none⟩=some (.pointer (dadr d))∧w.cell? ⟨b6,1,none⟩=some (.pointer (dadr e))):=by
      have l6:b6 < W7.heap.size:=zH Q6.out.2.2.2 hB7.size
      have a0:=(hB7.cell (p:=⟨b6,0,none⟩) Q6.out.2.2.2).trans Q6.out.1
      have a1:=(hB7.cell (p:=⟨b6,1,none⟩) Q6.out.2.2.2).trans Q6.out.2.1
      have hn:b6≠fm:=Q6.out.2.2.1
      have hb:=hg8.block b6 l6 (fun e=>hn (by cases e; rfl))
      intro w hw
      rcases hw with rfl | rfl
      ·exact ⟨hA7.c3,a0,a1⟩
      ·exact ⟨HA8.out.c3,(zzJ (w:=W7) (a:=⟨b6,0,none⟩) hb).trans a0,(zzJ (w:=W7) (a:=⟨b6,1,none⟩) hb).trans a1⟩
     clear hB7 hA7 hE7 hM7 hd7 he7 hM8 hg8
     go_upto_region 8 with fail
     refine wp_region_held_drew (S:=fun w=>Hid (w=W7∨w=W8)) (by kernel_rfl) (hid (.inl HW7.out.symm)) (fun hHeld=>?_)
     refine zhF 0 (h8.out) ?_
     refine zhF 1 (h8.out) ?_
     refine zhF 2 (h8.out) ?_
     refine zhF 3 (h8.out) ?_
     refine zhF 4 (h8.out) ?_
     refine zzK 5 (fun K hK=>?_)
     rw [←HW7.out]
     go_simp
     refine hK.out _ _ (hid (.inr rfl)) (fun hHeld=>?_)
     clear hK K
     refine wpAnyH_done (by kernel_rfl) ?_ _
     clear hHeld q8
     go_wp2
     exact bodyPost_ret (v:= .tuple #[.int .i64 at', .bool false]) (by simp [results,Tryz.results158,go_sem]) rfl ⟨_,_,Fa',Fb',wa',wb',ma',mb',rfl,HFi.out,HA8.out,HE8.out,HGa.out,HGb.out,HSa.out,HSb.out⟩
    ·have hkd:((k:Int) == 512)=false:=by simp [hk]
     have Hk:=hid hk
     clear hk
     go_upto_region 8 with fail
     clear ql hkd hx3
     obtain ⟨W6,hW6⟩:∃W6,w4=W6:=⟨_,rfl⟩
     have HA6:=HA4
     have HE6:=HE4
     have HDa6:=HDa4
     have HDb6:=HDb4
     have Q6:=Q4
     have HM6:Hid (MapS (FineK w4 Fa' Fb' ra rb) (FineG pw w4 Fa' Fb' ra rb) w4 fm 511):=HPk.out.mono (by have:=Hkk.out; have:=Hk.out; omega) (fun _ h=>h) (fun _ _ h=>h)
     rw [hW6] at HA6 HE6 HDa6 HDb6 HM6 Q6⊢
     clear hW6
     obtain ⟨W7,hW7⟩:∃W7,World.drew W6=W7:=⟨_,rfl⟩
     have hB7:Below W6.heap.size W6 W7:=by rw [←hW7]; exact (Below.refl _ _).drew
     have hA7:=HA6.out.below hB7
     have HW7:Hid (W7=W6.drew):=hW7.symm
     clear hW7
     have hE7:=HE6.out.trans (Eff.of_below (O:=fun b=>b=fm∨ra.M b∨rb.M b) hB7) (fun _ h=> .inl h)
     have hM7:=(HM6.out.keep (w':=W7) (hB7.block fm HM6.out.lt)).mono (zG _) (K':=FineK W7 Fa' Fb' ra rb) (G':=FineG pw W7 Fa' Fb' ra rb)
      (fun v hv=>hv.keep hB7.size (fun _ h=>h) (fun _ h=>h) (fun b hb=>hB7.block b (HA6.out.two.a.x.lt b hb.1)) (fun b hb=>hB7.block b (HA6.out.two.b.x.lt b hb.1)))
      (fun k v hv=>hv.keep hB7.size (fun _ h=>h) (fun _ h=>h) (fun b hb=>hB7.block b (HA6.out.two.a.x.lt b hb.1)) (fun b hb=>hB7.block b (HA6.out.two.b.x.lt b hb.1)))
     have hd7:=HDa6.out.keep (W':=W7) hB7.size (fun _ h=>h) (fun b hb=>hB7.block b (HA6.out.two.a.x.lt b hb.1))
     have he7:=HDb6.out.keep (W':=W7) hB7.size (fun _ h=>h) (fun b hb=>hB7.block b (HA6.out.two.b.x.lt b hb.1))
     obtain ⟨W8,q8,hM8,hg8⟩:=hM7.update (fineT W7 Fa' Fb' ra rb) (t:=170) (e:=4) Tryz.underlying170 (x:= .agg #[dptr d,dptr e]) ⟨d,e,_,_,rfl,hd7,he7⟩ (v:= .bool true) ⟨rfl,d,e,_,_,rfl,hd7,he7,HN.out⟩
     rw [ya4,ya4] at q8
     replace q8:(updMd (.map (some fm)) (.agg #[.pointer (dadr d), .pointer (dadr e)]) (.bool true)).run Tryz.prog W7= .ok () W8:=q8
     have HA8:=hid (hA7.map hg8 (hM8.mono (zG _) (fun _ h=>h) (fun _ _ h=>h)))
     have HE8:=hid (hE7.trans (Eff.of_grown (M:=fun b=>b=fm∨ra.M b∨rb.M b) hg8 (.inl rfl)) (fun _ h=> .inl h))
     have h8:Hid (∀w,w=W7∨w=W8→w.cell? ⟨x,3,none⟩=some (.map (some fm))∧w.cell? ⟨b6,0,none⟩=some (.pointer (dadr d))∧w.cell? ⟨b6,1,none⟩=some (.pointer (dadr e))):=by
      have l6:b6 < W7.heap.size:=zH Q6.out.2.2.2 hB7.size
      have a0:=(hB7.cell (p:=⟨b6,0,none⟩) Q6.out.2.2.2).trans Q6.out.1
      have a1:=(hB7.cell (p:=⟨b6,1,none⟩) Q6.out.2.2.2).trans Q6.out.2.1
      have hn:b6≠fm:=Q6.out.2.2.1
      have hb:=hg8.block b6 l6 (fun e=>hn (by cases e; rfl))
      intro w hw
      rcases hw with rfl | rfl
      ·exact ⟨hA7.c3,a0,a1⟩
      ·exact ⟨HA8.out.c3,(zzJ (w:=W7) (a:=⟨b6,0,none⟩) hb).trans a0,(zzJ (w:=W7) (a:=⟨b6,1,none⟩) hb).trans a1⟩
     clear hB7 hA7 hE7 hM7 hd7 he7 hM8 hg8
     go_upto_region 8 with fail
     refine wp_region_held_drew (S:=fun w=>Hid (w=W7∨w=W8)) (by kernel_rfl) (hid (.inl HW7.out.symm)) (fun hHeld=>?_)
     refine zhF 0 (h8.out) ?_
     refine zhF 1 (h8.out) ?_
     refine zhF 2 (h8.out) ?_
     refine zhF 3 (h8.out) ?_
     refine zhF 4 (h8.out) ?_
     refine zzK 5 (fun K hK=>?_)
     rw [←HW7.out]
     go_simp
     refine hK.out _ _ (hid (.inr rfl)) (fun hHeld=>?_)
     clear hK K
     refine wpAnyH_done (by kernel_rfl) ?_ _
     clear hHeld q8
     go_wp2
     exact bodyPost_ret (v:= .tuple #[.int .i64 at', .bool false]) (by simp [results,Tryz.results158,go_sem]) rfl ⟨_,_,Fa',Fb',wa',wb',ma',mb',rfl,HFi.out,HA8.out,HE8.out,HGa.out,HGb.out,HSa.out,HSb.out⟩
end Go.Proofs.YtjahgimnfliooaaGreatDoor
