/-
  seek.All's function, walked: it tells the instants of a set, from one to another one.
  seek.held and seek.All.
-/
import Derived.Test.YtjahgimnfliooaaGreatDoorQ575788
import Derived.Test.YtjahgimnfliooaaGreatDoorQ519398
import Derived.BigRegion
set_option maxRecDepth 100000
set_option maxHeartbeats 25600000
namespace Go.Proofs.YtjahgimnfliooaaGreatDoor
set_option linter.unusedVariables false
section
open Go.RowKit Go.Maps
attribute [local go_sem] Oper.semAt_some
theorem callvw {r:Option Nat} {n:Nat} {P:Program} {ops:Array Oper} {rest:List Oper} {o:Oper} {a:Act} {Q:Exit→Act→World→Prop} {W:World} (s x:Operand) (t:TypeId)
  (hw:Region.wanted o (yielded ops a.tmps)=true) (ho:o.op= .call {callee:= .value s,args:=#[x],argTypes:=#[t]}) {y u:Value} (hs:a.eval s=y) (hx:a.eval x=u) {R:Ending→World→Prop}
  (h:CallV P y #[u] W R) (hK:∀e W',R e W'→∃v,e= .returned v∧wpListIn (WF r) n P ops Q rest (a.put o.dst v) W') :
  wpListIn (WF r) n P ops Q (o :: rest) a W:=by
 refine wpListIn_step fun K hK'=>?_
 rw [if_pos hw]
 unfold Oper.wpIn
 refine ⟨fun _ _=>trivial,?_⟩
 rw [Oper.semAt_plain (WF r) _ _ (by rw [ho]; intro c hc; cases hc)]
 rcases h with ⟨f,cap,rfl,he,hc⟩ | ⟨l,fn,tmps,assign,body,rfl,hy,hc⟩
 ·simp [execOp,ho,resolve,invoke,hs,hx,he,Deferred.ofValue]
  rw [Oper.uponIn_enter]
  refine ⟨fun h=>(by cases h),wf_calls.mpr ((show Calls P f (#[u] ++ cap) W R from hc).mono fun e w' hr=>?_)⟩
  obtain ⟨v,rfl,hw⟩:=hK e w' hr
  exact hK' _ _ hw
 ·simp [execOp,ho,resolve,invoke,hs,hx,hy,Deferred.ofValue]
  rw [Oper.uponIn_round]
  refine ⟨fun h=>(by cases h),RoundIn.mono (hc _) fun e w' hr=>?_⟩
  obtain ⟨v,rfl,hw⟩:=hK e w' hr
  exact hK' _ _ hw
def VInt (xs:List Int) (k:Nat) (vs:Array Value) (F:Blk) (W:World):Prop:=∃x,xs[k]? =some x∧vs= #[.int .i64 x]
structure BxF (M:Blk) (xf xu:Nat) (f u:Int) (F:Blk) (W:World):Prop where
 inf:F xf∧¬M xf
 inu:F xu∧¬M xu
 cf:W.cell? ⟨xf,0,none⟩=some (.int .i64 f)
 cu:W.cell? ⟨xu,0,none⟩=some (.int .i64 u)
theorem BxF.keep {M:Blk} {xf xu:Nat} {f u:Int} {F F':Blk} {W W':World} (h:BxF M xf xu f u F W) (hF:∀b,F b→F' b) (hb:∀b,F b∧¬M b→W'.heap[b]? =W.heap[b]?):BxF M xf xu f u F' W':=
 ⟨⟨hF _ h.inf.1,h.inf.2⟩,⟨hF _ h.inu.1,h.inu.2⟩,(zzJ (w:=W) (a:=⟨xf,0,none⟩) (hb _ h.inf)).trans h.cf,(zzJ (w:=W) (a:=⟨xu,0,none⟩) (hb _ h.inu)).trans h.cu⟩
structure HSk (cs:List Cl) (br bk:Nat) (bps:List Nat) (xe xf xu xr:Nat) (f u:Int) (Inv:(Nat→Bool)→Nat→Prop) (F:Blk) (W:World):Prop where
 roll:∃ws m,RollS W cs br bk bps F ws m∧Inv ws m
 bx:BxF (RM br bk bps) xf xu f u F W
 ine:F xe∧¬RM br bk bps xe
 inr:F xr∧¬RM br bk bps xr
 ce:W.cell? ⟨xe,0,none⟩=some (.int .i64 0)
 cr:W.cell? ⟨xr,0,none⟩=some (.pointer (some ⟨br,0,none⟩))
section
variable {cs:List Cl} {br bk:Nat} {bps:List Nat} {xe xf xu xr:Nat} {f u:Int} {Inv Inv':(Nat→Bool)→Nat→Prop} {F F':Blk} {W W':World}
theorem HSk.keep (h:HSk cs br bk bps xe xf xu xr f u Inv F W) (hs:W.heap.size≤W'.heap.size) (hb:∀b,F b→W'.heap[b]? =W.heap[b]?):HSk cs br bk bps xe xf xu xr f u Inv F W':=by
 obtain ⟨ws,m,h1,h2⟩:=h.roll
 exact ⟨⟨ws,m,h1.keep hs hb,h2⟩,h.bx.keep (fun _ h=>h) (fun b hF=>hb b hF.1),h.ine,h.inr,(zzJ (w:=W) (a:=⟨xe,0,none⟩) (hb _ h.ine.1)).trans h.ce,(zzJ (w:=W) (a:=⟨xr,0,none⟩) (hb _ h.inr.1)).trans h.cr⟩
theorem HSk.lt (h:HSk cs br bk bps xe xf xu xr f u Inv F W):∀b,F b→b < W.heap.size:=by
 obtain ⟨ws,m,h1,h2⟩:=h.roll; exact h1.x.lt
theorem HSk.sub (h:HSk cs br bk bps xe xf xu xr f u Inv F W):∀b,RM br bk bps b→F b:=by
 obtain ⟨ws,m,h1,h2⟩:=h.roll; exact h1.x.sub
theorem HSk.host:HostOk (HSk cs br bk bps xe xf xu xr f u Inv) (RM br bk bps):=⟨fun F W W' h hs hb=>h.keep hs hb,fun F W h=>h.lt,fun F W h=>h.sub⟩
theorem HSk.step (h:HSk cs br bk bps xe xf xu xr f u Inv F W) {ws:Nat→Bool} {m:Nat} (hR:RollS W' cs br bk bps F' ws m) (hI:Inv' ws m) (hF:∀b,F b→F' b) (hb:∀b,F b→¬RM br bk bps b→W'.heap[b]? =W.heap[b]?):HSk cs br bk bps xe xf xu xr f u Inv' F' W':=
 ⟨⟨ws,m,hR,hI⟩,h.bx.keep hF (fun b hF=>hb b hF.1 hF.2),⟨hF _ h.ine.1,h.ine.2⟩,⟨hF _ h.inr.1,h.inr.2⟩,(zzJ (w:=W) (a:=⟨xe,0,none⟩) (hb _ h.ine.1 h.ine.2)).trans h.ce,(zzJ (w:=W) (a:=⟨xr,0,none⟩) (hb _ h.inr.1 h.inr.2)).trans h.cr⟩
end
def InvS (j:Nat) (ws:Nat→Bool) (m:Nat):Prop:=m≤j
theorem ye4 {cs:List Cl} {n:Int} {j:Nat} {ws ws':Nat→Bool} {m m':Nat} (h:InvS j ws m) (hs:yf4 cs n ws m ws' m'):InvS (j+1) ws' m':=by
 have:=(at_more hs).1; rw [InvS] at h⊢; omega
theorem ydh (args:Array Value) (w:World):(callFunc 104 args).run Tryz.prog w= .ok (.enter 104 args) w:=by simp [go_sem]
structure SkD (cs:List Cl) (M:Blk) (n:Int) (d bx:Nat) (O F:Blk) (W:World):Prop where
 dj:∀b,F b→¬O b
 di:DiF W F M d (dayQ cs n)
 tab:Tab W∧F 0
 lt:∀b,F b→b < W.heap.size
 lx:bx < W.heap.size
 nx:¬O bx∧¬F bx
 sh:ShS W bx (shF n)
theorem SkD.put {cs:List Cl} {M:Blk} {n:Int} {d bx l:Nat} {O F:Blk} {W:World} {o:Obj} (h:SkD cs M n d bx O F W) (hr:∃r,W.heap[l]? =some (.loop r)) (hF:¬F l):SkD cs M n d bx O F (W.putObj l o):=by
 have ps:(W.putObj l o).heap.size=W.heap.size:=World.putObj_size
 have ko:∀b,F b→(W.putObj l o).heap[b]? =W.heap[b]?:=fun b hb=>World.putObj_heap_other (fun e=>hF (e ▸ hb))
 exact ⟨h.dj,⟨h.di.1,h.di.2.1,h.di.2.2.block (by rw [ps]; exact zG _) (ko _ h.di.1)⟩,⟨⟨by rw [ps]; exact h.tab.1.1,fun i hi=>(zzJ (w:=W) (a:=⟨0,i,none⟩) (ko _ h.tab.2)).trans (h.tab.1.2 i hi)⟩,h.tab.2⟩,by rw [ps]; exact h.lt,by rw [ps]; exact h.lx,h.nx,shS_put h.sh hr⟩
structure SkL (cs:List Cl) (M:Blk) (n:Int) (d:Nat) (xf xu:Nat) (f u lo s:Int) (p c:Nat) (J:OwnF) (O6 F:Blk) (W6:World) (O:Blk) (W:World):Prop where
 s0:0≤s
 cnt:p+(remI cs n u s).length= (remI cs n u lo).length
 at':∀(j:Nat) (x:Int),(remI cs n u s)[j]? =some x→(remI cs n u lo)[p+j]? =some x
 j:J (c+p) O F W
 gr:Grow O6 O W6 W
 dj:∀b,F b→¬O b
 bx:BxF M xf xu f u F W
 di:DiF W F M d (dayQ cs n)
 tab:Tab W∧F 0
def SkT (h0 h1 h2 h3 h4 h5 h6 h7:Value) (ds:List Deferred) (a:Act):Prop:=∃V:Nat→Value,a= {tmps:=#[h0,h1,h2,h3,h4,h5,h6,h7,V 8,V 9,V 10,V 11,V 12,V 13,V 14,V 15,V 16,V 17,V 18,V 19,V 20,V 21,V 22,V 23,V 24,V 25,V 26,V 27,V 28,V 29,V 30,V 31,V 32,V 33,V 34,V 35,V 36,V 37,V 38,V 39,V 40,V 41,V 42,V 43,V 44,V 45,V 46,V 47,V 48,V 49,V 50,V 51,V 52,V 53,V 54,V 55,V 56,V 57,V 58],defers:=ds}
theorem SkT.of {h0 h1 h2 h3 h4 h5 h6 h7 u8 u9 u10 u11 u12 u13 u14 u15 u16 u17 u18 u19 u20 u21 u22 u23 u24 u25 u26 u27 u28 u29 u30 u31 u32 u33 u34 u35 u36 u37 u38 u39 u40 u41 u42 u43 u44 u45 u46 u47 u48 u49 u50 u51 u52 u53 u54 u55 u56 u57 u58:Value} {ds:List Deferred}:SkT h0 h1 h2 h3 h4 h5 h6 h7 ds {tmps:=#[h0,h1,h2,h3,h4,h5,h6,h7,u8,u9,u10,u11,u12,u13,u14,u15,u16,u17,u18,u19,u20,u21,u22,u23,u24,u25,u26,u27,u28,u29,u30,u31,u32,u33,u34,u35,u36,u37,u38,u39,u40,u41,u42,u43,u44,u45,u46,u47,u48,u49,u50,u51,u52,u53,u54,u55,u56,u57,u58],defers:=ds}:=⟨fun i=>(#[u8,u9,u10,u11,u12,u13,u14,u15,u16,u17,u18,u19,u20,u21,u22,u23,u24,u25,u26,u27,u28,u29,u30,u31,u32,u33,u34,u35,u36,u37,u38,u39,u40,u41,u42,u43,u44,u45,u46,u47,u48,u49,u50,u51,u52,u53,u54,u55,u56,u57,u58]:Array Value).getD (#[0,0,0,0,0,0,0,0,0,1,2,3,4,5,6,7,8,9,10,11,12,13,14,15,16,17,18,19,20,21,22,23,24,25,26,27,28,29,30,31,32,33,34,35,36,37,38,39,40,41,42,43,44,45,46,47,48,49,50].getD i 0) undef,rfl⟩
theorem ykA {cs:List Cl} {br bk:Nat} {bps:List Nat} (xe xf xu xr:Nat) (f u:Int) (f0:0≤f) (fu:f≤u) (u1:u < 12622780800) :
  yfY Tryz.prog 142 #[.pointer (some ⟨xe,0,none⟩), .pointer (some ⟨xf,0,none⟩), .pointer (some ⟨xu,0,none⟩), .pointer (some ⟨xr,0,none⟩)] (yaQ cs f u).length (VInt (yaQ cs f u))
   (HSk cs br bk bps xe xf xu xr f u (InvS 0)) (HSk cs br bk bps xe xf xu xr f u (fun _ _=>True)) (HSk cs br bk bps xe xf xu xr f u (fun _ _=>True)) (RM br bk bps):=by
 intro y J Jx O F W hH hFO hC hJ
 obtain ⟨yf,yi,yc,rfl⟩:=hC.form
 show Calls Tryz.prog 142 #[.func yf yi yc, .pointer (some ⟨xe,0,none⟩), .pointer (some ⟨xf,0,none⟩), .pointer (some ⟨xu,0,none⟩), .pointer (some ⟨xr,0,none⟩)] W _
 obtain ⟨W1,hW1⟩:∃W1,W.alloc (.cells #[.func yf yi yc] 79)=W1:=⟨_,rfl⟩
 have q3:W1.heap.size=W.heap.size+1:=by rw [←hW1]; simp
 have q4:Below W.heap.size W W1:=by rw [←hW1]; exact yaa (Below.refl _ _) (zG _)
 have q5:W1.cell? ⟨W.heap.size,0,none⟩=some (.func yf yi yc):=by rw [←hW1]; simp [go_sem]
 have hFlt:=hH.lt
 have hOlt:=hC.lt 0 O F W hJ
 have hH1:=hH.keep q4.size (fun b hb=>q4.block b (hFlt b hb))
 have HJ1:Hid (J 0 O F W1):=hC.stab 0 O F F W W1 hJ q4.size (fun _ h=>h) (fun b hb=>q4.block b (hb.elim (hOlt b) (fun h=>hFlt b h.1)))
 have HH:=hid hH
 have HH1:=hid hH1
 have HRM:=hid hH.sub
 have HF:=hid hFlt
 have HO:=hid hOlt
 have HFO:=hid hFO
 have HC:=hid hC
 have k1:=hH1.ce
 have k2:=hH1.bx.cf
 have k3:=hH1.bx.cu
 have k4:=hH1.cr
 obtain ⟨ws,m,hR1,hI1⟩:=hH1.roll
 obtain ⟨fd,hfd⟩:∃x,f / 86400=x:=⟨_,rfl⟩
 obtain ⟨ud,hud⟩:∃x,u / 86400=x:=⟨_,rfl⟩
 have hfd1:fd≤146097:=by omega
 have hud0:-1≤ud:=by omega
 have cA:=hid (yhL fd ud hR1 (InvS 0) hI1)
 have hXS:yaQ cs f u=ybW cs f u (dayS cs (yaj fd ud)):=by rw [yaQ,hfd,hud]
 have hbr:=yil cs hfd1 hud0
 have hclip:=yfh cs fd ud
 obtain ⟨X1,hX1⟩:∃X,bndF cs fd=X:=⟨_,rfl⟩
 obtain ⟨X2,hX2⟩:∃X,bndU cs ud=X:=⟨_,rfl⟩
 rw [hX1,hX2] at cA hbr hclip
 obtain ⟨ds,hds⟩:∃ds,dayS cs (yaj X1 X2)=ds:=⟨_,rfl⟩
 rw [←hclip,hds] at hXS
 have hup:ds.Pairwise (·< ·):=by rw [←hds]; exact yih _ _ _
 have hdr:∀n∈ds,0≤n∧n < 146097:=fun n hn=>by
  rw [←hds,dayS,List.mem_filter,ybA] at hn
  omega
 have tl:=yhK (cs:=cs) (br:=br) (bk:=bk) (bps:=bps) InvS (W1.heap.size+1) (W1.heap.size+2) W1.heap.size X1 X2 hbr.1 hbr.2.1 hbr.2.2.1 hbr.2.2.2
  (fun j n ws m ws' m' hn hi hs=>ye4 hi hs) (fun j ws m hi hj=>by rw [ya1] at hj; rw [InvS] at hi; omega)
 rw [hds] at tl
 obtain ⟨L,hL⟩:∃L,(yaj X1 X2).length=L:=⟨_,rfl⟩
 rw [hL] at tl
 have TL:=hid tl
 have HUp:=hid hup
 have Hdr:=hid hdr
 rw [hXS]
 rw [hXS] at HC
 obtain ⟨N,hN⟩:∃N,(ybW cs f u ds).length=N:=⟨_,rfl⟩
 rw [hN] at HC⊢
 have HN:=hid hN
 have Hfd:=hid hfd
 have Hud:=hid hud
 have HW1:=hid hW1
 have Q4:=hid q4
 have Q3:=hid q3
 have ey:=hid q5
 have e1:decide (u < f)=false:=zzd (by omega)
 clear hH hFO hC hJ hW1 q3 q4 q5 hFlt hOlt hH1 hR1 hI1 hXS hbr hclip hup hdr tl hN hfd hud hds hL hX1 hX2
 refine (wf_calls (r:=none) (n:=1)).mp ?_
 refine callsIn_of_wp_marks Tryz.func142 rfl trivial ?_ rfl
 simp only [Tryz.ntmps142,List.size_toArray,List.length_cons,List.length_nil,Nat.reduceAdd,Nat.reduceSub,Array.replicate_succ,Array.replicate_zero,List.push_toArray,List.append_toArray,List.nil_append,List.cons_append]
 gi_wp2_with fail
 refine ycc ?_
 rw [HW1.out]
 gi_wp2_with fail
 refine wpIn_label ?_
 gi_wp2_with fail
 rw [Hfd.out,Hud.out]
 refine (wf_calls.mpr cA.out).mono ?_
 rintro e w2 ⟨rfl,hB2,hl2,hHA⟩
 have s12:=hB2.size
 have hB02:Below W.heap.size W w2:=Q4.out.trans (hB2.mono Q4.out.size)
 have szW:W.heap.size < w2.heap.size:=by have:=Q3.out; omega
 have hlt2:=hHA.lt
 have hJ2:J 0 O (F3 F W1.heap.size) w2:=HC.out.stab 0 O F (F3 F W1.heap.size) W1 w2 HJ1.out hB2.size (fun b hb=> .inl hb) (fun b hb=>hB2.block b (by have:=hb.elim (HO.out b) (fun h=>HF.out b h.1); have:=Q3.out; omega))
 have hBx2:BxF (RM br bk bps) xf xu f u (F3 F W1.heap.size) w2:=HH1.out.bx.keep (fun b hb=> .inl hb) (fun b hb=>hB2.block b (by have:=HF.out b hb.1; have:=Q3.out; omega))
 have hFO2:∀b,F3 F W1.heap.size b→¬O b:=fun b hb ho=>by
  rcases hb with h | h | h | h
  ·exact HFO.out b h ho
  ·have:=HO.out b ho; have:=Q3.out; omega
  ·have:=HO.out b ho; have:=Q3.out; omega
  ·have:=HO.out b ho; have:=Q3.out; omega
 have nOy:Hid (¬O W.heap.size∧¬F W.heap.size∧¬F3 F W1.heap.size W.heap.size∧¬RM br bk bps W.heap.size):=by
  have h1:¬F W.heap.size:=fun h=>by have:=HF.out _ h; omega
  exact ⟨fun h=>by have:=HO.out _ h; omega,h1,fun h=>by
   rcases h with h | h | h | h
   ·exact h1 h
   ·have:=Q3.out; omega
   ·have:=Q3.out; omega
   ·have:=Q3.out; omega,fun h=>h1 (HRM.out _ h)⟩
 have ey2:=hid ((hB2.cell (p:=⟨W.heap.size,0,none⟩) (by have:=Q3.out; simp only []; omega)).trans ey)
 have HB02:=hid hB02
 have HHA:=hid hHA
 have HBx2:=hid hBx2
 have HFO2:=hid hFO2
 have hJ2':=hid hJ2
 clear hB2 hl2 hHA hB02 hlt2 hJ2 hBx2 hFO2 k1 k2 k3 k4 ey cA
 gi_wp2_with fail
 obtain ⟨yb,hyb⟩:∃b,W.heap.size=b:=⟨_,rfl⟩
 have Hyb:=hid hyb
 rw [hyb] at nOy ey2 szW⊢
 clear hyb
 refine yb1 (F:=F3 F W1.heap.size) (M:=RM br bk bps) (gf:=104) (lb:=#[.pointer (some ⟨W1.heap.size+1,0,none⟩), .pointer (some ⟨W1.heap.size+2,0,none⟩), .pointer (some ⟨W1.heap.size,0,none⟩)]) rfl ydh O
  (fun k vs F W h=>by obtain ⟨_,_,_,_,_,rfl,_⟩:=h; rfl) TL.out HA.host HA.host HA.hostE HHA.out HFO2.out
  (fun k O F W=>J (cntI cs f u ds k) O F W∧BxF (RM br bk bps) xf xu f u F W)
  (fun c k O F W=>c= .exit 0∧((∃q,1≤q∧q≤N∧Jx q O F W)∨J N O F W))
  ?stab ?stabx ?lt ?ltx ⟨by rw [yfj]; exact hJ2'.out,HBx2.out⟩
  (fun k O F a' W=>J (cntI cs f u ds k) O F W∧BxF (RM br bk bps) xf xu f u F W∧∃bx n d,ds[k]? =some n∧SkD cs (RM br bk bps) n d bx O F W∧SkT (.func yf yi yc) (.pointer (some ⟨xe,0,none⟩)) (.pointer (some ⟨xf,0,none⟩)) (.pointer (some ⟨xu,0,none⟩)) (.pointer (some ⟨xr,0,none⟩)) (.pointer (some ⟨yb,0,none⟩)) (.pointer (some ⟨bx,0,none⟩)) (.pointer (some ⟨d,0,none⟩)) [] a')
  ?putl ?assign ?body ?done ?stop
 case stab=>
  rintro k O F F' W W' ⟨h1,h2⟩ hs hF hO
  exact ⟨HC.out.stab _ O F F' W W' h1 hs hF hO,h2.keep hF (fun b hb=>hO b (.inr hb))⟩
 case stabx=>
  rintro c k O F F' W W' ⟨rfl,h⟩ hs hF hO
  exact ⟨rfl,h.imp (fun ⟨q,q1,q2,h⟩=>⟨q,q1,q2,HC.out.stabx _ O F F' W W' h hs hF hO⟩) (fun h=>HC.out.stab _ O F F' W W' h hs hF hO)⟩
 case lt=>
  rintro k O F W ⟨h1,h2⟩
  exact HC.out.lt _ _ _ _ h1
 case ltx=>
  rintro c k O F W ⟨rfl,h⟩
  exact h.elim (fun ⟨q,q1,q2,h⟩=>HC.out.ltx _ _ _ _ h) (fun h=>HC.out.lt _ _ _ _ h)
 case putl=>
  rintro l' o k O F a' W hr hnO hnF ⟨h1,h2,bx,n,d,h3,h4,h5⟩
  have ko:∀b,O b∨(F b∧¬RM br bk bps b)→(W.putObj l' o).heap[b]? =W.heap[b]?:=fun b hb=>World.putObj_heap_other (fun e=>hb.elim (fun h=>hnO (e ▸ h)) (fun h=>hnF (e ▸ h.1)))
  exact ⟨HC.out.stab _ O F F W _ h1 (by rw [World.putObj_size]; exact zG _) (fun _ h=>h) ko,h2.keep (fun _ h=>h) (fun b hb=>ko b (.inr hb)),bx,n,d,h3,h4.put hr hnF,h5⟩
 case assign=>
  rintro l' k O6 F6 W6 vs K hk ⟨hJ6,hB6⟩ hFl ⟨n,d,hn,h0,h1,rfl,hd,ht,hlt⟩ hG6 hK
  rw [←yaT]
  obtain ⟨s,hs⟩:∃s,shF n=s:=⟨_,rfl⟩
  rw [hs,shq]
  have Hs:=hid hs
  have HP:=hid (And.intro hJ6 (And.intro hB6 (And.intro hFl (And.intro hn (And.intro hd (And.intro ht (And.intro hlt hG6)))))))
  clear hs hJ6 hB6 hFl hn hd ht hlt hG6 h0 h1
  gi_wp2
  obtain ⟨hJ6,hB6,hFl,hn,hd,ht,hlt,hG6⟩:=HP.out
  have hbel:=yaa (o:= .cells (yaO s).toArray 88) (Below.refl W6.heap.size W6) (zG _)
  have hlO:=HC.out.lt _ _ _ _ hJ6
  refine hK _ O6 _ (Grow.of_below hbel) ⟨HC.out.stab _ O6 F6 F6 W6 _ hJ6 hbel.size (fun _ h=>h) (fun b hb=>hbel.block b (hb.elim (hlO b) (fun h=>hlt b h.1))),hB6.keep (fun _ h=>h) (fun b hb=>hbel.block b (hlt b hb.1)),W6.heap.size,n,d,hn,
   ⟨fun b hb=>(hFl b hb).1,⟨hd.1,hd.2.1,hd.2.2.block hbel.size (hbel.block d (hlt d hd.1))⟩,⟨ht.1.later hbel,ht.2.1⟩,fun b hb=>zH (hlt b hb) hbel.size,by simp,⟨fun h=>by have:=hlO _ h; omega,fun h=>by have:=hlt _ h; omega⟩,by rw [Hs.out]; exact ybT W6 88 _ _ _ _ _ _ _ _ _ _⟩,SkT.of⟩
 case done=>
  rintro O9 F9 w9 hG9 hHN hFs hFn hFO9 ⟨hJ9,hB9⟩ hD hnD hnF
  rw [yjr,HN.out] at hJ9
  obtain ⟨ws9,m9,hR9,-⟩:=hHN.roll
  have hs02:W.heap.size≤w2.heap.size:=HB02.out.size
  clear hHN hB9
  have hGW:GrowM (RM br bk bps) O O9 W w9:=GrowM.trans (⟨fun _ h=>h,fun _ h=> .inl h,Eff.of_below HB02.out⟩:GrowM (RM br bk bps) O O W w2) hG9
  have hfin:Hid (∀o:Obj,yhC N (HSk cs br bk bps xe xf xu xr f u (fun _ _=>True)) (HSk cs br bk bps xe xf xu xr f u (fun _ _=>True)) (RM br bk bps) J Jx O F W (w9.putObj w2.heap.size o)):=fun o=>by
   have pb:∀b,b≠w2.heap.size→(w9.putObj w2.heap.size o).heap[b]? =w9.heap[b]?:=fun b hb=>World.putObj_heap_other hb
   have ps:(w9.putObj w2.heap.size o).heap.size=w9.heap.size:=World.putObj_size
   have hsk:HSk cs br bk bps xe xf xu xr f u (fun _ _=>True) F9 w9:=HH.out.step hR9 trivial (fun b hb=>hFs b (.inl hb)) (fun b hb hn=>hGW.eff.block b (HF.out b hb) (fun h=>h.elim (HFO.out b hb) hn))
   have hko:∀b,O9 b∨(F9 b∧¬RM br bk bps b)→(w9.putObj w2.heap.size o).heap[b]? =w9.heap[b]?:=fun b hb=>pb b (fun e=>hb.elim (fun h=>hnD (e ▸ h)) (fun h=>hnF (e ▸ h.1)))
   refine ⟨O9,F9,⟨hGW.sub,hGW.new,hGW.eff.putObj (.inr hs02) o⟩,fun b hb=>hFs b (.inl hb),fun b hb=>?_,hFO9,?_⟩
   ·rcases hFn b hb with (h | h | h | h) | h
    ·exact .inl h
    ·have:=Q3.out; exact .inr (by omega)
    ·have:=Q3.out; exact .inr (by omega)
    ·have:=Q3.out; exact .inr (by omega)
    ·exact .inr (by omega)
   ·have hk9:=hsk.keep (W':=w9.putObj w2.heap.size o) (by rw [ps]; exact zG _) (fun b hb=>pb b (fun e=>hnF (e ▸ hb)))
    exact .inl ⟨hk9,HC.out.stab _ O9 F9 F9 w9 _ hJ9 (by rw [ps]; exact zG _) (fun _ h=>h) hko⟩
  have HD9:=hid hD
  clear hGW hG9 hR9 hFs hFn hFO9 hJ9 hD hnD hnF
  gi_wp2
  try rw [Exit.noGoto_normal]
  refine ⟨by simp, .inl ⟨_,_,rfl,run_takeDeferred HD9.out,?_⟩⟩
  exact ⟨_,results_none rfl _ _ _,⟨_,rfl⟩,hfin.out _⟩
 case stop=>
  rintro c k O9 F9 w9 hk1 hk2 hG9 ⟨j9,hHN⟩ hFs hFn hFO9 ⟨rfl,hJ9⟩ hD hnD hnF
  obtain ⟨ws9,m9,hR9,-⟩:=hHN.roll
  have hs02:W.heap.size≤w2.heap.size:=HB02.out.size
  clear hHN
  have hGW:GrowM (RM br bk bps) O O9 W w9:=GrowM.trans (⟨fun _ h=>h,fun _ h=> .inl h,Eff.of_below HB02.out⟩:GrowM (RM br bk bps) O O W w2) hG9
  have hfin:Hid (∀o:Obj,yhC N (HSk cs br bk bps xe xf xu xr f u (fun _ _=>True)) (HSk cs br bk bps xe xf xu xr f u (fun _ _=>True)) (RM br bk bps) J Jx O F W (w9.putObj w2.heap.size o)):=fun o=>by
   have pb:∀b,b≠w2.heap.size→(w9.putObj w2.heap.size o).heap[b]? =w9.heap[b]?:=fun b hb=>World.putObj_heap_other hb
   have ps:(w9.putObj w2.heap.size o).heap.size=w9.heap.size:=World.putObj_size
   have hsk:HSk cs br bk bps xe xf xu xr f u (fun _ _=>True) F9 w9:=HH.out.step hR9 trivial (fun b hb=>hFs b (.inl hb)) (fun b hb hn=>hGW.eff.block b (HF.out b hb) (fun h=>h.elim (HFO.out b hb) hn))
   have hko:∀b,O9 b∨(F9 b∧¬RM br bk bps b)→(w9.putObj w2.heap.size o).heap[b]? =w9.heap[b]?:=fun b hb=>pb b (fun e=>hb.elim (fun h=>hnD (e ▸ h)) (fun h=>hnF (e ▸ h.1)))
   refine ⟨O9,F9,⟨hGW.sub,hGW.new,hGW.eff.putObj (.inr hs02) o⟩,fun b hb=>hFs b (.inl hb),fun b hb=>?_,hFO9,?_⟩
   ·rcases hFn b hb with (h | h | h | h) | h
    ·exact .inl h
    ·have:=Q3.out; exact .inr (by omega)
    ·have:=Q3.out; exact .inr (by omega)
    ·have:=Q3.out; exact .inr (by omega)
    ·exact .inr (by omega)
   ·have hk9:=hsk.keep (W':=w9.putObj w2.heap.size o) (by rw [ps]; exact zG _) (fun b hb=>pb b (fun e=>hnF (e ▸ hb)))
    rcases hJ9 with ⟨q,q1,q2,hJ9⟩ | hJ9
    ·exact .inr ⟨hk9,q,q1,q2,HC.out.stabx _ O9 F9 F9 w9 _ hJ9 (by rw [ps]; exact zG _) (fun _ h=>h) hko⟩
    ·exact .inl ⟨hk9,HC.out.stab _ O9 F9 F9 w9 _ hJ9 (by rw [ps]; exact zG _) (fun _ h=>h) hko⟩
  have HD9:=hid hD
  clear hGW hG9 hR9 hFs hFn hFO9 hJ9 hD hnD hnF
  gi_wp2
  try rw [Exit.noGoto_normal]
  refine ⟨by simp, .inl ⟨_,_,rfl,run_takeDeferred HD9.out,?_⟩⟩
  exact ⟨_,results_none rfl _ _ _,⟨_,rfl⟩,hfin.out _⟩
 case body=>
  rintro l3 k O6 F6 a' W6 hk hG6 hl3 hrec6 hnl3 hnF3 ⟨hJ6,hB6,bx,n,d,en,hD,V,rfl⟩
  have n0:=(Hdr.out n (List.mem_of_getElem? en)).1
  have n1:=(Hdr.out n (List.mem_of_getElem? en)).2
  have ey6:=(hG6.eff.cell (p:=⟨yb,0,none⟩) szW (fun h=>h.elim nOy.out.1 nOy.out.2.2.2)).trans ey2.out
  have kf6:=hB6.cf
  have ku6:=hB6.cu
  obtain ⟨lo,hlo⟩:∃lo,max 0 (f - 86400 * n)=lo:=⟨_,rfl⟩
  have lo0:0≤lo:=by omega
  have lo1:lo≤9223372036854775807:=by omega
  have cN:=hid (fun s (h0:0≤s) (h1:s≤9223372036854775807) W hT h=>yen (some d) (dayQ cs n) s W h0 h1 hT h)
  have cN1:Hid (∀v:Int,v=lo→Calls Tryz.prog 75 #[.pointer (some ⟨d,0,none⟩), .int .i64 v] W6 fun r w'=>(∃n2 ok,r= .returned (.tuple #[.int .i64 n2, .bool ok])∧FirstOf (fun k=>dayQ cs n k && decide (lo≤k)) n2 ok)∧W6=w'):=by
   rintro v rfl; exact cN.out v lo0 lo1 W6 hD.tab.1 hD.di.2.2
  obtain ⟨s,hs⟩:∃s,shF n=s:=⟨_,rfl⟩
  have hs0:s 0=n:=by rw [←hs]; rfl
  have hsh:=hD.sh
  rw [hs] at hsh
  obtain ⟨s0,-⟩:=hsh
  rw [hs0] at s0
  have HP:=hid (And.intro hJ6 (And.intro hB6 (And.intro hD hG6)))
  have En:=hid en
  have Hlo:=hid hlo
  have NO6:Hid (¬O6 yb):=fun h=>(hG6.new yb h).elim nOy.out.1 (fun h=>by omega)
  have NF6:=hid (And.intro (show yb < W6.heap.size by have:=hG6.eff.size; omega) hD.lt)
  clear hJ6 hB6 hD hG6 en hs hs0 hlo
  gi_wp2_with fail
  all_goals
   refine (wf_calls.mpr (cN1.out _ (by have:=Hlo.out; omega))).mono ?_
   rintro e w7 ⟨⟨a7,ok7,rfl,hF7⟩,rfl⟩
   have HL0:Hid (∃(s:Int) (p:Nat),FirstOf (fun k=>dayQ cs n k && decide (s≤k)) a7 ok7∧SkL cs (RM br bk bps) n d xf xu f u lo s p (cntI cs f u ds k) J O6 F6 W6 O6 W6):=by
    obtain ⟨hJ6,hB6,hD,hG6⟩:=HP.out
    exact ⟨lo,0,hF7,lo0,by omega,fun j x h=>by simpa using h,by simpa using hJ6,Grow.refl _ _,hD.dj,hB6,hD.di,hD.tab⟩
   clear hF7 s0 kf6 ku6 cN1
   gi_wp2_with fail
   gi_loopw [9,10] (fun av okv wr=>∃(a8:Int) (ok8:Bool) (O8:Blk),av= .int .i64 a8∧okv= .bool ok8∧(ok8=true→0≤a8∧a8 < 86400)∧Hid (∃(s:Int) (p:Nat),FirstOf (fun k=>dayQ cs n k && decide (s≤k)) a8 ok8∧SkL cs (RM br bk bps) n d xf xu f u lo s p (cntI cs f u ds k) J O6 F6 W6 O8 wr)) (fun av okv wr=>twOf okv * (86401 - intOf av).toNat)
   case atStart=>exact ⟨a7,ok7,O6,rfl,rfl,fun h=>by obtain ⟨s,p,h1,-⟩:=HL0.out; have:=(ydH (u:=u) h1).2.2.2 h; omega,HL0⟩
   case round=>
    clear HL0
    obtain ⟨a8,ok8,O8,rfl,rfl,hb8,HL⟩:=hrel
    cases ok8
    ·have hfin:Hid (Grow O6 O8 W6 wr∧J (cntI cs f u ds (k+1)) O8 F6 wr∧BxF (RM br bk bps) xf xu f u F6 wr):=by
      obtain ⟨s,p,hF8,hS⟩:=HL.out
      have g3:=(ydH (u:=u) hF8).2.2.1 rfl
      have hc:=hS.cnt
      rw [g3,List.length_nil,Nat.add_zero] at hc
      refine ⟨hS.gr,?_,hS.bx⟩
      rw [ydP En.out,dayI,Hlo.out,List.length_map,←hc]; exact hS.j
     clear HL
     gi_wp2
     exact ⟨O8,hfin.out.1,hfin.out.2⟩
    ·obtain ⟨b0,b1⟩:=hb8 rfl
     obtain ⟨s,p,hF8,hS⟩:=HL.out
     have ku8:=hS.bx.cu
     obtain ⟨g1,g2,-,g4⟩:=ydH (u:=u) hF8
     have ey8:=(hS.gr.eff.cell (p:=⟨yb,0,none⟩) NF6.out.1 NO6.out).trans ey6
     have HS:=hid hS
     have G1:=hid g1
     have G2:=hid g2
     have G4:=hid g4
     clear hS g1 g2 g4 hF8 HL
     by_cases hu:u < n * 86400+a8
     ·have hfin:Hid (Grow O6 O8 W6 wr∧J N O8 F6 wr):=by
       have g3:=G2.out rfl (by omega)
       have hc:=HS.out.cnt
       rw [g3,List.length_nil,Nat.add_zero] at hc
       refine ⟨HS.out.gr,?_⟩
       have hst:=inst_stop (cs:=cs) (f:=f) (u:=u) HUp.out En.out b1 (by omega)
       rw [HN.out,ydP En.out,dayI,Hlo.out,List.length_map,←hc] at hst
       rw [hst]; exact HS.out.j
      clear HS G1 G2
      gi_wp2
      exact ⟨O8,hfin.out.1,rfl, .inr hfin.out.2⟩
     ·have hrem:=G1.out rfl (by omega)
      have hat:(remI cs n u lo)[p]? =some a8:=HS.out.at' 0 a8 (by rw [hrem]; rfl)
      have hat2:(dayI cs f u n)[p]? =some (n * 86400+a8):=by
       rw [dayI,Hlo.out,List.getElem?_map,hat]
       show some (86400 * n+a8)= _
       congr 1; omega
      have hat3:=inst_at En.out hat2
      have hidx:cntI cs f u ds k+p < N:=by rw [←HN.out]; exact (zzq.1 hat3).1
      have hGM:GrowM (RM br bk bps) O O8 W wr:=((GrowM.trans (⟨fun _ h=>h,fun _ h=> .inl h,Eff.of_below HB02.out⟩:GrowM (RM br bk bps) O O W w2) HP.out.2.2.2)).trans (HS.out.gr.toM _)
      have hcall:=HC.out.call _ O8 F6 wr #[.int .i64 (n * 86400+a8)] hidx HS.out.j HS.out.dj ⟨_,hat3,rfl⟩ hGM
      have Hcall:=hid hcall
      have Hidx:=hid hidx
      have Hrem:=hid hrem
      have hltF:Hid (∀b,F6 b→b < wr.heap.size):=fun b hb=>zH (NF6.out.2 b hb) HS.out.gr.eff.size
      clear hrem hat hat2 hat3 hidx hGM hcall
      gi_wp2_with (refine callvw (.tmp 52) (.tmp 55) _ (by rfl) rfl rfl rfl Hcall.out ?_)
      rintro e W9 O9 y1 y2 y3 hend
      rcases hend with ⟨rfl,hJ9⟩ | ⟨rfl,hJ9⟩
      ·have hd9:DiF W9 F6 (RM br bk bps) d (dayQ cs n):=⟨HS.out.di.1,HS.out.di.2.1,HS.out.di.2.2.eff y3 (HS.out.dj d HS.out.di.1)⟩
       have ht9:Tab W9:=HS.out.tab.1.eff y3 (HS.out.dj _ HS.out.tab.2)
       have hb9:BxF (RM br bk bps) xf xu f u F6 W9:=HS.out.bx.keep (fun _ h=>h) (fun b hb=>y3.block b (hltF.out b hb.1) (HS.out.dj b hb.1))
       have hdj9:∀b,F6 b→¬O9 b:=fun b hb ho=>by
        rcases y2 b ho with h | h
        ·exact HS.out.dj b hb h
        ·have:=hltF.out b hb; omega
       have hS9:Hid (SkL cs (RM br bk bps) n d xf xu f u lo (a8+1) (p+1) (cntI cs f u ds k) J O6 F6 W6 O9 W9):=by
        have hc:=HS.out.cnt
        rw [Hrem.out,List.length_cons] at hc
        exact ⟨by omega,by omega,fun j x h=>by
         have:=HS.out.at' (j+1) x (by rw [Hrem.out,List.getElem?_cons_succ]; exact h)
         rw [show p+1+j=p+(j+1) by omega]; exact this,hJ9,HS.out.gr.trans ⟨y1,y2,y3⟩,hdj9,hb9,hd9,⟨ht9,HS.out.tab.2⟩⟩
       have cN9:=hid (cN.out (a8+1) (by omega) (by omega) W9 ht9 hd9.2.2)
       clear y1 y2 y3 hJ9 hd9 ht9 hb9 hdj9 HS G1 G2 Hcall hltF
       refine ⟨_,rfl,?_⟩
       gi_wp2_with fail
       refine (wf_calls.mpr cN9.out).mono ?_
       rintro e w10 ⟨⟨a10,ok10,rfl,hF10⟩,rfl⟩
       have h10:=(ydH (u:=u) hF10).2.2.2
       have HL9:Hid (∃(s:Int) (p:Nat),FirstOf (fun k=>dayQ cs n k && decide (s≤k)) a10 ok10∧SkL cs (RM br bk bps) n d xf xu f u lo s p (cntI cs f u ds k) J O6 F6 W6 O9 W9):=⟨_,_,hF10,hS9.out⟩
       clear hF10
       gi_wp2
       refine ⟨⟨a10,ok10,O9,rfl,rfl,fun h=>by have:=h10 h; omega,HL9⟩,?_⟩
       cases ok10
       ·simp only [twOf,intOf]; omega
       ·have:=h10 rfl
        simp only [twOf,intOf]; omega
      ·have hfin:Hid (Grow O6 O9 W6 W9∧∃q,1≤q∧q≤N∧Jx q O9 F6 W9):=⟨HS.out.gr.trans ⟨y1,y2,y3⟩,_,by omega,Nat.succ_le_of_lt Hidx.out,hJ9⟩
       clear y1 y2 y3 hJ9 HS G1 G2 Hcall hltF
       refine ⟨_,rfl,?_⟩
       gi_wp2
       exact ⟨O9,hfin.out.1,rfl, .inl hfin.out.2⟩
end
section
open Go.RowKit Go.Maps
def ybY (t:Int):Int:=min (max t (-1)) 12622780800
theorem NHeld_any (n lo hi:Int) (w:World) :
  Calls Tryz.prog 143 #[.int .i64 n, .int .i64 lo, .int .i64 hi] w fun e w'=>e= .returned (.int .i64 (min (max n lo) hi))∧w' =w:=by
 go_enter Tryz.func143,Tryz.ntmps143
 go_wp2
 all_goals go_ret
 all_goals first
  | exact ⟨rfl,rfl⟩
  | exact ⟨by rw [show min (max n lo) hi=hi by omega]; rfl,rfl⟩
  | exact ⟨by rw [show min (max n lo) hi=n by omega]; rfl,rfl⟩
  | exact ⟨by rw [show min (max n lo) hi=lo by omega]; rfl,rfl⟩
theorem yfZ (t:Int) (w:World) :
  Calls Tryz.prog 96 #[.int .i64 t] w fun e w'=>e= .returned (.int .i64 (ybY t))∧w' =w:=by
 have cH:=hid (NHeld_any t (-1) 12622780800 w)
 obtain ⟨X,hX⟩:∃X,ybY t=X:=⟨_,rfl⟩
 rw [show min (max t (-1)) 12622780800=ybY t from rfl,hX] at cH
 rw [hX]
 clear hX
 go_enter Tryz.func96,Tryz.ntmps96
 go_wp2_with fail
 refine cH.out.mono ?_
 rintro e w2 ⟨rfl,rfl⟩
 go_wp2
 go_ret
 exact ⟨rfl,rfl⟩
def FSk (W W':World):Blk:=fun b=>(W.heap.size≤b∧b < W'.heap.size)∨b=0
theorem ykB (a:Option Addr) (cap:Nat) (l:List Cl) (f u:Int) (W:World) (hl:l.length≤9223372036854775807) (hlc:l.length≤cap) (hs:Sl W a (cls l)) (hno:a=none→cap=0) (hok:∀c∈l,c.Ok) (hT:Tab W) (hf:yas l=0) :
  Calls Tryz.prog 95 #[.slice a l.length cap, .int .i64 f, .int .i64 u] W fun e W'=>∃br bk bps xe xf xu xr,e= .returned (.func (.func 142) #[] #[.pointer (some ⟨xe,0,none⟩), .pointer (some ⟨xf,0,none⟩), .pointer (some ⟨xu,0,none⟩), .pointer (some ⟨xr,0,none⟩)])∧Below W.heap.size W W'∧
   HSk l br bk bps xe xf xu xr (max f 0) (min u 12622780799) (InvS 0) (FSk W W') W'∧∀b,RM br bk bps b→W.heap.size≤b:=by
 obtain ⟨W1,hW1⟩:∃W1,(W.alloc (.cells #[.int .i64 f] 2)).alloc (.cells #[.int .i64 u] 2)=W1:=⟨_,rfl⟩
 have hB1:Below W.heap.size W W1:=by rw [←hW1]; exact yaa (yaa (Below.refl _ _) (zG _)) (by simp)
 have s1:W1.heap.size=W.heap.size+2:=by rw [←hW1]; simp
 have k4:W1.cell? ⟨W.heap.size,0,none⟩=some (.int .i64 f):=by rw [←hW1]; simp [go_sem]
 have k5:W1.cell? ⟨W.heap.size+1,0,none⟩=some (.int .i64 u):=by rw [←hW1]; simp [go_sem]
 have z4:W1.frozen? ⟨W.heap.size,0,none⟩=false:=by rw [←hW1]; simp [go_sem]
 have z5:W1.frozen? ⟨W.heap.size+1,0,none⟩=false:=by rw [←hW1]; simp [go_sem]
 have cN:=hid (ygN a cap l W1 hl hlc (hs.below hB1) hno hok (hT.later hB1))
 have HB1:=hid hB1
 have HW1:=hid hW1
 have S1:=hid s1
 have Hf:=hid hf
 have HTt:=hid hT
 clear hW1 hB1 hs hok hT s1 hno hlc hf
 go_enter Tryz.func95,Tryz.ntmps95
 go_upto_region 1 with fail
 rw [HW1.out]
 go_wp2_with fail
 refine cN.out.mono ?_
 rintro e w2 ⟨hN,hB2⟩
 rcases hN with ⟨hX,-⟩ | ⟨hX,br,bk,bps,rfl,hR,hM⟩
 ·exact absurd Hf.out hX
 have j4:=(hB2.cell (p:=⟨W.heap.size,0,none⟩) (by have:=S1.out; simp only []; omega)).trans k4
 have j5:=(hB2.cell (p:=⟨W.heap.size+1,0,none⟩) (by have:=S1.out; simp only []; omega)).trans k5
 have y4:=(hB2.frozen (p:=⟨W.heap.size,0,none⟩) (by have:=S1.out; simp only []; omega)).trans z4
 have y5:=(hB2.frozen (p:=⟨W.heap.size+1,0,none⟩) (by have:=S1.out; simp only []; omega)).trans z5
 have HB2:=hid (HB1.out.trans (hB2.mono HB1.out.size))
 have S2:Hid (W.heap.size+2≤w2.heap.size):=by have:=hB2.size; have:=S1.out; show _≤_; omega
 have HR2:=hid hR
 have HM:=hid hM
 clear hX hB2 k4 k5 z4 z5 hR hM
 go_upto_region 2 with fail
 obtain ⟨w3,hw3⟩:∃w3,(w2.alloc (.cells #[.pointer (some ⟨br,0,none⟩)] 97)).alloc (.cells #[.int .i64 0] 35)=w3:=⟨_,rfl⟩
 have hB3:Below w2.heap.size w2 w3:=by rw [←hw3]; exact yaa (yaa (Below.refl _ _) (zG _)) (by simp)
 have s3:w3.heap.size=w2.heap.size+2:=by rw [←hw3]; simp
 have kr:w3.cell? ⟨w2.heap.size,0,none⟩=some (.pointer (some ⟨br,0,none⟩)):=by rw [←hw3]; simp [go_sem]
 have ke:w3.cell? ⟨w2.heap.size+1,0,none⟩=some (.int .i64 0):=by rw [←hw3]; simp [go_sem]
 have l4:W.heap.size < w3.heap.size:=by have:=S2.out; omega
 have l5:W.heap.size+1 < w3.heap.size:=by have:=S2.out; omega
 have k4:=(hB3.cell (p:=⟨W.heap.size,0,none⟩) (by have:=S2.out; simp only []; omega)).trans j4
 have k5:=(hB3.cell (p:=⟨W.heap.size+1,0,none⟩) (by have:=S2.out; simp only []; omega)).trans j5
 have z4:=(hB3.frozen (p:=⟨W.heap.size,0,none⟩) (by have:=S2.out; simp only []; omega)).trans y4
 have z5:=(hB3.frozen (p:=⟨W.heap.size+1,0,none⟩) (by have:=S2.out; simp only []; omega)).trans y5
 have HR3:=hid (HR2.out.below hB3)
 have HB3:=hid (HB2.out.trans (hB3.mono HB2.out.size))
 rw [hw3]
 have S3:=hid s3
 obtain ⟨xr,hxr⟩:∃x,w2.heap.size=x:=⟨_,rfl⟩
 have Hxr:=hid hxr
 rw [hxr] at kr ke⊢
 have hfin:Hid (∀X Y w5,X=max f 0→Y=min u 12622780799→w5= ((w3.setCell ⟨W.heap.size,0,none⟩ (.int .i64 X)).setCell ⟨W.heap.size+1,0,none⟩ (.int .i64 Y)).drew→Below W.heap.size W w5∧
   HSk l br bk bps (xr+1) W.heap.size (W.heap.size+1) xr (max f 0) (min u 12622780799) (InvS 0) (FSk W w5) w5∧∀b,RM br bk bps b→W.heap.size≤b):=by
  rintro X Y w5 rfl rfl rfl
  obtain ⟨X,hX⟩:∃X,max f 0=X:=⟨_,rfl⟩
  obtain ⟨Y,hY⟩:∃Y,min u 12622780799=Y:=⟨_,rfl⟩
  rw [hX,hY]
  have s3':=S3.out
  have s1':=S1.out
  have s2':=S2.out
  have xr':=Hxr.out
  have hB5:Below W.heap.size W ((w3.setCell ⟨W.heap.size,0,none⟩ (.int .i64 X)).setCell ⟨W.heap.size+1,0,none⟩ (.int .i64 Y)).drew:=(yab (yab HB3.out (by omega)) (by omega)).drew
  have sz:((w3.setCell ⟨W.heap.size,0,none⟩ (.int .i64 X)).setCell ⟨W.heap.size+1,0,none⟩ (.int .i64 Y)).drew.heap.size=w3.heap.size:=by simp [World.drew]
  have hF:∀b,FNew W1 w2 b→W1.heap.size≤b∨b=0:=fun b hb=>hb.elim (fun h=> .inl h.1) .inr
  have htl:0 < W.heap.size:=HTt.out.1
  have ko:∀b,FNew W1 w2 b→((w3.setCell ⟨W.heap.size,0,none⟩ (.int .i64 X)).setCell ⟨W.heap.size+1,0,none⟩ (.int .i64 Y)).drew.heap[b]? =w3.heap[b]?:=fun b hb=>by
   have h1:=hF b hb
   have n1:W.heap.size≠b:=by rcases h1 with h | h <;> omega
   have n2:W.heap.size+1≠b:=by rcases h1 with h | h <;> omega
   show ((w3.setCell ⟨W.heap.size,0,none⟩ (.int .i64 X)).setCell ⟨W.heap.size+1,0,none⟩ (.int .i64 Y)).heap[b]? =w3.heap[b]?
   rw [Below.heap_setCell _ _ _ _ (by exact Ne.symm n2),Below.heap_setCell _ _ _ _ (by exact Ne.symm n1)]
  have hR5:=(HR3.out.keep (by rw [sz]; exact zG _) ko).wide (F':=FSk W ((w3.setCell ⟨W.heap.size,0,none⟩ (.int .i64 X)).setCell ⟨W.heap.size+1,0,none⟩ (.int .i64 Y)).drew)
   (fun b hb=>hb.elim (fun h=> .inl ⟨by omega,by rw [sz]; omega⟩) .inr) (fun b hb=>by
     rw [sz]
     rcases hb with h | h
     ·rw [sz] at h; omega
     ·omega)
  have nm:∀b,RM br bk bps b→W.heap.size+2≤b∧b < xr:=fun b hb=>⟨by have:=HM.out b hb; omega,by have:=HR2.out.x.lt b (HR2.out.x.sub b hb); omega⟩
  refine ⟨hB5,⟨⟨_,_,hR5,zG 0⟩,⟨⟨.inl ⟨by omega,by rw [sz]; omega⟩,fun h=>by have:=nm _ h; omega⟩,⟨.inl ⟨by omega,by rw [sz]; omega⟩,fun h=>by have:=nm _ h; omega⟩,?_,?_⟩,
   ⟨.inl ⟨by omega,by rw [sz]; omega⟩,fun h=>by have:=nm _ h; omega⟩,⟨.inl ⟨by omega,by rw [sz]; omega⟩,fun h=>by have:=nm _ h; omega⟩,?_,?_⟩,fun b hb=>by have:=nm b hb; omega⟩
  ·show ((w3.setCell ⟨W.heap.size,0,none⟩ (.int .i64 X)).setCell ⟨W.heap.size+1,0,none⟩ (.int .i64 Y)).cell? ⟨W.heap.size,0,none⟩= _
   simp [go_sem,k4]
  ·show ((w3.setCell ⟨W.heap.size,0,none⟩ (.int .i64 X)).setCell ⟨W.heap.size+1,0,none⟩ (.int .i64 Y)).cell? ⟨W.heap.size+1,0,none⟩= _
   simp [go_sem,k5]
  ·show ((w3.setCell ⟨W.heap.size,0,none⟩ (.int .i64 X)).setCell ⟨W.heap.size+1,0,none⟩ (.int .i64 Y)).cell? ⟨xr+1,0,none⟩= _
   rw [zzL,zzL,ke]
   all_goals (simp only [ne_eq,Addr.mk.injEq,not_and]; intro h; omega)
  ·show ((w3.setCell ⟨W.heap.size,0,none⟩ (.int .i64 X)).setCell ⟨W.heap.size+1,0,none⟩ (.int .i64 Y)).cell? ⟨xr,0,none⟩= _
   rw [zzL,zzL,kr]
   all_goals (simp only [ne_eq,Addr.mk.injEq,not_and]; intro h; omega)
 clear hw3 hB3 s3 j4 j5 y4 y5 hxr
 go_region
 all_goals (go_upto_region 3 with fail)
 all_goals go_wp2
 all_goals go_ret
 all_goals exact ⟨_,_,_,_,_,_,_,rfl,hfin.out _ _ _ (by omega) (by omega) rfl⟩
theorem ykz {cs:List Cl} {br bk:Nat} {bps:List Nat} (xe xf xu xr:Nat) (f u:Int) (fu:u < f) :
  yfY Tryz.prog 142 #[.pointer (some ⟨xe,0,none⟩), .pointer (some ⟨xf,0,none⟩), .pointer (some ⟨xu,0,none⟩), .pointer (some ⟨xr,0,none⟩)] 0 (VInt (yaQ cs f u))
   (HSk cs br bk bps xe xf xu xr f u (InvS 0)) (HSk cs br bk bps xe xf xu xr f u (fun _ _=>True)) (HSk cs br bk bps xe xf xu xr f u (fun _ _=>True)) (RM br bk bps):=by
 intro y J Jx O F W hH hFO hC hJ
 obtain ⟨yf,yi,yc,rfl⟩:=hC.form
 show Calls Tryz.prog 142 #[.func yf yi yc, .pointer (some ⟨xe,0,none⟩), .pointer (some ⟨xf,0,none⟩), .pointer (some ⟨xu,0,none⟩), .pointer (some ⟨xr,0,none⟩)] W _
 obtain ⟨W1,hW1⟩:∃W1,W.alloc (.cells #[.func yf yi yc] 79)=W1:=⟨_,rfl⟩
 have q4:Below W.heap.size W W1:=by rw [←hW1]; exact yaa (Below.refl _ _) (zG _)
 have hFlt:=hH.lt
 have hOlt:=hC.lt 0 O F W hJ
 have hH1:=hH.keep q4.size (fun b hb=>q4.block b (hFlt b hb))
 have hfin:Hid (yhC 0 (HSk cs br bk bps xe xf xu xr f u (fun _ _=>True)) (HSk cs br bk bps xe xf xu xr f u (fun _ _=>True)) (RM br bk bps) J Jx O F W W1):=by
  obtain ⟨ws,m,hR,-⟩:=hH1.roll
  exact ⟨O,F,⟨fun _ h=>h,fun _ h=> .inl h,Eff.of_below q4⟩,fun _ h=>h,fun _ h=> .inl h,hFO, .inl ⟨hH1.step hR trivial (fun _ h=>h) (fun _ _ _=>rfl),hC.stab 0 O F F W W1 hJ q4.size (fun _ h=>h) (fun b hb=>q4.block b (hb.elim (hOlt b) (fun h=>hFlt b h.1)))⟩⟩
 have k1:=hH1.ce
 have k2:=hH1.bx.cf
 have k3:=hH1.bx.cu
 have HW1:=hid hW1
 have e1:decide (u < f)=true:=zzZ fu
 clear hH hFO hC hJ hW1 q4 hFlt hOlt hH1 fu
 refine (wf_calls (r:=none) (n:=1)).mp ?_
 refine callsIn_of_wp_marks Tryz.func142 rfl trivial ?_ rfl
 simp only [Tryz.ntmps142,List.size_toArray,List.length_cons,List.length_nil,Nat.reduceAdd,Nat.reduceSub,Array.replicate_succ,Array.replicate_zero,List.push_toArray,List.append_toArray,List.nil_append,List.cons_append]
 gi_wp2_with fail
 refine ycc ?_
 rw [HW1.out]
 gi_wp2
 try rw [Exit.noGoto_normal]
 exact ⟨_,results_none rfl _ _ _,⟨_,rfl⟩,hfin.out⟩
theorem yiq {cs:List Cl} {br bk:Nat} {bps:List Nat} (xe xf xu xr:Nat) (f u:Int) (f0:0≤f) (u1:u < 12622780800) :
  yfY Tryz.prog 142 #[.pointer (some ⟨xe,0,none⟩), .pointer (some ⟨xf,0,none⟩), .pointer (some ⟨xu,0,none⟩), .pointer (some ⟨xr,0,none⟩)] (yaQ cs f u).length (VInt (yaQ cs f u))
   (HSk cs br bk bps xe xf xu xr f u (InvS 0)) (HSk cs br bk bps xe xf xu xr f u (fun _ _=>True)) (HSk cs br bk bps xe xf xu xr f u (fun _ _=>True)) (RM br bk bps):=by
 rcases Int.lt_or_le u f with h | h
 ·rw [show (yaQ cs f u).length=0 by rw [yhl h]; rfl]
  exact ykz xe xf xu xr f u h
 ·exact ykA xe xf xu xr f u f0 h u1
end
end Go.Proofs.YtjahgimnfliooaaGreatDoor
