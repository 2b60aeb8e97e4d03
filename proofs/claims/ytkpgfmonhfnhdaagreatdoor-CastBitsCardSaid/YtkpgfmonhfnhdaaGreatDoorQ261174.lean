/-
  ferialaw22.lives: the chapter's example.
  meet.verdict: what is found of two sets.
  meet.Equal, Within, Empty, Apart.
  ferialaw22.bits and marks.
-/
import Derived.Test.YtkpgfmonhfnhdaaGreatDoorQ7442ed
import Derived.Test.YtkpgfmonhfnhdaaGreatDoorQfea719
import Derived.Test.YtkpgfmonhfnhdaaGreatDoorQ02743d
import Derived.Test.YtkpgfmonhfnhdaaGreatDoorQbf9d08
import Derived.Test.YtkpgfmonhfnhdaaGreatDoorQ967547
import Derived.Test.YtkpgfmonhfnhdaaGreatDoorQ594558
import Derived.Test.YtkpgfmonhfnhdaaGreatDoorQ15e503
import Derived.Test.YtkpgfmonhfnhdaaGreatDoorQd6e098
set_option maxRecDepth 100000
set_option maxHeartbeats 25600000
namespace Go.Proofs.YtkpgfmonhfnhdaaGreatDoor
set_option linter.unusedVariables false
section
open Go.RowKit Go.Maps
attribute [local irreducible] secL
attribute [local go_sem ↓] yeM ydH
theorem full_dq {D:Int} (h0:0≤D) (h1:D≤146096) {j:Nat} (hj:j < 86400):dayQ [fullCl] D j=true:=by
 rw [dayQ,List.any_cons,List.any_nil,Bool.or_false]
 exact yi0 (by rw [winB,zzY]; omega)
def allS:List Int:=secL fun _=>true
theorem yej {x:Int}:x∈allS↔0≤x∧x < 86400:=by
 rw [allS,yas]
 constructor
 ·rintro ⟨j,hj,-,rfl⟩; omega
 ·intro h; exact ⟨x.toNat,by omega,rfl,by omega⟩
theorem yhg:allS.Pairwise (·< ·):=ycx _
theorem yg7 {D:Int} (h0:0≤D) (h1:D≤146096):secL (dayQ [fullCl] D)=allS:=yfl fun k hk=>full_dq h0 h1 hk
theorem yiZ:lsL [fullCl] (yac 0 146096)= (yac 0 146096).map fun _=>allS:=by
 rw [lsL]; exact List.map_congr_left fun D hD=>yg7 (yaz.1 hD).1 (yaz.1 hD).2
theorem full_ev:evB (lsL [fullCl] (yac 0 146096))=true:=by
 rw [yiZ]
 generalize yac 0 146096=X
 rw [evB,List.all_eq_true]
 intro L hL
 cases X with
 | nil=>cases hL
 | cons D X=>
   obtain ⟨E,hE,rfl⟩:=List.mem_map.1 hL
   exact zzZ rfl
theorem all_sq:sqB allS=true:=by
 rw [sqB,zzY]
 congr 1
 refine ydL (ydk _ _ _) yhg fun x=>⟨fun h=>yej.2 (secsOf_bd _ _ _ h),fun h=>?_⟩
 have hx:=yej.1 h
 have lt:∀l,ofM l < 18446744073709551616:=fun l=>yao _
 refine (yb7 (lt _) (lt _) (lt _) hx.1 hx.2).2 ?_
 have key:∀(l:List Int) (y:Int),0≤y→y < 64→y∈l→hasB (ofM l) y=true:=fun l y y0 y1 hy=>by
  rw [hasB,ych]
  simp [show y.toNat < 64 by omega,Int.toNat_of_nonneg y0,hy]
  try omega
 rw [yaW,key (hrL allS) (x / 3600) (by omega) (by omega) (List.mem_map.2 ⟨x,h,rfl⟩),key (mnL allS) (x / 60 % 60) (by omega) (by omega) (List.mem_map.2 ⟨x,h,rfl⟩),key (scL allS) (x % 60) (by omega) (by omega) (List.mem_map.2 ⟨x,h,rfl⟩),dayB]
 simp; omega
theorem full_sq:sqA (lsL [fullCl] (yac 0 146096))=true:=by
 rw [yiZ,sqA,List.all_eq_true]
 intro L hL
 obtain ⟨E,hE,rfl⟩:=List.mem_map.1 hL
 exact all_sq
theorem fst_all:fstI allS=0:=by
 obtain ⟨i,hi,he⟩:=List.getElem_of_mem (yej.2 (show (0:Int)≤0∧(0:Int) < 86400 by omega))
 have h0:0 < allS.length:=by omega
 rw [fstI,zzp h0,Option.getD_some]
 by_cases i0:i=0
 ·subst i0; exact he
 ·have h1:=(List.pairwise_iff_getElem.1 yhg) 0 i h0 hi (by omega)
  have h2:=(yej.1 (zzr h0)).1
  omega
theorem fiV_hd {l:List Cl} {X:List Int} {D:Int} (h:X[0]? =some D):fiV l X=86400 * D+fstI (secL (dayQ l D)):=by unfold fiV; rw [h]
theorem full_fi:fiV [fullCl] (yac 0 146096)=0:=by
 have e:(yac 0 146096)[0]? =some 0:=by
  rw [zzp (by rw [yat]; decide),ybi]; rfl
 rw [fiV_hd e,yg7 (by omega) (by omega),fst_all]; rfl
theorem mid_month:∀i:Nat,i < 13→1≤i→shF (30 * i - 15) 2=i:=by decide +kernel
theorem fcU_3 (X:List Int):fcU 0 0 0 X 3=ofM (X.map fun D=>shF D 2):=by
 unfold fcU; rw [if_neg (by omega),if_neg (by omega),if_neg (by omega),if_pos (by omega)]
theorem full_mo:fcU 0 0 0 (yac 0 146096) 3=8190:=by
 rw [fcU_3]
 have e:ofM ((yac 0 146096).map fun D=>shF D 2)=mk fun i=>decide (1≤i∧i≤12):=by
  rw [ofM]
  refine yaC fun i hi=>?_
  rw [inB]
  refine decide_eq_decide.2 ?_
  rw [List.mem_map]
  constructor
  ·rintro ⟨D,hD,e⟩
   have hd:=yaz.1 hD
   have:=yaB (n:=D) hd.1 (by omega)
   have e2:fMo D=i:=e
   omega
  ·intro h
   exact ⟨30 * i - 15,yaz.2 ⟨by omega,by omega⟩,mid_month i (by omega) h.1⟩
 rw [e]; decide +kernel
theorem full_face {u:Nat→Nat} {fi la n:Int} {ev sq:Bool} (h:FaceP [fullCl] u fi la n ev sq):fi=0∧n=146097∧ev=true∧sq=true∧u 3=8190:=by
 obtain ⟨-,hu,hn,hf,-,he,hs⟩:=h
 rw [yhb (by omega) (by omega)] at hn hf he hs
 have h3:=hu 3 (by omega) (by omega)
 rw [yhb (by omega) (by omega),full_mo] at h3
 exact ⟨hf.trans full_fi,by rw [hn,yat]; rfl,he.trans full_ev,hs.trans full_sq,h3⟩
theorem yif (w:World) (hT:Tab w):Calls Tryz.prog 7 #[] w fun e w'=>e= .returned (.bool true)∧Below w.heap.size w w':=by
 have cW:=hid (ykq w)
 have cO:=hid (fun (g:Nat) W (hB:Below w.heap.size w W) (h:Sl W (some ⟨g,0,none⟩) (cls [fullCl]))=>COf_any (some ⟨g,0,none⟩) 1 [fullCl] W (by simp) (by simp) h (fun h=>by cases h) full_okL (hT.later hB))
 clear hT
 go_enter Tryz.func7,Tryz.ntmps7
 go_wp2_with fail
 refine cW.out.mono ?_
 rintro e w1 ⟨⟨g,rfl,hO⟩,hB1⟩
 obtain ⟨a1,cap1,e1,hsl,-⟩:=ybx hO
 injection e1 with e1 e2 e3
 subst e1
 have HB1:=hid hB1
 have cO1:=hid (cO.out g w1 hB1 hsl)
 clear hB1 hO hsl cW cO e2 e3
 go_wp2_with fail
 refine cO1.out.mono ?_
 rintro e w2 ⟨hC,hB2⟩
 rcases hC with ⟨hf,-⟩ | ⟨-,u,fi,la,n,ev,sq,rfl,hF⟩
 ·exact absurd yjW hf
 obtain ⟨rfl,rfl,rfl,rfl,hu3⟩:=full_face hF
 have HB2:=hid (HB1.out.trans (hB2.mono HB1.out.size))
 have e8:FcB w2.heap.size (fun _=>0) 0 0 0 false false (w2.alloc (.cells zl0 28)):=ygi w2 28
 have hst8:=e8.st u 0 la 146097 true true
 have H8:=e8.put u 0 la 146097 true true
 have HB8:Hid (Below w2.heap.size w2 ((w2.alloc (.cells zl0 28)).setCells w2.heap.size 0 (fcL u 0 la 146097 true true))):=(yaa (Below.refl _ _) (zG _)).trans ((Eff.setCells (O:=fun x=>x=w2.heap.size) rfl (fcL u 0 la 146097 true true) 0 _ (Eff.refl _ _)).below (by rintro b rfl; exact zG _) (by simp))
 obtain ⟨w3,hw3⟩:∃w3,(w2.alloc (.cells zl0 28)).setCells w2.heap.size 0 (fcL u 0 la 146097 true true)=w3:=⟨_,rfl⟩
 rw [hw3] at H8 HB8 hst8
 have HB3:=hid (HB2.out.trans (HB8.out.mono HB2.out.size))
 have c46:=H8.c46
 have c48:=H8.c48
 have c49:=H8.c49
 have c50:=H8.c50
 have c3:=H8.c 3 (by omega)
 rw [hu3] at c3
 have hnn:w2.heap.size=w2.heap.size:=rfl
 clear hB2 e8 hw3 H8 cO1 hF hu3 hnn
 go_wp2
 go_ret
 exact ⟨rfl,HB3.out⟩
end
section
open Go.RowKit Go.Maps
def InvN (j:Nat) (ws:Nat→Bool) (m:Nat):Prop:=m≤j
theorem yg2 (cs:List Cl) (j:Nat) (n:Int) (ws:Nat→Bool) (m:Nat) (ws':Nat→Bool) (m':Nat) (h:InvN j ws m) (hs:ya7 cs n ws m ws' m'):InvN (j+1) ws' m':=by
 rw [InvN] at h⊢
 rcases hs with ⟨_,_,h1⟩ | ⟨_,_,_,h1⟩ | ⟨_,_,_,h1 | h1⟩
 ·omega
 ·split at h1 <;> omega
 ·omega
 ·omega
def VrdR (pw:Bool→Bool→Bool) (la lb:List Cl) (e:Ending):Prop:=
 (yah la≠0∧e= .returned (.tuple #[verV false 0 false, .int .i64 (yah la)]))∨
 (yah la=0∧yah lb≠0∧e= .returned (.tuple #[verV false 0 false, .int .i64 (yah lb)]))∨
 (yah la=0∧yah lb=0∧∃y t f,e= .returned (.tuple #[verV y t f, .int .i64 0])∧VerP pw la lb y t f)
theorem yhs (a:Option Addr) (cap:Nat) (la:List Cl) (b:Option Addr) (capb:Nat) (lb:List Cl) (g:Nat) (pw:Bool→Bool→Bool) (W:World)
  (hl:la.length≤1000) (hlc:la.length≤cap) (hs:Sl W a (cls la)) (hno:a=none→cap=0) (hok:∀c∈la,c.Ok)
  (hlb:lb.length≤1000) (hlcb:lb.length≤capb) (hsb:Sl W b (cls lb)) (hnob:b=none→capb=0) (hokb:∀c∈lb,c.Ok) (hT:Tab W)
  (hg:∀args w,(callFunc g args).run Tryz.prog w= .ok (.enter g args) w) (hF:FindC g pw) (hp:pw false false=false) :
  Calls Tryz.prog 39 #[.slice a la.length cap, .slice b lb.length capb, .func (.func g) #[] #[]] W fun e W'=>VrdR pw la lb e∧Below W.heap.size W W':=by
 obtain ⟨W1,hW1⟩:∃W1,W.alloc (.cells #[.bool false, .int .i64 0, .bool false] 46)=W1:=⟨_,rfl⟩
 have HB1:Hid (Below W.heap.size W W1):=by rw [←hW1]; exact yaa (Below.refl _ _) (zG _)
 have L1:Hid (W.heap.size < W1.heap.size):=by show _ < _; rw [←hW1]; simp
 have C1:Hid ((W1.cell? ⟨W.heap.size,0,none⟩=some (.bool false)∧W1.cell? ⟨W.heap.size,1,none⟩=some (.int .i64 0)∧W1.cell? ⟨W.heap.size,2,none⟩=some (.bool false))∧∀i,W1.frozen? ⟨W.heap.size,i,none⟩=false):=by
  rw [←hW1]; exact ⟨⟨by simp [go_sem],by simp [go_sem],by simp [go_sem]⟩,fun i=>by simp [go_sem]⟩
 have cB:=hid (ykk a cap la b capb lb g pw W1 hl hlc (hs.below HB1.out) hno hok hlb hlcb (hsb.below HB1.out) hnob hokb (hT.later HB1.out))
 have HT:=hid hT
 have HF:=hid hF
 have HP:=hid hp
 have HW1:=hid hW1
 clear hl hlc hs hno hok hlb hlcb hsb hnob hokb hT hF hp hW1
 go_enter Tryz.func39,Tryz.ntmps39
 go_upto_region 1 with fail
 rw [HW1.out]
 go_wp2_with fail
 refine cB.out.mono ?_
 rintro e w2 ⟨hR,hB2⟩
 have HB2:=hid (HB1.out.trans (hB2.mono HB1.out.size))
 have C2:Hid ((w2.cell? ⟨W.heap.size,0,none⟩=some (.bool false)∧w2.cell? ⟨W.heap.size,1,none⟩=some (.int .i64 0)∧w2.cell? ⟨W.heap.size,2,none⟩=some (.bool false))∧∀i,w2.frozen? ⟨W.heap.size,i,none⟩=false):=
  ⟨⟨(hB2.cell (p:=⟨W.heap.size,0,none⟩) L1.out).trans C1.out.1.1,(hB2.cell (p:=⟨W.heap.size,1,none⟩) L1.out).trans C1.out.1.2.1,(hB2.cell (p:=⟨W.heap.size,2,none⟩) L1.out).trans C1.out.1.2.2⟩,fun i=>(hB2.frozen (p:=⟨W.heap.size,i,none⟩) L1.out).trans (C1.out.2 i)⟩
 have L2:Hid (W1.heap.size≤w2.heap.size):=hB2.size
 clear hB2 cB
 have fault:∀X:Int,X≠0→VrdR pw la lb (.returned (.tuple #[verV false 0 false, .int .i64 X]))→e= .returned (.tuple #[.pointer none, .int .i64 X])→True:=fun _ _ _ _=>trivial
 clear fault
 rcases hR with ⟨hf,rfl⟩ | ⟨hf,hf2,rfl⟩ | ⟨hf,hf2,x,fm,ra,rb,Fa,Fb,rfl,hA,hx,hfm,hM⟩
 ·obtain ⟨X,hX⟩:∃X,yah la=X:=⟨_,rfl⟩
  have HR:Hid (VrdR pw la lb (.returned (.tuple #[verV false 0 false, .int .i64 (yah la)]))):= .inl ⟨hf,rfl⟩
  rw [hX] at hf HR⊢
  have hX0:(X == 0)=false:=by simpa using hf
  have hX1:(X != 0)=true:=by simpa using hf
  obtain ⟨⟨c0,c1,c2⟩,z⟩:=C2.out
  have z0:=z 0
  have z1:=z 1
  have z2:=z 2
  clear hX z
  go_wp2
  refine bodyPost_ret (v:= .tuple #[verV false 0 false, .int .i64 X]) ?_ rfl ⟨HR.out,?_⟩
  ·simp [results,Tryz.results39,go_sem,verV,c0,c1,c2]
  ·exact yab (yab (yab HB2.out (zG _)) (zG _)) (zG _)
 ·obtain ⟨X,hX⟩:∃X,yah lb=X:=⟨_,rfl⟩
  have HR:Hid (VrdR pw la lb (.returned (.tuple #[verV false 0 false, .int .i64 (yah lb)]))):= .inr (.inl ⟨hf,hf2,rfl⟩)
  rw [hX] at hf2 HR⊢
  have hX0:(X == 0)=false:=by simpa using hf2
  have hX1:(X != 0)=true:=by simpa using hf2
  obtain ⟨⟨c0,c1,c2⟩,z⟩:=C2.out
  have z0:=z 0
  have z1:=z 1
  have z2:=z 2
  clear hX z
  go_wp2
  refine bodyPost_ret (v:= .tuple #[verV false 0 false, .int .i64 X]) ?_ rfl ⟨HR.out,?_⟩
  ·simp [results,Tryz.results39,go_sem,verV,c0,c1,c2]
  ·exact yab (yab (yab HB2.out (zG _)) (zG _)) (zG _)
 ·have HA:=hid hA
  have Hx:=hid (And.intro hx (And.intro hfm hM))
  have Hf:=hid (And.intro hf hf2)
  have cF:=hid (ykj (W:=w2) InvN InvN (fun j n ws m ws' m' _ _ h hs=>yg2 la j n ws m ws' m' h hs) (fun j n ws m ws' m' _ _ h hs=>yg2 lb j n ws m ws' m' h hs) (fun j ws m h hj=>by rw [InvN] at h; omega) (fun j ws m h hj=>by rw [InvN] at h; omega) hg HF.out hA (zG 0) (zG 0))
  clear hA hx hfm hM hf hf2
  go_wp2_with fail
  refine cF.out.mono ?_
  rintro e w3 ⟨t,ok,Fa',Fb',wa',wb',ma',mb',j,rfl,hD,hA3,hE3,-,-,iA,iB⟩
  have hpl:=yhV HP.out hD
  have hx9:∀c,(c=x∨c=fm∨ra.M c∨rb.M c)→W1.heap.size≤c:=fun c hc=>by
   rcases hc with rfl | rfl | hc
   ·exact Hx.out.1
   ·exact Hx.out.2.1
   ·exact Hx.out.2.2 c hc
  have nW:¬(W.heap.size=x∨W.heap.size=fm∨ra.M W.heap.size∨rb.M W.heap.size):=fun h=>by have:=hx9 _ h; have:=L1.out; omega
  have lW:W.heap.size < w2.heap.size:=zH L1.out L2.out
  have HB3:Hid (Below W.heap.size W w3):=HB2.out.trans (hE3.below (fun c hc=>by have:=hx9 c hc; have:=HB1.out.size; omega) HB2.out.size)
  have c0:=(hE3.cell (p:=⟨W.heap.size,0,none⟩) lW nW).trans C2.out.1.1
  have c1:=(hE3.cell (p:=⟨W.heap.size,1,none⟩) lW nW).trans C2.out.1.2.1
  have c2:=(hE3.cell (p:=⟨W.heap.size,2,none⟩) lW nW).trans C2.out.1.2.2
  have z:∀i,w3.frozen? ⟨W.heap.size,i,none⟩=false:=fun i=>(hE3.frozen (p:=⟨W.heap.size,i,none⟩) lW nW).trans (C2.out.2 i)
  have z0:=z 0
  have z1:=z 1
  have z2:=z 2
  have HA3:=hid hA3
  have Hm:=hid (And.intro iA iB)
  have L3:Hid (w2.heap.size≤w3.heap.size):=hE3.size
  have lW3:Hid (W.heap.size < w3.heap.size):=zH lW L3.out
  clear hD hA3 hE3 iA iB cF hx9 lW z
  rcases hpl with ⟨⟨rfl,hLe,-⟩ | ⟨rfl,rfl,hN⟩,hj⟩
  rotate_left
  ·have HR:Hid (VrdR pw la lb (.returned (.tuple #[verV true 0 false, .int .i64 0]))):= .inr (.inr ⟨Hf.out.1,Hf.out.2,true,0,false,rfl, .inl ⟨hN,rfl,rfl,rfl⟩⟩)
   clear hN hj nW
   go_wp2
   refine bodyPost_ret (v:= .tuple #[verV true 0 false, .int .i64 0]) ?_ rfl ⟨HR.out,?_⟩
   ·simp [results,Tryz.results39,go_sem,verV,c0,c1,c2]
   ·exact yab (yab (yab HB3.out (zG _)) (zG _)) (zG _)
  ·have hj2:=hj
   have t0:=hLe.1
   have t1:=hLe.2.1
   have HLe:=hid hLe
   obtain ⟨n,hn⟩:∃n,t / 86400=n:=⟨_,rfl⟩
   have n0:0≤n:=by omega
   have n1:n < 146097:=by omega
   obtain ⟨k,hk⟩:∃k:Nat,t % 86400=k:=⟨(t % 86400).toNat,by omega⟩
   have hk2:k < 86400:=by omega
   have cD:=hid (yh8 (W:=w3) n n0 n1 (by have:=Hm.out.1; rw [InvN] at this; omega) HA3.out.two.a)
   have x0:=HA3.out.c0
   have hd1:IntKind.i64.wrap (Int.tdiv t 86400)=n:=by rw [Int.tdiv_eq_ediv_of_nonneg t0,hn]; exact IntWalk.i64_in _ (by omega)
   have hd2:IntKind.i64.wrap (Int.tmod t 86400)= (k:Int):=by rw [Int.tmod_eq_emod_of_nonneg t0,hk]; exact IntWalk.i64_in _ (by omega)
   have Hq:Hid (dayQ la n k=yam la t):=by show _ = _; rw [ya2]; congr 1; omega
   have Hn:=hid (And.intro n0 n1)
   have Hk:=hid hk2
   have h8:=hid (yf3 HA3.out.two.a.x.may)
   clear hLe hj hj2 n0 n1 hk2
   go_wp2_with fail
   refine cD.out.mono ?_
   rintro e w4 ⟨d,F2,ws2,m2,rfl,hR4,-,hE4,-,hnone,hsome⟩
   have hdo:DiscO w4 d (dayQ la n):=DOf.disc (F:=F2) (M:=ra.M) ⟨fun hd j hj=>ycX h8.out Hn.out.1 Hn.out.2 (hnone hd) hj,hsome⟩
   have cH:=DHasO_any d (dayQ la n) (k:Int) w4 hdo
   rw [ycF,zzZ Hk.out,zzo,Int.toNat_natCast,Hq.out] at cH
   have CH:=hid cH
   obtain ⟨v,hv⟩:∃v,dptr d=v:=⟨_,rfl⟩
   rw [hv] at CH⊢
   have nM:¬RM ra.br ra.bk ra.bps W.heap.size:=fun h=>nW (.inr (.inr (.inl h)))
   have HB4:Hid (Below W.heap.size W w4):=HB3.out.trans (hE4.below (fun c hc=>by have:=Hx.out.2.2 c (.inl hc); have:=HB1.out.size; omega) HB3.out.size)
   replace c0:=(hE4.cell (p:=⟨W.heap.size,0,none⟩) lW3.out nM).trans c0
   replace c1:=(hE4.cell (p:=⟨W.heap.size,1,none⟩) lW3.out nM).trans c1
   replace c2:=(hE4.cell (p:=⟨W.heap.size,2,none⟩) lW3.out nM).trans c2
   replace z0:=(hE4.frozen (p:=⟨W.heap.size,0,none⟩) lW3.out nM).trans z0
   replace z1:=(hE4.frozen (p:=⟨W.heap.size,1,none⟩) lW3.out nM).trans z1
   replace z2:=(hE4.frozen (p:=⟨W.heap.size,2,none⟩) lW3.out nM).trans z2
   clear hR4 hE4 hnone hsome hdo cH hv nM cD x0
   go_wp2_with fail
   refine CH.out.mono ?_
   rintro e w5 ⟨rfl,rfl⟩
   obtain ⟨q,hq⟩:∃q,yam la t=q:=⟨_,rfl⟩
   have HR:Hid (VrdR pw la lb (.returned (.tuple #[verV false t q, .int .i64 0]))):= .inr (.inr ⟨Hf.out.1,Hf.out.2,false,t,q,rfl, .inr ⟨HLe.out,rfl,hq.symm⟩⟩)
   rw [hq]
   clear CH hq hd1 hd2 t0 t1 hn hk nW
   go_wp2
   refine bodyPost_ret (v:= .tuple #[verV false t q, .int .i64 0]) ?_ rfl ⟨HR.out,?_⟩
   ·simp [results,Tryz.results39,go_sem,verV,c0,c1,c2]
   ·exact yab (yab (yab HB4.out (zG _)) (zG _)) (zG _)
end
section
open Go.RowKit Go.Maps
theorem lacksC:FindC 40 (fun p q=>p && !q):=fun d e qa qb W hT hd he=>by
 have h:=ykv d e qa qb W hT hd.v.1 he.v.1
 rw [hd.v.2,he.v.2] at h
 exact h.mono fun r w' ⟨⟨n,ok,h1,h2⟩,h3⟩=>⟨⟨n,ok,h1,h2⟩,by subst h3; exact Below.refl _ _⟩
theorem DiscO.below {W W':World} {d:Option Nat} {q:Nat→Bool} (h:DiscO W d q) (hB:Below W.heap.size W W'):DiscO W' d q:=by
 cases d with
 | none=>exact h
 | some b=>exact DiscAt.block h hB.size (hB.block b (DiscAt.lt h))
def yfy (la lb:List Cl):Int:=if yah la≠0 then yah la else yah lb
def VrdP (pw:Bool→Bool→Bool) (la lb:List Cl) (y:Bool) (t:Int) (f:Bool) (er:Int):Prop:=er=yfy la lb∧(er≠0→y=false∧t=0∧f=false)∧(er=0→VerP pw la lb y t f)
theorem VrdR.form {pw:Bool→Bool→Bool} {la lb:List Cl} {e:Ending} (h:VrdR pw la lb e):∃y t f er,e= .returned (.tuple #[verV y t f, .int .i64 er])∧VrdP pw la lb y t f er:=by
 rcases h with ⟨h1,rfl⟩ | ⟨h1,h2,rfl⟩ | ⟨h1,h2,y,t,f,rfl,h3⟩
 ·exact ⟨false,0,false,_,rfl,by rw [yfy,if_pos h1],fun _=>⟨rfl,rfl,rfl⟩,fun h=>absurd h h1⟩
 ·exact ⟨false,0,false,_,rfl,by rw [yfy,if_neg (by simpa using h1)],fun _=>⟨rfl,rfl,rfl⟩,fun h=>absurd h h2⟩
 ·exact ⟨y,t,f,0,rfl,by rw [yfy,if_neg (by simpa using h1),h2],fun h=>absurd rfl h,fun _=>h3⟩
def MeetR (pw:Bool→Bool→Bool) (la lb:List Cl) (e:Ending):Prop:=∃y t f er,e= .returned (.tuple #[verV y t f, .int .i64 er])∧VrdP pw la lb y t f er
theorem yib (a:Option Addr) (cap:Nat) (la:List Cl) (W:World)
  (hl:la.length≤1000) (hlc:la.length≤cap) (hs:Sl W a (cls la)) (hno:a=none→cap=0) (hok:∀c∈la,c.Ok) (hT:Tab W) :
  Calls Tryz.prog 19 #[.slice a la.length cap] W fun e W'=>MeetR (fun p q=>p && !q) la [] e∧Below W.heap.size W W':=by
 obtain ⟨W1,hW1⟩:∃W1,W.alloc (.cells #[.bool false, .int .i64 0, .bool false] 46)=W1:=⟨_,rfl⟩
 have HB1:Hid (Below W.heap.size W W1):=by rw [←hW1]; exact yaa (Below.refl _ _) (zG _)
 have L1:Hid (W.heap.size < W1.heap.size):=by show _ < _; rw [←hW1]; simp
 have C1:Hid ((W1.cell? ⟨W.heap.size,0,none⟩=some (.bool false)∧W1.cell? ⟨W.heap.size,1,none⟩=some (.int .i64 0)∧W1.cell? ⟨W.heap.size,2,none⟩=some (.bool false))∧∀i,W1.frozen? ⟨W.heap.size,i,none⟩=false):=by
  rw [←hW1]; exact ⟨⟨by simp [go_sem],by simp [go_sem],by simp [go_sem]⟩,fun i=>by simp [go_sem]⟩
 have cV:Hid (Calls Tryz.prog 39 #[.slice a la.length cap, .slice none 0 0, .func (.func 40) #[] #[]] W1 fun e W'=>VrdR (fun p q=>p && !q) la [] e∧Below W1.heap.size W1 W'):=yhs a cap la none 0 [] 40 (fun p q=>p && !q) W1 hl hlc (hs.below HB1.out) hno hok (by simp) (by simp) (.inl rfl) (fun _=>rfl) (by simp) (hT.later HB1.out) (fun args w=>by simp [go_sem]) lacksC rfl
 have HW1:=hid hW1
 clear hl hlc hs hno hok hT hW1
 go_enter Tryz.func19,Tryz.ntmps19
 go_upto_region 1 with fail
 rw [HW1.out]
 go_wp2_with fail
 refine cV.out.mono ?_
 rintro e w2 ⟨hR,hB2⟩
 obtain ⟨y,t,f,er,rfl,hV⟩:=hR.form
 have HB2:=hid (HB1.out.trans (hB2.mono HB1.out.size))
 have c0:=(hB2.cell (p:=⟨W.heap.size,0,none⟩) L1.out).trans C1.out.1.1
 have c1:=(hB2.cell (p:=⟨W.heap.size,1,none⟩) L1.out).trans C1.out.1.2.1
 have c2:=(hB2.cell (p:=⟨W.heap.size,2,none⟩) L1.out).trans C1.out.1.2.2
 have z0:=(hB2.frozen (p:=⟨W.heap.size,0,none⟩) L1.out).trans (C1.out.2 0)
 have z1:=(hB2.frozen (p:=⟨W.heap.size,1,none⟩) L1.out).trans (C1.out.2 1)
 have z2:=(hB2.frozen (p:=⟨W.heap.size,2,none⟩) L1.out).trans (C1.out.2 2)
 have HV:=hid hV
 clear hR hB2 hV cV
 unfold verV
 go_wp2
 refine bodyPost_ret (v:= .tuple #[verV y t f, .int .i64 er]) ?_ rfl ⟨⟨y,t,f,er,rfl,HV.out⟩,?_⟩
 ·simp [results,Tryz.results19,go_sem,verV,c0,c1,c2]
 ·exact yab (yab (yab HB2.out (zG _)) (zG _)) (zG _)
end
section
open Go.RowKit Go.Maps
theorem yia (a:Option Addr) (cap:Nat) (l:List Int) (w:World) (hl:l.length≤9223372036854775807) (hs:Sl w a (ints l)) :
  Calls Tryz.prog 15 #[.slice a l.length cap] w fun e w'=>e= .returned (.int .u64 (ofM l))∧Below w.heap.size w w':=by
 have c1:=hid (ROf_any a cap l w hl hs)
 obtain ⟨m,hm⟩:∃m,ofM l=m:=⟨_,rfl⟩
 rw [hm] at c1⊢
 go_enter Tryz.func15,Tryz.ntmps15
 go_wp2_with fail
 refine c1.out.mono ?_
 rintro e w1 ⟨rfl,hB⟩
 go_wp2
 go_ret
 exact ⟨rfl,hB⟩
end
end Go.Proofs.YtkpgfmonhfnhdaaGreatDoor
