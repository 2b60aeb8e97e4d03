/-
  meet.verdict: what is found of two sets.
  meet.Equal, Within, Empty, Apart.
  ferialaw22.CastBox answers true for every clauses and every clause.
  The table of math/bits that this seat's rows list: what a row's premise gives of it, and a world that holds it.
-/
import Derived.Test.YtkpgfmonhfnhdaaGreatDoorQ80a22e
import Derived.Test.YtkpgfmonhfnhdaaGreatDoorQe52770
import Derived.Test.YtkpgfmonhfnhdaaGreatDoorQ0477a0
import Derived.Test.YtkpgfmonhfnhdaaGreatDoorQ51bbde
import Derived.Test.YtkpgfmonhfnhdaaGreatDoorQa65fd7
import Derived.Test.YtkpgfmonhfnhdaaGreatDoorQf1801c
import Derived.Deep.CutRange
import Derived.Test.YtkpgfmonhfnhdaaGreatDoorCards
import Derived.Test.YtkpgfmonhfnhdaaGreatDoorTie
import Derived.Test.YtkpgfmonhfnhdaaGreatDoorQaa6336
import Derived.Test.YtkpgfmonhfnhdaaGreatDoorQfc4da5
import Derived.Deep.DeepHandedRow
import Derived.Lib.LaidTab
set_option maxRecDepth 100000
set_option maxHeartbeats 25600000
namespace Go.Proofs.YtkpgfmonhfnhdaaGreatDoor
set_option linter.unusedVariables false
section
open Go.RowKit Go.Maps
def InvN (j:Nat) (ws:Nat→Bool) (m:Nat):Prop:=m≤j
theorem ygy (cs:List Cl) (j:Nat) (n:Int) (ws:Nat→Bool) (m:Nat) (ws':Nat→Bool) (m':Nat) (h:InvN j ws m) (hs:yba cs n ws m ws' m'):InvN (j+1) ws' m':=by
 rw [InvN] at h⊢
 rcases hs with ⟨_,_,h1⟩ | ⟨_,_,_,h1⟩ | ⟨_,_,_,h1 | h1⟩
 ·omega
 ·split at h1 <;> omega
 ·omega
 ·omega
def VrdR (pw:Bool→Bool→Bool) (la lb:List Cl) (e:Ending):Prop:=
 (yai la≠0∧e= .returned (.tuple #[verV false 0 false, .int .i64 (yai la)]))∨
 (yai la=0∧yai lb≠0∧e= .returned (.tuple #[verV false 0 false, .int .i64 (yai lb)]))∨
 (yai la=0∧yai lb=0∧∃y t f,e= .returned (.tuple #[verV y t f, .int .i64 0])∧VerP pw la lb y t f)
theorem ygW (a:Option Addr) (cap:Nat) (la:List Cl) (b:Option Addr) (capb:Nat) (lb:List Cl) (g:Nat) (pw:Bool→Bool→Bool) (W:World)
  (hl:la.length≤1000) (hlc:la.length≤cap) (hs:Sl W a (cls la)) (hno:a=none→cap=0) (hok:∀c∈la,c.Ok)
  (hlb:lb.length≤1000) (hlcb:lb.length≤capb) (hsb:Sl W b (cls lb)) (hnob:b=none→capb=0) (hokb:∀c∈lb,c.Ok) (hT:Tab W)
  (hg:∀args w,(callFunc g args).run Tryz.prog w= .ok (.enter g args) w) (hF:FindC g pw) (hp:pw false false=false) :
  Calls Tryz.prog 39 #[.slice a la.length cap, .slice b lb.length capb, .func (.func g) #[] #[]] W fun e W'=>VrdR pw la lb e∧Below W.heap.size W W':=by
 obtain ⟨W1,hW1⟩:∃W1,W.alloc (.cells #[.bool false, .int .i64 0, .bool false] 46)=W1:=⟨_,rfl⟩
 have HB1:Hid (Below W.heap.size W W1):=by rw [←hW1]; exact yaa (Below.refl _ _) (zG _)
 have L1:Hid (W.heap.size < W1.heap.size):=by show _ < _; rw [←hW1]; simp
 have C1:Hid ((W1.cell? ⟨W.heap.size,0,none⟩=some (.bool false)∧W1.cell? ⟨W.heap.size,1,none⟩=some (.int .i64 0)∧W1.cell? ⟨W.heap.size,2,none⟩=some (.bool false))∧∀i,W1.frozen? ⟨W.heap.size,i,none⟩=false):=by
  rw [←hW1]; exact ⟨⟨by simp [go_sem],by simp [go_sem],by simp [go_sem]⟩,fun i=>by simp [go_sem]⟩
 have cB:=hid (yjC a cap la b capb lb g pw W1 hl hlc (hs.below HB1.out) hno hok hlb hlcb (hsb.below HB1.out) hnob hokb (hT.later HB1.out))
 have HT:=hid hT
 have HF:=hid hF
 have HP:=hid hp
 have HW1:=hid hW1
 clear hl hlc hs hno hok hlb hlcb hsb hnob hokb hT hF hp hW1
 go_enter Tryz.func39,Tryz.ntmps39
 go_upto_region 1 with fail
 rw [HW1.out]
 go_wp2_with fail
 refine cB.out.mono ?_
 rintro e w2 ⟨hR,hB2⟩
 have HB2:=hid (HB1.out.trans (hB2.mono HB1.out.size))
 have C2:Hid ((w2.cell? ⟨W.heap.size,0,none⟩=some (.bool false)∧w2.cell? ⟨W.heap.size,1,none⟩=some (.int .i64 0)∧w2.cell? ⟨W.heap.size,2,none⟩=some (.bool false))∧∀i,w2.frozen? ⟨W.heap.size,i,none⟩=false):=
  ⟨⟨(hB2.cell (p:=⟨W.heap.size,0,none⟩) L1.out).trans C1.out.1.1,(hB2.cell (p:=⟨W.heap.size,1,none⟩) L1.out).trans C1.out.1.2.1,(hB2.cell (p:=⟨W.heap.size,2,none⟩) L1.out).trans C1.out.1.2.2⟩,fun i=>(hB2.frozen (p:=⟨W.heap.size,i,none⟩) L1.out).trans (C1.out.2 i)⟩
 have L2:Hid (W1.heap.size≤w2.heap.size):=hB2.size
 clear hB2 cB
 have fault:∀X:Int,X≠0→VrdR pw la lb (.returned (.tuple #[verV false 0 false, .int .i64 X]))→e= .returned (.tuple #[.pointer none, .int .i64 X])→True:=fun _ _ _ _=>trivial
 clear fault
 rcases hR with ⟨hf,rfl⟩ | ⟨hf,hf2,rfl⟩ | ⟨hf,hf2,x,fm,ra,rb,Fa,Fb,rfl,hA,hx,hfm,hM⟩
 ·obtain ⟨X,hX⟩:∃X,yai la=X:=⟨_,rfl⟩
  have HR:Hid (VrdR pw la lb (.returned (.tuple #[verV false 0 false, .int .i64 (yai la)]))):= .inl ⟨hf,rfl⟩
  rw [hX] at hf HR⊢
  have hX0:(X == 0)=false:=by simpa using hf
  have hX1:(X != 0)=true:=by simpa using hf
  obtain ⟨⟨c0,c1,c2⟩,z⟩:=C2.out
  have z0:=z 0
  have z1:=z 1
  have z2:=z 2
  clear hX z
  go_wp2
  refine bodyPost_ret (v:= .tuple #[verV false 0 false, .int .i64 X]) ?_ rfl ⟨HR.out,?_⟩
  ·simp [results,Tryz.results39,go_sem,verV,c0,c1,c2]
  ·exact yab (yab (yab HB2.out (zG _)) (zG _)) (zG _)
 ·obtain ⟨X,hX⟩:∃X,yai lb=X:=⟨_,rfl⟩
  have HR:Hid (VrdR pw la lb (.returned (.tuple #[verV false 0 false, .int .i64 (yai lb)]))):= .inr (.inl ⟨hf,hf2,rfl⟩)
  rw [hX] at hf2 HR⊢
  have hX0:(X == 0)=false:=by simpa using hf2
  have hX1:(X != 0)=true:=by simpa using hf2
  obtain ⟨⟨c0,c1,c2⟩,z⟩:=C2.out
  have z0:=z 0
  have z1:=z 1
  have z2:=z 2
  clear hX z
  go_wp2
  refine bodyPost_ret (v:= .tuple #[verV false 0 false, .int .i64 X]) ?_ rfl ⟨HR.out,?_⟩
  ·simp [results,Tryz.results39,go_sem,verV,c0,c1,c2]
  ·exact yab (yab (yab HB2.out (zG _)) (zG _)) (zG _)
 ·have HA:=hid hA
  have Hx:=hid (And.intro hx (And.intro hfm hM))
  have Hf:=hid (And.intro hf hf2)
  have cF:=hid (yjB (W:=w2) InvN InvN (fun j n ws m ws' m' _ _ h hs=>ygy la j n ws m ws' m' h hs) (fun j n ws m ws' m' _ _ h hs=>ygy lb j n ws m ws' m' h hs) (fun j ws m h hj=>by rw [InvN] at h; omega) (fun j ws m h hj=>by rw [InvN] at h; omega) hg HF.out hA (zG 0) (zG 0))
  clear hA hx hfm hM hf hf2
  go_wp2_with fail
  refine cF.out.mono ?_
  rintro e w3 ⟨t,ok,Fa',Fb',wa',wb',ma',mb',j,rfl,hD,hA3,hE3,-,-,iA,iB⟩
  have hpl:=yht HP.out hD
  have hx9:∀c,(c=x∨c=fm∨ra.M c∨rb.M c)→W1.heap.size≤c:=fun c hc=>by
   rcases hc with rfl | rfl | hc
   ·exact Hx.out.1
   ·exact Hx.out.2.1
   ·exact Hx.out.2.2 c hc
  have nW:¬(W.heap.size=x∨W.heap.size=fm∨ra.M W.heap.size∨rb.M W.heap.size):=fun h=>by have:=hx9 _ h; have:=L1.out; omega
  have lW:W.heap.size < w2.heap.size:=zH L1.out L2.out
  have HB3:Hid (Below W.heap.size W w3):=HB2.out.trans (hE3.below (fun c hc=>by have:=hx9 c hc; have:=HB1.out.size; omega) HB2.out.size)
  have c0:=(hE3.cell (p:=⟨W.heap.size,0,none⟩) lW nW).trans C2.out.1.1
  have c1:=(hE3.cell (p:=⟨W.heap.size,1,none⟩) lW nW).trans C2.out.1.2.1
  have c2:=(hE3.cell (p:=⟨W.heap.size,2,none⟩) lW nW).trans C2.out.1.2.2
  have z:∀i,w3.frozen? ⟨W.heap.size,i,none⟩=false:=fun i=>(hE3.frozen (p:=⟨W.heap.size,i,none⟩) lW nW).trans (C2.out.2 i)
  have z0:=z 0
  have z1:=z 1
  have z2:=z 2
  have HA3:=hid hA3
  have Hm:=hid (And.intro iA iB)
  have L3:Hid (w2.heap.size≤w3.heap.size):=hE3.size
  have lW3:Hid (W.heap.size < w3.heap.size):=zH lW L3.out
  clear hD hA3 hE3 iA iB cF hx9 lW z
  rcases hpl with ⟨⟨rfl,hLe,-⟩ | ⟨rfl,rfl,hN⟩,hj⟩
  rotate_left
  ·have HR:Hid (VrdR pw la lb (.returned (.tuple #[verV true 0 false, .int .i64 0]))):= .inr (.inr ⟨Hf.out.1,Hf.out.2,true,0,false,rfl, .inl ⟨hN,rfl,rfl,rfl⟩⟩)
   clear hN hj nW
   go_wp2
   refine bodyPost_ret (v:= .tuple #[verV true 0 false, .int .i64 0]) ?_ rfl ⟨HR.out,?_⟩
   ·simp [results,Tryz.results39,go_sem,verV,c0,c1,c2]
   ·exact yab (yab (yab HB3.out (zG _)) (zG _)) (zG _)
  ·have hj2:=hj
   have t0:=hLe.1
   have t1:=hLe.2.1
   have HLe:=hid hLe
   obtain ⟨n,hn⟩:∃n,t / 86400=n:=⟨_,rfl⟩
   have n0:0≤n:=by omega
   have n1:n < 146097:=by omega
   obtain ⟨k,hk⟩:∃k:Nat,t % 86400=k:=⟨(t % 86400).toNat,by omega⟩
   have hk2:k < 86400:=by omega
   have cD:=hid (yhF (W:=w3) n n0 n1 (by have:=Hm.out.1; rw [InvN] at this; omega) HA3.out.two.a)
   have x0:=HA3.out.c0
   have hd1:IntKind.i64.wrap (Int.tdiv t 86400)=n:=by rw [Int.tdiv_eq_ediv_of_nonneg t0,hn]; exact IntWalk.i64_in _ (by omega)
   have hd2:IntKind.i64.wrap (Int.tmod t 86400)= (k:Int):=by rw [Int.tmod_eq_emod_of_nonneg t0,hk]; exact IntWalk.i64_in _ (by omega)
   have Hq:Hid (dayQ la n k=yaK la t):=by show _ = _; rw [yb1]; congr 1; omega
   have Hn:=hid (And.intro n0 n1)
   have Hk:=hid hk2
   have h8:=hid (yfH HA3.out.two.a.x.may)
   clear hLe hj hj2 n0 n1 hk2
   go_wp2_with fail
   refine cD.out.mono ?_
   rintro e w4 ⟨d,F2,ws2,m2,rfl,hR4,-,hE4,-,hnone,hsome⟩
   have hdo:DiscO w4 d (dayQ la n):=DOf.disc (F:=F2) (M:=ra.M) ⟨fun hd j hj=>ydl h8.out Hn.out.1 Hn.out.2 (hnone hd) hj,hsome⟩
   have cH:=DHasO_any d (dayQ la n) (k:Int) w4 hdo
   rw [ydj,zzZ Hk.out,zzo,Int.toNat_natCast,Hq.out] at cH
   have CH:=hid cH
   obtain ⟨v,hv⟩:∃v,dptr d=v:=⟨_,rfl⟩
   rw [hv] at CH⊢
   have nM:¬RM ra.br ra.bk ra.bps W.heap.size:=fun h=>nW (.inr (.inr (.inl h)))
   have HB4:Hid (Below W.heap.size W w4):=HB3.out.trans (hE4.below (fun c hc=>by have:=Hx.out.2.2 c (.inl hc); have:=HB1.out.size; omega) HB3.out.size)
   replace c0:=(hE4.cell (p:=⟨W.heap.size,0,none⟩) lW3.out nM).trans c0
   replace c1:=(hE4.cell (p:=⟨W.heap.size,1,none⟩) lW3.out nM).trans c1
   replace c2:=(hE4.cell (p:=⟨W.heap.size,2,none⟩) lW3.out nM).trans c2
   replace z0:=(hE4.frozen (p:=⟨W.heap.size,0,none⟩) lW3.out nM).trans z0
   replace z1:=(hE4.frozen (p:=⟨W.heap.size,1,none⟩) lW3.out nM).trans z1
   replace z2:=(hE4.frozen (p:=⟨W.heap.size,2,none⟩) lW3.out nM).trans z2
   clear hR4 hE4 hnone hsome hdo cH hv nM cD x0
   go_wp2_with fail
   refine CH.out.mono ?_
   rintro e w5 ⟨rfl,rfl⟩
   obtain ⟨q,hq⟩:∃q,yaK la t=q:=⟨_,rfl⟩
   have HR:Hid (VrdR pw la lb (.returned (.tuple #[verV false t q, .int .i64 0]))):= .inr (.inr ⟨Hf.out.1,Hf.out.2,false,t,q,rfl, .inr ⟨HLe.out,rfl,hq.symm⟩⟩)
   rw [hq]
   clear CH hq hd1 hd2 t0 t1 hn hk nW
   go_wp2
   refine bodyPost_ret (v:= .tuple #[verV false t q, .int .i64 0]) ?_ rfl ⟨HR.out,?_⟩
   ·simp [results,Tryz.results39,go_sem,verV,c0,c1,c2]
   ·exact yab (yab (yab HB4.out (zG _)) (zG _)) (zG _)
end
section
open Go.RowKit Go.Maps
theorem lacksC:FindC 40 (fun p q=>p && !q):=fun d e qa qb W hT hd he=>by
 have h:=yjN d e qa qb W hT hd.v.1 he.v.1
 rw [hd.v.2,he.v.2] at h
 exact h.mono fun r w' ⟨⟨n,ok,h1,h2⟩,h3⟩=>⟨⟨n,ok,h1,h2⟩,by subst h3; exact Below.refl _ _⟩
theorem DiscO.below {W W':World} {d:Option Nat} {q:Nat→Bool} (h:DiscO W d q) (hB:Below W.heap.size W W'):DiscO W' d q:=by
 cases d with
 | none=>exact h
 | some b=>exact DiscAt.block h hB.size (hB.block b (DiscAt.lt h))
def yeL (la lb:List Cl):Int:=if yai la≠0 then yai la else yai lb
def VrdP (pw:Bool→Bool→Bool) (la lb:List Cl) (y:Bool) (t:Int) (f:Bool) (er:Int):Prop:=er=yeL la lb∧(er≠0→y=false∧t=0∧f=false)∧(er=0→VerP pw la lb y t f)
theorem VrdR.form {pw:Bool→Bool→Bool} {la lb:List Cl} {e:Ending} (h:VrdR pw la lb e):∃y t f er,e= .returned (.tuple #[verV y t f, .int .i64 er])∧VrdP pw la lb y t f er:=by
 rcases h with ⟨h1,rfl⟩ | ⟨h1,h2,rfl⟩ | ⟨h1,h2,y,t,f,rfl,h3⟩
 ·exact ⟨false,0,false,_,rfl,by rw [yeL,if_pos h1],fun _=>⟨rfl,rfl,rfl⟩,fun h=>absurd h h1⟩
 ·exact ⟨false,0,false,_,rfl,by rw [yeL,if_neg (by simpa using h1)],fun _=>⟨rfl,rfl,rfl⟩,fun h=>absurd h h2⟩
 ·exact ⟨y,t,f,0,rfl,by rw [yeL,if_neg (by simpa using h1),h2],fun h=>absurd rfl h,fun _=>h3⟩
def MeetR (pw:Bool→Bool→Bool) (la lb:List Cl) (e:Ending):Prop:=∃y t f er,e= .returned (.tuple #[verV y t f, .int .i64 er])∧VrdP pw la lb y t f er
theorem yd3 (a:Option Addr) (cap:Nat) (la:List Cl) (b:Option Addr) (capb:Nat) (lb:List Cl) (W:World)
  (hl:la.length≤1000) (hlc:la.length≤cap) (hs:Sl W a (cls la)) (hno:a=none→cap=0) (hok:∀c∈la,c.Ok)
  (hlb:lb.length≤1000) (hlcb:lb.length≤capb) (hsb:Sl W b (cls lb)) (hnob:b=none→capb=0) (hokb:∀c∈lb,c.Ok) (hT:Tab W) :
  Calls Tryz.prog 12 #[.slice a la.length cap, .slice b lb.length capb] W fun e W'=>MeetR (fun p q=>p && !q) la lb e∧Below W.heap.size W W':=by
 obtain ⟨W1,hW1⟩:∃W1,W.alloc (.cells #[.bool false, .int .i64 0, .bool false] 46)=W1:=⟨_,rfl⟩
 have HB1:Hid (Below W.heap.size W W1):=by rw [←hW1]; exact yaa (Below.refl _ _) (zG _)
 have L1:Hid (W.heap.size < W1.heap.size):=by show _ < _; rw [←hW1]; simp
 have C1:Hid ((W1.cell? ⟨W.heap.size,0,none⟩=some (.bool false)∧W1.cell? ⟨W.heap.size,1,none⟩=some (.int .i64 0)∧W1.cell? ⟨W.heap.size,2,none⟩=some (.bool false))∧∀i,W1.frozen? ⟨W.heap.size,i,none⟩=false):=by
  rw [←hW1]; exact ⟨⟨by simp [go_sem],by simp [go_sem],by simp [go_sem]⟩,fun i=>by simp [go_sem]⟩
 have cV:Hid (Calls Tryz.prog 39 #[.slice a la.length cap, .slice b lb.length capb, .func (.func 40) #[] #[]] W1 fun e W'=>VrdR (fun p q=>p && !q) la lb e∧Below W1.heap.size W1 W'):=ygW a cap la b capb lb 40 (fun p q=>p && !q) W1 hl hlc (hs.below HB1.out) hno hok hlb hlcb (hsb.below HB1.out) hnob hokb (hT.later HB1.out) (fun args w=>by simp [go_sem]) lacksC rfl
 have HW1:=hid hW1
 clear hl hlc hs hno hok hlb hlcb hsb hnob hokb hT hW1
 go_enter Tryz.func12,Tryz.ntmps12
 go_upto_region 1 with fail
 rw [HW1.out]
 go_wp2_with fail
 refine cV.out.mono ?_
 rintro e w2 ⟨hR,hB2⟩
 obtain ⟨y,t,f,er,rfl,hV⟩:=hR.form
 have HB2:=hid (HB1.out.trans (hB2.mono HB1.out.size))
 have c0:=(hB2.cell (p:=⟨W.heap.size,0,none⟩) L1.out).trans C1.out.1.1
 have c1:=(hB2.cell (p:=⟨W.heap.size,1,none⟩) L1.out).trans C1.out.1.2.1
 have c2:=(hB2.cell (p:=⟨W.heap.size,2,none⟩) L1.out).trans C1.out.1.2.2
 have z0:=(hB2.frozen (p:=⟨W.heap.size,0,none⟩) L1.out).trans (C1.out.2 0)
 have z1:=(hB2.frozen (p:=⟨W.heap.size,1,none⟩) L1.out).trans (C1.out.2 1)
 have z2:=(hB2.frozen (p:=⟨W.heap.size,2,none⟩) L1.out).trans (C1.out.2 2)
 have HV:=hid hV
 clear hR hB2 hV cV
 unfold verV
 go_wp2
 refine bodyPost_ret (v:= .tuple #[verV y t f, .int .i64 er]) ?_ rfl ⟨⟨y,t,f,er,rfl,HV.out⟩,?_⟩
 ·simp [results,Tryz.results12,go_sem,verV,c0,c1,c2]
 ·exact yab (yab (yab HB2.out (zG _)) (zG _)) (zG _)
end
section
open Go.RowKit Go.Maps
attribute [local irreducible] secL
theorem one_cls (X:Cl):cls [X]=yac X:=by simp [cls]
theorem yde (X:Cl) (t:Int):yaK [X] t=hasC X t:=by simp [yaK]
theorem yd7 {X:Cl} (h:mayC X=true):mayL [X]=true:=by simp [mayL,h]
theorem yb0 {l:List Cl} (h:mayL l=true):yai l=0:=by rw [ycu,zzY] at h; exact h
theorem yg4 {r:Bool→Bool→Bool} {la lb:List Cl} {y:Bool} {t:Int} {f:Bool} (h:VerP r la lb y t f):y=true↔NoneP r la lb:=by
 rcases h with ⟨h,rfl,-,-⟩ | ⟨h,rfl,-⟩
 ·exact ⟨fun _=>h,fun _=>rfl⟩
 ·exact ⟨fun h=>(by cases h),fun k=>by have:=h.2.2.1; rw [k t] at this; cases this⟩
theorem yfF {la lb:List Cl}:NoneP (fun p q=>p && !q) la lb↔∀t,yaK la t=true→yaK lb t=true:=by
 constructor
 ·intro h t ht
  have:=h t
  simp only [ht,zzo] at this
  cases e:yaK lb t
  ·rw [e] at this; cases this
  ·rfl
 ·intro h t
  cases e:yaK la t
  ·rfl
  ·simp only [h t e]; rfl
def neqOrX (a b:Value):Sem Value:=binOp .neq 34 a b
theorem neq_ordX (a b:Value):binOp .neq 34 a b=neqOrX a b:=rfl
def ygI (c:Cl):Bool:=!yc2 c.oin c.oback c.od 0 false (fun _=>0)
theorem ye8 (c:Cl) (h:c.Ok) (W:World):(neqOrX (ordv c.oin c.oback c.od) (.agg #[.int .i64 0, .bool false, .int .u64 0, .int .u64 0, .int .u64 0, .int .u64 0, .int .u64 0, .int .u64 0, .int .u64 0, .int .u64 0])).run Tryz.prog W= .ok (.bool (ygI c)) W:=
 neq_ord c.oin c.oback c.od 0 false (fun _=>0) W h.oin h.od ⟨by decide,by decide⟩ (fun i _=>by show 0 < _; decide)
theorem anyOrd_no {c:Cl} (h:ygI c=false):c.oin=0:=by
 rw [ygI,Bool.not_eq_false',yd0] at h
 exact h.1
structure BxS (b0 bF b5:Nat) (c B:Cl) (u:Nat→Nat) (fi la n:Int) (ev sq:Bool) (W:World):Prop where
 c:ClB W b0 c
 f:FcB bF u fi la n ev sq W
 b:ClB W b5 B
 l0:b0 < W.heap.size
 l5:b5 < W.heap.size
theorem BxS.below {b0 bF b5:Nat} {c B:Cl} {u:Nat→Nat} {fi la n:Int} {ev sq:Bool} {W W':World} (h:BxS b0 bF b5 c B u fi la n ev sq W) (hB:Below W.heap.size W W'):BxS b0 bF b5 c B u fi la n ev sq W':=
 ⟨h.c.below hB h.l0,h.f.block hB.size (hB.block _ h.f.lt),h.b.below hB h.l5,zH h.l0 hB.size,zH h.l5 hB.size⟩
theorem ydb (W:World) (X:Cl):Sl (W.alloc (.cells (yac X).toArray 36)) (some ⟨W.heap.size,0,none⟩) (cls [X]):=by
 rw [one_cls]; exact ycK (yaw W _ _) (by simp)
theorem yfp (W:World) (T:TypeId) (y:Bool) (t:Int) (f:Bool):(W.alloc (.cells #[.bool y, .int .i64 t, .bool f] T)).cell? ⟨W.heap.size,0,none⟩=some (.bool y):=by simp [go_sem]
attribute [local go_sem ↓] yan ya1 yeE ydw neq_ordX
attribute [local go_sem] yaz
theorem yg0 (a:Option Addr) (cap:Nat) (l:List Cl) (c:Cl) (w:World) (hl:l.length≤9223372036854775807) (hlc:l.length≤cap) (hs:Sl w a (cls l)) (hno:a=none→cap=0) (hok:∀c∈l,c.Ok) (hc:c.Ok) (hT:Tab w) :
  Calls Tryz.prog 4 #[.slice a l.length cap,clv c] w fun e w'=>e= .returned (.bool true)∧Below w.heap.size w w':=by
 have cL:=hid (fun W (hB:Below w.heap.size w W)=>yhM W (hT.later hB))
 have hC0:=ycd w c 36
 have hB0:Below w.heap.size w (w.alloc (.cells (yac c).toArray 36)):=yaa (Below.refl _ _) (zG _)
 have hl0:w.heap.size < (w.alloc (.cells (yac c).toArray 36)).heap.size:=by simp
 obtain ⟨W0,hW0⟩:∃W,w.alloc (.cells (yac c).toArray 36)=W:=⟨_,rfl⟩
 rw [hW0] at hC0 hB0 hl0
 obtain ⟨b0,eb0⟩:∃b,w.heap.size=b:=⟨_,rfl⟩
 rw [eb0] at hC0 hl0
 have HC0:=hid hC0
 have HB0:=hid hB0
 have L0:=hid hl0
 have HW0:=hid hW0
 have E0:=hid eb0
 clear hC0 hB0 hl0 hW0 eb0
 by_cases h8:8 < l.length
 ·clear hs hok hno hT
  go_enter Tryz.func4,Tryz.ntmps4
  go_upto_region 1 with fail
  rw [HW0.out,E0.out]
  go_wp2_with fail
  refine (cL.out W0 HB0.out).mono ?_
  rintro e w1 ⟨rfl,hB⟩
  have HB1:=hid (HB0.out.trans (hB.mono HB0.out.size))
  clear hB
  go_wp2
  go_ret
  exact ⟨rfl,HB1.out⟩
 have cM:=hid (fun W (hB:Below w.heap.size w W)=>yjA a cap l W (by omega) (hs.below hB) hok)
 have cO:=hid (fun W (hB:Below w.heap.size w W)=>COf_any a cap l W hl hlc (hs.below hB) hno hok (hT.later hB))
 have cW:Hid (∀g (X:Cl) W,Below w.heap.size w W→X.Ok→Sl W (some ⟨g,0,none⟩) (cls [X])→Calls Tryz.prog 12 #[.slice a l.length cap, .slice (some ⟨g,0,none⟩) 1 1] W fun e W'=>MeetR (fun p q=>p && !q) l [X] e∧Below W.heap.size W W'):=
  fun g X W hB hX h=>yd3 a cap l (some ⟨g,0,none⟩) 1 [X] W (by omega) hlc (hs.below hB) hno hok (by simp) (by simp) h (fun h=>by cases h) (by simpa using hX) (hT.later hB)
 have cV:Hid (∀g h (X Y:Cl) W,Below w.heap.size w W→X.Ok→Y.Ok→Sl W (some ⟨g,0,none⟩) (cls [X])→Sl W (some ⟨h,0,none⟩) (cls [Y])→Calls Tryz.prog 12 #[.slice (some ⟨g,0,none⟩) 1 1, .slice (some ⟨h,0,none⟩) 1 1] W fun e W'=>MeetR (fun p q=>p && !q) [X] [Y] e∧Below W.heap.size W W'):=
  fun g h X Y W hB hX hY h1 h2=>yd3 (some ⟨g,0,none⟩) 1 [X] (some ⟨h,0,none⟩) 1 [Y] W (by simp) (by simp) h1 (fun h=>by cases h) (by simpa using hX) (by simp) (by simp) h2 (fun h=>by cases h) (by simpa using hY) (hT.later hB)
 have Hc:=hid hc
 clear hs hok hno hT hc
 go_enter Tryz.func4,Tryz.ntmps4
 go_upto_region 1 with fail
 rw [HW0.out,E0.out]
 go_wp2_with fail
 refine (cM.out W0 HB0.out).mono ?_
 rintro e w1 ⟨rfl,hB⟩
 have HB1:=hid (HB0.out.trans (hB.mono HB0.out.size))
 have HC1:=hid (HC0.out.below hB L0.out)
 have L1:Hid (b0 < w1.heap.size):=zH L0.out hB.size
 clear hB cM HC0 L0
 cases hm:mayL l
 ·clear hm
  go_wp2_with fail
  refine (cL.out w1 HB1.out).mono ?_
  rintro e w2 ⟨rfl,hB⟩
  have HB2:=hid (HB1.out.trans (hB.mono HB1.out.size))
  clear hB
  go_wp2
  go_ret
  exact ⟨rfl,HB2.out⟩
 have hf:=yb0 hm
 have Hf:=hid hf
 clear hm hf
 go_wp2_with fail
 refine (cO.out w1 HB1.out).mono ?_
 rintro e w2 ⟨hR,hB⟩
 rcases hR with ⟨hf0,-⟩ | ⟨-,u,fi,la,n,ev,sq,rfl,hFP⟩
 ·exact absurd Hf.out hf0
 obtain ⟨w3,hst8,A8,HB8⟩:=fc_box w2 u fi la n ev sq
 have hB3:=hB.trans (HB8.out.mono hB.size)
 have HB3:=hid (HB1.out.trans (hB3.mono HB1.out.size))
 have HC3:=hid (HC1.out.below hB3 L1.out)
 have L3:Hid (b0 < w3.heap.size):=zH L1.out hB3.size
 obtain ⟨bF,ebF⟩:∃b,w2.heap.size=b:=⟨_,rfl⟩
 rw [ebF] at A8 hst8
 have EF:=hid ebF
 have hld:=A8.out.ld
 have cB:=hid (CBox_any u fi la n ev sq w3 hFP.lt)
 have hbm:=yhB hFP
 have hbk:=box_ok hFP
 have hbi:=hid (fun t (h:yaK l t=true)=>box_in hFP h)
 have hbo:=hid (fun (h0:0 < (allD l).length) (ho:c.or=false) (hi:c.oin=0) (hst:c.step=1) (hc:∀t,yaK l t=true→hasC c t=true) t (ht:hasC (boxC u fi la) t=true)=>box_out hFP h0 ho hi hst hc ht)
 have hn:=hid hFP.n
 have hbf:Hid ((boxC u fi la).or=false∧ygI (boxC u fi la)=false∧(boxC u fi la).step=1):=⟨rfl,by show (!yc2 0 false (fun _=>0) 0 false (fun _=>0))=false; decide,rfl⟩
 obtain ⟨B,hBx⟩:∃B,boxC u fi la=B:=⟨_,rfl⟩
 rw [hBx] at cB hbm hbk hbi hbo hbf
 have Hbm:=hid hbm
 have Hbk:=hid hbk
 clear hB hB3 HB8 HC1 L1 hFP hbm hbk hBx ebF cO
 go_upto_region 4 with (rw [EF.out])
 clear hst8
 go_wp2_with fail
 refine cB.out.mono ?_
 rintro e w4 ⟨rfl,hB⟩
 have hn5:=yaa (o:= .cells zL.toArray 36) (Below.refl w4.heap.size w4) (zG _)
 have hth5:(w4.alloc (.cells zL.toArray 36)).there w4.heap.size 0 30:=ybq w4 _ _
 obtain ⟨w5,hw5⟩:∃W,yby (w4.alloc (.cells zL.toArray 36)) w4.heap.size (yac B)=W:=⟨_,rfl⟩
 have hC5:ClB w5 w4.heap.size B:=by rw [←hw5]; exact yaV _ rfl hth5
 have hB5:Below w4.heap.size w4 w5:=by rw [←hw5]; exact yaW hn5 (zG _) _
 have hl5:w4.heap.size < w5.heap.size:=by rw [←hw5,yfA,ybe,zzN]; omega
 have hB35:=hB.trans (hB5.mono hB.size)
 have HX5:Hid (BxS b0 bF w4.heap.size c B u fi la n ev sq w5):=⟨HC3.out.below hB35 L3.out,A8.out.block hB35.size (hB35.block _ A8.out.lt),hC5,zH L3.out hB35.size,hl5⟩
 have HB5:=hid (HB3.out.trans (hB35.mono HB3.out.size))
 obtain ⟨b5,eb5⟩:∃b,w4.heap.size=b:=⟨_,rfl⟩
 rw [eb5] at HX5
 have E5:=hid eb5
 have HW5:=hid hw5
 clear hB hn5 hC5 hB5 hl5 hB35 hw5 eb5 HC3 L3 A8 hld cB
 go_upto_region 5 with fail
 rw [HW5.out,E5.out]
 clear hth5
 have hld:=HX5.out.b.ld
 have hsla:=ydb w5 B
 have hbn:=yaa (o:= .cells (yac B).toArray 36) (Below.refl w5.heap.size w5) (zG _)
 obtain ⟨w6,hww6⟩:∃Z,w5.alloc (.cells (yac B).toArray 36)=Z:=⟨_,rfl⟩
 rw [hww6] at hsla hbn
 have HBw6:=hid (HB5.out.trans (hbn.mono HB5.out.size))
 have HXw6:=hid (HX5.out.below hbn)
 have HWw6:=hid hww6
 have cC:=hid (cW.out _ B w6 HBw6.out Hbk.out hsla)
 clear hsla hbn hww6 HW5
 go_wp2_with (rw [HWw6.out])
 refine cC.out.mono ?_
 rintro e w7 ⟨⟨y1,t1,f1,er1,rfl,hV⟩,hB⟩
 have her:er1=0:=by rw [hV.1,yeL,if_neg (by rw [Hf.out]; decide),yb0 (yd7 Hbm.out)]
 subst her
 have hy:=(yg4 (hV.2.2 rfl)).2 (yfF.2 fun t h=>by rw [yde]; exact hbi.out t h)
 subst hy
 have HB7:=hid (HBw6.out.trans (hB.mono HBw6.out.size))
 have HX7:=hid (HXw6.out.below hB)
 clear hB hV cC HWw6 hld
 unfold verV
 go_upto_region 6 with fail
 obtain ⟨w8,hw⟩:∃W,w7.alloc (.cells #[.bool true, .int .i64 t1, .bool f1] 46)=W:=⟨_,rfl⟩
 have hv8:=yfp w7 46 true t1 f1
 have hbn:=yaa (o:= .cells #[.bool true, .int .i64 t1, .bool f1] 46) (Below.refl w7.heap.size w7) (zG _)
 have hlv:w7.heap.size < (w7.alloc (.cells #[.bool true, .int .i64 t1, .bool f1] 46)).heap.size:=by simp
 rw [hw] at hv8 hbn hlv⊢
 have HB8:=hid (HB7.out.trans (hbn.mono HB7.out.size))
 have HX8:=hid (HX7.out.below hbn)
 obtain ⟨b8,hb⟩:∃b,w7.heap.size=b:=⟨_,rfl⟩
 rw [hb] at hv8 hlv⊢
 have Lb8:=hid hlv
 clear hw hb hbn hlv
 have hld:=HX8.out.b.ld
 have cC:=hid (ycR B w8 Hbk.out)
 rw [Hbm.out] at cC
 go_wp2_with fail
 refine cC.out.mono ?_
 rintro e w9 ⟨rfl,hB⟩
 have HB9:=hid (HB8.out.trans (hB.mono HB8.out.size))
 have HX9:=hid (HX8.out.below hB)
 have k7:w9.cell? ⟨b5,7,none⟩=some (.bool false):=by have h:=HX9.out.b.at 7 (v:= .bool B.or) rfl; rw [hbf.out.1] at h; exact h
 have k26:w9.cell? ⟨b5,26,none⟩=some (.int .i64 1):=by have h:=HX9.out.b.at 26 (v:= .int .i64 B.step) rfl; rw [hbf.out.2.2] at h; exact h
 obtain ⟨o0,o1,o2,o3,o4,o5,o6,o7,o8,o9⟩:=HX9.out.b.ord
 have hne:=fun W=>ye8 B Hbk.out W
 rw [hbf.out.2.1] at hne
 clear hB cC hld hv8
 go_upto_region 8 with fail
 clear k7 k26 o0 o1 o2 o3 o4 o5 o6 o7 o8 o9 hne
 have hld:=HX9.out.c.ld
 have cC:=hid (yfj c w9 Hc.out)
 obtain ⟨mc,hmc⟩:∃b,mayC c=b:=⟨_,rfl⟩
 rw [hmc] at cC
 go_wp2_with fail
 refine cC.out.mono ?_
 rintro e wa ⟨rfl,hB⟩
 have HBa:=hid (HB9.out.trans (hB.mono HB9.out.size))
 have HXa:=hid (HX9.out.below hB)
 have Hmc:=hid hmc
 clear hB cC hld hmc HX9
 cases mc
 ·go_wp2_with fail
  refine (cL.out wa HBa.out).mono ?_
  rintro e wl ⟨rfl,hB⟩
  have HBl:=hid (HBa.out.trans (hB.mono HBa.out.size))
  clear hB
  go_wp2
  go_ret
  exact ⟨rfl,HBl.out⟩
 have k7:=HXa.out.c.at 7 (v:= .bool c.or) rfl
 obtain ⟨o,ho⟩:∃o,c.or=o:=⟨_,rfl⟩
 rw [ho] at k7
 have Ho:=hid ho
 clear ho
 cases o
 rotate_left
 ·go_wp2_with fail
  refine (cL.out wa HBa.out).mono ?_
  rintro e wl ⟨rfl,hB⟩
  have HBl:=hid (HBa.out.trans (hB.mono HBa.out.size))
  clear hB
  go_wp2
  go_ret
  exact ⟨rfl,HBl.out⟩
 obtain ⟨o0,o1,o2,o3,o4,o5,o6,o7,o8,o9⟩:=HXa.out.c.ord
 have hne:=fun W=>ye8 c Hc.out W
 obtain ⟨g,hg⟩:∃g,ygI c=g:=⟨_,rfl⟩
 rw [hg] at hne
 have Hg:=hid hg
 clear hg
 cases g
 rotate_left
 ·go_wp2_with fail
  refine (cL.out wa HBa.out).mono ?_
  rintro e wl ⟨rfl,hB⟩
  have HBl:=hid (HBa.out.trans (hB.mono HBa.out.size))
  clear hB
  go_wp2
  go_ret
  exact ⟨rfl,HBl.out⟩
 have k26:=HXa.out.c.at 26 (v:= .int .i64 c.step) rfl
 by_cases hst:c.step=1
 rotate_left
 ·have q1:(c.step == 1)=false:=by simpa using hst
  have q2:(c.step != 1)=true:=by simpa using hst
  go_wp2_with fail
  refine (cL.out wa HBa.out).mono ?_
  rintro e wl ⟨rfl,hB⟩
  have HBl:=hid (HBa.out.trans (hB.mono HBa.out.size))
  clear hB
  go_wp2
  go_ret
  exact ⟨rfl,HBl.out⟩
 rw [hst] at k26
 have Hst:=hid hst
 have k48:=HXa.out.f.c48
 by_cases hn0:n=0
 ·rw [hn0] at k48
  go_wp2_with fail
  refine (cL.out wa HBa.out).mono ?_
  rintro e wl ⟨rfl,hB⟩
  have HBl:=hid (HBa.out.trans (hB.mono HBa.out.size))
  clear hB
  go_wp2
  go_ret
  exact ⟨rfl,HBl.out⟩
 have hnz:(n == 0)=false:=by simpa using hn0
 have H0:Hid (0 < (allD l).length):=by
  show 0 < _
  have:=hn.out
  rcases Nat.eq_zero_or_pos (allD l).length with e | e
  ·rw [e] at this; exact absurd this hn0
  ·exact e
 clear hst hn0
 go_upto_region 10 with fail
 clear hnz k7 k26 k48 o0 o1 o2 o3 o4 o5 o6 o7 o8 o9 hne
 have hld:=HXa.out.c.ld
 have hslb:=ydb wa c
 have hbn:=yaa (o:= .cells (yac c).toArray 36) (Below.refl wa.heap.size wa) (zG _)
 obtain ⟨wb,hwwb⟩:∃Z,wa.alloc (.cells (yac c).toArray 36)=Z:=⟨_,rfl⟩
 rw [hwwb] at hslb hbn
 have HBwb:=hid (HBa.out.trans (hbn.mono HBa.out.size))
 have HXwb:=hid (HXa.out.below hbn)
 have HWwb:=hid hwwb
 have cC:=hid (cW.out _ c wb HBwb.out Hc.out hslb)
 clear hslb hbn hwwb
 go_wp2_with (rw [HWwb.out])
 refine cC.out.mono ?_
 rintro e wc ⟨⟨y2,t2,f2,er2,rfl,hV⟩,hB⟩
 have her:er2=0:=by rw [hV.1,yeL,if_neg (by rw [Hf.out]; decide),yb0 (yd7 Hmc.out)]
 subst her
 have HV2:=hid (yg4 (hV.2.2 rfl))
 have HBc:=hid (HBwb.out.trans (hB.mono HBwb.out.size))
 have HXc:=hid (HXwb.out.below hB)
 clear hB hV cC HWwb hld
 unfold verV
 go_upto_region 11 with fail
 obtain ⟨wd,hw⟩:∃W,wc.alloc (.cells #[.bool y2, .int .i64 t2, .bool f2] 46)=W:=⟨_,rfl⟩
 have hvd:=yfp wc 46 y2 t2 f2
 have hbn:=yaa (o:= .cells #[.bool y2, .int .i64 t2, .bool f2] 46) (Below.refl wc.heap.size wc) (zG _)
 have hlv:wc.heap.size < (wc.alloc (.cells #[.bool y2, .int .i64 t2, .bool f2] 46)).heap.size:=by simp
 rw [hw] at hvd hbn hlv⊢
 have HBd:=hid (HBc.out.trans (hbn.mono HBc.out.size))
 have HXd:=hid (HXc.out.below hbn)
 obtain ⟨bd,hb⟩:∃b,wc.heap.size=b:=⟨_,rfl⟩
 rw [hb] at hvd hlv⊢
 have Lbd:=hid hlv
 clear hw hb hbn hlv
 have lB:=HXd.out.b.ld
 have hsle:=ydb wd B
 have hbn:=yaa (o:= .cells (yac B).toArray 36) (Below.refl wd.heap.size wd) (zG _)
 obtain ⟨we,hwwe⟩:∃Z,wd.alloc (.cells (yac B).toArray 36)=Z:=⟨_,rfl⟩
 rw [hwwe] at hsle hbn
 have HBwe:=hid (HBd.out.trans (hbn.mono HBd.out.size))
 have HXwe:=hid (HXd.out.below hbn)
 have HWwe:=hid hwwe
 have hld:=HXwe.out.c.ld
 have H8e:=hid (hsle)
 have Hbe:=hid hbn
 have Hvd0:=hid hvd
 clear hsle hbn hwwe hvd
 have hslf:=ydb we c
 have hbn:=yaa (o:= .cells (yac c).toArray 36) (Below.refl we.heap.size we) (zG _)
 obtain ⟨wf,hwwf⟩:∃Z,we.alloc (.cells (yac c).toArray 36)=Z:=⟨_,rfl⟩
 rw [hwwf] at hslf hbn
 have HBwf:=hid (HBwe.out.trans (hbn.mono HBwe.out.size))
 have HXwf:=hid (HXwe.out.below hbn)
 have HWwf:=hid hwwf
 have hslB:=H8e.out.below hbn
 have cC:=hid (cV.out _ _ B c wf HBwf.out Hbk.out Hc.out hslB hslf)
 have Hvd:Hid (wf.cell? ⟨bd,0,none⟩=some (.bool y2)):=(hbn.cell (p:=⟨bd,0,none⟩) (zH Lbd.out Hbe.out.size)).trans ((Hbe.out.cell (p:=⟨bd,0,none⟩) Lbd.out).trans Hvd0.out)
 have Lt6:Hid (bd < wf.heap.size):=zH Lbd.out (zI Hbe.out.size hbn.size)
 clear hslf hslB hbn hwwf H8e
 go_wp2_with (first | rw [HWwe.out] | rw [HWwf.out])
 refine cC.out.mono ?_
 rintro e wg ⟨⟨y3,t3,f3,er3,rfl,hV⟩,hB⟩
 have her:er3=0:=by rw [hV.1,yeL,if_neg (by rw [yb0 (yd7 Hbm.out)]; decide),yb0 (yd7 Hmc.out)]
 subst her
 have hyy:y2=y3:=by
  rw [zze,HV2.out,yg4 (hV.2.2 rfl),yfF,yfF]
  constructor
  ·intro h t ht
   rw [yde] at ht⊢
   exact hbo.out H0.out Ho.out (anyOrd_no Hg.out) Hst.out (fun t ht=>by have:=h t ht; rwa [yde] at this) t ht
  ·intro h t ht
   exact h t (by rw [yde]; exact hbi.out t ht)
 subst hyy
 have HBg:=hid (HBwf.out.trans (hB.mono HBwf.out.size))
 have hszg:=hid hB.size
 have k2:=((hB.cell (p:=⟨bd,0,none⟩) (Lt6.out)).trans Hvd.out)
 clear hV cC HWwe HWwf hld lB hB
 unfold verV
 go_upto_region 12 with fail
 obtain ⟨wh,hw⟩:∃W,wg.alloc (.cells #[.bool y2, .int .i64 t3, .bool f3] 46)=W:=⟨_,rfl⟩
 have hvh:=yfp wg 46 y2 t3 f3
 have hbn:=yaa (o:= .cells #[.bool y2, .int .i64 t3, .bool f3] 46) (Below.refl wg.heap.size wg) (zG _)
 have hlv:wg.heap.size < (wg.alloc (.cells #[.bool y2, .int .i64 t3, .bool f3] 46)).heap.size:=by simp
 rw [hw] at hvh hbn hlv⊢
 have HBh:=hid (HBg.out.trans (hbn.mono HBg.out.size))
 have Hbg:=hid hbn
 have Lt7:Hid (bd < wg.heap.size):=zH Lt6.out hszg.out
 obtain ⟨bh,hb⟩:∃b,wg.heap.size=b:=⟨_,rfl⟩
 rw [hb] at hvh hlv⊢
 have Lbh:=hid hlv
 clear hw hb hbn hlv
 have q2:=(Hbg.out.cell (p:=⟨bd,0,none⟩) Lt7.out).trans k2
 clear k2
 have cC:=hid (cL.out wh HBh.out)
 cases y2
 all_goals
  go_wp2_with fail
  refine cC.out.mono ?_
  rintro e wl ⟨rfl,hB⟩
  have HBl:=hid (HBh.out.trans (hB.mono HBh.out.size))
  clear hB
  go_wp2
  go_ret
  exact ⟨rfl,HBl.out⟩
end
section
open Go.ChangeShapes Go.WideShapes Go.ChangeAt Go.RowKit
theorem yhe:ownKnob Tryz.prog.godebug=none:=by kernel_rfl
theorem laidOut:laidOutB Tryz.prog=true:=by kernel_rfl
theorem gTab:Tryz.prog.globalNamed "math/bits.deBruijn64tab" =some 0:=by kernel_rfl
theorem gTabType:(Tryz.prog.globals[0]?).map (·.type)=some 228:=by kernel_rfl
theorem cellsTab:Tryz.prog.cellsOf 228=64:=by kernel_rfl
theorem cellsU8:Tryz.prog.cellsOf 5=1:=by kernel_rfl
def tabInts:List Int:=Lib.deBruijn64tab.map fun (n:Nat)=>(n:Int)
theorem yg7:∀i,i < 64→tabInts.getD i 0= ((Lib.deBruijn64tab.getD i 0:Nat):Int):=by decide
theorem tab_of {W:World} (h:laidMetH Tryz.prog [("math/bits.deBruijn64tab",Rows.laid_math_bits_deBruijn64tab)] W):Tab W:=by
 have ht:Lib.TabIs Tryz.prog W "math/bits.deBruijn64tab" .u8 tabInts:=Lib.tabIs_of_head (rest:= []) gTab gTabType Tryz.underlying228 Tryz.underlying5 cellsU8 cellsTab h
 have hc:∀i,i < 64→W.cell? ⟨0,i,none⟩=some (.int .u8 (tabInts.getD i 0)):=fun i hi=>ht.cell gTab i hi
 exact ⟨Nat.lt_of_le_of_lt (Nat.zero_le _) (World.block_lt_of_cell? W _ (hc 0 (by omega))),fun i hi=>by rw [hc i hi,yg7 i hi]⟩
noncomputable def yeH (os:Os):World:=
 {World.holding Tryz.prog os ⟨#[],#[],[]⟩ with heap:=(World.holding Tryz.prog os ⟨#[],#[],[]⟩).heap.modify 0 fun
   | .cells _ t frozen=> .cells (tabInts.map (Value.int .u8)).toArray t frozen
   | o=>o}
end
end Go.Proofs.YtkpgfmonhfnhdaaGreatDoor
