/-
  meet.verdict: what is found of two sets.
  meet.Equal, Within, Empty, Apart.
-/
import Derived.Test.YtjahgimnfliooaaGreatDoorQe9ee82
import Derived.Test.YtjahgimnfliooaaGreatDoorQ3a6f10
import Derived.Test.YtjahgimnfliooaaGreatDoorQf0fed3
set_option maxRecDepth 100000
set_option maxHeartbeats 25600000
namespace Go.Proofs.YtjahgimnfliooaaGreatDoor
set_option linter.unusedVariables false
section
open Go.RowKit Go.Maps
def InvN (j:Nat) (ws:Nat→Bool) (m:Nat):Prop:=m≤j
theorem yhi (cs:List Cl) (j:Nat) (n:Int) (ws:Nat→Bool) (m:Nat) (ws':Nat→Bool) (m':Nat) (h:InvN j ws m) (hs:ybn cs n ws m ws' m'):InvN (j+1) ws' m':=by
 rw [InvN] at h⊢
 rcases hs with ⟨_,_,h1⟩ | ⟨_,_,_,h1⟩ | ⟨_,_,_,h1 | h1⟩
 ·omega
 ·split at h1 <;> omega
 ·omega
 ·omega
def VrdR (pw:Bool→Bool→Bool) (la lb:List Cl) (e:Ending):Prop:=
 (yaj la≠0∧e= .returned (.tuple #[verV false 0 false, .int .i64 (yaj la)]))∨
 (yaj la=0∧yaj lb≠0∧e= .returned (.tuple #[verV false 0 false, .int .i64 (yaj lb)]))∨
 (yaj la=0∧yaj lb=0∧∃y t f,e= .returned (.tuple #[verV y t f, .int .i64 0])∧VerP pw la lb y t f)
theorem yhS (a:Option Addr) (cap:Nat) (la:List Cl) (b:Option Addr) (capb:Nat) (lb:List Cl) (g:Nat) (pw:Bool→Bool→Bool) (W:World)
  (hl:la.length≤1000) (hlc:la.length≤cap) (hs:Sl W a (cls la)) (hno:a=none→cap=0) (hok:∀c∈la,c.Ok)
  (hlb:lb.length≤1000) (hlcb:lb.length≤capb) (hsb:Sl W b (cls lb)) (hnob:b=none→capb=0) (hokb:∀c∈lb,c.Ok) (hT:Tab W)
  (hg:∀args w,(callFunc g args).run Tryz.prog w= .ok (.enter g args) w) (hF:FindC g pw) (hp:pw false false=false) :
  Calls Tryz.prog 58 #[.slice a la.length cap, .slice b lb.length capb, .func (.func g) #[] #[]] W fun e W'=>VrdR pw la lb e∧Below W.heap.size W W':=by
 obtain ⟨W1,hW1⟩:∃W1,W.alloc (.cells #[.bool false, .int .i64 0, .bool false] 51)=W1:=⟨_,rfl⟩
 have HB1:Hid (Below W.heap.size W W1):=by rw [←hW1]; exact yaa (Below.refl _ _) (zG _)
 have L1:Hid (W.heap.size < W1.heap.size):=by show _ < _; rw [←hW1]; simp
 have C1:Hid ((W1.cell? ⟨W.heap.size,0,none⟩=some (.bool false)∧W1.cell? ⟨W.heap.size,1,none⟩=some (.int .i64 0)∧W1.cell? ⟨W.heap.size,2,none⟩=some (.bool false))∧∀i,W1.frozen? ⟨W.heap.size,i,none⟩=false):=by
  rw [←hW1]; exact ⟨⟨by simp [go_sem],by simp [go_sem],by simp [go_sem]⟩,fun i=>by simp [go_sem]⟩
 have cB:=hid (ykW a cap la b capb lb g pw W1 hl hlc (hs.below HB1.out) hno hok hlb hlcb (hsb.below HB1.out) hnob hokb (hT.later HB1.out))
 have HT:=hid hT
 have HF:=hid hF
 have HP:=hid hp
 have HW1:=hid hW1
 clear hl hlc hs hno hok hlb hlcb hsb hnob hokb hT hF hp hW1
 go_enter Tryz.func58,Tryz.ntmps58
 go_upto_region 1 with fail
 rw [HW1.out]
 go_wp2_with fail
 refine cB.out.mono ?_
 rintro e w2 ⟨hR,hB2⟩
 have HB2:=hid (HB1.out.trans (hB2.mono HB1.out.size))
 have C2:Hid ((w2.cell? ⟨W.heap.size,0,none⟩=some (.bool false)∧w2.cell? ⟨W.heap.size,1,none⟩=some (.int .i64 0)∧w2.cell? ⟨W.heap.size,2,none⟩=some (.bool false))∧∀i,w2.frozen? ⟨W.heap.size,i,none⟩=false):=
  ⟨⟨(hB2.cell (p:=⟨W.heap.size,0,none⟩) L1.out).trans C1.out.1.1,(hB2.cell (p:=⟨W.heap.size,1,none⟩) L1.out).trans C1.out.1.2.1,(hB2.cell (p:=⟨W.heap.size,2,none⟩) L1.out).trans C1.out.1.2.2⟩,fun i=>(hB2.frozen (p:=⟨W.heap.size,i,none⟩) L1.out).trans (C1.out.2 i)⟩
 have L2:Hid (W1.heap.size≤w2.heap.size):=hB2.size
 clear hB2 cB
 have fault:∀X:Int,X≠0→VrdR pw la lb (.returned (.tuple #[verV false 0 false, .int .i64 X]))→e= .returned (.tuple #[.pointer none, .int .i64 X])→True:=fun _ _ _ _=>trivial
 clear fault
 rcases hR with ⟨hf,rfl⟩ | ⟨hf,hf2,rfl⟩ | ⟨hf,hf2,x,fm,ra,rb,Fa,Fb,rfl,hA,hx,hfm,hM⟩
 ·obtain ⟨X,hX⟩:∃X,yaj la=X:=⟨_,rfl⟩
  have HR:Hid (VrdR pw la lb (.returned (.tuple #[verV false 0 false, .int .i64 (yaj la)]))):= .inl ⟨hf,rfl⟩
  rw [hX] at hf HR⊢
  have hX0:(X == 0)=false:=by simpa using hf
  have hX1:(X != 0)=true:=by simpa using hf
  obtain ⟨⟨c0,c1,c2⟩,z⟩:=C2.out
  have z0:=z 0
  have z1:=z 1
  have z2:=z 2
  clear hX z
  go_wp2
  refine bodyPost_ret (v:= .tuple #[verV false 0 false, .int .i64 X]) ?_ rfl ⟨HR.out,?_⟩
  ·simp [results,Tryz.results58,go_sem,verV,c0,c1,c2]
  ·exact yab (yab (yab HB2.out (zG _)) (zG _)) (zG _)
 ·obtain ⟨X,hX⟩:∃X,yaj lb=X:=⟨_,rfl⟩
  have HR:Hid (VrdR pw la lb (.returned (.tuple #[verV false 0 false, .int .i64 (yaj lb)]))):= .inr (.inl ⟨hf,hf2,rfl⟩)
  rw [hX] at hf2 HR⊢
  have hX0:(X == 0)=false:=by simpa using hf2
  have hX1:(X != 0)=true:=by simpa using hf2
  obtain ⟨⟨c0,c1,c2⟩,z⟩:=C2.out
  have z0:=z 0
  have z1:=z 1
  have z2:=z 2
  clear hX z
  go_wp2
  refine bodyPost_ret (v:= .tuple #[verV false 0 false, .int .i64 X]) ?_ rfl ⟨HR.out,?_⟩
  ·simp [results,Tryz.results58,go_sem,verV,c0,c1,c2]
  ·exact yab (yab (yab HB2.out (zG _)) (zG _)) (zG _)
 ·have HA:=hid hA
  have Hx:=hid (And.intro hx (And.intro hfm hM))
  have Hf:=hid (And.intro hf hf2)
  have cF:=hid (ykV (W:=w2) InvN InvN (fun j n ws m ws' m' _ _ h hs=>yhi la j n ws m ws' m' h hs) (fun j n ws m ws' m' _ _ h hs=>yhi lb j n ws m ws' m' h hs) (fun j ws m h hj=>by rw [InvN] at h; omega) (fun j ws m h hj=>by rw [InvN] at h; omega) hg HF.out hA (zG 0) (zG 0))
  clear hA hx hfm hM hf hf2
  go_wp2_with fail
  refine cF.out.mono ?_
  rintro e w3 ⟨t,ok,Fa',Fb',wa',wb',ma',mb',j,rfl,hD,hA3,hE3,-,-,iA,iB⟩
  have hpl:=yio HP.out hD
  have hx9:∀c,(c=x∨c=fm∨ra.M c∨rb.M c)→W1.heap.size≤c:=fun c hc=>by
   rcases hc with rfl | rfl | hc
   ·exact Hx.out.1
   ·exact Hx.out.2.1
   ·exact Hx.out.2.2 c hc
  have nW:¬(W.heap.size=x∨W.heap.size=fm∨ra.M W.heap.size∨rb.M W.heap.size):=fun h=>by have:=hx9 _ h; have:=L1.out; omega
  have lW:W.heap.size < w2.heap.size:=zH L1.out L2.out
  have HB3:Hid (Below W.heap.size W w3):=HB2.out.trans (hE3.below (fun c hc=>by have:=hx9 c hc; have:=HB1.out.size; omega) HB2.out.size)
  have c0:=(hE3.cell (p:=⟨W.heap.size,0,none⟩) lW nW).trans C2.out.1.1
  have c1:=(hE3.cell (p:=⟨W.heap.size,1,none⟩) lW nW).trans C2.out.1.2.1
  have c2:=(hE3.cell (p:=⟨W.heap.size,2,none⟩) lW nW).trans C2.out.1.2.2
  have z:∀i,w3.frozen? ⟨W.heap.size,i,none⟩=false:=fun i=>(hE3.frozen (p:=⟨W.heap.size,i,none⟩) lW nW).trans (C2.out.2 i)
  have z0:=z 0
  have z1:=z 1
  have z2:=z 2
  have HA3:=hid hA3
  have Hm:=hid (And.intro iA iB)
  have L3:Hid (w2.heap.size≤w3.heap.size):=hE3.size
  have lW3:Hid (W.heap.size < w3.heap.size):=zH lW L3.out
  clear hD hA3 hE3 iA iB cF hx9 lW z
  rcases hpl with ⟨⟨rfl,hLe,-⟩ | ⟨rfl,rfl,hN⟩,hj⟩
  rotate_left
  ·have HR:Hid (VrdR pw la lb (.returned (.tuple #[verV true 0 false, .int .i64 0]))):= .inr (.inr ⟨Hf.out.1,Hf.out.2,true,0,false,rfl, .inl ⟨hN,rfl,rfl,rfl⟩⟩)
   clear hN hj nW
   go_wp2
   refine bodyPost_ret (v:= .tuple #[verV true 0 false, .int .i64 0]) ?_ rfl ⟨HR.out,?_⟩
   ·simp [results,Tryz.results58,go_sem,verV,c0,c1,c2]
   ·exact yab (yab (yab HB3.out (zG _)) (zG _)) (zG _)
  ·have hj2:=hj
   have t0:=hLe.1
   have t1:=hLe.2.1
   have HLe:=hid hLe
   obtain ⟨n,hn⟩:∃n,t / 86400=n:=⟨_,rfl⟩
   have n0:0≤n:=by omega
   have n1:n < 146097:=by omega
   obtain ⟨k,hk⟩:∃k:Nat,t % 86400=k:=⟨(t % 86400).toNat,by omega⟩
   have hk2:k < 86400:=by omega
   have cD:=hid (yiE (W:=w3) n n0 n1 (by have:=Hm.out.1; rw [InvN] at this; omega) HA3.out.two.a)
   have x0:=HA3.out.c0
   have hd1:IntKind.i64.wrap (Int.tdiv t 86400)=n:=by rw [Int.tdiv_eq_ediv_of_nonneg t0,hn]; exact IntWalk.i64_in _ (by omega)
   have hd2:IntKind.i64.wrap (Int.tmod t 86400)= (k:Int):=by rw [Int.tmod_eq_emod_of_nonneg t0,hk]; exact IntWalk.i64_in _ (by omega)
   have Hq:Hid (dayQ la n k=yav la t):=by show _ = _; rw [yby]; congr 1; omega
   have Hn:=hid (And.intro n0 n1)
   have Hk:=hid hk2
   have h8:=hid (ygi HA3.out.two.a.x.may)
   clear hLe hj hj2 n0 n1 hk2
   go_wp2_with fail
   refine cD.out.mono ?_
   rintro e w4 ⟨d,F2,ws2,m2,rfl,hR4,-,hE4,-,hnone,hsome⟩
   have hdo:DiscO w4 d (dayQ la n):=DOf.disc (F:=F2) (M:=ra.M) ⟨fun hd j hj=>yda h8.out Hn.out.1 Hn.out.2 (hnone hd) hj,hsome⟩
   have cH:=DHasO_any d (dayQ la n) (k:Int) w4 hdo
   rw [ydL,zzZ Hk.out,zzo,Int.toNat_natCast,Hq.out] at cH
   have CH:=hid cH
   obtain ⟨v,hv⟩:∃v,dptr d=v:=⟨_,rfl⟩
   rw [hv] at CH⊢
   have nM:¬RM ra.br ra.bk ra.bps W.heap.size:=fun h=>nW (.inr (.inr (.inl h)))
   have HB4:Hid (Below W.heap.size W w4):=HB3.out.trans (hE4.below (fun c hc=>by have:=Hx.out.2.2 c (.inl hc); have:=HB1.out.size; omega) HB3.out.size)
   replace c0:=(hE4.cell (p:=⟨W.heap.size,0,none⟩) lW3.out nM).trans c0
   replace c1:=(hE4.cell (p:=⟨W.heap.size,1,none⟩) lW3.out nM).trans c1
   replace c2:=(hE4.cell (p:=⟨W.heap.size,2,none⟩) lW3.out nM).trans c2
   replace z0:=(hE4.frozen (p:=⟨W.heap.size,0,none⟩) lW3.out nM).trans z0
   replace z1:=(hE4.frozen (p:=⟨W.heap.size,1,none⟩) lW3.out nM).trans z1
   replace z2:=(hE4.frozen (p:=⟨W.heap.size,2,none⟩) lW3.out nM).trans z2
   clear hR4 hE4 hnone hsome hdo cH hv nM cD x0
   go_wp2_with fail
   refine CH.out.mono ?_
   rintro e w5 ⟨rfl,rfl⟩
   obtain ⟨q,hq⟩:∃q,yav la t=q:=⟨_,rfl⟩
   have HR:Hid (VrdR pw la lb (.returned (.tuple #[verV false t q, .int .i64 0]))):= .inr (.inr ⟨Hf.out.1,Hf.out.2,false,t,q,rfl, .inr ⟨HLe.out,rfl,hq.symm⟩⟩)
   rw [hq]
   clear CH hq hd1 hd2 t0 t1 hn hk nW
   go_wp2
   refine bodyPost_ret (v:= .tuple #[verV false t q, .int .i64 0]) ?_ rfl ⟨HR.out,?_⟩
   ·simp [results,Tryz.results58,go_sem,verV,c0,c1,c2]
   ·exact yab (yab (yab HB4.out (zG _)) (zG _)) (zG _)
end
section
open Go.RowKit Go.Maps
theorem lacksC:FindC 59 (fun p q=>p && !q):=fun d e qa qb W hT hd he=>by
 have h:=yla d e qa qb W hT hd.v.1 he.v.1
 rw [hd.v.2,he.v.2] at h
 exact h.mono fun r w' ⟨⟨n,ok,h1,h2⟩,h3⟩=>⟨⟨n,ok,h1,h2⟩,by subst h3; exact Below.refl _ _⟩
theorem DiscO.below {W W':World} {d:Option Nat} {q:Nat→Bool} (h:DiscO W d q) (hB:Below W.heap.size W W'):DiscO W' d q:=by
 cases d with
 | none=>exact h
 | some b=>exact DiscAt.block h hB.size (hB.block b (DiscAt.lt h))
theorem DiscO.ne {W:World} {d:Option Nat} {q:Nat→Bool} (h:DiscO W d q):∀c,d=some c→c < W.heap.size:=fun c hc=>by
 subst hc; exact DiscAt.lt h
def yhp (la lb:List Cl):Int:=if yaj la≠0 then yaj la else yaj lb
def VrdP (pw:Bool→Bool→Bool) (la lb:List Cl) (y:Bool) (t:Int) (f:Bool) (er:Int):Prop:=er=yhp la lb∧(er≠0→y=false∧t=0∧f=false)∧(er=0→VerP pw la lb y t f)
theorem VrdR.form {pw:Bool→Bool→Bool} {la lb:List Cl} {e:Ending} (h:VrdR pw la lb e):∃y t f er,e= .returned (.tuple #[verV y t f, .int .i64 er])∧VrdP pw la lb y t f er:=by
 rcases h with ⟨h1,rfl⟩ | ⟨h1,h2,rfl⟩ | ⟨h1,h2,y,t,f,rfl,h3⟩
 ·exact ⟨false,0,false,_,rfl,by rw [yhp,if_pos h1],fun _=>⟨rfl,rfl,rfl⟩,fun h=>absurd h h1⟩
 ·exact ⟨false,0,false,_,rfl,by rw [yhp,if_neg (by simpa using h1)],fun _=>⟨rfl,rfl,rfl⟩,fun h=>absurd h h2⟩
 ·exact ⟨y,t,f,0,rfl,by rw [yhp,if_neg (by simpa using h1),h2],fun h=>absurd rfl h,fun _=>h3⟩
def MeetR (pw:Bool→Bool→Bool) (la lb:List Cl) (e:Ending):Prop:=∃y t f er,e= .returned (.tuple #[verV y t f, .int .i64 er])∧VrdP pw la lb y t f er
theorem yhQ (a:Option Addr) (cap:Nat) (la:List Cl) (b:Option Addr) (capb:Nat) (lb:List Cl) (W:World)
  (hl:la.length≤1000) (hlc:la.length≤cap) (hs:Sl W a (cls la)) (hno:a=none→cap=0) (hok:∀c∈la,c.Ok)
  (hlb:lb.length≤1000) (hlcb:lb.length≤capb) (hsb:Sl W b (cls lb)) (hnob:b=none→capb=0) (hokb:∀c∈lb,c.Ok) (hT:Tab W) :
  Calls Tryz.prog 19 #[.slice a la.length cap, .slice b lb.length capb] W fun e W'=>MeetR (fun p q=>p && !q) la lb e∧Below W.heap.size W W':=by
 obtain ⟨W1,hW1⟩:∃W1,W.alloc (.cells #[.bool false, .int .i64 0, .bool false] 51)=W1:=⟨_,rfl⟩
 have HB1:Hid (Below W.heap.size W W1):=by rw [←hW1]; exact yaa (Below.refl _ _) (zG _)
 have L1:Hid (W.heap.size < W1.heap.size):=by show _ < _; rw [←hW1]; simp
 have C1:Hid ((W1.cell? ⟨W.heap.size,0,none⟩=some (.bool false)∧W1.cell? ⟨W.heap.size,1,none⟩=some (.int .i64 0)∧W1.cell? ⟨W.heap.size,2,none⟩=some (.bool false))∧∀i,W1.frozen? ⟨W.heap.size,i,none⟩=false):=by
  rw [←hW1]; exact ⟨⟨by simp [go_sem],by simp [go_sem],by simp [go_sem]⟩,fun i=>by simp [go_sem]⟩
 have cV:Hid (Calls Tryz.prog 58 #[.slice a la.length cap, .slice b lb.length capb, .func (.func 59) #[] #[]] W1 fun e W'=>VrdR (fun p q=>p && !q) la lb e∧Below W1.heap.size W1 W'):=yhS a cap la b capb lb 59 (fun p q=>p && !q) W1 hl hlc (hs.below HB1.out) hno hok hlb hlcb (hsb.below HB1.out) hnob hokb (hT.later HB1.out) (fun args w=>by simp [go_sem]) lacksC rfl
 have HW1:=hid hW1
 clear hl hlc hs hno hok hlb hlcb hsb hnob hokb hT hW1
 go_enter Tryz.func19,Tryz.ntmps19
 go_upto_region 1 with fail
 rw [HW1.out]
 go_wp2_with fail
 refine cV.out.mono ?_
 rintro e w2 ⟨hR,hB2⟩
 obtain ⟨y,t,f,er,rfl,hV⟩:=hR.form
 have HB2:=hid (HB1.out.trans (hB2.mono HB1.out.size))
 have c0:=(hB2.cell (p:=⟨W.heap.size,0,none⟩) L1.out).trans C1.out.1.1
 have c1:=(hB2.cell (p:=⟨W.heap.size,1,none⟩) L1.out).trans C1.out.1.2.1
 have c2:=(hB2.cell (p:=⟨W.heap.size,2,none⟩) L1.out).trans C1.out.1.2.2
 have z0:=(hB2.frozen (p:=⟨W.heap.size,0,none⟩) L1.out).trans (C1.out.2 0)
 have z1:=(hB2.frozen (p:=⟨W.heap.size,1,none⟩) L1.out).trans (C1.out.2 1)
 have z2:=(hB2.frozen (p:=⟨W.heap.size,2,none⟩) L1.out).trans (C1.out.2 2)
 have HV:=hid hV
 clear hR hB2 hV cV
 unfold verV
 go_wp2
 refine bodyPost_ret (v:= .tuple #[verV y t f, .int .i64 er]) ?_ rfl ⟨⟨y,t,f,er,rfl,HV.out⟩,?_⟩
 ·simp [results,Tryz.results19,go_sem,verV,c0,c1,c2]
 ·exact yab (yab (yab HB2.out (zG _)) (zG _)) (zG _)
end
end Go.Proofs.YtjahgimnfliooaaGreatDoor
