/-
  What a disc's Put of a list, Join and Keep of discs make of its seconds.
  meet.Equal, Within, Empty, Apart.
  seek.Prev and seek.Last.
  ferialaw19.between and ferialaw19.lives.
-/
import Derived.Test.YtmjljpdeohbfbaaGreatDoorQc4e361
import Derived.Test.YtmjljpdeohbfbaaGreatDoorQf2d297
import Derived.Test.YtmjljpdeohbfbaaGreatDoorQbec8af
import Derived.Test.YtmjljpdeohbfbaaGreatDoorQ221bbe
import Derived.Shelf.Strconv.Itoa0
import Derived.Test.YtmjljpdeohbfbaaGreatDoorQ08d314
import Derived.Test.YtmjljpdeohbfbaaGreatDoorQ368508
import Derived.Test.YtmjljpdeohbfbaaGreatDoorQd86d0d
import Derived.Test.YtmjljpdeohbfbaaGreatDoorQ123253
namespace Go.Proofs.YtmjljpdeohbfbaaGreatDoor
set_option linter.unusedVariables false
section
open Go.RowKit
def dps (ds:List (Option Nat × (Nat→Bool))):List Value:=ds.map fun d=>dptr d.1
theorem dins_of {W:World} {b:Nat}:∀(ds:List (Option Nat × (Nat→Bool))),(∀d∈ds,DiscO W d.1 d.2∧∀c,d.1=some c→c≠b)→∃ws:List DIn,dvs ws=dps ds∧ws.length=ds.length∧(∀d∈ws,DOk W b d)∧
  ∀f k,k < 86400→bitW (orL f ws) k= (bitW f k || ds.any fun d=>d.2 k)∧bitW (andL f ws) k= (bitW f k && ds.all fun d=>d.2 k)
 | [],_=>⟨[],rfl,rfl,by simp,fun f k _=>by simp [orL,andL]⟩
 | (d,q) :: ds,h=>by
  obtain ⟨ws,h1,h2,h3,h4⟩:=dins_of ds (fun x hx=>h x (by simp [hx]))
  obtain ⟨hd,hn⟩:=h (d,q) (by simp)
  obtain ⟨hv,hp⟩:=hd.v
  obtain ⟨g,g1,g2,g3⟩:=hv.words
  refine ⟨(d,g) :: ws,?_,by simp [h2],fun x hx=>?_,fun f k hk=>?_⟩
  ·show dv d :: dvs ws=dptr d :: dps ds
   rw [h1,hp]
  ·rcases List.mem_cons.1 hx with rfl | hx
   ·exact ⟨g1,g2,fun c hc=>⟨hn c hc,by
     have hd':DiscO W d q:=hd
     have hc':d=some c:=hc
     rw [hc'] at hd'
     exact DiscAt.lt hd'⟩⟩
   ·exact h3 x hx
  ·obtain ⟨e1,e2⟩:=h4 (fun i=>f i ||| g i) k hk
   obtain ⟨e3,e4⟩:=h4 (fun i=>f i &&& g i) k hk
   constructor
   ·rw [show orL f ((d,g) :: ws)=orL (fun i=>f i ||| g i) ws from rfl,e1,List.any_cons,←g3 k hk]
    simp [bitW,Nat.testBit_or,Bool.or_assoc]
   ·rw [show andL f ((d,g) :: ws)=andL (fun i=>f i &&& g i) ws from rfl,e4,List.all_cons,←g3 k hk]
    simp [bitW,Nat.testBit_and,Bool.and_assoc]
theorem DJoinL_any (b:Nat) (q:Nat→Bool) (a:Option Addr) (cap:Nat) (ds:List (Option Nat × (Nat→Bool))) (w:World) (hl:ds.length≤9223372036854775807) (hs:Sl w a (dps ds)) (hne:ds≠ []→∀g off,a=some ⟨g,off,none⟩→g≠b)
  (hd:DiscAt w b q) (hds:∀d∈ds,DiscO w d.1 d.2∧∀c,d.1=some c→c≠b) :
  Calls Tryz.prog 61 #[.pointer (some ⟨b,0,none⟩), .slice a ds.length cap] w fun e w'=>(∃v,e= .returned v)∧DiscAt w' b (fun k=>q k || ds.any fun d=>d.2 k)∧Eff (fun x=>x=b) w w':=by
 obtain ⟨ws,h1,h2,h3,h4⟩:=dins_of ds hds
 obtain ⟨f,f1,f2,f3,f4,f5⟩:=hd
 rw [←h2]
 refine (DJoin_any b f a cap ws w (by omega) (by rw [h1]; exact hs) (fun h=>hne (fun e=>h (by rw [e] at h2; exact List.length_eq_zero_iff.1 h2))) h3 ⟨f1,f2,f3,Eff.refl _ _⟩).mono fun e w' ⟨k1,k2⟩=>⟨k1,⟨_,k2.words,k2.free,k2.bd,fun k hk=>?_,by have:=k2.eff.size; omega⟩,k2.eff⟩
 rw [(h4 f k hk).1,f4 k hk]
theorem DKeepL_any (b:Nat) (q:Nat→Bool) (a:Option Addr) (cap:Nat) (ds:List (Option Nat × (Nat→Bool))) (w:World) (hl:ds.length≤9223372036854775807) (hs:Sl w a (dps ds)) (hne:ds≠ []→∀g off,a=some ⟨g,off,none⟩→g≠b)
  (hd:DiscAt w b q) (hds:∀d∈ds,DiscO w d.1 d.2∧∀c,d.1=some c→c≠b) :
  Calls Tryz.prog 62 #[.pointer (some ⟨b,0,none⟩), .slice a ds.length cap] w fun e w'=>(∃v,e= .returned v)∧DiscAt w' b (fun k=>q k && ds.all fun d=>d.2 k)∧Eff (fun x=>x=b) w w':=by
 obtain ⟨ws,h1,h2,h3,h4⟩:=dins_of ds hds
 obtain ⟨f,f1,f2,f3,f4,f5⟩:=hd
 rw [←h2]
 refine (Keep_any b f a cap ws w (by omega) (by rw [h1]; exact hs) (fun h=>hne (fun e=>h (by rw [e] at h2; exact List.length_eq_zero_iff.1 h2))) h3 ⟨f1,f2,f3,Eff.refl _ _⟩).mono fun e w' ⟨k1,k2⟩=>⟨k1,⟨_,k2.words,k2.free,k2.bd,fun k hk=>?_,by have:=k2.eff.size; omega⟩,k2.eff⟩
 rw [(h4 f k hk).2,f4 k hk]
end
section
open Go.RowKit Go.Maps
theorem differC:FindC 51 (fun p q=>p != q):=fun d e qa qb W hT hd he=>by
 have h:=DDiffer_any d e qa qb W hT hd.v.1 he.v.1
 rw [hd.v.2,he.v.2] at h
 exact h.mono fun r w' ⟨⟨n,ok,h1,h2⟩,h3⟩=>⟨⟨n,ok,h1,h2⟩,by subst h3; exact Below.refl _ _⟩
theorem lacksC:FindC 57 (fun p q=>p && !q):=fun d e qa qb W hT hd he=>by
 have h:=DLacks_any d e qa qb W hT hd.v.1 he.v.1
 rw [hd.v.2,he.v.2] at h
 exact h.mono fun r w' ⟨⟨n,ok,h1,h2⟩,h3⟩=>⟨⟨n,ok,h1,h2⟩,by subst h3; exact Below.refl _ _⟩
theorem FirstOf.congr' {p q:Nat→Bool} {n:Int} {ok:Bool} (h:FirstOf p n ok) (he:∀k,k < 86400→p k=q k):FirstOf q n ok:=by
 rcases h with ⟨rfl,k,rfl,hk,h1,h2⟩ | ⟨rfl,rfl,h2⟩
 ·exact .inl ⟨rfl,k,rfl,hk,by rw [←he k hk]; exact h1,fun j hj=>by rw [←he j (by omega)]; exact h2 j hj⟩
 ·exact .inr ⟨rfl,rfl,fun j hj=>by rw [←he j hj]; exact h2 j hj⟩
theorem DiscO.below {W W':World} {d:Option Nat} {q:Nat→Bool} (h:DiscO W d q) (hB:Below W.heap.size W W'):DiscO W' d q:=by
 cases d with
 | none=>exact h
 | some b=>exact DiscAt.block h hB.size (hB.block b (DiscAt.lt h))
theorem DiscO.ne {W:World} {d:Option Nat} {q:Nat→Bool} (h:DiscO W d q):∀c,d=some c→c < W.heap.size:=fun c hc=>by
 subst hc; exact DiscAt.lt h
set_option maxRecDepth 100000 in
set_option maxHeartbeats 1600000 in
theorem apartC:FindC 59 (fun p q=>p && q):=fun d e qa qb W hT hd he=>by
 have cO:=hid (fun W=>DOf_any none 0 [] W (by simp) (.inl rfl))
 have HD:=hid hd
 have HE:=hid he
 have HT:=hid hT
 have dn:=hid hd.ne
 have en:=hid he.ne
 rw [dptr_eq,dptr_eq]
 clear hd he hT
 go_enter Tryz.func59,Tryz.ntmps59
 go_wp2_with fail
 refine (cO.out _).mono ?_
 rintro r w1 ⟨rfl,hq1,hB1⟩
 have l1:W.heap.size < w1.heap.size:=DiscAt.lt hq1
 obtain ⟨b,hb⟩:∃b,W.heap.size=b:=⟨_,rfl⟩
 have Hb:Hid (W.heap.size=b):=hb
 rw [hb] at hq1
 have HQ1:=hid hq1
 have HB1:=hid hB1
 have L1:Hid (b < w1.heap.size):=by rw [←hb]; exact l1
 clear hq1 hB1 l1 cO
 have T0:Hid (W.heap.size≤W.heap.size):=zG _
 go_wp2_with fail
 obtain ⟨w2,hw2⟩:∃w2,w1.alloc (.cells #[.pointer (dadr d)] 106)=w2:=⟨_,rfl⟩
 have hB2:Below w1.heap.size w1 w2:=by rw [←hw2]; exact below_new (Below.refl _ _) (zG _)
 have hl2:w1.heap.size < w2.heap.size:=by rw [←hw2]; simp
 have hc2:w2.cell? ⟨w1.heap.size,0,none⟩=some (.pointer (dadr d)):=by rw [←hw2]; simp [go_sem]
 have hd2:=(HD.out.below HB1.out).below hB2
 have hq2:DiscAt w2 b (memD []):=DiscAt.block HQ1.out hB2.size (hB2.block b L1.out)
 have cJ:Calls Tryz.prog 61 #[.pointer (some ⟨b,0,none⟩), .slice (some ⟨w1.heap.size,0,none⟩) 1 1] w2 fun e w'=>(∃v,e= .returned v)∧DiscAt w' b (fun k=>memD [] k || [(d,qa)].any fun d=>d.2 k)∧Eff (fun x=>x=b) w2 w':=
  DJoinL_any b (memD []) (some ⟨w1.heap.size,0,none⟩) 1 [(d,qa)] w2 (by simp) (.inr ⟨w1.heap.size,0,rfl,hl2,fun j hj=>by
   have hj0:j=0:=by simp [dps] at hj; exact hj
   subst hj0
   show w2.cell? ⟨w1.heap.size,0+0,none⟩=some (dptr d)
   rw [dptr_eq]; exact hc2⟩) (fun _ g off hg=>by cases hg; have:=L1.out; omega) hq2 (fun x hx=>by
    rw [List.mem_singleton] at hx; subst hx
    exact ⟨hd2,fun c hc=>by have:=dn.out c hc; have:=Hb.out; omega⟩)
 rw [hw2]
 have HB2:=hid (HB1.out.trans (hB2.mono HB1.out.size))
 have CJ:=hid cJ
 have L2:Hid (b < w2.heap.size):=zH L1.out hB2.size
 clear hw2 hB2 hl2 hc2 hd2 hq2 cJ
 refine CJ.out.mono ?_
 rintro r w3 ⟨⟨v,rfl⟩,hq3,hE3⟩
 have HQ3:=hid hq3
 have HB3:Hid (Below W.heap.size W w3):=HB2.out.trans (hE3.below (fun c hc=>by have:=Hb.out; omega) HB2.out.size)
 have L3:Hid (b < w3.heap.size):=DiscAt.lt hq3
 have he3:DiscO w3 e qb:=HE.out.below HB3.out
 have HE3:=hid he3
 clear hq3 hE3 CJ he3
 go_wp2_with fail
 obtain ⟨w4,hw4⟩:∃w4,w3.alloc (.cells #[.pointer (dadr e)] 106)=w4:=⟨_,rfl⟩
 have hB4:Below w3.heap.size w3 w4:=by rw [←hw4]; exact below_new (Below.refl _ _) (zG _)
 have hl4:w3.heap.size < w4.heap.size:=by rw [←hw4]; simp
 have hc4:w4.cell? ⟨w3.heap.size,0,none⟩=some (.pointer (dadr e)):=by rw [←hw4]; simp [go_sem]
 have he4:=HE3.out.below hB4
 have hq4:=DiscAt.block HQ3.out hB4.size (hB4.block b L3.out)
 have cK:Calls Tryz.prog 62 #[.pointer (some ⟨b,0,none⟩), .slice (some ⟨w3.heap.size,0,none⟩) 1 1] w4 fun r w'=>(∃v,r= .returned v)∧DiscAt w' b (fun k=>(memD [] k || [(d,qa)].any fun d=>d.2 k) && [(e,qb)].all fun d=>d.2 k)∧Eff (fun x=>x=b) w4 w':=
  DKeepL_any b _ (some ⟨w3.heap.size,0,none⟩) 1 [(e,qb)] w4 (by simp) (.inr ⟨w3.heap.size,0,rfl,hl4,fun j hj=>by
   have hj0:j=0:=by simp [dps] at hj; exact hj
   subst hj0
   show w4.cell? ⟨w3.heap.size,0+0,none⟩=some (dptr e)
   rw [dptr_eq]; exact hc4⟩) (fun _ g off hg=>by cases hg; have:=L3.out; omega) hq4 (fun x hx=>by
    rw [List.mem_singleton] at hx; subst hx
    exact ⟨he4,fun c hc=>by have:=en.out c hc; have:=Hb.out; omega⟩)
 rw [hw4]
 have HB4:=hid (HB3.out.trans (hB4.mono HB3.out.size))
 have CK:=hid cK
 clear hw4 hB4 hl4 hc4 he4 hq4 cK
 refine CK.out.mono ?_
 rintro r w5 ⟨⟨v2,rfl⟩,hq5,hE5⟩
 have HB5:Hid (Below W.heap.size W w5):=HB4.out.trans (hE5.below (fun c hc=>by have:=Hb.out; omega) HB4.out.size)
 have cN:=hid (DcNext_any b _ 0 w5 (by omega) (HT.out.later HB5.out) hq5)
 clear hq5 hE5 CK
 go_wp2_with fail
 refine cN.out.mono ?_
 rintro r w6 ⟨⟨n,ok,rfl,hf⟩,rfl⟩
 have hf2:FirstOf (fun k=>qa k && qb k) n ok:=hf.congr' fun k _=>by simp [memD]
 have HF:=hid hf2
 clear hf hf2 cN
 go_wp2
 exact bodyPost_ret (v:= .tuple #[.int .i64 n, .bool ok]) (by simp [results,Tryz.results59,go_sem]) rfl ⟨⟨n,ok,rfl,HF.out⟩,HB5.out⟩
def fault2 (la lb:List Cl):Int:=if faultL la≠0 then faultL la else faultL lb
def VrdP (pw:Bool→Bool→Bool) (la lb:List Cl) (y:Bool) (t:Int) (f:Bool) (er:Int):Prop:=er=fault2 la lb∧(er≠0→y=false∧t=0∧f=false)∧(er=0→VerP pw la lb y t f)
theorem VrdR.form {pw:Bool→Bool→Bool} {la lb:List Cl} {e:Ending} (h:VrdR pw la lb e):∃y t f er,e= .returned (.tuple #[verV y t f, .int .i64 er])∧VrdP pw la lb y t f er:=by
 rcases h with ⟨h1,rfl⟩ | ⟨h1,h2,rfl⟩ | ⟨h1,h2,y,t,f,rfl,h3⟩
 ·exact ⟨false,0,false,_,rfl,by rw [fault2,if_pos h1],fun _=>⟨rfl,rfl,rfl⟩,fun h=>absurd h h1⟩
 ·exact ⟨false,0,false,_,rfl,by rw [fault2,if_neg (by simpa using h1)],fun _=>⟨rfl,rfl,rfl⟩,fun h=>absurd h h2⟩
 ·exact ⟨y,t,f,0,rfl,by rw [fault2,if_neg (by simpa using h1),h2],fun h=>absurd rfl h,fun _=>h3⟩
def MeetR (pw:Bool→Bool→Bool) (la lb:List Cl) (e:Ending):Prop:=∃y t f er,e= .returned (.tuple #[verV y t f, .int .i64 er])∧VrdP pw la lb y t f er
set_option maxRecDepth 100000 in
set_option maxHeartbeats 1600000 in
theorem MtEqual_any (a:Option Addr) (cap:Nat) (la:List Cl) (b:Option Addr) (capb:Nat) (lb:List Cl) (W:World)
  (hl:la.length≤1000) (hlc:la.length≤cap) (hs:Sl W a (cls la)) (hno:a=none→cap=0) (hok:∀c∈la,c.Ok)
  (hlb:lb.length≤1000) (hlcb:lb.length≤capb) (hsb:Sl W b (cls lb)) (hnob:b=none→capb=0) (hokb:∀c∈lb,c.Ok) (hT:Tab W) :
  Calls Tryz.prog 13 #[.slice a la.length cap, .slice b lb.length capb] W fun e W'=>MeetR (fun p q=>p != q) la lb e∧Below W.heap.size W W':=by
 obtain ⟨W1,hW1⟩:∃W1,W.alloc (.cells #[.bool false, .int .i64 0, .bool false] 26)=W1:=⟨_,rfl⟩
 have HB1:Hid (Below W.heap.size W W1):=by rw [←hW1]; exact below_new (Below.refl _ _) (zG _)
 have L1:Hid (W.heap.size < W1.heap.size):=by show _ < _; rw [←hW1]; simp
 have C1:Hid ((W1.cell? ⟨W.heap.size,0,none⟩=some (.bool false)∧W1.cell? ⟨W.heap.size,1,none⟩=some (.int .i64 0)∧W1.cell? ⟨W.heap.size,2,none⟩=some (.bool false))∧∀i,W1.frozen? ⟨W.heap.size,i,none⟩=false):=by
  rw [←hW1]; exact ⟨⟨by simp [go_sem],by simp [go_sem],by simp [go_sem]⟩,fun i=>by simp [go_sem]⟩
 have cV:Hid (Calls Tryz.prog 50 #[.slice a la.length cap, .slice b lb.length capb, .func (.func 51) #[] #[]] W1 fun e W'=>VrdR (fun p q=>p != q) la lb e∧Below W1.heap.size W1 W'):=MVerdict_any a cap la b capb lb 51 (fun p q=>p != q) W1 hl hlc (hs.below HB1.out) hno hok hlb hlcb (hsb.below HB1.out) hnob hokb (hT.later HB1.out) (fun args w=>by simp [go_sem]) differC rfl
 have HW1:=hid hW1
 clear hl hlc hs hno hok hlb hlcb hsb hnob hokb hT hW1
 go_enter Tryz.func13,Tryz.ntmps13
 go_upto_region 1 with fail
 rw [HW1.out]
 go_wp2_with fail
 refine cV.out.mono ?_
 rintro e w2 ⟨hR,hB2⟩
 obtain ⟨y,t,f,er,rfl,hV⟩:=hR.form
 have HB2:=hid (HB1.out.trans (hB2.mono HB1.out.size))
 have c0:=(hB2.cell (p:=⟨W.heap.size,0,none⟩) L1.out).trans C1.out.1.1
 have c1:=(hB2.cell (p:=⟨W.heap.size,1,none⟩) L1.out).trans C1.out.1.2.1
 have c2:=(hB2.cell (p:=⟨W.heap.size,2,none⟩) L1.out).trans C1.out.1.2.2
 have z0:=(hB2.frozen (p:=⟨W.heap.size,0,none⟩) L1.out).trans (C1.out.2 0)
 have z1:=(hB2.frozen (p:=⟨W.heap.size,1,none⟩) L1.out).trans (C1.out.2 1)
 have z2:=(hB2.frozen (p:=⟨W.heap.size,2,none⟩) L1.out).trans (C1.out.2 2)
 have HV:=hid hV
 clear hR hB2 hV cV
 unfold verV
 go_wp2
 refine bodyPost_ret (v:= .tuple #[verV y t f, .int .i64 er]) ?_ rfl ⟨⟨y,t,f,er,rfl,HV.out⟩,?_⟩
 ·simp [results,Tryz.results13,go_sem,verV,c0,c1,c2]
 ·exact below_set (below_set (below_set HB2.out (zG _)) (zG _)) (zG _)
set_option maxRecDepth 100000 in
set_option maxHeartbeats 1600000 in
theorem MtWithin_any (a:Option Addr) (cap:Nat) (la:List Cl) (b:Option Addr) (capb:Nat) (lb:List Cl) (W:World)
  (hl:la.length≤1000) (hlc:la.length≤cap) (hs:Sl W a (cls la)) (hno:a=none→cap=0) (hok:∀c∈la,c.Ok)
  (hlb:lb.length≤1000) (hlcb:lb.length≤capb) (hsb:Sl W b (cls lb)) (hnob:b=none→capb=0) (hokb:∀c∈lb,c.Ok) (hT:Tab W) :
  Calls Tryz.prog 20 #[.slice a la.length cap, .slice b lb.length capb] W fun e W'=>MeetR (fun p q=>p && !q) la lb e∧Below W.heap.size W W':=by
 obtain ⟨W1,hW1⟩:∃W1,W.alloc (.cells #[.bool false, .int .i64 0, .bool false] 26)=W1:=⟨_,rfl⟩
 have HB1:Hid (Below W.heap.size W W1):=by rw [←hW1]; exact below_new (Below.refl _ _) (zG _)
 have L1:Hid (W.heap.size < W1.heap.size):=by show _ < _; rw [←hW1]; simp
 have C1:Hid ((W1.cell? ⟨W.heap.size,0,none⟩=some (.bool false)∧W1.cell? ⟨W.heap.size,1,none⟩=some (.int .i64 0)∧W1.cell? ⟨W.heap.size,2,none⟩=some (.bool false))∧∀i,W1.frozen? ⟨W.heap.size,i,none⟩=false):=by
  rw [←hW1]; exact ⟨⟨by simp [go_sem],by simp [go_sem],by simp [go_sem]⟩,fun i=>by simp [go_sem]⟩
 have cV:Hid (Calls Tryz.prog 50 #[.slice a la.length cap, .slice b lb.length capb, .func (.func 57) #[] #[]] W1 fun e W'=>VrdR (fun p q=>p && !q) la lb e∧Below W1.heap.size W1 W'):=MVerdict_any a cap la b capb lb 57 (fun p q=>p && !q) W1 hl hlc (hs.below HB1.out) hno hok hlb hlcb (hsb.below HB1.out) hnob hokb (hT.later HB1.out) (fun args w=>by simp [go_sem]) lacksC rfl
 have HW1:=hid hW1
 clear hl hlc hs hno hok hlb hlcb hsb hnob hokb hT hW1
 go_enter Tryz.func20,Tryz.ntmps20
 go_upto_region 1 with fail
 rw [HW1.out]
 go_wp2_with fail
 refine cV.out.mono ?_
 rintro e w2 ⟨hR,hB2⟩
 obtain ⟨y,t,f,er,rfl,hV⟩:=hR.form
 have HB2:=hid (HB1.out.trans (hB2.mono HB1.out.size))
 have c0:=(hB2.cell (p:=⟨W.heap.size,0,none⟩) L1.out).trans C1.out.1.1
 have c1:=(hB2.cell (p:=⟨W.heap.size,1,none⟩) L1.out).trans C1.out.1.2.1
 have c2:=(hB2.cell (p:=⟨W.heap.size,2,none⟩) L1.out).trans C1.out.1.2.2
 have z0:=(hB2.frozen (p:=⟨W.heap.size,0,none⟩) L1.out).trans (C1.out.2 0)
 have z1:=(hB2.frozen (p:=⟨W.heap.size,1,none⟩) L1.out).trans (C1.out.2 1)
 have z2:=(hB2.frozen (p:=⟨W.heap.size,2,none⟩) L1.out).trans (C1.out.2 2)
 have HV:=hid hV
 clear hR hB2 hV cV
 unfold verV
 go_wp2
 refine bodyPost_ret (v:= .tuple #[verV y t f, .int .i64 er]) ?_ rfl ⟨⟨y,t,f,er,rfl,HV.out⟩,?_⟩
 ·simp [results,Tryz.results20,go_sem,verV,c0,c1,c2]
 ·exact below_set (below_set (below_set HB2.out (zG _)) (zG _)) (zG _)
set_option maxRecDepth 100000 in
set_option maxHeartbeats 1600000 in
theorem MtApart_any (a:Option Addr) (cap:Nat) (la:List Cl) (b:Option Addr) (capb:Nat) (lb:List Cl) (W:World)
  (hl:la.length≤1000) (hlc:la.length≤cap) (hs:Sl W a (cls la)) (hno:a=none→cap=0) (hok:∀c∈la,c.Ok)
  (hlb:lb.length≤1000) (hlcb:lb.length≤capb) (hsb:Sl W b (cls lb)) (hnob:b=none→capb=0) (hokb:∀c∈lb,c.Ok) (hT:Tab W) :
  Calls Tryz.prog 23 #[.slice a la.length cap, .slice b lb.length capb] W fun e W'=>MeetR (fun p q=>p && q) la lb e∧Below W.heap.size W W':=by
 obtain ⟨W1,hW1⟩:∃W1,W.alloc (.cells #[.bool false, .int .i64 0, .bool false] 26)=W1:=⟨_,rfl⟩
 have HB1:Hid (Below W.heap.size W W1):=by rw [←hW1]; exact below_new (Below.refl _ _) (zG _)
 have L1:Hid (W.heap.size < W1.heap.size):=by show _ < _; rw [←hW1]; simp
 have C1:Hid ((W1.cell? ⟨W.heap.size,0,none⟩=some (.bool false)∧W1.cell? ⟨W.heap.size,1,none⟩=some (.int .i64 0)∧W1.cell? ⟨W.heap.size,2,none⟩=some (.bool false))∧∀i,W1.frozen? ⟨W.heap.size,i,none⟩=false):=by
  rw [←hW1]; exact ⟨⟨by simp [go_sem],by simp [go_sem],by simp [go_sem]⟩,fun i=>by simp [go_sem]⟩
 have cV:Hid (Calls Tryz.prog 50 #[.slice a la.length cap, .slice b lb.length capb, .func (.func 59) #[] #[]] W1 fun e W'=>VrdR (fun p q=>p && q) la lb e∧Below W1.heap.size W1 W'):=MVerdict_any a cap la b capb lb 59 (fun p q=>p && q) W1 hl hlc (hs.below HB1.out) hno hok hlb hlcb (hsb.below HB1.out) hnob hokb (hT.later HB1.out) (fun args w=>by simp [go_sem]) apartC rfl
 have HW1:=hid hW1
 clear hl hlc hs hno hok hlb hlcb hsb hnob hokb hT hW1
 go_enter Tryz.func23,Tryz.ntmps23
 go_upto_region 1 with fail
 rw [HW1.out]
 go_wp2_with fail
 refine cV.out.mono ?_
 rintro e w2 ⟨hR,hB2⟩
 obtain ⟨y,t,f,er,rfl,hV⟩:=hR.form
 have HB2:=hid (HB1.out.trans (hB2.mono HB1.out.size))
 have c0:=(hB2.cell (p:=⟨W.heap.size,0,none⟩) L1.out).trans C1.out.1.1
 have c1:=(hB2.cell (p:=⟨W.heap.size,1,none⟩) L1.out).trans C1.out.1.2.1
 have c2:=(hB2.cell (p:=⟨W.heap.size,2,none⟩) L1.out).trans C1.out.1.2.2
 have z0:=(hB2.frozen (p:=⟨W.heap.size,0,none⟩) L1.out).trans (C1.out.2 0)
 have z1:=(hB2.frozen (p:=⟨W.heap.size,1,none⟩) L1.out).trans (C1.out.2 1)
 have z2:=(hB2.frozen (p:=⟨W.heap.size,2,none⟩) L1.out).trans (C1.out.2 2)
 have HV:=hid hV
 clear hR hB2 hV cV
 unfold verV
 go_wp2
 refine bodyPost_ret (v:= .tuple #[verV y t f, .int .i64 er]) ?_ rfl ⟨⟨y,t,f,er,rfl,HV.out⟩,?_⟩
 ·simp [results,Tryz.results23,go_sem,verV,c0,c1,c2]
 ·exact below_set (below_set (below_set HB2.out (zG _)) (zG _)) (zG _)
set_option maxRecDepth 100000 in
set_option maxHeartbeats 1600000 in
theorem MtEmpty_any (a:Option Addr) (cap:Nat) (la:List Cl) (W:World)
  (hl:la.length≤1000) (hlc:la.length≤cap) (hs:Sl W a (cls la)) (hno:a=none→cap=0) (hok:∀c∈la,c.Ok) (hT:Tab W) :
  Calls Tryz.prog 22 #[.slice a la.length cap] W fun e W'=>MeetR (fun p q=>p && !q) la [] e∧Below W.heap.size W W':=by
 obtain ⟨W1,hW1⟩:∃W1,W.alloc (.cells #[.bool false, .int .i64 0, .bool false] 26)=W1:=⟨_,rfl⟩
 have HB1:Hid (Below W.heap.size W W1):=by rw [←hW1]; exact below_new (Below.refl _ _) (zG _)
 have L1:Hid (W.heap.size < W1.heap.size):=by show _ < _; rw [←hW1]; simp
 have C1:Hid ((W1.cell? ⟨W.heap.size,0,none⟩=some (.bool false)∧W1.cell? ⟨W.heap.size,1,none⟩=some (.int .i64 0)∧W1.cell? ⟨W.heap.size,2,none⟩=some (.bool false))∧∀i,W1.frozen? ⟨W.heap.size,i,none⟩=false):=by
  rw [←hW1]; exact ⟨⟨by simp [go_sem],by simp [go_sem],by simp [go_sem]⟩,fun i=>by simp [go_sem]⟩
 have cV:Hid (Calls Tryz.prog 50 #[.slice a la.length cap, .slice none 0 0, .func (.func 57) #[] #[]] W1 fun e W'=>VrdR (fun p q=>p && !q) la [] e∧Below W1.heap.size W1 W'):=MVerdict_any a cap la none 0 [] 57 (fun p q=>p && !q) W1 hl hlc (hs.below HB1.out) hno hok (by simp) (by simp) (.inl rfl) (fun _=>rfl) (by simp) (hT.later HB1.out) (fun args w=>by simp [go_sem]) lacksC rfl
 have HW1:=hid hW1
 clear hl hlc hs hno hok hT hW1
 go_enter Tryz.func22,Tryz.ntmps22
 go_upto_region 1 with fail
 rw [HW1.out]
 go_wp2_with fail
 refine cV.out.mono ?_
 rintro e w2 ⟨hR,hB2⟩
 obtain ⟨y,t,f,er,rfl,hV⟩:=hR.form
 have HB2:=hid (HB1.out.trans (hB2.mono HB1.out.size))
 have c0:=(hB2.cell (p:=⟨W.heap.size,0,none⟩) L1.out).trans C1.out.1.1
 have c1:=(hB2.cell (p:=⟨W.heap.size,1,none⟩) L1.out).trans C1.out.1.2.1
 have c2:=(hB2.cell (p:=⟨W.heap.size,2,none⟩) L1.out).trans C1.out.1.2.2
 have z0:=(hB2.frozen (p:=⟨W.heap.size,0,none⟩) L1.out).trans (C1.out.2 0)
 have z1:=(hB2.frozen (p:=⟨W.heap.size,1,none⟩) L1.out).trans (C1.out.2 1)
 have z2:=(hB2.frozen (p:=⟨W.heap.size,2,none⟩) L1.out).trans (C1.out.2 2)
 have HV:=hid hV
 clear hR hB2 hV cV
 unfold verV
 go_wp2
 refine bodyPost_ret (v:= .tuple #[verV y t f, .int .i64 er]) ?_ rfl ⟨⟨y,t,f,er,rfl,HV.out⟩,?_⟩
 ·simp [results,Tryz.results22,go_sem,verV,c0,c1,c2]
 ·exact below_set (below_set (below_set HB2.out (zG _)) (zG _)) (zG _)
end
section
open Go.RowKit Go.Maps
attribute [local go_sem] Oper.semAt_some
structure PvC (b:Nat) (T x y:Int) (O:Blk) (W:World):Prop where
 two:TwoC (b+1) x y O W
 c3:W.cell? ⟨b,0,none⟩=some (.int .i64 T)
 o3:O b
theorem PvC.keep {b:Nat} {T x y:Int} {O:Blk} {W W':World} (h:PvC b T x y O W) (hs:W.heap.size≤W'.heap.size) (hb:∀c,O c→W'.heap[c]? =W.heap[c]?):PvC b T x y O W':=
 ⟨h.two.keep hs hb,(World.cell?_of_block (w:=W) (a:=⟨b,0,none⟩) (hb _ h.o3)).trans h.c3,h.o3⟩
def PvT (h0 h1 h2 h3 h4 h5 h6 h7 h8 h9:Value) (ds:List Deferred) (a:Act):Prop:=∃u:Nat→Value,a= {tmps:=#[h0,h1,h2,h3,h4,h5,h6,h7,h8,h9,u 0,u 1,u 2,u 3,u 4,u 5,u 6,u 7,u 8,u 9,u 10,u 11,u 12,u 13,u 14,u 15,u 16,u 17,u 18,u 19,u 20,u 21,u 22,u 23,u 24,u 25,u 26,u 27,u 28,u 29,u 30,u 31,u 32,u 33,u 34,u 35,u 36,u 37,u 38],defers:=ds}
theorem PvT.of {h0 h1 h2 h3 h4 h5 h6 h7 h8 h9 u10 u11 u12 u13 u14 u15 u16 u17 u18 u19 u20 u21 u22 u23 u24 u25 u26 u27 u28 u29 u30 u31 u32 u33 u34 u35 u36 u37 u38 u39 u40 u41 u42 u43 u44 u45 u46 u47 u48:Value} {ds:List Deferred}:PvT h0 h1 h2 h3 h4 h5 h6 h7 h8 h9 ds {tmps:=#[h0,h1,h2,h3,h4,h5,h6,h7,h8,h9,u10,u11,u12,u13,u14,u15,u16,u17,u18,u19,u20,u21,u22,u23,u24,u25,u26,u27,u28,u29,u30,u31,u32,u33,u34,u35,u36,u37,u38,u39,u40,u41,u42,u43,u44,u45,u46,u47,u48],defers:=ds}:=
 ⟨fun i=>(#[u10,u11,u12,u13,u14,u15,u16,u17,u18,u19,u20,u21,u22,u23,u24,u25,u26,u27,u28,u29,u30,u31,u32,u33,u34,u35,u36,u37,u38,u39,u40,u41,u42,u43,u44,u45,u46,u47,u48]:Array Value).getD i undef,rfl⟩
end
section
open Go.RowKit Go.Maps
theorem inst_full {t:Int} (h0:0≤t) (h1:t < 12622780800):instB [fullCl] t=true:=by
 rw [instB,List.any_cons,full_has (show winB t=true by simp only [winB,decide_eq_true_eq]; omega)]; rfl
theorem inst_out {l:List Cl} {t:Int} (h:t < 0∨12622780800≤t):instB l t=false:=by
 cases e:instB l t
 ·rfl
 ·have:=inst_win e; omega
end
end Go.Proofs.YtmjljpdeohbfbaaGreatDoor
