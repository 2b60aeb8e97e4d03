/-
  meet.asked.first: the least instant that is found.
  meet.begin: two sets that are asked for something.
  What the least instant of two sets is.
-/
import Derived.Test.YtjahgimnfliooaaGreatDoorQf040af
import Derived.Test.YtjahgimnfliooaaGreatDoorQ2594e0
import Derived.Deep.CutRange
import Derived.Sort.CutIn
import Derived.Test.YtjahgimnfliooaaGreatDoorQ6f606e
import Derived.Laws.EntriesVeiled
import Derived.Test.YtjahgimnfliooaaGreatDoorQ79b4da
set_option maxRecDepth 100000
set_option maxHeartbeats 25600000
namespace Go.Proofs.YtjahgimnfliooaaGreatDoor
set_option linter.unusedVariables false
section
open Go.RowKit Go.Maps
attribute [local go_sem] Oper.semAt_some
def FirstD (pw:Bool→Bool→Bool) (la lb:List Cl) (f0 u0 f1 u1:Int) (D:List Int) (t:Int) (ok:Bool) (j:Nat):Prop:=
 (ok=true∧∃k,k≤D.length∧j≤k∧FoundS pw la lb f0 u0 f1 u1 D k t)∨(ok=false∧t=0∧j≤D.length∧NoneS pw la lb f0 u0 f1 u1 D D.length)
def dM (f0 u0 f1 u1:Int):List Int:=yai (mbF f1 u1 (mbF f0 u0 146097)) (mbU f1 u1 (mbU f0 u0 (-1)))
theorem dM_len (f0 u0 f1 u1:Int):(dM f0 u0 f1 u1).length≤146097:=by
 have h1:=yfL f0 u0 146097 (-1) (by omega) (by omega)
 have h2:=yfL f1 u1 (mbF f0 u0 146097) (mbU f0 u0 (-1)) ⟨h1.1,h1.2.1⟩ ⟨h1.2.2.1,h1.2.2.2⟩
 rw [dM,yaO]; omega
theorem yfg {f0 u0 f1 u1 n:Int} {k:Nat} (h:(dM f0 u0 f1 u1)[k]? =some n):0≤n∧n < 146097∧(k:Int)≤n:=by
 have h1:=yfL f0 u0 146097 (-1) (by omega) (by omega)
 have h2:=yfL f1 u1 (mbF f0 u0 146097) (mbU f0 u0 (-1)) ⟨h1.1,h1.2.1⟩ ⟨h1.2.2.1,h1.2.2.2⟩
 obtain ⟨hk,he⟩:=zzq.1 h
 have e2:(dM f0 u0 f1 u1)[k]=mbF f1 u1 (mbF f0 u0 146097)+k:=ybx hk
 have hm:=ybw.1 (List.mem_of_getElem? h)
 omega
theorem yiJ {x fm g:Nat} {pw:Bool→Bool→Bool} {la lb:List Cl} {ra rb:RN} {f0 u0 f1 u1:Int} {Fa Fb:Blk} {wa wb:Nat→Bool} {ma mb:Nat} {W:World} (IA IB:Nat→Nat→(Nat→Bool)→Nat→Prop)
  (sA:∀k j n ws m ws' m',(dM f0 u0 f1 u1)[k]? =some n→IA k j ws m→ybn la n ws m ws' m'→IA (k+1) (j+1) ws' m') (sB:∀k j n ws m ws' m',(dM f0 u0 f1 u1)[k]? =some n→IB k j ws m→ybn lb n ws m ws' m'→IB (k+1) (j+1) ws' m')
  (nA:∀k j ws m,IA k j ws m→IA (k+1) j ws m) (nB:∀k j ws m,IB k j ws m→IB (k+1) j ws m)
  (bA:∀k j ws m,IA k j ws m→j≤146097→m < 4611686018427387904) (bB:∀k j ws m,IB k j ws m→j≤146097→m < 4611686018427387904)
  (hg:∀args w,(callFunc g args).run Tryz.prog w= .ok (.enter g args) w) (hF:FindC g pw) (h:AsS x fm (.func (.func g) #[] #[]) pw la lb ra rb f0 u0 f1 u1 Fa Fb wa wb ma mb 0 W) (iA:IA 0 0 wa ma) (iB:IB 0 0 wb mb) :
  Calls Tryz.prog 109 #[.pointer (some ⟨x,0,none⟩)] W fun e W'=>∃t ok Fa' Fb' wa' wb' ma' mb' j k,e= .returned (.tuple #[.int .i64 t, .bool ok])∧FirstD pw la lb f0 u0 f1 u1 (dM f0 u0 f1 u1) t ok j∧
   AsS x fm (.func (.func g) #[] #[]) pw la lb ra rb f0 u0 f1 u1 Fa' Fb' wa' wb' ma' mb' (j:Nat) W'∧Eff (fun b=>b=x∨b=fm∨ra.M b∨rb.M b) W W'∧GrF Fa Fa' W∧GrF Fb Fb' W∧IA k j wa' ma'∧IB k j wb' mb'∧k≤(dM f0 u0 f1 u1).length:=by
 obtain ⟨W1,hW1⟩:∃W1,((W.alloc (.cells #[.pointer (some ⟨x,0,none⟩)] 166)).alloc (.cells #[.int .i64 0] 2)).alloc (.cells #[.bool false] 4)=W1:=⟨_,rfl⟩
 have hB1:Below W.heap.size W W1:=by rw [←hW1]; exact yaa (yaa (yaa (Below.refl _ _) (zG _)) (by simp)) (by simp only [zzN]; omega)
 have s1:W1.heap.size=W.heap.size+1+1+1:=by rw [←hW1]; simp
 have hlx:=h.hul.lt
 have hlf:=h.fine.lt
 have hOF:∀c,c=x∨c=fm∨Fa c∨Fb c→c < W.heap.size:=fun c hc=>by
  rcases hc with rfl | rfl | hc | hc
  ·exact hlx
  ·exact hlf
  ·exact h.two.a.x.lt c hc
  ·exact h.two.b.x.lt c hc
 have hA1:=h.below hB1
 have e0:Hid (∀b,b < 3→¬Fa (W.heap.size+b)∧¬Fb (W.heap.size+b)∧W.heap.size+b≠x∧W.heap.size+b≠fm):=fun b _=>
  ⟨fun h1=>by have:=hOF _ (.inr (.inr (.inl h1))); omega,fun h1=>by have:=hOF _ (.inr (.inr (.inr h1))); omega,by omega,by omega⟩
 have hC1:FiS x fm (.func (.func g) #[] #[]) pw la lb ra rb f0 u0 f1 u1 W.heap.size Fa Fb Fa Fb W 0 false 0 wa wb ma mb (fun b=>b=W.heap.size∨b=W.heap.size+1∨b=W.heap.size+1+1∨b=x∨b=fm∨Fa b∨Fb b) W1:=by
  refine ⟨hA1,GrF.refl _ _,GrF.refl _ _,fun b=>Iff.rfl,?_,?_,?_,?_,?_,by omega,e0.out,fun b hb _ _=>hB1.block b (hOF b (.inr (.inr hb))),hB1.size⟩ <;> (rw [←hW1]; simp [go_sem])
 have cB:=hid (yiK x f0 u0 f1 u1 W1 hA1.hul)
 have b1:=yfL f0 u0 146097 (-1) (by omega) (by omega)
 have b2:=yfL f1 u1 (mbF f0 u0 146097) (mbU f0 u0 (-1)) ⟨b1.1,b1.2.1⟩ ⟨b1.2.2.1,b1.2.2.2⟩
 have hDL:=dM_len f0 u0 f1 u1
 have hDM:Hid (∀(k:Nat) (n:Int),(dM f0 u0 f1 u1)[k]? =some n→0≤n∧n < 146097∧(k:Int)≤n):=fun k n h=>yfg h
 rw [dM] at hDL hDM sA sB⊢
 obtain ⟨F,hF1⟩:∃X,mbF f1 u1 (mbF f0 u0 146097)=X:=⟨_,rfl⟩
 obtain ⟨U,hU1⟩:∃X,mbU f1 u1 (mbU f0 u0 (-1))=X:=⟨_,rfl⟩
 rw [hF1,hU1] at cB b2 hDL hDM sA sB⊢
 have HB1:=hid hB1
 have HW1:=hid hW1
 have S1:=hid s1
 have HC1:=hid hC1
 have HA:=hid h
 have HOF:=hid hOF
 have HDL:=hid hDL
 have HBR:=hid b2
 have HSA:=hid sA
 have HSB:=hid sB
 have HNA:=hid nA
 have HNB:=hid nB
 have HBA:=hid bA
 have HBB:=hid bB
 have HFC:=hid hF
 have HIA:=hid iA
 have HIB:=hid iB
 have cx:=hC1.cx
 clear hW1 hB1 s1 hlx hlf hOF hA1 hC1 b1 b2 hF1 hU1 h sA sB nA nB bA bB hF iA iB hDL
 refine (wf_calls (r:=none) (n:=1)).mp ?_
 refine callsIn_of_wp_marks Tryz.func109 rfl trivial ?_ rfl
 simp only [Tryz.ntmps109,List.size_toArray,List.length_cons,List.length_nil,Nat.reduceAdd,Nat.reduceSub,Array.replicate_succ,Array.replicate_zero,List.push_toArray,List.append_toArray,List.nil_append,List.cons_append]
 gi_wp2_with fail
 refine ycY ?_
 rw [HW1.out]
 gi_wp2_with fail
 refine (wf_calls.mpr cB.out).mono ?_
 rintro e w2 ⟨rfl,hB2⟩
 have HB02:=hid (HB1.out.trans (hB2.mono HB1.out.size))
 have HC2:=hid (HC1.out.keep hB2.size (fun b hb=>hB2.block b (HC1.out.lt b hb)))
 clear hB2 cB cx
 gi_wp2_with fail
 refine wpIn_label ?_
 gi_wp2_with fail
 refine (wf_calls.mpr (yhE _ _ _)).mono ?_
 rintro e w3 ⟨rfl,hk1,hk2,hB3,hs3⟩
 have hk1':w3.cell? ⟨w2.heap.size,0,none⟩=some (.int .i64 F):=by have:=HBR.out; rw [hk1,show max F 0=F by omega]
 have hk2':w3.cell? ⟨w2.heap.size+1,0,none⟩=some (.int .i64 U):=by have:=HBR.out; rw [hk2,show min U 146096=U by omega]
 have HB03:=hid (HB02.out.trans (hB3.mono HB02.out.size))
 have HC3:=hid (HC2.out.keep hB3.size (fun b hb=>hB3.block b (HC2.out.lt b hb)))
 have hn3:∀i,¬(fun b=>b=W.heap.size∨b=W.heap.size+1∨b=W.heap.size+1+1∨b=x∨b=fm∨Fa b∨Fb b) (w2.heap.size+i):=fun i hb=>by have:=HC2.out.lt _ hb; omega
 have tl:=hid (yfD F U w2.heap.size (w2.heap.size+1) (fun b=>b=W.heap.size∨b=W.heap.size+1∨b=W.heap.size+1+1∨b=x∨b=fm∨Fa b∨Fb b) w3 HBR.out.1 HBR.out.2.1 HBR.out.2.2.2 HBR.out.2.2.1 (by omega) hs3 (hn3 0) (hn3 1) hk1' hk2')
 clear hk1 hk2 hk1' hk2' hB3 hs3 hn3
 gi_wp2_with fail
 refine yeq (gf:=153) (lb:=#[.pointer (some ⟨w2.heap.size,0,none⟩), .pointer (some ⟨w2.heap.size+1,0,none⟩)]) rfl yeL (ybP (yai F U)) (fun b=>b=W.heap.size∨b=W.heap.size+1∨b=W.heap.size+1+1∨b=x∨b=fm∨Fa b∨Fb b) (fun x hx=>by simp only [ybP,List.mem_map] at hx; obtain ⟨_,_,rfl⟩:=hx; rfl) tl.out
  (FiI x fm (.func (.func g) #[] #[]) pw la lb ra rb f0 u0 f1 u1 W.heap.size Fa Fb W IA IB (yai F U)) (FiX x fm (.func (.func g) #[] #[]) pw la lb ra rb f0 u0 f1 u1 W.heap.size Fa Fb W IA IB (yai F U))
  ygw fiX_stab fiI_lt fiX_lt ⟨Fa,Fb,wa,wb,ma,mb,0,HC3.out,HIA.out,HIB.out,zG _,fun i n hi=>by omega⟩
  (fun k O a' W'=>FiI x fm (.func (.func g) #[] #[]) pw la lb ra rb f0 u0 f1 u1 W.heap.size Fa Fb W IA IB (yai F U) k O W'∧∃bx n,(yai F U)[k]? =some n∧bx < W'.heap.size∧¬O bx∧ShS W' bx (shF n)∧FiT (.pointer (some ⟨W.heap.size,0,none⟩)) (.pointer (some ⟨W.heap.size+1,0,none⟩)) (.pointer (some ⟨W.heap.size+1+1,0,none⟩)) (.pointer (some ⟨bx,0,none⟩)) [] a')
  ?putl ?assign ?body ?done ?stop
 case putl=>
  rintro l' o k O2 a' W' hr hn ⟨h,bx,n,h1,h2,h3,h4,h5⟩
  exact ⟨ygw k O2 W' _ h (by rw [World.putObj_size]; exact zG _) (fun b hb=>World.putObj_heap_other (fun e=>hn (e ▸ hb))),bx,n,h1,by rw [World.putObj_size]; exact h2,h3,yh1 h4 hr,h5⟩
 case assign=>
  intro l' k O6 W6 K hk hI6 hG6 hK
  have hk2:k < (yai F U).length:=by rw [ybF] at hk; exact hk
  have hx:=yd4 hk
  obtain ⟨n,hn⟩:∃n,(yai F U)[k]=n:=⟨_,rfl⟩
  have Hn':Hid ((yai F U)[k]? =some n):=by show _ = _; rw [zzp hk2,hn]
  rw [hn,←yaK] at hx
  rw [hx]
  obtain ⟨s,hs⟩:∃s,shF n=s:=⟨_,rfl⟩
  rw [hs,shq]
  have Hs:=hid hs
  have HI6:=hid hI6
  clear hx hn hs hk2 hI6 hG6
  gi_wp2
  have hbel:=yaa (o:= .cells (yaV s).toArray 88) (Below.refl W6.heap.size W6) (zG _)
  have hlt:=fiI_lt k O6 W6 HI6.out
  exact hK _ O6 _ (Grow.of_below hbel) ⟨ygw k O6 W6 _ HI6.out hbel.size (fun b hb=>hbel.block b (hlt b hb)),W6.heap.size,n,Hn'.out,by simp,fun h=>by have:=hlt _ h; omega,by rw [Hs.out]; exact ybL W6 88 _ _ _ _ _ _ _ _ _ _,FiT.of⟩
 case done=>
  intro O9 w9 hG9 hI9 hD hnD
  rw [ybF] at hI9
  obtain ⟨Fa',Fb',wa',wb',ma',mb',j,hS,jA,jB,hj,hN⟩:=hI9
  obtain ⟨hS2,hE2⟩:=hS.set 0 false
  have ho1:∀b,O9 b→b≠w3.heap.size:=fun b hb e=>hnD (e ▸ hb)
  have c4:=hS.ct
  have c5:=hS.cf
  have f4:=hS.zt
  have f5:=hS.zf
  obtain ⟨wf,hwf⟩:∃wf,(w9.setCell ⟨W.heap.size+1,0,none⟩ (.int .i64 0)).setCell ⟨W.heap.size+1+1,0,none⟩ (.bool false)=wf:=⟨_,rfl⟩
  rw [hwf] at hS2 hE2
  have hDf:wf.heap[w3.heap.size]? =some (.deferred (some [])):=by
   rw [←hwf,Below.heap_setCell _ _ _ _ (fun e=>hnD (by rw [e]; exact (hS.own _).2 (.inr (.inr (.inl rfl))))),Below.heap_setCell _ _ _ _ (fun e=>hnD (by rw [e]; exact (hS.own _).2 (.inr (.inl rfl))))]
   exact hD
  have hS3:=hS2.keep (W':=wf.putObj w3.heap.size (.deferred none)) (by rw [World.putObj_size]; exact zG _) (fun b hb=>World.putObj_heap_other (ho1 b hb))
  have hEf:Eff (fun b=>b=W.heap.size∨b=W.heap.size+1∨b=W.heap.size+1+1∨b=x∨b=fm∨Fa b∨Fb b) W (wf.putObj w3.heap.size (.deferred none)):=by
   refine Eff.putObj (((Eff.of_below HB03.out).trans hG9.eff (fun _ h=> .inl h)).trans hE2 (fun b hb=>?_)) (.inr HB03.out.size) _
   exact (hG9.new b hb).imp id (fun h=>zI HB03.out.size h)
  have HS3:=hid hS3
  have HEf:=hid (hS3.eff hEf)
  have HDf:=hid hDf
  have HJ:=hid (And.intro jA (And.intro jB (And.intro hj hN)))
  have Hwf:=hid hwf
  clear hG9 hD hnD hS hS2 hE2 ho1 hwf hDf hS3 hEf jA jB hj hN
  gi_wp2
  rw [Hwf.out]
  refine ⟨by simp, .inl ⟨_,_,rfl,run_takeDeferred HDf.out,?_⟩⟩
  have d4:=HS3.out.ct
  have d5:=HS3.out.cf
  refine ⟨.tuple #[.int .i64 0, .bool false],?_,0,false,Fa',Fb',wa',wb',ma',mb',j,(yai F U).length,rfl, .inr ⟨rfl,rfl,HJ.out.2.2.1,HJ.out.2.2.2⟩,HS3.out.ask,HEf.out,HS3.out.ga,HS3.out.gb,HJ.out.1,HJ.out.2.1,zG _⟩
  simp [results,Tryz.results109,go_sem,d4,d5]
 case stop=>
  rintro c k O9 w9 hk1 hk2 hG9 ⟨rfl,Fa',Fb',wa',wb',ma',mb',j,t,hS,jA,jB,hj,hfd⟩ hD hnD
  have hk3:k≤(yai F U).length:=by rw [ybF] at hk2; exact hk2
  have ho1:∀b,O9 b→b≠w3.heap.size:=fun b hb e=>hnD (e ▸ hb)
  have hS3:=hS.keep (W':=w9.putObj w3.heap.size (.deferred none)) (by rw [World.putObj_size]; exact zG _) (fun b hb=>World.putObj_heap_other (ho1 b hb))
  have hEf:Eff (fun b=>b=W.heap.size∨b=W.heap.size+1∨b=W.heap.size+1+1∨b=x∨b=fm∨Fa b∨Fb b) W (w9.putObj w3.heap.size (.deferred none)):=
   Eff.putObj ((Eff.of_below HB03.out).trans hG9.eff (fun _ h=> .inl h)) (.inr HB03.out.size) _
  have HS3:=hid hS3
  have HEf:=hid (hS3.eff hEf)
  have HDf:=hid hD
  have HJ:=hid (And.intro jA (And.intro jB (And.intro hj (And.intro hk3 hfd))))
  clear hG9 hD hnD hS ho1 hS3 hEf jA jB hj hfd hk1 hk2 hk3
  gi_wp2
  refine ⟨by simp, .inl ⟨_,_,rfl,run_takeDeferred HDf.out,?_⟩⟩
  have d4:=HS3.out.ct
  have d5:=HS3.out.cf
  refine ⟨.tuple #[.int .i64 t, .bool true],?_,t,true,Fa',Fb',wa',wb',ma',mb',j,k,rfl, .inl ⟨rfl,k,HJ.out.2.2.2.1,HJ.out.2.2.1,HJ.out.2.2.2.2⟩,HS3.out.ask,HEf.out,HS3.out.ga,HS3.out.gb,HJ.out.1,HJ.out.2.1,HJ.out.2.2.2.1⟩
  simp [results,Tryz.results109,go_sem,d4,d5]
 case body=>
  rintro l3 k O6 a' W6 hk hG6 hl3 hrec6 hnl3 ⟨⟨Fa',Fb',wa',wb',ma',mb',j,hS6,jA,jB,hj,hN⟩,bx,n,en,lx,nx,hsh,V,rfl⟩
  have hn:=hDM.out k n en
  have hkL:k < (yai F U).length:=(zzq.1 en).1
  have hL:=HDL.out
  have j0:(0:Int)≤(j:Int):=by omega
  have j1:(j:Int) < 146098:=by omega
  have hwj:IntKind.i64.wrap ((j:Int)+1)= (j:Int)+1:=IntWalk.i64_in _ (by omega)
  have cW0:=hid (fun W=>yfo f0 u0 n W hn.1 hn.2.1)
  have cW1:=hid (fun W=>yfo f1 u1 n W hn.1 hn.2.1)
  have En:=hid en
  have Hn:=hid hn
  have HJ:=hid (And.intro jA (And.intro jB (And.intro hj hN)))
  have HjL:Hid (j+1≤146097):=by show _≤_; omega
  have HS6:=hid hS6
  have Hnx:=hid nx
  have Hlx:=hid lx
  have Hsh:=hid hsh
  obtain ⟨s,hs⟩:∃s,shF n=s:=⟨_,rfl⟩
  have hs0:s 0=n:=by rw [←hs]; rfl
  rw [hs] at hsh
  obtain ⟨sh0,-⟩:=hsh
  rw [hs0] at sh0
  have k0:=hS6.cx
  have k5:=hS6.ask.hul.c5
  have k6:=hS6.ask.hul.c6
  have k7:=hS6.ask.hul.c7
  have k8:=hS6.ask.hul.c8
  have lc:=hS6.lc
  have lxx:=hS6.ask.hul.lt
  have cD:=hid (fun (W':World) (Fa Fb:Blk) (wa wb:Nat→Bool) (ma mb:Nat) (days:Int) (hma:ma < 4611686018427387904) (hmb:mb < 4611686018427387904) (hA:AsS x fm (.func (.func g) #[] #[]) pw la lb ra rb f0 u0 f1 u1 Fa Fb wa wb ma mb days W')=>MDay_any n hn.1 hn.2.1 hma hmb hg HFC.out hA)
  rw [←yaK,hs,shq] at cD
  have Hs:=hid hs
  have hwn:IntKind.i64.wrap (n * 86400)=n * 86400:=IntWalk.i64_in _ (by omega)
  clear hk hG6 en hn hkL hL jA jB hj hN hS6 nx hs hs0 lx
  obtain ⟨X0,hX0⟩:∃X,inD f0 u0 n=X:=⟨_,rfl⟩
  obtain ⟨X1,hX1⟩:∃X,inD f1 u1 n=X:=⟨_,rfl⟩
  rw [hX0] at cW0
  rw [hX1] at cW1
  have HX0:=hid hX0
  have HX1:=hid hX1
  clear hX0 hX1
  cases X0
  ·gi_wp2_with fail
   refine (wf_calls.mpr (cW0.out _)).mono ?_
   rintro e w7 ⟨rfl,hB7⟩
   have HB7:=hid hB7
   have lc7:=zH lc hB7.size
   have lx7:=zH lxx hB7.size
   replace k0:=(hB7.cell (p:=⟨W.heap.size,0,none⟩) (by simp only []; omega)).trans k0
   replace k7:=(hB7.cell (p:=⟨x,7,none⟩) lxx).trans k7
   replace k8:=(hB7.cell (p:=⟨x,8,none⟩) lxx).trans k8
   clear hB7 cW0 k5 k6 sh0 lc lxx
   cases X1
   ·gi_wp2_with fail
    refine (wf_calls.mpr (cW1.out _)).mono ?_
    rintro e w8 ⟨rfl,hB8⟩
    have HB8:=hid (HB7.out.trans (hB8.mono HB7.out.size))
    clear hB8 cW1 k0 k7 k8 lc7 lx7
    gi_wp2
    have hlt:=HS6.out.lt
    exact ⟨O6,Grow.of_below HB8.out,Fa',Fb',wa',wb',ma',mb',j,HS6.out.keep HB8.out.size (fun b hb=>HB8.out.block b (hlt b hb)),HNA.out _ _ _ _ HJ.out.1,HNB.out _ _ _ _ HJ.out.2.1,by have:=HJ.out.2.2.1; omega,HJ.out.2.2.2.skip En.out (fun hd=>by rw [HX0.out,HX1.out] at hd; cases hd)⟩
   ·gi_wp2_with fail
    refine (wf_calls.mpr (cW1.out _)).mono ?_
    rintro e w8 ⟨rfl,hB8⟩
    have HB8:=hid (HB7.out.trans (hB8.mono HB7.out.size))
    clear hB8 cW1 k0 k7 k8 lc7 lx7
    have hlt:=HS6.out.lt
    have HS8:=hid (HS6.out.keep HB8.out.size (fun b hb=>HB8.out.block b (hlt b hb)))
    have Hsh8:=hid (ycv Hsh.out (HB8.out.block bx Hlx.out))
    have kx:=HS8.out.cx
    have k4:=HS8.out.ask.c4
    have z4:=HS8.out.ask.z4
    clear hlt
    gi_upto_region 7 with fail
    obtain ⟨w9,hw9⟩:∃w9,w8.setCell ⟨x,4,none⟩ (.int .i64 ((j:Int)+1))=w9:=⟨_,rfl⟩
    have hS9:=HS8.out.more
    have hE9:Eff O6 W6 w9:=by rw [←hw9]; exact (Eff.of_below HB8.out).set ((HS6.out.own x).2 (.inr (.inr (.inr (.inl rfl))))) _ _
    have hsh9:ShS w9 bx (shF n):=by rw [←hw9]; exact ycv Hsh8.out (Below.heap_setCell _ _ _ _ (fun e=>Hnx.out ((HS6.out.own bx).2 (.inr (.inr (.inr (.inl e)))))))
    rw [hw9] at hS9⊢
    have HS9:=hid hS9
    have HE9:=hid hE9
    have cD2:=hid (cD.out w9 Fa' Fb' wa' wb' ma' mb' _ (HBA.out _ _ _ _ HJ.out.1 (by have:=HjL.out; omega)) (HBB.out _ _ _ _ HJ.out.2.1 (by have:=HjL.out; omega)) hS9.ask)
    have kx9:=hS9.cx
    rw [Hs.out] at hsh9
    obtain ⟨t0,t1,t2,t3,t4,t5,t6,t7,t8,t9⟩:=hsh9
    clear hw9 hE9 kx k4 z4 hS9 cD
    gi_wp2_with fail
    refine (wf_calls.mpr cD2.out).mono ?_
    rintro e w10 ⟨at',ok,F2,G2,wa2,wb2,ma2,mb2,rfl,hfi,hA10,hE10,hga,hgb,hsa,hsb⟩
    obtain ⟨hS10,hG10⟩:=HS9.out.day hA10 hE10 hga hgb
    have HS10:=hid hS10
    have HG10:=hid ((show Grow O6 O6 W6 w9 from ⟨fun _ h=>h,fun _ h=> .inl h,HE9.out⟩).trans hG10)
    have HFi:=hid hfi
    have HIs:=hid (And.intro (HSA.out _ _ _ _ _ _ _ En.out HJ.out.1 hsa) (HSB.out _ _ _ _ _ _ _ En.out HJ.out.2.1 hsb))
    clear hfi hA10 hE10 hga hgb hsa hsb hS10 hG10 t0 t1 t2 t3 t4 t5 t6 t7 t8 t9 kx9 cD2
    cases ok
    ·gi_wp2
     exact ⟨_,HG10.out,F2,G2,wa2,wb2,ma2,mb2,j+1,HS10.out,HIs.out.1,HIs.out.2,by have:=HJ.out.2.2.1; omega,HJ.out.2.2.2.skip En.out (fun _ s hs=>by
      rcases HFi.out with ⟨h,_⟩ | ⟨_,_,h⟩
      ·cases h
      ·exact h s hs)⟩
    ·obtain ⟨a0,a1⟩:0≤at'∧at' < 86400:=by
      rcases HFi.out with ⟨_,k',rfl,hk',_⟩ | ⟨h,_⟩
      ·omega
      ·cases h
     have hwt:IntKind.i64.wrap (n * 86400+at')=n * 86400+at':=IntWalk.i64_in _ (by have:=Hn.out; omega)
     have c4:=HS10.out.ct
     have c5:=HS10.out.cf
     have f4:=HS10.out.zt
     have f5:=HS10.out.zf
     clear a0 a1
     gi_wp2
     obtain ⟨hS11,hE11⟩:=HS10.out.set (n * 86400+at') true
     exact ⟨_,HG10.out.trans ⟨fun _ h=>h,fun _ h=> .inl h,hE11⟩,rfl,F2,G2,wa2,wb2,ma2,mb2,j+1,n * 86400+at',hS11,HIs.out.1,HIs.out.2,by have:=HJ.out.2.2.1; omega,k,n,at',rfl,En.out,rfl,HFi.out,HJ.out.2.2.2⟩
  ·gi_wp2_with fail
   refine (wf_calls.mpr (cW0.out _)).mono ?_
   rintro e w8 ⟨rfl,hB8⟩
   have HB8:=hid hB8
   clear hB8 cW0 cW1 k0 k5 k6 k7 k8 lc lxx sh0
   have hlt:=HS6.out.lt
   have HS8:=hid (HS6.out.keep HB8.out.size (fun b hb=>HB8.out.block b (hlt b hb)))
   have Hsh8:=hid (ycv Hsh.out (HB8.out.block bx Hlx.out))
   have kx:=HS8.out.cx
   have k4:=HS8.out.ask.c4
   have z4:=HS8.out.ask.z4
   clear hlt
   gi_upto_region 7 with fail
   obtain ⟨w9,hw9⟩:∃w9,w8.setCell ⟨x,4,none⟩ (.int .i64 ((j:Int)+1))=w9:=⟨_,rfl⟩
   have hS9:=HS8.out.more
   have hE9:Eff O6 W6 w9:=by rw [←hw9]; exact (Eff.of_below HB8.out).set ((HS6.out.own x).2 (.inr (.inr (.inr (.inl rfl))))) _ _
   have hsh9:ShS w9 bx (shF n):=by rw [←hw9]; exact ycv Hsh8.out (Below.heap_setCell _ _ _ _ (fun e=>Hnx.out ((HS6.out.own bx).2 (.inr (.inr (.inr (.inl e)))))))
   rw [hw9] at hS9⊢
   have HS9:=hid hS9
   have HE9:=hid hE9
   have cD2:=hid (cD.out w9 Fa' Fb' wa' wb' ma' mb' _ (HBA.out _ _ _ _ HJ.out.1 (by have:=HjL.out; omega)) (HBB.out _ _ _ _ HJ.out.2.1 (by have:=HjL.out; omega)) hS9.ask)
   have kx9:=hS9.cx
   rw [Hs.out] at hsh9
   obtain ⟨t0,t1,t2,t3,t4,t5,t6,t7,t8,t9⟩:=hsh9
   clear hw9 hE9 kx k4 z4 hS9 cD
   gi_wp2_with fail
   refine (wf_calls.mpr cD2.out).mono ?_
   rintro e w10 ⟨at',ok,F2,G2,wa2,wb2,ma2,mb2,rfl,hfi,hA10,hE10,hga,hgb,hsa,hsb⟩
   obtain ⟨hS10,hG10⟩:=HS9.out.day hA10 hE10 hga hgb
   have HS10:=hid hS10
   have HG10:=hid ((show Grow O6 O6 W6 w9 from ⟨fun _ h=>h,fun _ h=> .inl h,HE9.out⟩).trans hG10)
   have HFi:=hid hfi
   have HIs:=hid (And.intro (HSA.out _ _ _ _ _ _ _ En.out HJ.out.1 hsa) (HSB.out _ _ _ _ _ _ _ En.out HJ.out.2.1 hsb))
   clear hfi hA10 hE10 hga hgb hsa hsb hS10 hG10 t0 t1 t2 t3 t4 t5 t6 t7 t8 t9 kx9 cD2
   cases ok
   ·gi_wp2
    exact ⟨_,HG10.out,F2,G2,wa2,wb2,ma2,mb2,j+1,HS10.out,HIs.out.1,HIs.out.2,by have:=HJ.out.2.2.1; omega,HJ.out.2.2.2.skip En.out (fun _ s hs=>by
     rcases HFi.out with ⟨h,_⟩ | ⟨_,_,h⟩
     ·cases h
     ·exact h s hs)⟩
   ·obtain ⟨a0,a1⟩:0≤at'∧at' < 86400:=by
     rcases HFi.out with ⟨_,k',rfl,hk',_⟩ | ⟨h,_⟩
     ·omega
     ·cases h
    have hwt:IntKind.i64.wrap (n * 86400+at')=n * 86400+at':=IntWalk.i64_in _ (by have:=Hn.out; omega)
    have c4:=HS10.out.ct
    have c5:=HS10.out.cf
    have f4:=HS10.out.zt
    have f5:=HS10.out.zf
    clear a0 a1
    gi_wp2
    obtain ⟨hS11,hE11⟩:=HS10.out.set (n * 86400+at') true
    exact ⟨_,HG10.out.trans ⟨fun _ h=>h,fun _ h=> .inl h,hE11⟩,rfl,F2,G2,wa2,wb2,ma2,mb2,j+1,n * 86400+at',hS11,HIs.out.1,HIs.out.2,by have:=HJ.out.2.2.1; omega,k,n,at',rfl,En.out,rfl,HFi.out,HJ.out.2.2.2⟩
theorem ykV {x fm g:Nat} {pw:Bool→Bool→Bool} {la lb:List Cl} {ra rb:RN} {f0 u0 f1 u1:Int} {Fa Fb:Blk} {wa wb:Nat→Bool} {ma mb:Nat} {W:World} (IA IB:Nat→(Nat→Bool)→Nat→Prop)
  (sA:∀j n ws m ws' m',0≤n→n < 146097→IA j ws m→ybn la n ws m ws' m'→IA (j+1) ws' m') (sB:∀j n ws m ws' m',0≤n→n < 146097→IB j ws m→ybn lb n ws m ws' m'→IB (j+1) ws' m')
  (bA:∀j ws m,IA j ws m→j≤146097→m < 4611686018427387904) (bB:∀j ws m,IB j ws m→j≤146097→m < 4611686018427387904)
  (hg:∀args w,(callFunc g args).run Tryz.prog w= .ok (.enter g args) w) (hF:FindC g pw) (h:AsS x fm (.func (.func g) #[] #[]) pw la lb ra rb f0 u0 f1 u1 Fa Fb wa wb ma mb 0 W) (iA:IA 0 wa ma) (iB:IB 0 wb mb) :
  Calls Tryz.prog 109 #[.pointer (some ⟨x,0,none⟩)] W fun e W'=>∃t ok Fa' Fb' wa' wb' ma' mb' j,e= .returned (.tuple #[.int .i64 t, .bool ok])∧FirstD pw la lb f0 u0 f1 u1 (dM f0 u0 f1 u1) t ok j∧
   AsS x fm (.func (.func g) #[] #[]) pw la lb ra rb f0 u0 f1 u1 Fa' Fb' wa' wb' ma' mb' (j:Nat) W'∧Eff (fun b=>b=x∨b=fm∨ra.M b∨rb.M b) W W'∧GrF Fa Fa' W∧GrF Fb Fb' W∧IA j wa' ma'∧IB j wb' mb':=
 (yiJ (fun _=>IA) (fun _=>IB) (fun k j n ws m ws' m' h=>sA j n ws m ws' m' (yfg h).1 (yfg h).2.1) (fun k j n ws m ws' m' h=>sB j n ws m ws' m' (yfg h).1 (yfg h).2.1) (fun _ _ _ _ h=>h) (fun _ _ _ _ h=>h) (fun _=>bA) (fun _=>bB) hg hF h iA iB).mono
   fun e W' ⟨t,ok,Fa',Fb',wa',wb',ma',mb',j,k,h1,h2,h3,h4,h5,h6,h7,h8,_⟩=>⟨t,ok,Fa',Fb',wa',wb',ma',mb',j,h1,h2,h3,h4,h5,h6,h7,h8⟩
end
section
open Go.RowKit Go.Maps
structure XB (x:Nat) (v:Nat→Value) (W:World):Prop where
 c:∀i,i < 9→W.cell? ⟨x,i,none⟩=some (v i)
 z:∀i,W.frozen? ⟨x,i,none⟩=false
 lt:x < W.heap.size
theorem XB.block {x:Nat} {v:Nat→Value} {W W':World} (h:XB x v W) (hs:W.heap.size≤W'.heap.size) (hb:W'.heap[x]? =W.heap[x]?):XB x v W':=
 ⟨fun i hi=>(zzJ (w:=W) (a:=⟨x,i,none⟩) hb).trans (h.c i hi),fun i=>(zzM (w:=W) (a:=⟨x,i,none⟩) hb).trans (h.z i),zH h.lt hs⟩
theorem XB.set {x:Nat} {v:Nat→Value} {W:World} (h:XB x v W) (k:Nat) (hk:k < 9) (u:Value):XB x (fun i=>if i=k then u else v i) (W.setCell ⟨x,k,none⟩ u):=
 ⟨fun i hi=>by
  by_cases e:i=k
  ·subst e; have:=h.c i hi; simp [go_sem,this]
  ·rw [zzL _ _ _ _ (fun e2=>by injection e2 with _ e3; exact e e3.symm),h.c i hi,if_neg e],fun i=>by simpa [go_sem] using h.z i,by simpa using h.lt⟩
def askV (pa pb:Value) (fv:Value) (fm:Nat) (f0 u0 f1 u1:Int) (i:Nat):Value:=#[pa,pb,fv, .map (some fm), .int .i64 0, .int .i64 f0, .int .i64 u0, .int .i64 f1, .int .i64 u1].getD i undef
def hF (l:List Cl):Int:=yaq (ybg l) (ybf l)
def hU (l:List Cl):Int:=yap (ybg l) (ybf l)
attribute [local go_sem] run_makeMap
def BegR (W:World) (fv:Value) (pw:Bool→Bool→Bool) (la lb:List Cl) (e:Ending) (W':World):Prop:=
 (yaj la≠0∧e= .returned (.tuple #[.pointer none, .int .i64 (yaj la)]))∨
 (yaj la=0∧yaj lb≠0∧e= .returned (.tuple #[.pointer none, .int .i64 (yaj lb)]))∨
 (yaj la=0∧yaj lb=0∧∃x fm ra rb Fa Fb,e= .returned (.tuple #[.pointer (some ⟨x,0,none⟩), .int .i64 0])∧AsS x fm fv pw la lb ra rb (hF la) (hU la) (hF lb) (hU lb) Fa Fb (fun _=>false) (fun _=>false) 0 0 0 W'∧W.heap.size≤x∧W.heap.size≤fm∧(∀b,ra.M b∨rb.M b→W.heap.size≤b))
theorem ykW (a:Option Addr) (cap:Nat) (la:List Cl) (b:Option Addr) (capb:Nat) (lb:List Cl) (g:Nat) (pw:Bool→Bool→Bool) (W:World)
  (hl:la.length≤1000) (hlc:la.length≤cap) (hs:Sl W a (cls la)) (hno:a=none→cap=0) (hok:∀c∈la,c.Ok)
  (hlb:lb.length≤1000) (hlcb:lb.length≤capb) (hsb:Sl W b (cls lb)) (hnob:b=none→capb=0) (hokb:∀c∈lb,c.Ok) (hT:Tab W) :
  Calls Tryz.prog 108 #[.slice a la.length cap, .slice b lb.length capb, .func (.func g) #[] #[]] W fun e W'=>BegR W (.func (.func g) #[] #[]) pw la lb e W'∧Below W.heap.size W W':=by
 have cA:=hid (fun W1 (hB:Below W.heap.size W W1)=>ydV a cap la W1 (by omega) hlc (hs.below hB) hno hok (hT.later hB))
 have cB:=hid (fun W1 (hB:Below W.heap.size W W1)=>ydV b capb lb W1 (by omega) hlcb (hsb.below hB) hnob hokb (hT.later hB))
 have hA:=hid (fun W1 (hB:Below W.heap.size W W1)=>ygK a cap la W1 hl (hs.below hB))
 have hB:=hid (fun W1 (hB:Below W.heap.size W W1)=>ygK b capb lb W1 hlb (hsb.below hB))
 have HT:=hid hT
 have Ht0:Hid (0 < W.heap.size):=hT.1
 clear hl hlc hs hno hok hlb hlcb hsb hnob hokb hT
 obtain ⟨W1,hW1⟩:∃W1,(W.alloc (.map #[] 0)).alloc (.cells #[.pointer none, .pointer none, .func (.func g) #[] #[], .map (some W.heap.size), .int .i64 0, .int .i64 0, .int .i64 0, .int .i64 0, .int .i64 0] 173)=W1:=⟨_,rfl⟩
 have HB1:Hid (Below W.heap.size W W1):=by rw [←hW1]; exact yaa (yaa (Below.refl _ _) (zG _)) (by simp)
 have S1:Hid (W1.heap.size=W.heap.size+1+1):=by show _ = _; rw [←hW1]; simp
 have X1:Hid (XB (W.heap.size+1) (askV (.pointer none) (.pointer none) (.func (.func g) #[] #[]) W.heap.size 0 0 0 0) W1):=by
  refine ⟨fun i hi=>?_,fun i=>?_,by rw [S1.out]; omega⟩
  ·rw [←hW1]
   have h9:i=0∨i=1∨i=2∨i=3∨i=4∨i=5∨i=6∨i=7∨i=8:=by omega
   rcases h9 with rfl | rfl | rfl | rfl | rfl | rfl | rfl | rfl | rfl <;> simp [go_sem,askV]
  ·rw [←hW1]; simp [go_sem]
 have M1:Hid (W1.heap[W.heap.size]? =some (.map #[] 0)):=by
  show _ = _
  rw [←hW1,Below.heap_alloc _ _ _ (by simp)]; exact (MapKept.heap_alloc W _).1
 have HW1:=hid hW1
 clear hW1
 obtain ⟨ea,hea⟩:∃X,yaj la=X:=⟨_,rfl⟩
 obtain ⟨eb,heb⟩:∃X,yaj lb=X:=⟨_,rfl⟩
 have Hea:=hid hea
 have Heb:=hid heb
 go_enter Tryz.func108,Tryz.ntmps108
 go_upto_region 3 with fail
 rw [HW1.out]
 go_wp2_with fail
 refine (cA.out W1 HB1.out).mono ?_
 rintro e w2 ⟨hN,hB2⟩
 have HB2:=hid hB2
 have HB02:=hid (HB1.out.trans (hB2.mono HB1.out.size))
 have X2:=hid (X1.out.block hB2.size (hB2.block _ X1.out.lt))
 have M2:Hid (w2.heap[W.heap.size]? =some (.map #[] 0)):=(hB2.block _ (by have:=S1.out; omega)).trans M1.out
 have x0:=X2.out.c 0 (by omega)
 have z0:=X2.out.z 0
 rw [show askV (.pointer none) (.pointer none) (.func (.func g) #[] #[]) W.heap.size 0 0 0 0 0= .pointer none from rfl] at x0
 rw [NewR,hea] at hN
 rcases hN with ⟨hf,rfl⟩ | ⟨hf,br,bk,bps,rfl,hR,hM⟩
 ·have hR:Hid (BegR W (.func (.func g) #[] #[]) pw la lb (.returned (.tuple #[.pointer none, .int .i64 ea])) (w2.setCell ⟨W.heap.size+1,0,none⟩ (.pointer none))):= .inl ⟨by rw [Hea.out]; exact hf,by rw [Hea.out]⟩
  have hX0:(ea == 0)=false:=by simpa using hf
  have hX1:(ea != 0)=true:=by simpa using hf
  have HBf:Hid (Below W.heap.size W (w2.setCell ⟨W.heap.size+1,0,none⟩ (.pointer none))):=yab HB02.out (by omega)
  clear hB2 cA cB hA hB hea heb hf
  go_wp2
  exact bodyPost_ret (v:= .tuple #[.pointer none, .int .i64 ea]) (by simp [results,Tryz.results108,go_sem]) rfl ⟨hR.out,HBf.out⟩
 ·have HR:=hid hR
  have HM:=hid hM
  subst hf
  clear hB2 hR hM cA hea heb
  go_upto_region 6 with fail
  obtain ⟨w3,hw3⟩:∃w3,w2.setCell ⟨W.heap.size+1,0,none⟩ (.pointer (some ⟨br,0,none⟩))=w3:=⟨_,rfl⟩
  have hX3:=X2.out.set 0 (by omega) (.pointer (some ⟨br,0,none⟩))
  have hb3:∀b,b≠W.heap.size+1→w3.heap[b]? =w2.heap[b]?:=fun b hn=>by rw [←hw3]; exact Below.heap_setCell _ _ _ _ hn
  have hs3:w3.heap.size=w2.heap.size:=by rw [←hw3]; simp
  have HB3:Hid (Below W.heap.size W w3):=by rw [←hw3]; exact yab HB02.out (by omega)
  rw [hw3] at hX3⊢
  have HF:Hid (∀b,FNew W1 w2 b→b≠W.heap.size+1∧b≠W.heap.size):=fun b hb=>by
   have:=S1.out; have:=Ht0.out
   rcases hb with hb | hb
   ·omega
   ·subst hb; omega
  have HR3:=hid (HR.out.keep (W':=w3) (by omega) (fun b hb=>hb3 b (HF.out b hb).1))
  have M3:Hid (w3.heap[W.heap.size]? =some (.map #[] 0)):=(hb3 _ (by omega)).trans M2.out
  have X3:=hid hX3
  have S3:=hid hs3
  clear hw3 hX3 hb3 hs3 x0 z0 HR
  go_wp2_with fail
  refine (cB.out w3 HB3.out).mono ?_
  rintro e w4 ⟨hN,hB4⟩
  have HB04:=hid (HB3.out.trans (hB4.mono HB3.out.size))
  have X4:=hid (X3.out.block hB4.size (hB4.block _ X3.out.lt))
  have M4:Hid (w4.heap[W.heap.size]? =some (.map #[] 0)):=(hB4.block _ (by have:=X3.out.lt; omega)).trans M3.out
  have HR4:=hid (HR3.out.keep (W':=w4) hB4.size (fun b hb=>hB4.block b (HR3.out.x.lt b hb)))
  have S4:Hid (w2.heap.size≤w4.heap.size):=by have:=S3.out; have:=hB4.size; show _≤_; omega
  have x1:=X4.out.c 1 (by omega)
  have z1:=X4.out.z 1
  rw [if_neg (by omega),show askV (.pointer none) (.pointer none) (.func (.func g) #[] #[]) W.heap.size 0 0 0 0 1= .pointer none from rfl] at x1
  rw [NewR,Heb.out] at hN
  rcases hN with ⟨hf,rfl⟩ | ⟨hf,br2,bk2,bps2,rfl,hR,hM⟩
  ·have hR:Hid (BegR W (.func (.func g) #[] #[]) pw la lb (.returned (.tuple #[.pointer none, .int .i64 eb])) (w4.setCell ⟨W.heap.size+1,1,none⟩ (.pointer none))):= .inr (.inl ⟨Hea.out,by rw [Heb.out]; exact hf,by rw [Heb.out]⟩)
   have hX0:(eb == 0)=false:=by simpa using hf
   have hX1:(eb != 0)=true:=by simpa using hf
   have HBf:Hid (Below W.heap.size W (w4.setCell ⟨W.heap.size+1,1,none⟩ (.pointer none))):=yab HB04.out (by omega)
   clear hB4 cB hA hB hf
   go_wp2
   exact bodyPost_ret (v:= .tuple #[.pointer none, .int .i64 eb]) (by simp [results,Tryz.results108,go_sem]) rfl ⟨hR.out,HBf.out⟩
  ·have HRb:=hid hR
   have HMb:=hid hM
   subst hf
   clear hB4 hR hM cB
   go_upto_region 9 with fail
   obtain ⟨w5,hw5⟩:∃w5,w4.setCell ⟨W.heap.size+1,1,none⟩ (.pointer (some ⟨br2,0,none⟩))=w5:=⟨_,rfl⟩
   have hX5:=X4.out.set 1 (by omega) (.pointer (some ⟨br2,0,none⟩))
   have hb5:∀b,b≠W.heap.size+1→w5.heap[b]? =w4.heap[b]?:=fun b hn=>by rw [←hw5]; exact Below.heap_setCell _ _ _ _ hn
   have hs5:w5.heap.size=w4.heap.size:=by rw [←hw5]; simp
   have HB5:Hid (Below W.heap.size W w5):=by rw [←hw5]; exact yab HB04.out (by omega)
   rw [hw5] at hX5⊢
   have HFb:Hid (∀b,FNew w3 w4 b→b≠W.heap.size+1∧b≠W.heap.size):=fun b hb=>by
    have:=X3.out.lt; have:=Ht0.out
    rcases hb with hb | hb
    ·omega
    ·subst hb; omega
   have hT5:Hid (TwoR w5 la lb ⟨br,bk,bps⟩ ⟨br2,bk2,bps2⟩ (FNew W1 w2) (FNew w3 w4) (fun _=>false) (fun _=>false) 0 0):=by
    refine ⟨HR4.out.keep (by omega) (fun b hb=>hb5 b (HF.out b hb).1),HRb.out.keep (by omega) (fun b hb=>hb5 b (HFb.out b hb).1),fun c hc hm=>?_,fun c hc hm=>?_⟩
    ·have h1:=HR4.out.x.sub c hm
     have h2:=HM.out c hm
     have:=S1.out; have:=S3.out; have:=HR3.out.x.sub c hm
     rcases hc with hc | hc
     ·rcases h1 with h1 | h1
      ·omega
      ·subst h1; omega
     ·subst hc; omega
    ·have h2:=HMb.out c hm
     have:=S1.out; have:=S3.out; have:=HB02.out.size; have:=Ht0.out
     rcases hc with hc | hc
     ·omega
     ·subst hc; omega
   have M5:Hid (w5.heap[W.heap.size]? =some (.map #[] 0)):=(hb5 _ (by omega)).trans M4.out
   have X5:=hid hX5
   clear hw5 hX5 hb5 hs5 x1 z1 HRb HR4 HR3
   rw [show yaq (ybg la) (ybf la)=hF la from rfl,show yap (ybg la) (ybf la)=hU la from rfl] at hA
   rw [show yaq (ybg lb) (ybf lb)=hF lb from rfl,show yap (ybg lb) (ybf lb)=hU lb from rfl] at hB
   obtain ⟨f0,hf0⟩:∃X,hF la=X:=⟨_,rfl⟩
   obtain ⟨u0,hu0⟩:∃X,hU la=X:=⟨_,rfl⟩
   obtain ⟨f1,hf1⟩:∃X,hF lb=X:=⟨_,rfl⟩
   obtain ⟨u1,hu1⟩:∃X,hU lb=X:=⟨_,rfl⟩
   rw [hf0,hu0] at hA
   rw [hf1,hu1] at hB
   have Hf:=hid (And.intro hf0 (And.intro hu0 (And.intro hf1 hu1)))
   clear hf0 hu0 hf1 hu1
   go_wp2_with fail
   refine (hA.out _ HB5.out).mono ?_
   rintro e w6 ⟨rfl,hB6⟩
   have HB6:=hid hB6
   have HB06:=hid (HB5.out.trans (hB6.mono HB5.out.size))
   clear hB6 hA
   go_wp2_with fail
   refine (hB.out _ HB06.out).mono ?_
   rintro e w7 ⟨rfl,hB7⟩
   have HB57:=hid (HB6.out.trans (hB7.mono HB6.out.size))
   have HB07:=hid (HB5.out.trans (HB57.out.mono HB5.out.size))
   have X7:=hid (X5.out.block HB57.out.size (HB57.out.block _ X5.out.lt))
   have HT7:=hid (hT5.out.below HB57.out)
   have M7:Hid (w7.heap[W.heap.size]? =some (.map #[] 0)):=(HB57.out.block _ (by have:=X5.out.lt; omega)).trans M5.out
   have x5:=X7.out.c 5 (by omega)
   have x6:=X7.out.c 6 (by omega)
   have x7:=X7.out.c 7 (by omega)
   have x8:=X7.out.c 8 (by omega)
   have z5:=X7.out.z 5
   have z6:=X7.out.z 6
   have z7:=X7.out.z 7
   have z8:=X7.out.z 8
   simp only [if_neg (show¬(5:Nat)=1 by omega),if_neg (show¬(5:Nat)=0 by omega),if_neg (show¬(6:Nat)=1 by omega),if_neg (show¬(6:Nat)=0 by omega),if_neg (show¬(7:Nat)=1 by omega),if_neg (show¬(7:Nat)=0 by omega),if_neg (show¬(8:Nat)=1 by omega),if_neg (show¬(8:Nat)=0 by omega)] at x5 x6 x7 x8
   clear hB7 hB
   go_upto_region 10 with fail
   have hX8:=(((X7.out.set 5 (by omega) (.int .i64 f0)).set 6 (by omega) (.int .i64 u0)).set 7 (by omega) (.int .i64 f1)).set 8 (by omega) (.int .i64 u1)
   have HB8:Hid (Below W.heap.size W ((((w7.setCell ⟨W.heap.size+1,5,none⟩ (.int .i64 f0)).setCell ⟨W.heap.size+1,6,none⟩ (.int .i64 u0)).setCell ⟨W.heap.size+1,7,none⟩ (.int .i64 f1)).setCell ⟨W.heap.size+1,8,none⟩ (.int .i64 u1))):=
    yab (yab (yab (yab HB07.out (by omega)) (by omega)) (by omega)) (by omega)
   obtain ⟨w8,hw8⟩:∃w8,(((w7.setCell ⟨W.heap.size+1,5,none⟩ (.int .i64 f0)).setCell ⟨W.heap.size+1,6,none⟩ (.int .i64 u0)).setCell ⟨W.heap.size+1,7,none⟩ (.int .i64 f1)).setCell ⟨W.heap.size+1,8,none⟩ (.int .i64 u1)=w8:=⟨_,rfl⟩
   have hb8:∀b,b≠W.heap.size+1→w8.heap[b]? =w7.heap[b]?:=fun b hn=>by rw [←hw8]; exact (Below.heap_setCell _ _ _ _ hn).trans ((Below.heap_setCell _ _ _ _ hn).trans ((Below.heap_setCell _ _ _ _ hn).trans (Below.heap_setCell _ _ _ _ hn)))
   have hs8:w8.heap.size=w7.heap.size:=by rw [←hw8]; simp
   rw [hw8] at hX8 HB8⊢
   have hT8:=HT7.out.keep (W':=w8) (by omega) (fun c hc=>hb8 c (hc.elim (fun h=>(HF.out c h).1) (fun h=>(HFb.out c h).1)))
   have hM8:w8.heap[W.heap.size]? =some (.map #[] 0):=(hb8 _ (by omega)).trans M7.out
   have HR8:Hid (BegR W (.func (.func g) #[] #[]) pw la lb (.returned (.tuple #[.pointer (some ⟨W.heap.size+1,0,none⟩), .int .i64 0])) w8):=by
    refine .inr (.inr ⟨Hea.out,Heb.out,W.heap.size+1,W.heap.size,⟨br,bk,bps⟩,⟨br2,bk2,bps2⟩,FNew W1 w2,FNew w3 w4,rfl,?_,by omega,zG _,fun c hc=>?_⟩)
    ·obtain ⟨e1,e2,e3,e4⟩:=Hf.out
     rw [e1,e2,e3,e4]
     refine ⟨hT8,hX8.c 0 (by omega),hX8.c 1 (by omega),hX8.c 2 (by omega),hX8.c 3 (by omega),hX8.c 4 (by omega),hX8.z 4,⟨hX8.c 5 (by omega),hX8.c 6 (by omega),hX8.c 7 (by omega),hX8.c 8 (by omega),hX8.lt⟩,⟨#[],0,hM8,by simp,fun e he=>by simp at he⟩,⟨fun h=>(HF.out _ h).1 rfl,fun h=>(HFb.out _ h).1 rfl⟩,⟨fun h=>(HF.out _ h).2 rfl,fun h=>(HFb.out _ h).2 rfl⟩,by omega⟩
    ·have:=S1.out
     rcases hc with hc | hc
     ·have:=HM.out c hc; omega
     ·have:=HMb.out c hc; have:=HB3.out.size; omega
   clear x5 x6 x7 x8 z5 z6 z7 z8 hX8 hw8 hb8 hs8 hT8 hM8
   go_wp2
   exact bodyPost_ret (v:= .tuple #[.pointer (some ⟨W.heap.size+1,0,none⟩), .int .i64 0]) (by simp [results,Tryz.results108,go_sem]) rfl ⟨HR8.out,HB8.out⟩
end
section
open Go.RowKit Go.Maps
def LeastP (pw:Bool→Bool→Bool) (la lb:List Cl) (t:Int):Prop:=0≤t∧t < 12622780800∧pw (yav la t) (yav lb t)=true∧∀s,s < t→pw (yav la s) (yav lb s)=false
def NoneP (pw:Bool→Bool→Bool) (la lb:List Cl):Prop:=∀s,pw (yav la s) (yav lb s)=false
def verV (y:Bool) (t:Int) (f:Bool):Value:= .agg #[.bool y, .int .i64 t, .bool f]
def VerP (pw:Bool→Bool→Bool) (la lb:List Cl) (y:Bool) (t:Int) (f:Bool):Prop:=(NoneP pw la lb∧y=true∧t=0∧f=false)∨(LeastP pw la lb t∧y=false∧f=yav la t)
theorem yjn {l:List Cl} {n:Int} {k:Nat} (hk:k < 86400) (h:dayQ l n k=true):yat (hF l) (hU l)=true∧hF l / 86400≤n∧n≤hU l / 86400∧0≤hF l∧hU l≤12622780799∧inD (hF l) (hU l) n=true:=by
 obtain ⟨h1,h2,h3,h4,h5⟩:=hul_in hk h
 have hr:=ygp (f:=ybg l) (u:=ybf l) h1
 have e1:yaq (ybg l) (ybf l)=hF l:=rfl
 have e2:yap (ybg l) (ybf l)=hU l:=rfl
 rw [e1,e2] at hr
 rw [e1] at h2
 rw [e2] at h3
 refine ⟨?_,h2,h3,hr.1,hr.2.2,?_⟩
 ·rw [hF,hU,yhm]; exact h1
 ·rw [inD,zzY]
  omega
theorem mb_in {f u:Int} (h:yat f u=true) (h0:0≤f) (hu:u≤12622780799) (a b:Int):mbF f u a≤f / 86400∧u / 86400≤mbU f u b:=by
 rw [mbF,mbU,if_pos h,if_pos h]
 have e1:max f 0=f:=by omega
 have e2:min u 12622780799=u:=by omega
 rw [e1,e2]
 omega
theorem mb_le (f u a b:Int):mbF f u a≤a∧b≤mbU f u b:=by
 rw [mbF,mbU]
 split <;> omega
theorem in_days {la lb:List Cl} {n:Int} {k:Nat} (hk:k < 86400) (h:dayQ la n k=true∨dayQ lb n k=true) :
  (inD (hF la) (hU la) n || inD (hF lb) (hU lb) n)=true∧mbF (hF lb) (hU lb) (mbF (hF la) (hU la) 146097)≤n∧n≤mbU (hF lb) (hU lb) (mbU (hF la) (hU la) (-1)):=by
 have m2:=mb_le (hF lb) (hU lb) (mbF (hF la) (hU la) 146097) (mbU (hF la) (hU la) (-1))
 rcases h with h | h
 ·obtain ⟨g1,g2,g3,g4,g5,g6⟩:=yjn hk h
  have m1:=mb_in g1 g4 g5 146097 (-1)
  exact ⟨by rw [g6]; rfl,by omega,by omega⟩
 ·obtain ⟨g1,g2,g3,g4,g5,g6⟩:=yjn hk h
  have m1:=mb_in g1 g4 g5 (mbF (hF la) (hU la) 146097) (mbU (hF la) (hU la) (-1))
  exact ⟨by rw [g6]; simp,by omega,by omega⟩
theorem daysL_ix {a b n:Int} (h0:a≤n) (h1:n≤b):(yai a b)[(n - a).toNat]? =some n:=by
 have hk:(n - a).toNat < (yai a b).length:=by rw [yaO]; omega
 rw [zzp hk,ybx hk]
 congr 1
 omega
theorem yio {pw:Bool→Bool→Bool} {la lb:List Cl} {t:Int} {ok:Bool} {j:Nat} (hp:pw false false=false) (h:FirstD pw la lb (hF la) (hU la) (hF lb) (hU lb) (dM (hF la) (hU la) (hF lb) (hU lb)) t ok j) :
  ((ok=true∧LeastP pw la lb t∧(j:Int)≤t / 86400+1)∨(ok=false∧t=0∧NoneP pw la lb))∧j≤146097:=by
 have hl:=dM_len (hF la) (hU la) (hF lb) (hU lb)
 -- whatever is found lies on a day of the list
 have key:∀s:Int,pw (yav la s) (yav lb s)=true→∃i:Nat,∃n:Int,(dM (hF la) (hU la) (hF lb) (hU lb))[i]? =some n∧n=s / 86400∧(inD (hF la) (hU la) n || inD (hF lb) (hU lb) n)=true∧pw (dayQ la n (s % 86400).toNat) (dayQ lb n (s % 86400).toNat)=true∧(i:Int)=n - mbF (hF lb) (hU lb) (mbF (hF la) (hU la) 146097):=fun s hs=>by
  have e:86400 * (s / 86400)+(((s % 86400).toNat:Nat):Int)=s:=by omega
  have ea:dayQ la (s / 86400) (s % 86400).toNat=yav la s:=by rw [yby,e]
  have eb:dayQ lb (s / 86400) (s % 86400).toNat=yav lb s:=by rw [yby,e]
  have hor:dayQ la (s / 86400) (s % 86400).toNat=true∨dayQ lb (s / 86400) (s % 86400).toNat=true:=by
   rw [ea,eb]
   cases e1:yav la s
   ·cases e2:yav lb s
    ·rw [e1,e2,hp] at hs; cases hs
    ·exact .inr rfl
   ·exact .inl rfl
  obtain ⟨g1,g2,g3⟩:=in_days (by omega) hor
  exact ⟨_,_,daysL_ix g2 g3,rfl,g1,by rw [ea,eb]; exact hs,by omega⟩
 rcases h with ⟨rfl,k,hk,hj,i,n,at',rfl,hn,rfl,hfo,hno⟩ | ⟨rfl,rfl,hj,hno⟩
 ·refine ⟨.inl ⟨rfl,?_,?_⟩,by omega⟩
  ·obtain ⟨q1,q2,q3⟩:=yfg hn
   rcases hfo with ⟨-,k',rfl,hk',hp',hb'⟩ | ⟨h,_⟩
   ·have e1:n * 86400+(k':Int)=86400 * n+k':=by omega
    refine ⟨by omega,by omega,?_,fun s hs=>?_⟩
    ·rw [e1]; exact hp'
    ·cases e:pw (yav la s) (yav lb s)
     ·rfl
     ·obtain ⟨i',n',g1,g2,g3,g4,g5⟩:=key s e
      obtain ⟨hk1,he1⟩:=zzq.1 hn
      have e2:(dM (hF la) (hU la) (hF lb) (hU lb))[i]=mbF (hF lb) (hU lb) (mbF (hF la) (hU la) 146097)+i:=ybx hk1
      have hle:n'≤n:=by omega
      rcases Int.lt_or_eq_of_le hle with h1 | h1
      ·have:=hno i' n' (by omega) g1 g3 (s % 86400).toNat (by omega)
       rw [g4] at this; cases this
      ·have hx:pw (dayQ la n (s % 86400).toNat) (dayQ lb n (s % 86400).toNat)=false:=hb' (s % 86400).toNat (by omega)
       rw [h1] at g4
       rw [g4] at hx; cases hx
   ·cases h
  ·obtain ⟨q1,q2,q3⟩:=yfg hn
   rcases hfo with ⟨-,k',rfl,hk',-,-⟩ | ⟨h,_⟩
   ·omega
   ·cases h
 ·refine ⟨.inr ⟨rfl,rfl,fun s=>?_⟩,by omega⟩
  cases e:pw (yav la s) (yav lb s)
  ·rfl
  ·obtain ⟨i',n',g1,g2,g3,g4,g5⟩:=key s e
   have:=hno i' n' (zzq.1 g1).1 g1 g3 (s % 86400).toNat (by omega)
   rw [g4] at this; cases this
end
end Go.Proofs.YtjahgimnfliooaaGreatDoor
