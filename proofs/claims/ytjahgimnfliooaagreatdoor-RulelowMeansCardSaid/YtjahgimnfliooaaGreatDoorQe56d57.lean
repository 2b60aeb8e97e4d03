/-
  clause.Days.
  clause.Day.
  feriaref13.Full is clause.Full.
  ferialaw13.lives: the chapter's example.
  clause.Span, clause.Same, clause.Has.
  feriaref13.Day; what the document says of a clause and an instant.
  A clause with another From and Until; each instant of the window has Full.
  Discs: their words in a block; what the small functions of disc compute.
  What a disc's Put, and disc.Of, compute.
-/
import Derived.Test.YtjahgimnfliooaaGreatDoorQ3bc6b4
import Derived.Deep.RegionHeld3
import Derived.Test.YtjahgimnfliooaaGreatDoorQc74b0e
import Derived.Test.YtjahgimnfliooaaGreatDoorQ155bda
import Derived.Test.YtjahgimnfliooaaGreatDoorQe6aba9
import Derived.Test.YtjahgimnfliooaaGreatDoorQ4c06b4
set_option maxRecDepth 100000
set_option maxHeartbeats 25600000
namespace Go.Proofs.YtjahgimnfliooaaGreatDoor
set_option linter.unusedVariables false
section
open Go.RowKit
def ybi (v:Value):Sem Value:=Instr.loadAt 34 v
theorem yaC (v:Value):Instr.loadAt 34 v=ybi v:=rfl
theorem ClB.ld {W:World} {b:Nat} {c:Cl} (h:ClB W b c):(ybi (.pointer (some ⟨b,0,none⟩))).run Tryz.prog W= .ok (clv c) W:=
 run_loadAt_mid W b 0 34 (yac c) _ h Tryz.underlying34 rfl ydh
attribute [local go_sem ↓] yaC
theorem ydk (w:World) (a:Addr) (m:Mode) (fn:Fn) (first captured:Array Value):(store a (.func fn first captured) m).run Tryz.prog w=stored Tryz.prog w a (.func fn first captured) m:=run_store Tryz.prog w a _ m rfl
attribute [local go_sem] ydk
theorem ord_in {oin:Int} {oback:Bool} {od:Nat→Nat} (h:ordB oin oback od=true):oin=0∨oin=1∨oin=2:=by
 unfold ordB at h
 split at h
 ·omega
 ·split at h
  ·omega
  ·split at h
   ·omega
   ·cases h
theorem ycI {c:Cl} (h:mayC c=true):(c.oin=0∨c.oin=1∨c.oin=2)∧1≤c.step∧unB c.unit=true∧winB c.anchor=true:=by
 simp only [mayC,zzX,zzY] at h
 exact ⟨ord_in h.2.1,h.2.2.2.2.1,h.2.2.2.1,h.2.2.2.2.2⟩
theorem UDV.below {W W':World} {lo lo':Nat} {u s a:Int} {fv:Value} (h:UDV W lo u s a fv) (hb:Below W.heap.size W W') (hl:lo'≤lo):UDV W' lo' u s a fv:=by
 rcases h with h | h | ⟨h1,h2,h3,b3,b7,b4,h4,h5,h6,h7,h8⟩
 ·exact .inl h
 ·exact .inr (.inl h)
 ·exact .inr (.inr ⟨h1,h2,h3,b3,b7,b4,h4,h5.below hb,zI hl h6,zI hl h7,zI hl h8⟩)
def CDV (W:World) (lo:Nat) (c:Cl) (fv:Value):Prop:=
 (mayC c=false∧fv= .func (.func 135) #[] #[])∨
 (mayC c=true∧∃b1 b2 v,fv= .func (.func 137) #[] #[.pointer (some ⟨b1,0,none⟩), .pointer (some ⟨b2,0,none⟩)]∧ClB W b1 c∧b1 < W.heap.size∧W.cell? ⟨b2,0,none⟩=some v∧b2 < W.heap.size∧lo≤b1∧lo≤b2∧UDV W lo c.unit c.step c.anchor v)
theorem CD1_any (n:Int) (w:World):Calls Tryz.prog 135 #[shN n] w fun e w'=>e= .returned (.bool false)∧Below w.heap.size w w':=by
 obtain ⟨a0,a1,a2,a3,a4,a5,a6,a7,a8,a9,hs⟩:=yeS n
 rw [hs]; clear hs
 go_enter Tryz.func135,Tryz.ntmps135
 go_wp2
 go_ret
 exact ⟨rfl,yaa (Below.refl _ _) (zG _)⟩
theorem yhJ (c:Cl) (w:World) (hc:c.Ok):Calls Tryz.prog 87 #[clv c] w fun e w'=>∃fv,e= .returned fv∧CDV w' w.heap.size c fv∧Below w.heap.size w w':=by
 obtain ⟨W0,hW0⟩:∃W0,w.alloc (.cells (yac c).toArray 34)=W0:=⟨_,rfl⟩
 have hC:Hid (ClB W0 w.heap.size c):=by rw [←hW0]; exact yb7 w c _
 have hB0:Hid (Below w.heap.size w W0):=by rw [←hW0]; exact yaa (Below.refl _ _) (zG _)
 have hs0:w.heap.size < W0.heap.size:=by rw [←hW0]; simp
 have HW0:=hid hW0
 have Hs0:=hid hs0
 have cM:=hid (ycm c W0 hc)
 have cU:=hid (fun W=>UDays_any c.unit c.step c.anchor W hc.step)
 clear hW0 hs0 hc
 obtain ⟨b,hb⟩:∃b,mayC c=b:=⟨_,rfl⟩
 have Hb:=hid hb
 rw [hb] at cM
 clear hb
 have hl:=(yb7 w c 34).ld
 go_enter Tryz.func87,Tryz.ntmps87
 go_wp2_with fail
 rw [HW0.out]
 refine cM.out.mono ?_
 rintro e w1 ⟨rfl,hB1⟩
 have HB1:Hid (Below w.heap.size w w1):=hB0.out.trans (hB1.mono (by have:=Hs0.out; omega))
 have HC1:=hid (hC.out.below hB1 Hs0.out)
 have Hs1:Hid (w.heap.size < w1.heap.size):=zH Hs0.out hB1.size
 clear hB1 hl cM
 cases b
 ·go_wp2
  go_ret
  exact ⟨_,rfl, .inl ⟨Hb.out,rfl⟩,HB1.out⟩
 obtain ⟨t0,t1,t2,t3,t4⟩:=HC1.out.tail
 go_wp2_with fail
 refine (cU.out _).mono ?_
 rintro e w2 ⟨fv,rfl,hu,hB2⟩
 have HB2:Hid (Below w.heap.size w w2):=HB1.out.trans (hB2.mono (by have:=Hs1.out; omega))
 have HC2:=hid (HC1.out.below hB2 Hs1.out)
 have Hs2:Hid (w.heap.size < w2.heap.size):=zH Hs1.out hB2.size
 have Hs12:Hid (w1.heap.size≤w2.heap.size):=hB2.size
 have Hu:=hid hu
 have hcase:fv= .func (.func 172) #[] #[]∨fv= .func (.func 173) #[] #[]∨∃b3 b7 b4:Nat,fv= .func (.func 174) #[] #[.pointer (some ⟨b3,0,none⟩), .pointer (some ⟨b7,0,none⟩), .pointer (some ⟨b4,0,none⟩)]:=by
  rcases hu with ⟨_,h⟩ | ⟨_,_,_,h⟩ | ⟨_,_,_,b3,b7,b4,h,_⟩
  ·exact .inl h
  ·exact .inr (.inl h)
  ·exact .inr (.inr ⟨b3,b7,b4,h⟩)
 clear hB2 t0 t1 t2 t3 t4 hu
 rcases hcase with rfl | rfl | ⟨b3,b7,b4,rfl⟩
 all_goals
  go_wp2
  go_ret
  exact ⟨_,rfl, .inr ⟨Hb.out,w.heap.size,w2.heap.size,_,rfl,HC2.out.below (yaa (Below.refl w2.heap.size w2) (zG _)) Hs2.out,by simp; have:=Hs2.out; omega,by simp [go_sem],by simp,zG _,Nat.le_of_lt Hs2.out,Hu.out.below (yaa (Below.refl w2.heap.size w2) (zG _)) (Nat.le_of_lt Hs1.out)⟩,yaa HB2.out HB2.out.size⟩
end
section
open Go.RowKit
def dayC (c:Cl) (n:Int):Bool:=mayC c && (dateB c (shF n) && ycC c.unit c.step c.anchor n)
attribute [local go_sem ↓] yaC
abbrev DyS (w:World) (c:Cl) (s:Nat→Int) (W:World):Prop:=
 (ybi (.pointer (some ⟨w.heap.size,0,none⟩))).run Tryz.prog W= .ok (clv c) W∧DaS w c s W
theorem DyS.keep {w W W':World} {c:Cl} {s:Nat→Int} (h:DyS w c s W) (hb:Below W.heap.size W W'):DyS w c s W':=
 ⟨(h.2.keep hb).1.ld,h.2.keep hb⟩
theorem DaS.dys {w W:World} {c:Cl} {s:Nat→Int} (h:DaS w c s W):DyS w c s W:=⟨h.1.ld,h⟩
theorem CDV.call {W:World} {lo:Nat} {c:Cl} {fv:Value} {n:Int} (h:CDV W lo c fv) (hc:c.Ok) (h0:0≤n) (h1:n < 146097) :
  ∃g cap,fv= .func (.func g) #[] cap∧(g=135∧cap= #[]∨∃b1 b2:Nat,g=137∧cap= #[.pointer (some ⟨b1,0,none⟩), .pointer (some ⟨b2,0,none⟩)])∧
   ∀W',Below W.heap.size W W'→Calls Tryz.prog g (#[shN n] ++ cap) W' fun e w'=>e= .returned (.bool (dayC c n))∧Below W'.heap.size W' w':=by
 rcases h with ⟨hm,rfl⟩ | ⟨hm,b1,b2,v,rfl,hcl,l1,hv,l2,_,_,hu⟩
 ·refine ⟨_,_,rfl, .inl ⟨rfl,rfl⟩,fun W' _=>?_⟩
  rw [dayC,hm,Bool.false_and]
  exact CD1_any n W'
 ·refine ⟨_,_,rfl, .inr ⟨b1,b2,rfl,rfl⟩,fun W' hb=>?_⟩
  rw [dayC,hm,zzo]
  exact CD2_any c n b1 b2 lo v W' hc (ycI hm).1 h0 h1 (hcl.below hb l1) (zH l1 hb.size) ((hb.cell (p:=⟨b2,0,none⟩) l2).trans hv) (zH l2 hb.size) (hu.below hb (zG _))
theorem CDay_any (c:Cl) (n:Int) (w:World) (hc:c.Ok) (h0:0≤n) (h1:n < 146097) :
  Calls Tryz.prog 45 #[clv c,shN n] w fun e w'=>e= .returned (.bool (dayC c n))∧Below w.heap.size w w':=by
 have cD:Hid (∀W,DyS w c (shF n) W→Calls Tryz.prog 87 #[clv c] W fun e w'=>(∃fv,e= .returned fv∧∃g cap,fv= .func (.func g) #[] cap∧(g=135∧cap= #[]∨∃b1 b2:Nat,g=137∧cap= #[.pointer (some ⟨b1,0,none⟩), .pointer (some ⟨b2,0,none⟩)])∧
   ∀W',Below w'.heap.size w' W'→Calls Tryz.prog g (#[shq (shF n)] ++ cap) W' fun e w''=>e= .returned (.bool (dayC c n))∧Below W'.heap.size W' w'')∧DyS w c (shF n) w'):=fun W hS=>
  (yhJ c W hc).mono fun e w' ⟨fv,he,hv,hb⟩=>⟨⟨fv,he,hv.call hc h0 h1⟩,hS.keep hb⟩
 have HS0:Hid (DyS w c (shF n) ((w.alloc (.cells (yac c).toArray 34)).alloc (.cells (yaV (shF n)).toArray 88)).drew):=by
  have h:=(daS_new w c (shF n) 34 88).dys
  exact h.keep (Below.refl _ _).drew
 obtain ⟨x,hx⟩:∃x,dayC c n=x:=⟨_,rfl⟩
 rw [hx] at cD⊢
 clear hx h0 h1 hc
 rw [←ybg]
 obtain ⟨s,hs⟩:∃s,shF n=s:=⟨_,rfl⟩
 rw [hs] at cD HS0⊢
 clear hs
 rw [shq] at cD⊢
 go_enter Tryz.func45,Tryz.ntmps45
 go_wp2_with fail
 refine wp_region_held_drew (S:=fun w'=>DyS w c s w') (by kernel_rfl) ?_ (fun hHeld=>?_)
 ·exact HS0.out
 refine zhB 0 ?_
 refine zhB 2 ?_
 refine zzK 1 (fun K hK=>?_)
 go_simp
 refine (cD.out _ (by assumption)).mono ?_
 rintro e w1 ⟨⟨fv,rfl,g,cap,rfl,hg,hcall⟩,hS⟩
 have HC:=hid hcall
 clear hcall
 (try go_wp2_with fail)
 refine hK.out _ _ (by assumption) (fun hHeld=>?_)
 clear hK K
 rcases hg with ⟨rfl,rfl⟩ | ⟨b1,b2,rfl,rfl⟩
 all_goals
  refine zzK 3 (fun K hK=>?_)
  go_simp
  refine (HC.out _ (Below.refl _ _)).mono ?_
  rintro e w2 ⟨rfl,hB2⟩
  have hS2:=DyS.keep (by assumption) hB2
  clear hB2
  (try go_wp2_with fail)
  refine hK.out _ _ (by assumption) (fun hHeld=>?_)
  clear hK K
  refine zhD 4 ?_
  refine wpAnyH_done (by kernel_rfl) ?_ _
  go_wp2
  go_ret
  exact ⟨rfl,hS2.2.2.2.1⟩
end
section
open Go.RowKit
def fillW (k:Nat):List Value:=match k with
 | 0=> [.int .u64 0, .int .u64 0, .int .u64 0, .int .u64 0, .int .u64 0, .int .u64 0, .int .u64 0]
 | 1=> [.int .u64 18446744073709551615, .int .u64 0, .int .u64 0, .int .u64 0, .int .u64 0, .int .u64 0, .int .u64 0]
 | 2=> [.int .u64 18446744073709551615, .int .u64 18446744073709551615, .int .u64 0, .int .u64 0, .int .u64 0, .int .u64 0, .int .u64 0]
 | 3=> [.int .u64 18446744073709551615, .int .u64 18446744073709551615, .int .u64 18446744073709551615, .int .u64 0, .int .u64 0, .int .u64 0, .int .u64 0]
 | 4=> [.int .u64 18446744073709551615, .int .u64 18446744073709551615, .int .u64 18446744073709551615, .int .u64 18446744073709551615, .int .u64 0, .int .u64 0, .int .u64 0]
 | 5=> [.int .u64 18446744073709551615, .int .u64 18446744073709551615, .int .u64 18446744073709551615, .int .u64 18446744073709551615, .int .u64 18446744073709551615, .int .u64 0, .int .u64 0]
 | _=> [.int .u64 18446744073709551615, .int .u64 18446744073709551615, .int .u64 18446744073709551615, .int .u64 18446744073709551615, .int .u64 18446744073709551615, .int .u64 18446744073709551615, .int .u64 0]
def yfc:Value→Int | .int _ n=>n | _=>0
abbrev rfullL:List Value:= [.int .u64 1152921504606846975, .int .u64 1152921504606846975, .int .u64 16777215, .int .u64 8190, .int .u64 4294967294, .int .u64 4294967294, .int .u64 254, .bool false, .int .i64 0, .bool false, .int .u64 0, .int .u64 0, .int .u64 0, .int .u64 0, .int .u64 0, .int .u64 0, .int .u64 0, .int .u64 0,
 .int .u64 18446744073709551615, .int .u64 18446744073709551615, .int .u64 18446744073709551615, .int .u64 18446744073709551615, .int .u64 18446744073709551615, .int .u64 18446744073709551615, .int .u64 65535, .int .i64 0, .int .i64 1, .int .i64 0, .int .i64 0, .int .i64 12622780799]
theorem rfull_eq:yac fullCl=rfullL:=by kernel_rfl
attribute [local go_sem ↓] yaK
attribute [local go_sem] yaA
theorem ykt (w:World):Calls Tryz.prog 29 #[] w fun e w'=>e= .returned (.agg rfullL.toArray)∧Below w.heap.size w w':=by
 have hth:Hid ((w.alloc (.cells zL.toArray 34)).there w.heap.size 0 30):=yat w _ _
 have hth2:((w.alloc (.cells zL.toArray 34)).alloc (.cells #[.int .u64 18446744073709551615, .int .u64 18446744073709551615, .int .u64 18446744073709551615, .int .u64 18446744073709551615, .int .u64 18446744073709551615, .int .u64 18446744073709551615, .int .u64 65535] 32)).there w.heap.size 0 30:=yco hth.out (yaa (Below.refl _ _) (zG _)) (by simp)
 have Hth:=hid hth2
 have HB:Hid (Below w.heap.size w ((w.alloc (.cells zL.toArray 34)).alloc (.cells #[.int .u64 18446744073709551615, .int .u64 18446744073709551615, .int .u64 18446744073709551615, .int .u64 18446744073709551615, .int .u64 18446744073709551615, .int .u64 18446744073709551615, .int .u64 65535] 32))):=yaa (yaa (Below.refl _ _) (zG _)) (by simp)
 clear hth hth2
 go_enter Tryz.func29,Tryz.ntmps29
 go_wp2
 go_loopw [2] (fun i wr=>∃k:Nat,i= .int .i64 k∧k≤6∧wr= (w.alloc (.cells zL.toArray 34)).alloc (.cells (fillW k).toArray 32)) (fun i _=>6 - (yfc i).toNat)
 case atStart=>exact ⟨0,rfl,by omega,rfl⟩
 case round=>
  obtain ⟨k,rfl,hk,rfl⟩:=hrel
  have h7:k=0∨k=1∨k=2∨k=3∨k=4∨k=5∨k=6:=by omega
  clear hk
  rcases h7 with rfl | rfl | rfl | rfl | rfl | rfl | rfl
  all_goals simp only [fillW]
  case inr.inr.inr.inr.inr.inr=>
   have hth:=Hth.out
   go_wp2
   refine bodyPost_ret (yad rfl _ _ w.heap.size 0 _ _ rfl (yak _ rfl hth) Tryz.underlying34 rfl ydh) rfl ⟨rfl,yaj HB.out (zG _) _⟩
  ·go_wp2
   exact ⟨⟨1,rfl,by omega,rfl⟩,by simp [yfc]⟩
  ·go_wp2
   exact ⟨⟨2,rfl,by omega,rfl⟩,by simp [yfc]⟩
  ·go_wp2
   exact ⟨⟨3,rfl,by omega,rfl⟩,by simp [yfc]⟩
  ·go_wp2
   exact ⟨⟨4,rfl,by omega,rfl⟩,by simp [yfc]⟩
  ·go_wp2
   exact ⟨⟨5,rfl,by omega,rfl⟩,by simp [yfc]⟩
  ·go_wp2
   exact ⟨⟨6,rfl,by omega,rfl⟩,by simp [yfc]⟩
theorem RFull_any (w:World):Calls Tryz.prog 29 #[] w fun e w'=>e= .returned (clv fullCl)∧Below w.heap.size w w':=by
 have h:clv fullCl= .agg rfullL.toArray:=congrArg (fun l=>Value.agg (List.toArray l)) rfull_eq
 rw [h]
 exact ykt w
end
section
open Go.RowKit
theorem yds (c:Cl):yfn c c=true:=by rw [yfm]; simp
abbrev LvS (w:World) (b:Nat) (c:Cl) (W:World):Prop:=
 (ybi (.pointer (some ⟨b,0,none⟩))).run Tryz.prog W= .ok (clv c) W∧ClB W b c∧Below w.heap.size w W∧b < W.heap.size∧w.heap.size≤b
theorem LvS.keep {w W W':World} {b:Nat} {c:Cl} (h:LvS w b c W) (hb:Below W.heap.size W W'):LvS w b c W':=by
 obtain ⟨_,h2,h3,h4,h5⟩:=h
 exact ⟨(h2.below hb h4).ld,h2.below hb h4,h3.trans (hb.mono (by omega)),zH h4 hb.size,h5⟩
end
section
open Go.RowKit
attribute [local go_sem ↓] yaC
theorem ydM (w:World) (c:Cl) (t:TypeId) (x:Obj):ClB ((w.alloc (.cells (yac c).toArray t)).alloc x) w.heap.size c:=
 (yb7 w c t).below (yaa (Below.refl _ _) (zG _)) (by simp)
theorem yfv (c:Cl) (w:World):Calls Tryz.prog 41 #[clv c] w fun e w'=>e= .returned (spv (yaq c.fr c.un) (yap c.fr c.un))∧Below w.heap.size w w':=by
 have c0:=hid (fun W=>ycj c.fr c.un W)
 obtain ⟨a,ha⟩:∃a,yaq c.fr c.un=a:=⟨_,rfl⟩
 obtain ⟨b,hb⟩:∃b,yap c.fr c.un=b:=⟨_,rfl⟩
 rw [ha,hb] at c0⊢
 clear ha hb
 obtain ⟨-,-,-,t3,t4⟩:=(ydM w c 34 (.cells #[.int .i64 0, .int .i64 0] 84)).tail
 go_enter Tryz.func41,Tryz.ntmps41
 go_wp2_with fail
 refine (c0.out _).mono ?_
 rintro e w1 ⟨rfl,hB1⟩
 have c1:=(hB1.cell (p:=⟨w.heap.size+1,0,none⟩) (by simp)).trans (show _ =some (.int .i64 0) by simp [go_sem])
 have c2:=(hB1.cell (p:=⟨w.heap.size+1,1,none⟩) (by simp)).trans (show _ =some (.int .i64 0) by simp [go_sem])
 have f1:=(hB1.frozen (p:=⟨w.heap.size+1,0,none⟩) (by simp)).trans (show _ =false by simp [go_sem])
 have f2:=(hB1.frozen (p:=⟨w.heap.size+1,1,none⟩) (by simp)).trans (show _ =false by simp [go_sem])
 have HB1:Hid (Below w.heap.size w w1):=(yaa (yaa (Below.refl _ _) (zG _)) (by simp)).trans (hB1.mono (by simp only [zzN]; omega))
 clear hB1 t3 t4
 go_wp2
 exact bodyPost_ret (yad rfl _ _ (w.heap.size+1) 0 _ _ rfl (ycG c1 c2) Tryz.underlying84 rfl yfd) rfl ⟨rfl,yab (yab HB1.out (by omega)) (by omega)⟩
def yhi (a b:Value):Sem Value:=binOp .eql 34 a b
theorem eql_clS (a b:Value):binOp .eql 34 a b=yhi a b:=rfl
attribute [local go_sem ↓] eql_clS
theorem yjf (c c':Cl) (w:World) (h:c.Ok) (h':c'.Ok):(yhi (clv c) (clv c')).run Tryz.prog w= .ok (.bool (yfn c c')) w:=eql_cl c c' w h h'
def betB (f u t:Int):Bool:=decide (f≤t) && decide (t≤u)
theorem inSp_held {f u t:Int} (h0:0≤t) (h1:t < 12622780800):inSp (yaq f u) (yap f u) t=betB f u t:=by
 rw [inSp_win h0 h1,betB,zze]
 simp only [zzX,zzY]
 rcases ya2 f u with ⟨e1,e2,h3⟩ | ⟨e1,e2,h3⟩ <;> rw [e1,e2] <;> omega
def hasC (c:Cl) (t:Int):Bool:=winB t && (mayC c && (betB c.fr c.un t && (ybl (t % 86400) (c.m 2) (c.m 1) (c.m 0) && (onB c.unit c.step c.anchor t && dayC c (t / 86400)))))
theorem yjw (c:Cl) (t:Int) (w:World) (hc:c.Ok):Calls Tryz.prog 13 #[clv c, .int .i64 t] w fun e w'=>e= .returned (.bool (hasC c t))∧Below w.heap.size w w':=by
 have hC:=yb7 w c 34
 have HB0:Hid (Below w.heap.size w (w.alloc (.cells (yac c).toArray 34))):=yaa (Below.refl _ _) (zG _)
 rcases ya4 t with ⟨hw,h0,h1⟩ | ⟨hw,h⟩
 ·have hr:hasC c t= (mayC c && (betB c.fr c.un t && (ybl (t % 86400) (c.m 2) (c.m 1) (c.m 0) && (onB c.unit c.step c.anchor t && dayC c (t / 86400))))):=by rw [hasC,hw,zzo]
  rw [hr]
  clear hr hw
  have cS:=hid (fun W=>ybq t W h0 h1)
  have cM:=hid (fun W=>ycm c W hc)
  have cSp:=hid (fun W=>yfv c W)
  have cI:=hid (fun W=>SIn_any (yaq c.fr c.un) (yap c.fr c.un) t W)
  rw [inSp_held h0 h1] at cI
  have cT:=hid (fun W=>In_any (t % 86400) (c.m 2) (c.m 1) (c.m 0) W (hc.m 2 (by omega)) (hc.m 1 (by omega)) (hc.m 0 (by omega)))
  have cO:=hid (fun W=>UOn_any c.unit c.step c.anchor t W hc.step)
  have cSh:=hid (fun W=>yhx (t / 86400) W (by omega) (by omega))
  have cD:=hid (fun W=>CDay_any c (t / 86400) W hc (by omega) (by omega))
  obtain ⟨a0,a1,a2,a3,a4,a5,a6,a7,a8,a9,hsh⟩:=yeS (t / 86400)
  rw [hsh] at cSh cD
  obtain ⟨f,hf⟩:∃a,yaq c.fr c.un=a:=⟨_,rfl⟩
  obtain ⟨u,hu⟩:∃a,yap c.fr c.un=a:=⟨_,rfl⟩
  obtain ⟨b1,hb1⟩:∃b,mayC c=b:=⟨_,rfl⟩
  obtain ⟨b2,hb2⟩:∃b,betB c.fr c.un t=b:=⟨_,rfl⟩
  obtain ⟨b3,hb3⟩:∃b,ybl (t % 86400) (c.m 2) (c.m 1) (c.m 0)=b:=⟨_,rfl⟩
  obtain ⟨b4,hb4⟩:∃b,onB c.unit c.step c.anchor t=b:=⟨_,rfl⟩
  obtain ⟨b5,hb5⟩:∃b,dayC c (t / 86400)=b:=⟨_,rfl⟩
  rw [hf,hu] at cSp cI
  rw [hb1] at cM⊢
  rw [hb2] at cI⊢
  rw [hb3] at cT⊢
  rw [hb4] at cO⊢
  rw [hb5] at cD⊢
  obtain ⟨n,hn⟩:∃n,t / 86400=n:=⟨_,rfl⟩
  obtain ⟨s,hs⟩:∃s,t % 86400=s:=⟨_,rfl⟩
  rw [hn] at cS cSh
  rw [hs] at cS cT
  clear hf hu hb1 hb2 hb3 hb4 hb5 hsh hn hs h0 h1 hc
  have l0:=hC.ld
  have HC:=hid hC
  clear hC
  go_enter Tryz.func13,Tryz.ntmps13
  go_wp2_with fail
  refine (cS.out _).mono ?_
  rintro e w' ⟨rfl,rfl⟩
  go_wp2_with fail
  refine (cM.out _).mono ?_
  rintro e w1 ⟨rfl,hB⟩
  have HB1:Hid (Below w.heap.size w w1):=HB0.out.trans (hB.mono (by simp))
  have HC1:=hid (HC.out.below hB (by simp))
  have Hs1:Hid (w.heap.size < w1.heap.size):=by have:=hB.size; rw [zzN] at this; exact this
  clear hB l0 HC
  cases b1
  ·go_wp2
   go_ret
   exact ⟨rfl,HB1.out⟩
  have l1:=HC1.out.ld
  go_wp2_with fail
  refine (cSp.out _).mono ?_
  rintro e w2 ⟨rfl,hB⟩
  have HB2:Hid (Below w.heap.size w w2):=HB1.out.trans (hB.mono (Nat.le_of_lt Hs1.out))
  have HC2:=hid (HC1.out.below hB Hs1.out)
  have Hs2:Hid (w.heap.size < w2.heap.size):=zH Hs1.out hB.size
  clear hB l1 HC1
  go_wp2_with fail
  refine (cI.out _).mono ?_
  rintro e w3 ⟨rfl,hB⟩
  have HB3:Hid (Below w.heap.size w w3):=HB2.out.trans (hB.mono (Nat.le_of_lt Hs2.out))
  have HC3:=hid (HC2.out.below hB Hs2.out)
  have Hs3:Hid (w.heap.size < w3.heap.size):=zH Hs2.out hB.size
  clear hB HC2
  cases b2
  ·go_wp2
   go_ret
   exact ⟨rfl,HB3.out⟩
  obtain ⟨r0,r1,r2,-,-,-,-⟩:=HC3.out.masks
  go_wp2_with fail
  refine (cT.out _).mono ?_
  rintro e w' ⟨rfl,rfl⟩
  clear r0 r1 r2
  cases b3
  ·go_wp2
   go_ret
   exact ⟨rfl,HB3.out⟩
  obtain ⟨t0,t1,t2,-,-⟩:=HC3.out.tail
  go_wp2_with fail
  refine (cO.out _).mono ?_
  rintro e w4 ⟨rfl,hB⟩
  have HB4:Hid (Below w.heap.size w w4):=HB3.out.trans (hB.mono (Nat.le_of_lt Hs3.out))
  have HC4:=hid (HC3.out.below hB Hs3.out)
  have Hs4:Hid (w.heap.size < w4.heap.size):=zH Hs3.out hB.size
  clear hB t0 t1 t2 HC3
  cases b4
  ·go_wp2
   go_ret
   exact ⟨rfl,HB4.out⟩
  go_wp2_with fail
  refine (cSh.out _).mono ?_
  rintro e w5 ⟨rfl,hB⟩
  have HB5:Hid (Below w.heap.size w w5):=HB4.out.trans (hB.mono (Nat.le_of_lt Hs4.out))
  have HC5:=hid (HC4.out.below hB Hs4.out)
  have Hs5:Hid (w.heap.size < w5.heap.size):=zH Hs4.out hB.size
  clear hB HC4
  have HB6:=hid (yaa (o:= .cells #[.int .i64 a0, .int .i64 a1, .int .i64 a2, .int .i64 a3, .int .i64 a4, .int .i64 a5, .int .i64 a6, .int .i64 a7, .int .i64 a8, .int .i64 a9] 88) HB5.out (Nat.le_of_lt Hs5.out))
  have l6:=(HC5.out.below (yaa (o:= .cells #[.int .i64 a0, .int .i64 a1, .int .i64 a2, .int .i64 a3, .int .i64 a4, .int .i64 a5, .int .i64 a6, .int .i64 a7, .int .i64 a8, .int .i64 a9] 88) (Below.refl _ _) (zG _)) Hs5.out).ld
  go_wp2_with fail
  refine (cD.out _).mono ?_
  rintro e w7 ⟨rfl,hB⟩
  have HB7:Hid (Below w.heap.size w w7):=HB6.out.trans (hB.mono (by have:=Hs5.out; simp only [zzN]; omega))
  clear hB l6
  go_wp2
  go_ret
  exact ⟨rfl,HB7.out⟩
 ·have hr:hasC c t=false:=by rw [hasC,hw,Bool.false_and]
  rw [hr]
  have cS:=hid (fun W=>yeH t W hw)
  clear hr h hc hC hw
  go_enter Tryz.func13,Tryz.ntmps13
  go_wp2_with fail
  refine (cS.out _).mono ?_
  rintro e w' ⟨rfl,rfl⟩
  go_wp2
  go_ret
  exact ⟨rfl,HB0.out⟩
end
section
open Go.RowKit
attribute [local go_sem ↓] yaC
theorem ycD {u t:Int} (hu:unB u=true) (ht:winB t=true):yaZ u t=true∧yaM u t=whU u t:=by
 have h:yaZ u t=true:=by rw [yaZ,hu,ht]; rfl
 exact ⟨h,by rw [yaM,if_pos h]⟩
theorem yjE {u:Int} (h:unB u=true):0≤u∧u≤6:=by simpa only [unB,zzY] using h
theorem win_of {t:Int} (h0:0≤t) (h1:t < 12622780800):winB t=true:=by simp only [winB,zzY]; exact ⟨h0,h1⟩
theorem stepB_one (d:Int):ybR 1 d=true:=by rw [ybR]; simp
theorem yjj {u s a t:Int} (hu:unB u=true) (ha:winB a=true) (hs:1≤s) (h0:0≤t) (h1:t < 12622780800) (hz:yav u=0):ycC u s a (t / 86400)=onB u s a t:=by
 obtain ⟨e1,e2⟩:=ycD hu ha
 obtain ⟨e3,e4⟩:=ycD hu (win_of h0 h1)
 have hu3:3≤u:=yeR hz (yjE hu).1
 rw [ycC,onB,e1,e3,e4,whU_day hu3,zzZ hs,zzo,zzo,zzo,zzo]
 by_cases h:s=1
 ·subst h
  rw [stepB_one,Bool.or_true]
 ·rw [zzd (by omega),Bool.false_or]
theorem ykh {u s a n:Int} (hu:unB u=true) (ha:winB a=true) (hs:1≤s) (hz:0 < yav u):ycC u s a n=true:=by
 obtain ⟨e1,e2⟩:=ycD hu ha
 rw [ycC,e1,zzZ hs,zzZ (.inl hz)]; rfl
theorem on_day {u s a t:Int} (hu:unB u=true) (ha:winB a=true) (hs:1≤s) (h0:0≤t) (h1:t < 12622780800) (h:onB u s a t=true):ycC u s a (t / 86400)=true:=by
 rcases ycq u with hz | hz
 ·exact ykh hu ha hs hz
 ·rw [yjj hu ha hs h0 h1 hz]; exact h
end
section
open Go.RowKit
def yf2 (c:Cl) (f u:Int):Cl:={c with fr:=f,un:=u}
theorem Cl.Ok.span {c:Cl} (h:c.Ok) {f u:Int} (hf:i64B f) (hu:i64B u):(yf2 c f u).Ok:=⟨h.m,h.od,h.ys,h.oin,h.unit,h.step,h.anchor,hf,hu⟩
theorem hasW_full {n:Int} (h0:0≤n) (h1:n < 400):hasW ybV n=true:=by
 rw [hasW,mayB,zzZ h0,zzZ h1,bitW,ybV,ygQ (Nat.mod_lt _ (by decide))]
 simp only [zzo,zzY]
 omega
theorem yi1:mayC fullCl=true:=by kernel_rfl
theorem ClB.span {W:World} {b:Nat} {c:Cl} (h:ClB W b c) (f u:Int):ClB ((W.setCell ⟨b,28,none⟩ (.int .i64 f)).setCell ⟨b,29,none⟩ (.int .i64 u)) b (yf2 c f u):=by
 have e:yac (yf2 c f u)= ((yac c).set 28 (.int .i64 f)).set 29 (.int .i64 u):=rfl
 have h8:=h.at 28 rfl
 have h9:=h.at 29 rfl
 have hne:(⟨b,29,none⟩:Addr)≠⟨b,28,none⟩:=by intro e; injection e with _ e _; cases e
 intro j v hv
 by_cases hj:j=29
 ·subst hj
  have hv':(Value.int .i64 u)=v:=by rw [e] at hv; simpa using hv
  rw [←hv']
  exact zzW _ _ _ (by rw [zzL _ _ _ _ hne.symm]; exact h9)
 ·by_cases hk:j=28
  ·subst hk
   have hv':(Value.int .i64 f)=v:=by rw [e] at hv; simpa using hv
   rw [←hv',zzL _ _ _ _ hne]
   exact zzW _ _ _ h8
  ·rw [e,List.getElem?_set_ne (by omega),List.getElem?_set_ne (by omega)] at hv
   rw [zzL _ _ _ _ (by intro e; injection e with _ e2 _; exact hj (by omega)),zzL _ _ _ _ (by intro e; injection e with _ e2 _; exact hk (by omega))]
   exact h j v hv
end
section
open Go.RowKit
theorem rep_one {α:Type} (v:α): [v]=List.replicate 1 v:=rfl
theorem rep_cons {α:Type} (v:α) (n:Nat):v :: List.replicate n v=List.replicate (n+1) v:=rfl
theorem rep_app {α:Type} (v:α) (n m:Nat):(List.replicate n v).append (List.replicate m v)=List.replicate (n+m) v:=List.replicate_append_replicate
theorem zc107:Tryz.zeroCells189= (List.replicate 1350 (Value.int .u64 0)).toArray:=by
 simp only [Tryz.zeroCells189,rep_one,rep_cons,rep_app,Nat.reduceAdd]
def DC (W:World) (b:Nat) (f:Nat→Nat):Prop:=∀i,i < 1350→W.cell? ⟨b,i,none⟩=some (.int .u64 (f i:Nat))
theorem DC.below {W W':World} {b B:Nat} {f:Nat→Nat} (h:DC W b f) (hb:Below B W W') (hB:b < B):DC W' b f:=fun i hi=>(hb.cell (p:=⟨b,i,none⟩) hB).trans (h i hi)
theorem DC.set {W:World} {b i:Nat} {f:Nat→Nat} {v:Nat} (h:DC W b f) (hi:i < 1350):DC (W.setCell ⟨b,i,none⟩ (.int .u64 v)) b (fun j=>if j=i then v else f j):=by
 intro j hj
 by_cases e:j=i
 ·subst e; simp [go_sem,h j hj]
 ·simp [go_sem,h j hj,e]
theorem DC.congr {W:World} {b:Nat} {f g:Nat→Nat} (h:DC W b f) (e:∀i,i < 1350→f i=g i):DC W b g:=fun i hi=>by rw [←e i hi]; exact h i hi
theorem cell_rep (W:World) (n:Nat) (v:Value) (t:TypeId) (i:Nat) (hi:i < n):(W.alloc (.cells (List.replicate n v).toArray t)).cell? ⟨W.heap.size,i,none⟩=some v:=by simp [go_sem,hi]
theorem dc_new (W:World):DC (W.alloc (.cells Tryz.zeroCells189 189)) W.heap.size (fun _=>0):=fun i hi=>by
 rw [zc107]
 exact cell_rep W 1350 _ _ i hi
def ydf (n:Int):Bool:=decide (0≤n) && decide (n < 86400)
theorem yhl (k:Nat):ydf (k:Int)=decide (k < 86400):=by rw [ydf,zze]; simp only [zzX,zzY]; omega
theorem yc8 {n:Int} (h:ydf n=true):∃k:Nat,n=k∧k < 86400:=by
 rw [ydf] at h
 simp only [zzX,zzY] at h
 exact ⟨n.toNat,by omega,by omega⟩
def hasD (f:Nat→Nat) (n:Int):Bool:=ydf n && bitW f n.toNat
theorem yeI (n:Int) (w:World):Calls Tryz.prog 124 #[.int .i64 n] w fun e w'=>e= .returned (.bool (ydf n))∧w=w':=by
 unfold ydf
 by_cases h0:0≤n
 ·by_cases h1:n < 86400
  ·rw [zzZ h0,zzZ h1]
   go_enter Tryz.func124,Tryz.ntmps124
   go_wp2
   go_ret
   exact ⟨rfl,rfl⟩
  ·rw [zzZ h0,zzd h1]
   go_enter Tryz.func124,Tryz.ntmps124
   go_wp2
   go_ret
   exact ⟨rfl,rfl⟩
 ·rw [zzd h0,Bool.false_and]
  go_enter Tryz.func124,Tryz.ntmps124
  go_wp2
  go_ret
  exact ⟨rfl,rfl⟩
theorem DHas_any (b:Nat) (f:Nat→Nat) (n:Int) (w:World) (hc:DC w b f) (hf:∀i,i < 1350→f i < 18446744073709551616) :
  Calls Tryz.prog 111 #[.pointer (some ⟨b,0,none⟩), .int .i64 n] w fun e w'=>e= .returned (.bool (hasD f n))∧w=w':=by
 have c1:=hid (fun W=>yeI n W)
 unfold hasD
 by_cases hb:ydf n=true
 ·rw [hb] at c1⊢
  obtain ⟨k,rfl,hk⟩:=yc8 hb
  have e1:=hc (k / 64) (by omega)
  have c2:=hid (fun W=>yb9 (f (k / 64)) ((k % 64:Nat):Int) W (hf _ (by omega)))
  rw [ygq,show ((k % 64:Nat):Int)= (k:Int) % 64 by simp] at c2
  have hlt:k / 64 < 1350:=by omega
  clear hb hc hk
  go_enter Tryz.func111,Tryz.ntmps111
  go_wp2_with fail
  refine (c1.out _).mono ?_
  rintro e w' ⟨rfl,rfl⟩
  go_wp2_with fail
  refine (c2.out _).mono ?_
  rintro e w' ⟨rfl,rfl⟩
  go_wp2
  go_ret
  exact ⟨by simp [bitW],rfl⟩
 ·have hb':ydf n=false:=by simpa using hb
  rw [hb'] at c1⊢
  clear hb hb'
  go_enter Tryz.func111,Tryz.ntmps111
  go_wp2_with fail
  refine (c1.out _).mono ?_
  rintro e w' ⟨rfl,rfl⟩
  go_wp2
  go_ret
  exact ⟨rfl,rfl⟩
end
section
open Go.RowKit
def putS (x:(Nat→Nat) × Nat) (n:Int):(Nat→Nat) × Nat:=
 if ydf n && !bitW x.1 n.toNat then (fun j=>if j=n.toNat / 64 then x.1 (n.toNat / 64) ||| 2 ^ (n.toNat % 64) else x.1 j,x.2+1) else x
def putL (f:Nat→Nat) (l:List Int):(Nat→Nat) × Nat:=l.foldl putS (f,0)
theorem putL_snoc (f:Nat→Nat) (l:List Int) (k:Nat) (h:k < l.length):putL f (l.take (k+1))=putS (putL f (l.take k)) l[k]:=by
 rw [putL,putL,yam l k h,List.foldl_append]; rfl
theorem Put_any (b:Nat) (f:Nat→Nat) (a:Option Addr) (cap:Nat) (l:List Int) (w:World) (hl:l.length≤9223372036854775807) (hs:Sl w a (ints l)) (hne:l≠ []→∀g off,a=some ⟨g,off,none⟩→g≠b)
  (hc:DC w b f) (hfz:∀i,w.frozen? ⟨b,i,none⟩=false) (hf:∀i,i < 1350→f i < 18446744073709551616) :
  Calls Tryz.prog 188 #[.pointer (some ⟨b,0,none⟩), .slice a l.length cap] w fun e w'=>e= .returned (.int .i64 ((putL f l).2:Nat))∧DC w' b (putL f l).1∧(∀i,w'.frozen? ⟨b,i,none⟩=false)∧
   Eff (fun x=>x=b) w w':=by
 have Hs:=hid hs
 have Hne:=hid hne
 have Hc:=hid hc
 have Hfz:=hid hfz
 have Hf:=hid hf
 have c1:=hid (fun n W=>yeI n W)
 have hlI:(l.length:Int)≤9223372036854775807:=by omega
 clear hs hne hc hfz hf hl
 go_enter Tryz.func188,Tryz.ntmps188
 go_wp2
 go_loopw [5,12] (fun m i wr=>∃k:Nat,i= .int .i64 k∧m= .int .i64 ((putL f (l.take k)).2:Nat)∧k≤l.length∧Hid (DC wr b (putL f (l.take k)).1∧(∀i,wr.frozen? ⟨b,i,none⟩=false)∧(∀i,i < 1350→(putL f (l.take k)).1 i < 18446744073709551616)∧(putL f (l.take k)).2≤k)∧Hid (Eff (fun x=>x=b) w wr)) (fun _ i _=>l.length - (intOf i).toNat)
 case atStart=>exact ⟨0,rfl,rfl,by omega,⟨Hc.out,Hfz.out,Hf.out,zG _⟩,Eff.refl _ _⟩
 case round=>
  obtain ⟨k,rfl,rfl,hk,HJ,HE⟩:=hrel
  by_cases hlt:k < l.length
  ·obtain ⟨g,off,rfl,hb,hcl⟩:=Hs.out.atInt hlt
   have e1:=(HE.out.cell (p:=⟨g,off+k,none⟩) hb (Hne.out (fun e=>by rw [e] at hlt; simp at hlt) g off rfl)).trans (hcl k hlt)
   have hsn:=hid (putL_snoc f l k hlt)
   obtain ⟨x,hx⟩:∃x,l[k]=x:=⟨_,rfl⟩
   rw [hx] at e1 hsn
   obtain ⟨p,hp⟩:∃p,putL f (l.take k)=p:=⟨_,rfl⟩
   rw [hp] at HJ hsn⊢
   clear hcl hx hp
   by_cases hd:ydf x=true
   ·have hm:=hid (c1.out x)
    rw [hd] at hm
    have hh:=hid (DHas_any b p.1 x wr HJ.out.1 HJ.out.2.2.1)
    obtain ⟨n,rfl,hn⟩:=yc8 hd
    have hq:hasD p.1 (n:Int)=bitW p.1 n:=by rw [hasD,hd]; rfl
    rw [hq] at hh
    by_cases hb2:bitW p.1 n=true
    ·rw [hb2] at hh
     have he:Hid (putS p (n:Int)=p):=by show _ = _; rw [putS,Int.toNat_natCast,hb2]; simp
     clear hb2 hq hd
     have hnI:(n:Int) < 87000:=by omega
     clear hn
     go_wp2_with fail
     refine (hm.out _).mono ?_
     rintro e w' ⟨rfl,rfl⟩
     go_wp2_with fail
     refine hh.out.mono ?_
     rintro e w' ⟨rfl,rfl⟩
     go_wp2
     exact ⟨⟨k+1,by go_num,by rw [hsn.out,he.out],by omega,by rw [hsn.out,he.out]; exact ⟨HJ.out.1,HJ.out.2.1,HJ.out.2.2.1,by have:=HJ.out.2.2.2; omega⟩,HE.out⟩,by simp [intOf]; omega⟩
    ·have hb3:bitW p.1 n=false:=by simpa using hb2
     rw [hb3] at hh
     have he:Hid (putS p (n:Int)= (fun j=>if j=n / 64 then p.1 (n / 64) ||| 2 ^ (n % 64) else p.1 j,p.2+1)):=by show _ = _; rw [putS,Int.toNat_natCast,hd,hb3]; rfl
     have hi:n / 64 < 1350:=by omega
     have e2:=HJ.out.1 (n / 64) hi
     have e3:=HJ.out.2.1 (n / 64)
     have hnI:(n:Int) < 87000:=by omega
     have hcnt:(p.2:Int)+1≤9223372036854775807:=by have:=HJ.out.2.2.2; omega
     clear hb2 hb3 hq hd hn
     go_wp2_with fail
     refine (hm.out _).mono ?_
     rintro e w' ⟨rfl,rfl⟩
     go_wp2_with fail
     refine hh.out.mono ?_
     rintro e w' ⟨rfl,rfl⟩
     go_wp2_with fail
     go_region
     have hpw:n % 64 < 64:=Nat.mod_lt _ (by omega)
     have hor:=ybI (HJ.out.2.2.1 (n / 64) hi) (ydg hpw)
     rw [←ycT hpw] at hor
     rw [hor]
     have hlt2:=yjO (HJ.out.2.2.1 (n / 64) hi) (ydg hpw)
     obtain ⟨v,hv⟩:∃v,p.1 (n / 64) ||| 2 ^ (n % 64)=v:=⟨_,rfl⟩
     rw [hv] at hlt2 he⊢
     have done:DC (wr.setCell ⟨b,n / 64,none⟩ (.int .u64 v)).drew b (putS p (n:Int)).1∧(∀i,(wr.setCell ⟨b,n / 64,none⟩ (.int .u64 v)).drew.frozen? ⟨b,i,none⟩=false)∧(∀i,i < 1350→(putS p (n:Int)).1 i < 18446744073709551616)∧(putS p (n:Int)).2≤k+1:=by
      rw [he.out]
      refine ⟨HJ.out.1.set hi,fun i=>by simp [go_sem,HJ.out.2.1 i],fun i hi=>?_,by have:=HJ.out.2.2.2; simp only []; omega⟩
      simp only []
      split
      ·exact hlt2
      ·exact HJ.out.2.2.1 i hi
     have Done:=hid done
     have HE2:Hid (Eff (fun x=>x=b) w (wr.setCell ⟨b,n / 64,none⟩ (.int .u64 v)).drew):=by
      have h:=HE.out
      refine ⟨h.os,h.tape,h.output,?_,fun j hj hn=>?_⟩
      ·show w.heap.size≤(wr.setCell ⟨b,n / 64,none⟩ (.int .u64 v)).heap.size
       simpa [go_sem] using h.size
      ·exact (Below.heap_setCell _ _ _ _ (by simpa using hn)).trans (h.block j hj hn)
     have h2:(putS p (n:Int)).2=p.2+1:=by rw [he.out]
     have H2:=hid h2
     clear done hor hpw hv hlt2 h2
     go_wp2
     exact ⟨⟨k+1,by go_num,by rw [hsn.out,H2.out]; go_num,by omega,by rw [hsn.out]; exact Done.out,HE2.out⟩,by simp [intOf]; omega⟩
   ·have hd':ydf x=false:=by simpa using hd
    have hm:=hid (c1.out x)
    rw [hd'] at hm
    have he:Hid (putS p x=p):=by show _ = _; rw [putS,hd']; rfl
    clear hd hd'
    go_wp2_with fail
    refine (hm.out _).mono ?_
    rintro e w' ⟨rfl,rfl⟩
    go_wp2
    exact ⟨⟨k+1,by go_num,by rw [hsn.out,he.out],by omega,by rw [hsn.out,he.out]; exact ⟨HJ.out.1,HJ.out.2.1,HJ.out.2.2.1,by have:=HJ.out.2.2.2; omega⟩,HE.out⟩,by simp [intOf]; omega⟩
  ·have hke:l.take k=l:=List.take_of_length_le (by omega)
   rw [hke] at HJ⊢
   clear hke
   go_wp2
   go_ret
   exact ⟨rfl,HJ.out.1,HJ.out.2.1,HE.out⟩
theorem putS_bit (x:(Nat→Nat) × Nat) (n:Int) (k:Nat) (hk:k < 86400):bitW (putS x n).1 k= (bitW x.1 k || decide ((k:Int)=n)):=by
 rw [putS]
 by_cases hd:ydf n=true
 ·obtain ⟨j,rfl,hj⟩:=yc8 hd
  rw [hd,Int.toNat_natCast]
  cases hb:bitW x.1 j
  ·simp only [Bool.not_false,Bool.and_self,if_true]
   rw [bitW,bitW]
   by_cases e:k / 64=j / 64
   ·have e2:decide (j % 64=k % 64)=decide ((k:Int)= (j:Int)):=by
     rw [zze,zzY,zzY]
     omega
    simp only [e,if_true,Nat.testBit_or,Nat.testBit_two_pow,e2]
   ·have h2:decide ((k:Int)= (j:Int))=false:=zzd (by omega)
    simp only [e,if_false,h2,Bool.or_false]
  ·simp only [Bool.not_true,Bool.and_false,Bool.false_eq_true,if_false]
   by_cases e:k=j
   ·subst e; rw [hb]; rfl
   ·rw [zzd (by omega),Bool.or_false]
 ·have hd':ydf n=false:=by simpa using hd
  have hne:¬(k:Int)=n:=fun e=>by
   subst e
   rw [yhl,zzZ hk] at hd'
   cases hd'
  rw [hd',zzd hne]
  simp
theorem yhg (k:Nat) (hk:k < 86400):∀(l:List Int) (x:(Nat→Nat) × Nat),bitW (l.foldl putS x).1 k= (bitW x.1 k || decide ((k:Int)∈l))
 | [],x=>by simp
 | n :: l,x=>by
   rw [List.foldl_cons,yhg k hk l,putS_bit x n k hk,Bool.or_assoc]
   congr 1
   rw [zze]
   simp
theorem yiT (f:Nat→Nat) (l:List Int) (k:Nat) (hk:k < 86400):bitW (putL f l).1 k= (bitW f k || decide ((k:Int)∈l)):=yhg k hk l (f,0)
theorem putS_lt (x:(Nat→Nat) × Nat) (n:Int) (hx:∀i,i < 1350→x.1 i < 18446744073709551616):∀i,i < 1350→(putS x n).1 i < 18446744073709551616:=by
 intro i hi
 rw [putS]
 split
 ·rename_i h
  simp only [zzX] at h
  obtain ⟨j,rfl,hj⟩:=yc8 h.1
  rw [Int.toNat_natCast]
  simp only []
  split
  ·exact yjO (hx _ (by omega)) (ydg (Nat.mod_lt _ (by omega)))
  ·exact hx i hi
 ·exact hx i hi
theorem yjd:∀(l:List Int) (x:(Nat→Nat) × Nat),(∀i,i < 1350→x.1 i < 18446744073709551616)→∀i,i < 1350→(l.foldl putS x).1 i < 18446744073709551616
 | [],x,hx=>hx
 | n :: l,x,hx=>yjd l _ (putS_lt x n hx)
theorem putL_lt (f:Nat→Nat) (l:List Int) (hf:∀i,i < 1350→f i < 18446744073709551616):∀i,i < 1350→(putL f l).1 i < 18446744073709551616:=yjd l _ hf
theorem yaB (W:World) (c:Array Value) (t:TypeId) (i:Nat):(W.alloc (.cells c t)).frozen? ⟨W.heap.size,i,none⟩=false:=by simp [go_sem]
def DiscAt (W:World) (b:Nat) (q:Nat→Bool):Prop:=∃f:Nat→Nat,DC W b f∧(∀i,W.frozen? ⟨b,i,none⟩=false)∧(∀i,i < 1350→f i < 18446744073709551616)∧(∀k,k < 86400→bitW f k=q k)∧b < W.heap.size
theorem DiscAt.below {W W':World} {b B:Nat} {q:Nat→Bool} (h:DiscAt W b q) (hb:Below B W W') (hB:b < B):DiscAt W' b q:=by
 obtain ⟨f,h1,h2,h3,h4,h5⟩:=h
 exact ⟨f,h1.below hb hB,fun i=>(hb.frozen (p:=⟨b,i,none⟩) hB).trans (h2 i),h3,h4,zH h5 hb.size⟩
def memD (l:List Int) (k:Nat):Bool:=decide ((k:Int)∈l)
theorem yek (a:Option Addr) (cap:Nat) (l:List Int) (w:World) (hl:l.length≤9223372036854775807) (hs:Sl w a (ints l)) :
  Calls Tryz.prog 180 #[.slice a l.length cap] w fun e w'=>e= .returned (.pointer (some ⟨w.heap.size,0,none⟩))∧DiscAt w' w.heap.size (memD l)∧Below w.heap.size w w':=by
 obtain ⟨W1,hW1⟩:∃W1,w.alloc (.cells Tryz.zeroCells189 189)=W1:=⟨_,rfl⟩
 have q1:DC W1 w.heap.size (fun _=>0):=by rw [←hW1]; exact dc_new w
 have q2:∀i,W1.frozen? ⟨w.heap.size,i,none⟩=false:=fun i=>by rw [←hW1]; exact yaB w _ _ i
 have q3:Below w.heap.size w W1:=by rw [←hW1]; exact yaa (Below.refl _ _) (zG _)
 have q4:W1.heap.size=w.heap.size+1:=by rw [←hW1]; simp
 have c1:Hid (Calls Tryz.prog 188 #[.pointer (some ⟨w.heap.size,0,none⟩), .slice a l.length cap] W1 fun e w'=>(∃n:Nat,e= .returned (.int .i64 n))∧DiscAt w' w.heap.size (memD l)∧Eff (fun x=>x=w.heap.size) W1 w'):=by
  refine (Put_any w.heap.size (fun _=>0) a cap l W1 hl (hs.below q3) ?_ q1 q2 (fun _ _=>by omega)).mono fun e w' ⟨h1,h2,h3,h4⟩=>⟨⟨_,h1⟩,⟨_,h2,h3,putL_lt _ _ (fun _ _=>by omega),fun k hk=>?_,by have:=h4.size; omega⟩,h4⟩
  ·rintro hl g off rfl
   obtain ⟨g',off',e,hb,_⟩:=hs.atInt (k:=0) (List.length_pos_iff.mpr hl)
   cases e; omega
  ·rw [yiT _ _ k hk,bitW,Nat.zero_testBit,Bool.false_or]; rfl
 have HW1:=hid hW1
 have Q3:=hid q3
 clear hW1 q1 q2 q3 hs
 go_enter Tryz.func180,Tryz.ntmps180
 go_wp2_with fail
 rw [HW1.out]
 refine c1.out.mono ?_
 rintro e w2 ⟨⟨n,rfl⟩,hd,hE⟩
 have Hd:=hid hd
 have HE:=hid hE
 clear hd hE
 go_wp2
 go_ret
 exact ⟨rfl,Hd.out,Q3.out.trans (HE.out.below (by rintro b rfl; exact zG _) (by omega))⟩
end
end Go.Proofs.YtjahgimnfliooaaGreatDoor
