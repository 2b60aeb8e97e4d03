/-
  ferialaw35.lives answers true; the first and the last instant of a rule's set (plain).
  Keys that are two pointers: what meet.asked keeps.
  span.Cut of a span that does not meet a day; meet.within.
  meet.asked: its bounds.
  meet.asked: two rolls, and what is found of them.
-/
import Derived.Test.YtjahgimnfliooaaGreatDoorQ00f8d5
import Derived.Test.YtjahgimnfliooaaGreatDoorQ6102c1
import Derived.Test.YtjahgimnfliooaaGreatDoorQ55f9e3
import Derived.Test.YtjahgimnfliooaaGreatDoorQ698a47
import Derived.BigRegion
import Derived.Deep.Cut
import Derived.Test.YtjahgimnfliooaaGreatDoorQ10ca9b
set_option maxRecDepth 100000
set_option maxHeartbeats 25600000
namespace Go.Proofs.YtjahgimnfliooaaGreatDoor
set_option linter.unusedVariables false
section
open Go.RowKit Go.Maps
attribute [local irreducible] secL
theorem ru0_s (W:World):RuS W ru0:=⟨.inl rfl, .inl rfl, .inl rfl, .inl rfl, .inl rfl, .inl rfl⟩
theorem ru0_m:ru0.Sm 1000000:=⟨by simp [ru0],by simp [ru0],by simp [ru0],by simp [ru0],by simp [ru0],by simp [ru0]⟩
theorem ru0_n:ru0.Num:=⟨by show i64B 0; unfold i64B; omega,by show i64B 3; unfold i64B; omega,by show i64B 1; unfold i64B; omega,by show i64B 3; unfold i64B; omega,by show i64B (-1); unfold i64B; omega⟩
theorem ru0_v:ruv ru0= .agg #[.int .i64 0, .int .i64 3, .int .i64 1, .int .i64 3, .int .i64 (-1), .slice none 0 0, .slice none 0 0, .slice none 0 0, .slice none 0 0, .slice none 0 0, .slice none 0 0]:=rfl
theorem yiF (w:World) (hT:Tab w):Calls Tryz.prog 7 #[] w fun e w'=>e= .returned (.bool true)∧Below w.heap.size w w':=by
 have cL:=yfl ru0 w (ru0_s w) ru0_m ru0_n hT
 rw [ru0_v] at cL
 have CL:=hid cL
 have hok:∀c∈ [lowF ru0],c.Ok:=by simpa using yif ru0_n ygZ
 have cH:Hid (∀(g:Nat) (w1:World),Sl w1 (some ⟨g,0,none⟩) (cls [lowF ru0])→∀t W,Below w1.heap.size w1 W→Calls Tryz.prog 20 #[.slice (some ⟨g,0,none⟩) 1 1, .int .i64 t] W fun e w'=>e= .returned (.bool ((winB t && decide (t % 86400=0)) && decide (t≤172800)))∧Below W.heap.size W w'):=
  fun g w1 hs t W hB=>by
   rw [←ru0_life]
   exact IHas_any (some ⟨g,0,none⟩) 1 [lowF ru0] t W (by simp) (hs.below hB) hok
 clear cL hok hT
 go_enter Tryz.func7,Tryz.ntmps7
 go_wp2_with fail
 refine CL.out.mono ?_
 rintro e w1 ⟨⟨h,-⟩ | ⟨-,g,rfl,hg,hs⟩,hB1⟩
 ·exact absurd ru0_low h
 have HB1:=hid hB1
 have K:=hid (cH.out g w1 hs)
 clear hB1 hs CL cH
 go_wp2_with fail
 refine (K.out _ _ (Below.refl _ _)).mono ?_
 rintro e w2 ⟨rfl,hB⟩
 have HB2:=hid hB
 rw [show ((winB 0 && decide ((0:Int) % 86400=0)) && decide ((0:Int)≤172800))=true by decide]
 clear hB
 go_wp2_with fail
 refine (K.out _ _ HB2.out).mono ?_
 rintro e w3 ⟨rfl,hB⟩
 have HB3:=hid (HB2.out.trans (hB.mono HB2.out.size))
 rw [show ((winB 172800 && decide ((172800:Int) % 86400=0)) && decide ((172800:Int)≤172800))=true by decide]
 clear hB
 go_wp2_with fail
 refine (K.out _ _ HB3.out).mono ?_
 rintro e w4 ⟨rfl,hB⟩
 have HB4:=hid (HB1.out.trans ((HB3.out.trans (hB.mono HB3.out.size)).mono HB1.out.size))
 rw [show ((winB 259200 && decide ((259200:Int) % 86400=0)) && decide ((259200:Int)≤172800))=false by decide]
 clear hB
 go_wp2
 go_ret
 exact ⟨rfl,HB4.out⟩
end
section
open Go.RowKit Go.Maps
def PtrOk (w:World) (d:Option Nat):Prop:=∀x,d=some x→(w.cell? ⟨x,0,none⟩).isSome=true∧∀i,w.frozen? ⟨x,i,none⟩=false
theorem PtrOk.disc {w:World} {d:Option Nat} {q:Nat→Bool} (h:DiscO w d q):PtrOk w d:=fun x hx=>by
 subst hx
 obtain ⟨f,h1,h2,-⟩:=h
 exact ⟨by rw [h1 0 (by omega)]; rfl,h2⟩
theorem PtrOk.block {w w':World} {d:Option Nat} (h:PtrOk w d) (hb:∀x,d=some x→w'.heap[x]? =w.heap[x]?):PtrOk w' d:=fun x hx=>by
 obtain ⟨h1,h2⟩:=h x hx
 exact ⟨by rw [zzJ (w:=w) (a:=⟨x,0,none⟩) (hb x hx)]; exact h1,fun i=>(zzM (w:=w) (a:=⟨x,i,none⟩) (hb x hx)).trans (h2 i)⟩
def PairK (w:World) (v:Value):Prop:=∃d e,v= .agg #[dptr d,dptr e]∧PtrOk w d∧PtrOk w e
theorem yg2 {w:World} {d e:Option Nat} (hd:PtrOk w d) (he:PtrOk w e) (n:Nat):(Op.equalIn (n+1) 105 (dptr d) (dptr e)).run Tryz.prog w= .ok (decide (d=e)) w:=by
 have hp:=Tryz.underlying105
 cases d with
 | none=>
   cases e with
   | none=>simp [Op.equalIn,run_underlying hp,dptr]
   | some y=>simp [Op.equalIn,run_underlying hp,dptr]
 | some x=>
   cases e with
   | none=>simp [Op.equalIn,run_underlying hp,dptr]
   | some y=>
     have hi:((Tryz.prog.info? 189).map fun i=>decide (i.size≠0))=some true:=by kernel_rfl
     cases hj:Tryz.prog.info? 189 with
     | none=>rw [hj] at hi; cases hi
     | some j=>
       rw [hj] at hi
       have hsz:j.size≠0:=by simpa using hi
       have hs:(sameAddr ⟨x,0,none⟩ ⟨y,0,none⟩).run Tryz.prog w= .ok (decide (x=y)) w:=by
        by_cases hne:x=y
        ·subst hne; rw [run_sameAddr_same]; simp
        ·rw [ydF (hd x rfl).1 (he y rfl).1 (hd x rfl).2 (he y rfl).2 hne]; simp [hne]
       simp [Op.equalIn,run_underlying hp,sizeOf,typeInfo,hj,hsz,hs,dptr]
theorem part0 (w:World) (x y:Value):(part 105 #[x,y] 0).run Tryz.prog w= .ok x w:=by kernel_rfl
theorem part1 (w:World) (x y:Value):(part 105 #[x,y] 1).run Tryz.prog w= .ok y w:=by kernel_rfl
theorem yka {w:World} {d e d' e':Option Nat} (h1:PtrOk w d) (h2:PtrOk w e) (h3:PtrOk w d') (h4:PtrOk w e') :
  (Op.equal 230 (.agg #[dptr d,dptr e]) (.agg #[dptr d',dptr e'])).run Tryz.prog w= .ok (decide (d=d') && decide (e=e')) w:=by
 have g1:=yg2 h1 h3 9998
 have g2:=yg2 h2 h4 9998
 have hp:=Tryz.underlying230
 have hi:((Tryz.prog.info? 105).map fun i=>i.size)=some 1:=by kernel_rfl
 cases hj:Tryz.prog.info? 105 with
 | none=>rw [hj] at hi; cases hi
 | some j=>
   rw [hj] at hi
   have hsz:j.size=1:=by simpa using hi
   unfold Op.equal Op.maxDepth
   rw [Op.equalIn]
   simp only [Sem.run_bind,run_underlying hp,Result.andThen_ok,sizeOf,typeInfo]
   have g1':(Op.equalIn 9999 105 (dptr d) (dptr d')).run Tryz.prog w= .ok (decide (d=d')) w:=g1
   have g2':(Op.equalIn 9999 105 (dptr e) (dptr e')).run Tryz.prog w= .ok (decide (e=e')) w:=g2
   simp [hj,hsz]
   rw [show List.range' 0 2= [0,1] from rfl]
   obtain ⟨b1,hb1⟩:∃b,decide (d=d')=b:=⟨_,rfl⟩
   obtain ⟨b2,hb2⟩:∃b,decide (e=e')=b:=⟨_,rfl⟩
   rw [hb1] at g1'⊢
   rw [hb2] at g2'⊢
   cases b1 <;> cases b2 <;> simp [part0,part1,g1',g2',List.forIn_cons]
theorem pairT (w:World):KeyT Tryz.prog 230 (PairK w) w:=by
 refine KeyT.ask Tryz.underlying230 ?_ ?_ ?_ ?_
 ·rintro _ _ ⟨d,e,rfl,-,-⟩ ⟨d',e',rfl,-,-⟩; rfl
 ·rintro em _ ⟨d,e,rfl,-,-⟩
  cases d <;> cases e <;> kernel_rfl
 ·rintro _ _ ⟨d,e,rfl,h1,h2⟩ ⟨d',e',rfl,h3,h4⟩
  refine ⟨_,yka h1 h2 h3 h4,fun h=>?_⟩
  simp only [zzX,zzY] at h
  rw [h.1,h.2]
 ·rintro _ ⟨d,e,rfl,-,-⟩
  cases d <;> cases e <;> simp [Instr.sameBits,dptr]
end
section
open Go.RowKit
theorem ykP (f u n:Int) (w:World) (h0:0≤n) (h1:n < 146097) (hne:¬max (max 0 f) (86400 * n)≤min (min 12622780799 u) (86400 * n+86399)) :
  Calls Tryz.prog 148 #[spv f u, .int .i64 n] w fun e w'=>e= .returned (.tuple #[.int .i64 0, .int .i64 0, .bool false])∧Below w.heap.size w w':=by
 have cD:=hid (fun W=>yjJ n W h0 h1)
 have cM:=hid (fun b W hb k0 k1 k2 k3=>yhH b f u (86400 * n) (86400 * n+86399) W hb k0 k1 k2 k3)
 obtain ⟨d,hdd⟩:∃d,86400 * n=d:=⟨_,rfl⟩
 rw [hdd] at cD cM hne
 obtain ⟨X,hX⟩:∃X,max (max 0 f) d=X:=⟨_,rfl⟩
 obtain ⟨Y,hY⟩:∃Y,min (min 12622780799 u) (d+86399)=Y:=⟨_,rfl⟩
 rw [hX] at cM hne
 rw [hY] at cM hne
 have hhX:yaq X Y=0:=by rcases yaM X Y with ⟨e1,e2,h⟩ | ⟨e1,e2,h⟩ <;> omega
 have hhY:yap X Y= -1:=by rcases yaM X Y with ⟨e1,e2,h⟩ | ⟨e1,e2,h⟩ <;> omega
 rw [hhX,hhY] at cM
 have c1:=hid (fun W=>ybl 0 W (by omega) (by omega))
 have c2:=hid (fun W=>ydR (-1) W (by decide))
 clear hdd h0 h1 hne hX hY hhX hhY
 have HS0:Hid (CtS w (w.alloc (.cells #[.int .i64 f, .int .i64 u] 84)).drew):=⟨(yaa (Below.refl _ _) (zG _)).drew,by show _ < (World.alloc _ _).heap.size; simp⟩
 go_enter Tryz.func148,Tryz.ntmps148
 go_wp2_with fail
 refine wp_region_held_drew (S:=fun w'=>CtS w w') (by kernel_rfl) HS0.out (fun hHeld=>?_)
 refine zhD 1 ?_
 refine wpAnyH_ready (rs:= [0,2]) (by kernel_rfl) (by simp) ?_
 refine AllReadyH.cons rfl (fun K hK=>?_) (AllReadyH.cons rfl (fun K hK=>?_) AllReadyH.nil)
 ·go_simp
  (try go_wp2_with fail)
  refine hK.out _ _ (by assumption) (fun hHeld=>?_)
  clear hK K
  try simp only [zP]
  refine zzK 2 (fun K hK=>?_)
  go_simp
  refine (cD.out _).mono ?_
  rintro e w1 ⟨rfl,hB1⟩
  have k1:=(hB1.cell (p:=⟨w.heap.size,0,none⟩) (by simp [World.size_drew])).trans (show _ =some (.int .i64 f) by simp [go_sem])
  have k2:=(hB1.cell (p:=⟨w.heap.size,1,none⟩) (by simp [World.size_drew])).trans (show _ =some (.int .i64 u) by simp [go_sem])
  have f1:=(hB1.frozen (p:=⟨w.heap.size,0,none⟩) (by simp [World.size_drew])).trans (show _ =false by simp [go_sem])
  have f2:=(hB1.frozen (p:=⟨w.heap.size,1,none⟩) (by simp [World.size_drew])).trans (show _ =false by simp [go_sem])
  have hS1:=CtS.keep hHeld hB1
  (try go_wp2_with fail)
  refine hK.out _ _ hS1 (fun hHeld=>?_)
  clear hK K
  try simp only [zP]
  have hn:=yaa (o:= .cells #[.int .i64 f, .int .i64 u, .int .i64 d, .int .i64 (d+86399)] 84) (Below.refl w1.heap.size w1) (zG _)
  have hl1:w.heap.size < w1.heap.size:=hS1.2
  refine zzK 3 (fun K hK=>?_)
  go_simp
  (try go_wp2_with fail)
  refine hK.out _ _ (CtS.keep hS1 hn) (fun hHeld=>?_)
  clear hK K
  try simp only [zP]
  refine zzK 4 (fun K hK=>?_)
  go_simp
  refine (cM.out w1.heap.size _ (by simp) (by simp [go_sem]) (by simp [go_sem]) (by simp [go_sem]) (by simp [go_sem])).mono ?_
  rintro e w2 ⟨rfl,hB2⟩
  have hS2:=CtS.keep hHeld hB2
  have m1:=(hB2.cell (p:=⟨w.heap.size,0,none⟩) (by simp only [zzN]; omega)).trans ((hn.cell (p:=⟨w.heap.size,0,none⟩) hl1).trans k1)
  have m2:=(hB2.cell (p:=⟨w.heap.size,1,none⟩) (by simp only [zzN]; omega)).trans ((hn.cell (p:=⟨w.heap.size,1,none⟩) hl1).trans k2)
  have n1:=(hB2.frozen (p:=⟨w.heap.size,0,none⟩) (by simp only [zzN]; omega)).trans ((hn.frozen (p:=⟨w.heap.size,0,none⟩) hl1).trans f1)
  have n2:=(hB2.frozen (p:=⟨w.heap.size,1,none⟩) (by simp only [zzN]; omega)).trans ((hn.frozen (p:=⟨w.heap.size,1,none⟩) hl1).trans f2)
  clear hn k1 k2 f1 f2
  (try go_wp2_with fail)
  refine hK.out _ _ (by assumption) (fun hHeld=>?_)
  clear hK K
  try simp only [zP]
  refine zzK 5 (fun K hK=>?_)
  go_simp
  (try go_wp2_with fail)
  refine hK.out _ _ ⟨yab (yab hS2.1 (zG _)) (zG _),by rw [World.size_setCell,World.size_setCell]; exact hS2.2⟩ (fun hHeld=>?_)
  clear hK K
  try simp only [zP]
  refine wpAnyH_done (by kernel_rfl) ?_ _
  have HB2:=hid hS2.1
  go_wp2_with (first | (go_at_call 39; with_reducible refine (c1.out _).mono ?_; rintro e w' ⟨rfl,rfl⟩) | (go_at_call 39; with_reducible refine (c2.out _).mono ?_; rintro e w' ⟨rfl,rfl⟩))
  exact bodyPost_ret (v:= .tuple #[.int .i64 0, .int .i64 0, .bool false]) (by simp [results,Tryz.results148,go_sem]) rfl ⟨rfl,yab (yab HB2.out (zG _)) (zG _)⟩
 ·go_simp
  refine (cD.out _).mono ?_
  rintro e w1 ⟨rfl,hB1⟩
  have k1:=(hB1.cell (p:=⟨w.heap.size,0,none⟩) (by simp [World.size_drew])).trans (show _ =some (.int .i64 f) by simp [go_sem])
  have k2:=(hB1.cell (p:=⟨w.heap.size,1,none⟩) (by simp [World.size_drew])).trans (show _ =some (.int .i64 u) by simp [go_sem])
  have f1:=(hB1.frozen (p:=⟨w.heap.size,0,none⟩) (by simp [World.size_drew])).trans (show _ =false by simp [go_sem])
  have f2:=(hB1.frozen (p:=⟨w.heap.size,1,none⟩) (by simp [World.size_drew])).trans (show _ =false by simp [go_sem])
  have hS1:=CtS.keep hHeld hB1
  (try go_wp2_with fail)
  refine hK.out _ _ hS1 (fun hHeld=>?_)
  clear hK K
  try simp only [zP]
  refine zzK 0 (fun K hK=>?_)
  go_simp
  (try go_wp2_with fail)
  refine hK.out _ _ (by assumption) (fun hHeld=>?_)
  clear hK K
  try simp only [zP]
  have hn:=yaa (o:= .cells #[.int .i64 f, .int .i64 u, .int .i64 d, .int .i64 (d+86399)] 84) (Below.refl w1.heap.size w1) (zG _)
  have hl1:w.heap.size < w1.heap.size:=hS1.2
  refine zzK 3 (fun K hK=>?_)
  go_simp
  (try go_wp2_with fail)
  refine hK.out _ _ (CtS.keep hS1 hn) (fun hHeld=>?_)
  clear hK K
  try simp only [zP]
  refine zzK 4 (fun K hK=>?_)
  go_simp
  refine (cM.out w1.heap.size _ (by simp) (by simp [go_sem]) (by simp [go_sem]) (by simp [go_sem]) (by simp [go_sem])).mono ?_
  rintro e w2 ⟨rfl,hB2⟩
  have hS2:=CtS.keep hHeld hB2
  have m1:=(hB2.cell (p:=⟨w.heap.size,0,none⟩) (by simp only [zzN]; omega)).trans ((hn.cell (p:=⟨w.heap.size,0,none⟩) hl1).trans k1)
  have m2:=(hB2.cell (p:=⟨w.heap.size,1,none⟩) (by simp only [zzN]; omega)).trans ((hn.cell (p:=⟨w.heap.size,1,none⟩) hl1).trans k2)
  have n1:=(hB2.frozen (p:=⟨w.heap.size,0,none⟩) (by simp only [zzN]; omega)).trans ((hn.frozen (p:=⟨w.heap.size,0,none⟩) hl1).trans f1)
  have n2:=(hB2.frozen (p:=⟨w.heap.size,1,none⟩) (by simp only [zzN]; omega)).trans ((hn.frozen (p:=⟨w.heap.size,1,none⟩) hl1).trans f2)
  clear hn k1 k2 f1 f2
  (try go_wp2_with fail)
  refine hK.out _ _ (by assumption) (fun hHeld=>?_)
  clear hK K
  try simp only [zP]
  refine zzK 5 (fun K hK=>?_)
  go_simp
  (try go_wp2_with fail)
  refine hK.out _ _ ⟨yab (yab hS2.1 (zG _)) (zG _),by rw [World.size_setCell,World.size_setCell]; exact hS2.2⟩ (fun hHeld=>?_)
  clear hK K
  try simp only [zP]
  refine wpAnyH_done (by kernel_rfl) ?_ _
  have HB2:=hid hS2.1
  go_wp2_with (first | (go_at_call 39; with_reducible refine (c1.out _).mono ?_; rintro e w' ⟨rfl,rfl⟩) | (go_at_call 39; with_reducible refine (c2.out _).mono ?_; rintro e w' ⟨rfl,rfl⟩))
  exact bodyPost_ret (v:= .tuple #[.int .i64 0, .int .i64 0, .bool false]) (by simp [results,Tryz.results148,go_sem]) rfl ⟨rfl,yab (yab HB2.out (zG _)) (zG _)⟩
def inD (f u n:Int):Bool:=decide (max (max 0 f) (86400 * n)≤min (min 12622780799 u) (86400 * n+86399))
theorem yfo (f u n:Int) (w:World) (h0:0≤n) (h1:n < 146097) :
  Calls Tryz.prog 157 #[spv f u, .int .i64 n] w fun e w'=>e= .returned (.bool (inD f u n))∧Below w.heap.size w w':=by
 by_cases h:max (max 0 f) (86400 * n)≤min (min 12622780799 u) (86400 * n+86399)
 ·have c:=hid (fun W=>yjK f u n W h0 h1 h)
  rw [inD,zzZ h]
  clear h
  go_enter Tryz.func157,Tryz.ntmps157
  go_wp2_with fail
  refine (c.out _).mono ?_
  rintro e w1 ⟨rfl,hB⟩
  have HB:=hid ((yaa (o:= .cells #[.int .i64 f, .int .i64 u] 84) (Below.refl w.heap.size w) (zG _)).trans (hB.mono (by simp)))
  clear hB
  go_wp2
  go_ret
  exact ⟨rfl,HB.out⟩
 ·have c:=hid (fun W=>ykP f u n W h0 h1 h)
  rw [inD,zzd h]
  clear h
  go_enter Tryz.func157,Tryz.ntmps157
  go_wp2_with fail
  refine (c.out _).mono ?_
  rintro e w1 ⟨rfl,hB⟩
  have HB:=hid ((yaa (o:= .cells #[.int .i64 f, .int .i64 u] 84) (Below.refl w.heap.size w) (zG _)).trans (hB.mono (by simp)))
  clear hB
  go_wp2
  go_ret
  exact ⟨rfl,HB.out⟩
end
section
open Go.RowKit
def mbF (f u a:Int):Int:=if yat f u=true then min a (max f 0 / 86400) else a
def mbU (f u a:Int):Int:=if yat f u=true then max a (min u 12622780799 / 86400) else a
theorem yfL (f u a b:Int) (ha:0≤a∧a≤146097) (hb:-1≤b∧b≤146096):0≤mbF f u a∧mbF f u a≤146097∧-1≤mbU f u b∧mbU f u b≤146096:=by
 unfold mbF mbU
 cases e:yat f u
 ·simp; omega
 ·have:max f 0≤min u 12622780799:=by simpa [yat] using e
  simp; omega
structure AsH (x:Nat) (f0 u0 f1 u1:Int) (W:World):Prop where
 c5:W.cell? ⟨x,5,none⟩=some (.int .i64 f0)
 c6:W.cell? ⟨x,6,none⟩=some (.int .i64 u0)
 c7:W.cell? ⟨x,7,none⟩=some (.int .i64 f1)
 c8:W.cell? ⟨x,8,none⟩=some (.int .i64 u1)
 lt:x < W.heap.size
theorem AsH.below {x:Nat} {f0 u0 f1 u1:Int} {W W':World} (h:AsH x f0 u0 f1 u1 W) (hB:Below W.heap.size W W'):AsH x f0 u0 f1 u1 W':=
 ⟨(hB.cell (p:=⟨x,5,none⟩) h.lt).trans h.c5,(hB.cell (p:=⟨x,6,none⟩) h.lt).trans h.c6,(hB.cell (p:=⟨x,7,none⟩) h.lt).trans h.c7,(hB.cell (p:=⟨x,8,none⟩) h.lt).trans h.c8,zH h.lt hB.size⟩
theorem run_sp0 (f0 u0 f1 u1:Int) (W:World):(Instr.index 171 (.agg #[.int .i64 f0, .int .i64 u0, .int .i64 f1, .int .i64 u1]) (.int .i64 0)).run Tryz.prog W= .ok (.agg #[.int .i64 f0, .int .i64 u0]) W:=by kernel_rfl
theorem run_sp1 (f0 u0 f1 u1:Int) (W:World):(Instr.index 171 (.agg #[.int .i64 f0, .int .i64 u0, .int .i64 f1, .int .i64 u1]) (.int .i64 1)).run Tryz.prog W= .ok (.agg #[.int .i64 f1, .int .i64 u1]) W:=by kernel_rfl
attribute [local go_sem] run_sp0 run_sp1
theorem yiK (x:Nat) (f0 u0 f1 u1:Int) (W:World) (h:AsH x f0 u0 f1 u1 W) :
  Calls Tryz.prog 156 #[.pointer (some ⟨x,0,none⟩)] W fun e W'=>e= .returned (.tuple #[.int .i64 (mbF f1 u1 (mbF f0 u0 146097)), .int .i64 (mbU f1 u1 (mbU f0 u0 (-1)))])∧Below W.heap.size W W':=by
 obtain ⟨F1,hF1⟩:∃F1,mbF f0 u0 146097=F1:=⟨_,rfl⟩
 obtain ⟨U1,hU1⟩:∃U1,mbU f0 u0 (-1)=U1:=⟨_,rfl⟩
 rw [hF1,hU1]
 obtain ⟨F2,hF2⟩:∃F2,mbF f1 u1 F1=F2:=⟨_,rfl⟩
 obtain ⟨U2,hU2⟩:∃U2,mbU f1 u1 U1=U2:=⟨_,rfl⟩
 rw [hF2,hU2]
 have HF1:=hid hF1
 have HU1:=hid hU1
 have HF2:=hid hF2
 have HU2:=hid hU2
 clear hF1 hU1 hF2 hU2
 obtain ⟨k5,k6,k7,k8,hlt⟩:=h
 have cD:=hid (fun f u W=>yei f u W)
 go_enter Tryz.func156,Tryz.ntmps156
 go_wp2_with fail
 clear k5 k6 k7 k8
 go_loopw [4,5,7,8,9,10,15] (fun fv uv _ _ _ _ iv wr=>∃i:Int,0≤i∧i≤2∧iv= .int .i64 i∧fv= .int .i64 (if i=0 then 146097 else if i=1 then F1 else F2)∧uv= .int .i64 (if i=0 then -1 else if i=1 then U1 else U2)∧Hid (Below W.heap.size W wr)) (fun _ _ _ _ _ _ iv _=>(2 - intOf iv).toNat)
 case atStart=>exact ⟨0,by omega,by omega,rfl,rfl,rfl,Below.refl _ _⟩
 case round=>
  obtain ⟨i,hi0,hi,rfl,rfl,rfl,HB⟩:=hrel
  have:i=0∨i=1∨i=2:=by omega
  rcases this with rfl | rfl | rfl
  all_goals simp only [if_true,if_false,Int.reduceEq]
  ·have c:=cD.out f0 u0
   cases e:yat f0 u0
   ·rw [e] at c
    simp only [Bool.false_eq_true,if_false] at c
    have C:=hid c
    have E1:Hid (F1=146097):=by show _ = _; rw [←HF1.out,mbF,e]; rfl
    have E2:Hid (U1= (-1)):=by show _ = _; rw [←HU1.out,mbU,e]; rfl
    clear c e
    go_wp2_with fail
    refine (C.out _).mono ?_
    rintro e w1 ⟨rfl,hB⟩
    have HB1:=hid (HB.out.trans (((yaa (o:= .cells #[.int .i64 f0, .int .i64 u0] 84) (Below.refl wr.heap.size wr) (zG _)).trans (hB.mono (by simp))).mono HB.out.size))
    clear hB
    go_wp2
    exact ⟨⟨1,by omega,by omega,by trivial,by rw [←E1.out]; rfl,by rw [←E2.out]; rfl,HB1.out⟩,by simp [intOf]⟩
   ·rw [e] at c
    simp only [if_true] at c
    have C:=hid c
    have E1:Hid (F1=min 146097 (max f0 0 / 86400)):=by show _ = _; rw [←HF1.out,mbF,e]; rfl
    have E2:Hid (U1=max (-1) (min u0 12622780799 / 86400)):=by show _ = _; rw [←HU1.out,mbU,e]; rfl
    obtain ⟨x1,hx1⟩:∃x1,max f0 0 / 86400=x1:=⟨_,rfl⟩
    obtain ⟨x2,hx2⟩:∃x2,min u0 12622780799 / 86400=x2:=⟨_,rfl⟩
    rw [hx1,hx2] at C
    rw [hx1] at E1
    rw [hx2] at E2
    clear c e hx1 hx2
    go_wp2_with fail
    refine (C.out _).mono ?_
    rintro e w1 ⟨rfl,hB⟩
    have HB1:=hid (HB.out.trans (((yaa (o:= .cells #[.int .i64 f0, .int .i64 u0] 84) (Below.refl wr.heap.size wr) (zG _)).trans (hB.mono (by simp))).mono HB.out.size))
    clear hB
    go_wp2
    all_goals
     have h1:=E1.out
     have h2:=E2.out
     exact ⟨⟨1,by omega,by omega,by trivial,by congr 1; (try simp); omega,by congr 1; (try simp); omega,HB1.out⟩,by simp [intOf]⟩
  ·have c:=cD.out f1 u1
   cases e:yat f1 u1
   ·rw [e] at c
    simp only [Bool.false_eq_true,if_false] at c
    have C:=hid c
    have E1:Hid (F2=F1):=by show _ = _; rw [←HF2.out,mbF,e]; rfl
    have E2:Hid (U2=U1):=by show _ = _; rw [←HU2.out,mbU,e]; rfl
    clear c e
    go_wp2_with fail
    refine (C.out _).mono ?_
    rintro e w1 ⟨rfl,hB⟩
    have HB1:=hid (HB.out.trans (((yaa (o:= .cells #[.int .i64 f1, .int .i64 u1] 84) (Below.refl wr.heap.size wr) (zG _)).trans (hB.mono (by simp))).mono HB.out.size))
    clear hB
    go_wp2
    exact ⟨⟨2,by omega,by omega,by trivial,by rw [←E1.out]; rfl,by rw [←E2.out]; rfl,HB1.out⟩,by simp [intOf]⟩
   ·rw [e] at c
    simp only [if_true] at c
    have C:=hid c
    have E1:Hid (F2=min F1 (max f1 0 / 86400)):=by show _ = _; rw [←HF2.out,mbF,e]; rfl
    have E2:Hid (U2=max U1 (min u1 12622780799 / 86400)):=by show _ = _; rw [←HU2.out,mbU,e]; rfl
    obtain ⟨x1,hx1⟩:∃x1,max f1 0 / 86400=x1:=⟨_,rfl⟩
    obtain ⟨x2,hx2⟩:∃x2,min u1 12622780799 / 86400=x2:=⟨_,rfl⟩
    rw [hx1,hx2] at C
    rw [hx1] at E1
    rw [hx2] at E2
    clear c e hx1 hx2
    go_wp2_with fail
    refine (C.out _).mono ?_
    rintro e w1 ⟨rfl,hB⟩
    have HB1:=hid (HB.out.trans (((yaa (o:= .cells #[.int .i64 f1, .int .i64 u1] 84) (Below.refl wr.heap.size wr) (zG _)).trans (hB.mono (by simp))).mono HB.out.size))
    clear hB
    go_wp2
    all_goals
     have h1:=E1.out
     have h2:=E2.out
     exact ⟨⟨2,by omega,by omega,by trivial,by congr 1; (try simp); omega,by congr 1; (try simp); omega,HB1.out⟩,by simp [intOf]⟩
  ·go_wp2
   go_ret2
   exact ⟨rfl,HB.out⟩
end
section
open Go.RowKit Go.Maps
structure RN where
 br:Nat
 bk:Nat
 bps:List Nat
def RN.M (r:RN):Blk:=RM r.br r.bk r.bps
structure TwoR (W:World) (la lb:List Cl) (ra rb:RN) (Fa Fb:Blk) (wa wb:Nat→Bool) (ma mb:Nat):Prop where
 a:RollS W la ra.br ra.bk ra.bps Fa wa ma
 b:RollS W lb rb.br rb.bk rb.bps Fb wb mb
 sa:∀c,Fb c→¬ra.M c
 sb:∀c,Fa c→¬rb.M c
section
variable {W W':World} {la lb:List Cl} {ra rb:RN} {Fa Fb Fa' Fb':Blk} {wa wb wa' wb':Nat→Bool} {ma mb ma' mb':Nat}
theorem TwoR.stepA (h:TwoR W la lb ra rb Fa Fb wa wb ma mb) (hE:Eff ra.M W W') (hR:RollS W' la ra.br ra.bk ra.bps Fa' wa' ma') (hG:GrF Fa Fa' W):TwoR W' la lb ra rb Fa' Fb wa' wb ma' mb:=
 ⟨hR,h.b.keep hE.size (fun c hc=>hE.block c (h.b.x.lt c hc) (h.sa c hc)),h.sa,fun c hc hm=>by
  rcases hG.new c hc with h1 | h1
  ·exact h.sb c h1 hm
  ·have:=h.b.x.lt c (h.b.x.sub c hm); omega⟩
theorem TwoR.stepB (h:TwoR W la lb ra rb Fa Fb wa wb ma mb) (hE:Eff rb.M W W') (hR:RollS W' lb rb.br rb.bk rb.bps Fb' wb' mb') (hG:GrF Fb Fb' W):TwoR W' la lb ra rb Fa Fb' wa wb' ma mb':=
 ⟨h.a.keep hE.size (fun c hc=>hE.block c (h.a.x.lt c hc) (h.sb c hc)),hR,fun c hc hm=>by
  rcases hG.new c hc with h1 | h1
  ·exact h.sa c h1 hm
  ·have:=h.a.x.lt c (h.a.x.sub c hm); omega,h.sb⟩
theorem TwoR.keep (h:TwoR W la lb ra rb Fa Fb wa wb ma mb) (hs:W.heap.size≤W'.heap.size) (ha:∀c,Fa c∨Fb c→W'.heap[c]? =W.heap[c]?):TwoR W' la lb ra rb Fa Fb wa wb ma mb:=
 ⟨h.a.keep hs (fun c hc=>ha c (.inl hc)),h.b.keep hs (fun c hc=>ha c (.inr hc)),h.sa,h.sb⟩
end
structure DOf (W:World) (F M:Blk) (d:Option Nat) (q:Nat→Bool):Prop where
 no:d=none→∀k,k < 86400→q k=false
 yes:∀b,d=some b→DiF W F M b q
theorem DOf.disc {W:World} {F M:Blk} {d:Option Nat} {q:Nat→Bool} (h:DOf W F M d q):DiscO W d q:=by
 cases d with
 | none=>exact h.no rfl
 | some b=>exact (h.yes b rfl).2.2
theorem DOf.keep {W W':World} {F F' M:Blk} {d:Option Nat} {q:Nat→Bool} (h:DOf W F M d q) (hs:W.heap.size≤W'.heap.size) (hF:∀b,F b→F' b) (hb:∀b,F b∧¬M b→W'.heap[b]? =W.heap[b]?):DOf W' F' M d q:=
 ⟨h.no,fun b hd=>by
  obtain ⟨h1,h2,h3⟩:=h.yes b hd
  exact ⟨hF b h1,h2,h3.block hs (hb b ⟨h1,h2⟩)⟩⟩
theorem DOf.unique {W:World} {F M:Blk} {d:Option Nat} {q q':Nat→Bool} (h:DOf W F M d q) (h':DOf W F M d q') {k:Nat} (hk:k < 86400):q k=q' k:=by
 cases d with
 | none=>rw [h.no rfl k hk,h'.no rfl k hk]
 | some b=>exact DiscAt.unique (h.yes b rfl).2.2 (h'.yes b rfl).2.2 k hk
def FineK (W:World) (Fa Fb:Blk) (ra rb:RN) (v:Value):Prop:=∃d e qa qb,v= .agg #[dptr d,dptr e]∧DOf W Fa ra.M d qa∧DOf W Fb rb.M e qb
def FineG (pw:Bool→Bool→Bool) (W:World) (Fa Fb:Blk) (ra rb:RN) (key v:Value):Prop:=
 v= .bool true∧∃d e qa qb,key= .agg #[dptr d,dptr e]∧DOf W Fa ra.M d qa∧DOf W Fb rb.M e qb∧∀k,k < 86400→pw (qa k) (qb k)=false
theorem fineT (W:World) (Fa Fb:Blk) (ra rb:RN):KeyT Tryz.prog 230 (FineK W Fa Fb ra rb) W:=
 (pairT W).sub fun v ⟨d,e,qa,qb,h1,h2,h3⟩=>⟨d,e,h1,PtrOk.disc h2.disc,PtrOk.disc h3.disc⟩
theorem yjv {d e:Option Nat} (h:dptr d=dptr e):d=e:=by
 cases d <;> cases e
 ·rfl
 ·cases h
 ·cases h
 ·injection h with h; injection h with h; injection h with h; rw [h]
theorem pair_inj {d e d' e':Option Nat} (h:(Value.agg #[dptr d,dptr e])= .agg #[dptr d',dptr e']):d=d'∧e=e':=by
 injection h with h
 have h1:=congrArg (fun a=>a.getD 0 undef) h
 have h2:=congrArg (fun a=>a.getD 1 undef) h
 exact ⟨yjv (by simpa using h1),yjv (by simpa using h2)⟩
theorem FineG.none {pw:Bool→Bool→Bool} {W:World} {Fa Fb:Blk} {ra rb:RN} {d e:Option Nat} {qa qb:Nat→Bool} {v:Value} (h:FineG pw W Fa Fb ra rb (.agg #[dptr d,dptr e]) v) (ha:DOf W Fa ra.M d qa) (hb:DOf W Fb rb.M e qb):v= .bool true∧FirstOf (fun k=>pw (qa k) (qb k)) 0 false:=by
 obtain ⟨rfl,d',e',qa',qb',h1,h2,h3,h4⟩:=h
 obtain ⟨rfl,rfl⟩:=pair_inj h1
 exact ⟨rfl, .inr ⟨rfl,rfl,fun k hk=>by show pw (qa k) (qb k)=false; rw [ha.unique h2 hk,hb.unique h3 hk]; exact h4 k hk⟩⟩
structure AsS (x fm:Nat) (fv:Value) (pw:Bool→Bool→Bool) (la lb:List Cl) (ra rb:RN) (f0 u0 f1 u1:Int) (Fa Fb:Blk) (wa wb:Nat→Bool) (ma mb:Nat) (days:Int) (W:World):Prop where
 two:TwoR W la lb ra rb Fa Fb wa wb ma mb
 c0:W.cell? ⟨x,0,none⟩=some (.pointer (some ⟨ra.br,0,none⟩))
 c1:W.cell? ⟨x,1,none⟩=some (.pointer (some ⟨rb.br,0,none⟩))
 c2:W.cell? ⟨x,2,none⟩=some fv
 c3:W.cell? ⟨x,3,none⟩=some (.map (some fm))
 c4:W.cell? ⟨x,4,none⟩=some (.int .i64 days)
 z4:W.frozen? ⟨x,4,none⟩=false
 hul:AsH x f0 u0 f1 u1 W
 fine:MapS (FineK W Fa Fb ra rb) (FineG pw W Fa Fb ra rb) W fm 512
 nx:¬Fa x∧¬Fb x
 nf:¬Fa fm∧¬Fb fm
 ne:x≠fm
section
variable {x fm:Nat} {fv:Value} {pw:Bool→Bool→Bool} {la lb:List Cl} {ra rb:RN} {f0 u0 f1 u1 days:Int} {Fa Fb Fa' Fb':Blk} {wa wb wa' wb':Nat→Bool} {ma mb ma' mb':Nat} {W W':World}
theorem FineG.keep {key v:Value} (h:FineG pw W Fa Fb ra rb key v) (hs:W.heap.size≤W'.heap.size) (ha:∀b,Fa b→Fa' b) (hb:∀b,Fb b→Fb' b) (h1:∀b,Fa b∧¬ra.M b→W'.heap[b]? =W.heap[b]?) (h2:∀b,Fb b∧¬rb.M b→W'.heap[b]? =W.heap[b]?):FineG pw W' Fa' Fb' ra rb key v:=by
 obtain ⟨g1,d,e,qa,qb,g2,g3,g4,g5⟩:=h
 exact ⟨g1,d,e,qa,qb,g2,g3.keep hs ha h1,g4.keep hs hb h2,g5⟩
theorem FineK.keep {v:Value} (h:FineK W Fa Fb ra rb v) (hs:W.heap.size≤W'.heap.size) (ha:∀b,Fa b→Fa' b) (hb:∀b,Fb b→Fb' b) (h1:∀b,Fa b∧¬ra.M b→W'.heap[b]? =W.heap[b]?) (h2:∀b,Fb b∧¬rb.M b→W'.heap[b]? =W.heap[b]?):FineK W' Fa' Fb' ra rb v:=by
 obtain ⟨d,e,qa,qb,g2,g3,g4⟩:=h
 exact ⟨d,e,qa,qb,g2,g3.keep hs ha h1,g4.keep hs hb h2⟩
theorem AsS.turn (h:AsS x fm fv pw la lb ra rb f0 u0 f1 u1 Fa Fb wa wb ma mb days W) (hT:TwoR W' la lb ra rb Fa' Fb' wa' wb' ma' mb') (hE:Eff (fun b=>ra.M b∨rb.M b) W W') (ga:GrF Fa Fa' W) (gb:GrF Fb Fb' W):AsS x fm fv pw la lb ra rb f0 u0 f1 u1 Fa' Fb' wa' wb' ma' mb' days W':=by
 have lx:=h.hul.lt
 have lf:=h.fine.lt
 have nMx:¬(ra.M x∨rb.M x):=fun hm=>hm.elim (fun h1=>h.nx.1 (h.two.a.x.sub x h1)) (fun h1=>h.nx.2 (h.two.b.x.sub x h1))
 have nMf:¬(ra.M fm∨rb.M fm):=fun hm=>hm.elim (fun h1=>h.nf.1 (h.two.a.x.sub fm h1)) (fun h1=>h.nf.2 (h.two.b.x.sub fm h1))
 have cc:∀i,W'.cell? ⟨x,i,none⟩=W.cell? ⟨x,i,none⟩:=fun i=>hE.cell (p:=⟨x,i,none⟩) lx nMx
 have ka:∀b,Fa b∧¬ra.M b→W'.heap[b]? =W.heap[b]?:=fun b hb=>hE.block b (h.two.a.x.lt b hb.1) (fun hm=>hm.elim hb.2 (h.two.sb b hb.1))
 have kb:∀b,Fb b∧¬rb.M b→W'.heap[b]? =W.heap[b]?:=fun b hb=>hE.block b (h.two.b.x.lt b hb.1) (fun hm=>hm.elim (h.two.sa b hb.1) hb.2)
 exact ⟨hT,(cc 0).trans h.c0,(cc 1).trans h.c1,(cc 2).trans h.c2,(cc 3).trans h.c3,(cc 4).trans h.c4,(hE.frozen (p:=⟨x,4,none⟩) lx nMx).trans h.z4,
  ⟨(cc 5).trans h.hul.c5,(cc 6).trans h.hul.c6,(cc 7).trans h.hul.c7,(cc 8).trans h.hul.c8,zH lx hE.size⟩,
  (h.fine.keep (hE.block fm lf nMf)).mono (zG _) (fun v hv=>hv.keep hE.size ga.sub gb.sub ka kb) (fun k v hv=>hv.keep hE.size ga.sub gb.sub ka kb),
  ⟨fun hx=>(ga.new x hx).elim h.nx.1 (fun hl=>by omega),fun hx=>(gb.new x hx).elim h.nx.2 (fun hl=>by omega)⟩,⟨fun hx=>(ga.new fm hx).elim h.nf.1 (fun hl=>by omega),fun hx=>(gb.new fm hx).elim h.nf.2 (fun hl=>by omega)⟩,h.ne⟩
theorem AsS.map (h:AsS x fm fv pw la lb ra rb f0 u0 f1 u1 Fa Fb wa wb ma mb days W) (hg:W.grownBy W' (some fm)) (hM:MapS (FineK W Fa Fb ra rb) (FineG pw W Fa Fb ra rb) W' fm 512):AsS x fm fv pw la lb ra rb f0 u0 f1 u1 Fa Fb wa wb ma mb days W':=by
 have lx:=h.hul.lt
 have hb:∀b,b < W.heap.size→b≠fm→W'.heap[b]? =W.heap[b]?:=fun b hb hn=>hg.block b hb (fun e=>hn (by cases e; rfl))
 have cc:∀i,W'.cell? ⟨x,i,none⟩=W.cell? ⟨x,i,none⟩:=fun i=>zzJ (w:=W) (a:=⟨x,i,none⟩) (hb x lx h.ne)
 have ka:∀b,Fa b∨Fb b→W'.heap[b]? =W.heap[b]?:=fun b hF=>hF.elim (fun h1=>hb b (h.two.a.x.lt b h1) (fun e=>h.nf.1 (e ▸ h1))) (fun h1=>hb b (h.two.b.x.lt b h1) (fun e=>h.nf.2 (e ▸ h1)))
 exact ⟨h.two.keep hg.size ka,(cc 0).trans h.c0,(cc 1).trans h.c1,(cc 2).trans h.c2,(cc 3).trans h.c3,(cc 4).trans h.c4,(zzM (w:=W) (a:=⟨x,4,none⟩) (hb x lx h.ne)).trans h.z4,
  ⟨(cc 5).trans h.hul.c5,(cc 6).trans h.hul.c6,(cc 7).trans h.hul.c7,(cc 8).trans h.hul.c8,zH lx hg.size⟩,
  hM.mono (zG _) (fun v hv=>hv.keep hg.size (fun _ h=>h) (fun _ h=>h) (fun b hb=>ka b (.inl hb.1)) (fun b hb=>ka b (.inr hb.1))) (fun k v hv=>hv.keep hg.size (fun _ h=>h) (fun _ h=>h) (fun b hb=>ka b (.inl hb.1)) (fun b hb=>ka b (.inr hb.1))),h.nx,h.nf,h.ne⟩
theorem AsS.below (h:AsS x fm fv pw la lb ra rb f0 u0 f1 u1 Fa Fb wa wb ma mb days W) (hB:Below W.heap.size W W'):AsS x fm fv pw la lb ra rb f0 u0 f1 u1 Fa Fb wa wb ma mb days W':=
 h.turn (h.two.keep hB.size (fun c hc=>hB.block c (hc.elim (h.two.a.x.lt c) (h.two.b.x.lt c)))) (Eff.of_below hB) (GrF.refl _ _) (GrF.refl _ _)
end
theorem ygi {l:List Cl} (h:mayL l=true):l.length≤8:=by rw [mayL,zzX,zzY] at h; exact h.1
theorem AtA_any {W:World} {la lb:List Cl} {ra rb:RN} {Fa Fb:Blk} {wa wb:Nat→Bool} {ma mb:Nat} (n:Int) (h0:0≤n) (h1:n < 146097) (hm:ma < 4611686018427387904) (h:TwoR W la lb ra rb Fa Fb wa wb ma mb) :
  Calls Tryz.prog 106 #[.pointer (some ⟨ra.br,0,none⟩),shN n] W fun e W'=>∃d Fa' wa' ma',e= .returned (dptr d)∧TwoR W' la lb ra rb Fa' Fb wa' wb ma' mb∧GrF Fa Fa' W∧Eff ra.M W W'∧ybn la n wa ma wa' ma'∧DOf W' Fa' ra.M d (dayQ la n):=by
 refine (ygD n h0 h1 hm h.a).mono fun e W' ⟨d,F',ws',m',g1,g2,g3,g4,g5,g6,g7⟩=>⟨d,F',ws',m',g1,h.stepA g4 g2 g3,g3,g4,g5,⟨fun hd k hk=>yda (ygi g2.x.may) h0 h1 (g6 hd) hk,g7⟩⟩
theorem AtB_any {W:World} {la lb:List Cl} {ra rb:RN} {Fa Fb:Blk} {wa wb:Nat→Bool} {ma mb:Nat} (n:Int) (h0:0≤n) (h1:n < 146097) (hm:mb < 4611686018427387904) (h:TwoR W la lb ra rb Fa Fb wa wb ma mb) :
  Calls Tryz.prog 106 #[.pointer (some ⟨rb.br,0,none⟩),shN n] W fun e W'=>∃d Fb' wb' mb',e= .returned (dptr d)∧TwoR W' la lb ra rb Fa Fb' wa wb' ma mb'∧GrF Fb Fb' W∧Eff rb.M W W'∧ybn lb n wb mb wb' mb'∧DOf W' Fb' rb.M d (dayQ lb n):=by
 refine (ygD n h0 h1 hm h.b).mono fun e W' ⟨d,F',ws',m',g1,g2,g3,g4,g5,g6,g7⟩=>⟨d,F',ws',m',g1,h.stepB g4 g2 g3,g3,g4,g5,⟨fun hd k hk=>yda (ygi g2.x.may) h0 h1 (g6 hd) hk,g7⟩⟩
end
end Go.Proofs.YtjahgimnfliooaaGreatDoor
