/-
  ferialaw23.lives: the chapter's examples.
  ferialaw17.May: the document's answer for sets.
-/
import Derived.Test.YtmjljpdeohbfbaaGreatDoorQb5971e
import Derived.Test.YtmjljpdeohbfbaaGreatDoorQ24c4d6
import Derived.BigRegion
import Derived.Test.YtmjljpdeohbfbaaGreatDoorQb23b8c
import Derived.Test.YtmjljpdeohbfbaaGreatDoorQ3ff0e3
namespace Go.Proofs.YtmjljpdeohbfbaaGreatDoor
set_option linter.unusedVariables false
section
open Go.RowKit Go.Maps
attribute [local go_sem ↓] loadAt_7i storeAt_7i
theorem full_inst {t:Int} (h0:0≤t) (h1:t < 12622780800):instB [fullCl] t=true:=by
 rw [instB,List.any_cons,List.any_nil,Bool.or_false]
 exact full_has (by rw [winB,decide_eq_true_eq]; omega)
theorem full_gap {u:Nat} (hu:u < 7):∃s t:Int,0≤s∧s < 12622780800∧0≤t∧t < 12622780800∧unT u t - unT u s=1:=by
 have h7:u=0∨u=1∨u=2∨u=3∨u=4∨u=5∨u=6:=by omega
 rcases h7 with rfl | rfl | rfl | rfl | rfl | rfl | rfl
 ·exact ⟨0,1,by omega,by omega,by omega,by omega,by decide +kernel⟩
 ·exact ⟨0,60,by omega,by omega,by omega,by omega,by decide +kernel⟩
 ·exact ⟨0,3600,by omega,by omega,by omega,by omega,by decide +kernel⟩
 ·exact ⟨0,86400,by omega,by omega,by omega,by omega,by decide +kernel⟩
 ·exact ⟨0,345600,by omega,by omega,by omega,by omega,by decide +kernel⟩
 ·exact ⟨0,2678400,by omega,by omega,by omega,by omega,by decide +kernel⟩
 ·exact ⟨0,31536000,by omega,by omega,by omega,by omega,by decide +kernel⟩
theorem full_pulse {u:Nat} (hu:u < 7) {y:Bool} {f g:Int} (h:BeatP (PuU [fullCl] u) y f g):g=1:=by
 obtain ⟨s,t,s0,s1,t0,t1,e⟩:=full_gap hu
 have h1:=(h.dvd g).1 (Int.dvd_refl g) _ _ ⟨t,full_inst t0 t1,rfl⟩ ⟨s,full_inst s0 s1,rfl⟩
 rw [e] at h1
 have h0:=h.ge
 have:=Int.le_of_dvd (by omega) h1
 rcases Int.lt_or_eq_of_le h0 with h2 | h2
 ·omega
 ·rw [←h2,Int.zero_dvd] at h1; omega
attribute [local irreducible] secL
theorem ten_beat:(nrB (secL (memD [0,30,50])) 0).2.2=10:=by
 have h:=nrB_q (secL (memD [0,30,50])) 0 _ (zG _)
 rw [List.take_length] at h
 have hS:∀v,(∃x∈secL (memD [0,30,50]),v=x / szI 0)↔v=0∨v=30∨v=50:=fun v=>by
  constructor
  ·rintro ⟨x,hx,rfl⟩
   obtain ⟨j,hj,hq,rfl⟩:=secL_has.1 hx
   rw [show szI 0=1 from rfl,Int.ediv_one]
   simp [memD] at hq
   omega
  ·intro hv
   rcases hv with rfl | rfl | rfl
   ·exact ⟨0,secL_has.2 ⟨0,by omega,by simp [memD],rfl⟩,by rw [show szI 0=1 from rfl,Int.ediv_one]⟩
   ·exact ⟨30,secL_has.2 ⟨30,by omega,by simp [memD],rfl⟩,by rw [show szI 0=1 from rfl,Int.ediv_one]⟩
   ·exact ⟨50,secL_has.2 ⟨50,by omega,by simp [memD],rfl⟩,by rw [show szI 0=1 from rfl,Int.ediv_one]⟩
 have k:BeatP (fun v=>v=0∨v=30∨v=50) _ _ _:=h.congr hS
 obtain ⟨G,hG⟩:∃G,(nrB (secL (memD [0,30,50])) 0).2.2=G:=⟨_,rfl⟩
 rw [hG] at k⊢
 have p:=(k.dvd G).1 (Int.dvd_refl G)
 have p1:G ∣ 30:=by have:=p 30 0 (by simp) (by simp); simpa using this
 have p2:G ∣ 20:=by have:=p 50 30 (by simp) (by simp); simpa using this
 have p3:G ∣ 10:=by have:=Int.dvd_sub p1 p2; simpa using this
 have q:(10:Int) ∣ G:=(k.dvd 10).2 fun x y hx hy=>by
  rcases hx with rfl | rfl | rfl <;> rcases hy with rfl | rfl | rfl <;> decide
 have h0:=k.ge
 exact Int.dvd_antisymm h0 (by omega) p3 q
def eql7S (u v:Value):Sem Value:=binOp .eql 50 u v
theorem eql_7i (u v:Value):binOp .eql 50 u v=eql7S u v:=rfl
attribute [local go_sem ↓] eql_7i
theorem run_eqg7 (W:World):(eqGuard .eql 50 (.tmp 11) (.tmp 12) (.agg #[.int .i64 1, .int .i64 1, .int .i64 1, .int .i64 1, .int .i64 1, .int .i64 1, .int .i64 1]) (.agg #[.int .i64 1, .int .i64 1, .int .i64 1, .int .i64 1, .int .i64 1, .int .i64 1, .int .i64 1])).run Tryz.prog W= .ok () W:=by kernel_rfl
theorem run_eql7 (W:World):(eql7S (.agg #[.int .i64 1, .int .i64 1, .int .i64 1, .int .i64 1, .int .i64 1, .int .i64 1, .int .i64 1]) (.agg #[.int .i64 1, .int .i64 1, .int .i64 1, .int .i64 1, .int .i64 1, .int .i64 1, .int .i64 1])).run Tryz.prog W= .ok (.bool true) W:=by kernel_rfl
attribute [local go_sem] run_eqg7 run_eql7
set_option maxRecDepth 100000 in
set_option maxHeartbeats 3200000 in
theorem Lives23_any (w:World) (hT:Tab w):Calls Tryz.prog 27 #[] w fun e w'=>e= .returned (.bool true)∧Below w.heap.size w w':=by
 have cW:=hid (IWhole_any w)
 have cP:=hid (fun (g:Nat) W (hB:Below w.heap.size w W) (h:Sl W (some ⟨g,0,none⟩) (cls [fullCl]))=>POf_any (some ⟨g,0,none⟩) 1 [fullCl] W (by simp) (by simp) h (fun h=>by cases h) (fun c hc=>by rw [List.mem_singleton] at hc; subst hc; exact full_ok) (hT.later hB))
 have cS:=hid (fun W (hB:Below w.heap.size w W)=>by
  have e:=PSeconds_any (some ⟨W.heap.size,0,none⟩) 3 [0,30,50] (W.alloc (.cells #[.int .i64 0, .int .i64 30, .int .i64 50] 3)) (by simp) (sl_range (cs:= [.int .i64 0, .int .i64 30, .int .i64 50]) (range_new W _ _) (by simp)) (hT.later (below_new hB hB.size))
  rw [ten_beat] at e
  exact e)
 clear hT
 go_enter Tryz.func27,Tryz.ntmps27
 go_wp2_with fail
 refine cW.out.mono ?_
 rintro e w1 ⟨⟨g,rfl,hO⟩,hB1⟩
 obtain ⟨a1,cap1,e1,hsl,-⟩:=owns_form hO
 injection e1 with e1 e2 e3
 subst e1
 have HB1:=hid hB1
 have cP1:=hid (cP.out g w1 hB1 hsl)
 clear hB1 hO hsl cW cP e2 e3
 go_wp2_with fail
 refine cP1.out.mono ?_
 rintro e w2 ⟨⟨G,rfl,-,hg⟩,hB2⟩
 have HB2:=hid (HB1.out.trans (hB2.mono HB1.out.size))
 have hG:arr7 G= .agg #[.int .i64 1, .int .i64 1, .int .i64 1, .int .i64 1, .int .i64 1, .int .i64 1, .int .i64 1]:=by
  have h1:∀u,u < 7→G u=1:=fun u hu=>by
   obtain ⟨y,f,h⟩:=hg fault_full u hu
   exact full_pulse hu h
  rw [arr7,L7]
  simp [List.range,List.range.loop,h1]
 rw [fault_full,hG]
 have e8:Ar7 w2.heap.size (fun _=>0) (w2.alloc (.cells #[.int .i64 0, .int .i64 0, .int .i64 0, .int .i64 0, .int .i64 0, .int .i64 0, .int .i64 0] 50)):=ar7_new w2 50
 have hst8:=e8.st G
 have H8:=e8.put G
 have HB8:Hid (Below w2.heap.size w2 ((w2.alloc (.cells #[.int .i64 0, .int .i64 0, .int .i64 0, .int .i64 0, .int .i64 0, .int .i64 0, .int .i64 0] 50)).setCells w2.heap.size 0 (L7 G))):=(below_new (Below.refl _ _) (zG _)).trans ((Eff.setCells (O:=fun x=>x=w2.heap.size) rfl (L7 G) 0 _ (Eff.refl _ _)).below (by rintro b rfl; exact zG _) (by simp))
 obtain ⟨w3,hw3⟩:∃w3,(w2.alloc (.cells #[.int .i64 0, .int .i64 0, .int .i64 0, .int .i64 0, .int .i64 0, .int .i64 0, .int .i64 0] 50)).setCells w2.heap.size 0 (L7 G)=w3:=⟨_,rfl⟩
 rw [hw3] at H8 HB8 hst8
 rw [hG] at hst8
 have hld:=H8.ld
 rw [hG] at hld
 have HB3:=hid (HB2.out.trans (HB8.out.mono HB2.out.size))
 have cS3:=hid (cS.out w3 HB3.out)
 clear hB2 hg hG e8 hw3 H8 cS cP1
 go_wp2_with fail
 refine cS3.out.mono ?_
 rintro e w4 ⟨rfl,hB4⟩
 have HB4:=hid (HB3.out.trans ((below_new (Below.refl _ _) (zG _)).trans (hB4.mono (by simp)) |>.mono HB3.out.size))
 clear hB4 cS3
 go_wp2
 go_ret
 exact ⟨rfl,HB4.out⟩
end
section
open Go.RowKit
attribute [local go_sem ↓] loadAt_cl
set_option maxRecDepth 100000 in
set_option maxHeartbeats 3200000 in
theorem RMay17_any (a:Option Addr) (cap:Nat) (l:List Cl) (w:World) (hl:l.length≤1000) (hs:Sl w a (cls l)) (hok:∀c∈l,c.Ok) :
  Calls Tryz.prog 19 #[.slice a l.length cap] w fun e w'=>e= .returned (.bool (mayL l))∧Below w.heap.size w w':=by
 have Hs:=hid hs
 have Hok:=hid hok
 clear hs hok
 go_enter Tryz.func19,Tryz.ntmps19
 go_wp2_with fail
 go_loopw [3] (fun i wr=>∃k:Nat,i= .int .i64 k∧k≤l.length∧k≤9∧Hid ((l.take k).all mayC=true)∧Hid (Below w.heap.size w wr)) (fun i _=>l.length - (intOf i).toNat)
 case atStart=>exact ⟨0,rfl,by omega,by omega,by show _ = _; rfl,Below.refl _ _⟩
 case round=>
  obtain ⟨k,rfl,hk,hk9,hall,HB⟩:=hrel
  by_cases hlt:k < l.length
  ·by_cases h9:k < 9
   ·have hltI:(k:Int) < l.length:=by omega
    have h9I:(k:Int) < 9:=by omega
    obtain ⟨b,off,rfl,hbk,hr⟩:=Hs.out.atCl hlt
    have hr':=range_below hr HB.out hbk
    have hcOk:=hid (Hok.out _ (List.getElem_mem hlt))
    have ts:=hid (take_snoc l k hlt)
    have hmem:=hid (List.getElem_mem hlt)
    obtain ⟨c,hc⟩:∃c,l[k]=c:=⟨_,rfl⟩
    rw [hc] at hr' hcOk ts hmem
    have le:=ld_at hr'
    have cM:=hid (fun W=>RMayCl_any c W hcOk.out)
    cases hm:mayC c
    ·rw [hm] at cM
     have hno:Hid (mayL l=false):=by
      show _ = _
      rw [mayL,show l.all mayC=false by rw [List.all_eq_false]; exact ⟨c,hmem.out,by rw [hm]; simp⟩,Bool.and_false]
     clear hr hr' hc hm
     go_wp2_with fail
     refine (cM.out _).mono ?_
     rintro e w1 ⟨rfl,hB1⟩
     have HB1:=hid (HB.out.trans (hB1.mono HB.out.size))
     clear hB1 le
     go_wp2
     go_ret
     rw [hno.out]
     exact ⟨rfl,HB1.out⟩
    ·rw [hm] at cM
     have hyes:Hid ((l.take (k+1)).all mayC=true):=by show _ = _; rw [ts.out,List.all_append,hall.out,List.all_cons,hm]; rfl
     clear hr hr' hc hm
     go_wp2_with fail
     refine (cM.out _).mono ?_
     rintro e w1 ⟨rfl,hB1⟩
     have HB1:=hid (HB.out.trans (hB1.mono HB.out.size))
     clear hB1 le
     go_wp2
     exact ⟨⟨k+1,by go_num,by omega,by omega,hyes,HB1⟩,by simp [intOf]; omega⟩
   ·have hltI:(k:Int) < l.length:=by omega
    have h9I:¬(k:Int) < 9:=by omega
    have hno:Hid (mayL l=false):=by show _ = _; rw [mayL,decide_eq_false (by omega)]; rfl
    have h8J:decide ((l.length:Int)≤8)=false:=decide_eq_false (by omega)
    have h8I:¬(l.length:Int)≤8:=by omega
    go_wp2
    go_ret
    rw [hno.out]
    exact ⟨rfl,HB.out⟩
  ·have hltI:¬(k:Int) < l.length:=by omega
   have hke:l.take k=l:=List.take_of_length_le (by omega)
   rw [hke] at hall
   clear hke
   by_cases h8:l.length≤8
   ·have hno:Hid (mayL l=true):=by show _ = _; rw [mayL,decide_eq_true h8,hall.out]; rfl
    have h8I:(l.length:Int)≤8:=by omega
    clear hall
    go_wp2
    go_ret
    rw [hno.out]
    exact ⟨rfl,HB.out⟩
   ·have hno:Hid (mayL l=false):=by show _ = _; rw [mayL,decide_eq_false h8]; rfl
    have h8I:¬(l.length:Int)≤8:=by omega
    clear hall
    go_wp2
    go_ret
    rw [hno.out]
    exact ⟨rfl,HB.out⟩
end
end Go.Proofs.YtmjljpdeohbfbaaGreatDoor
