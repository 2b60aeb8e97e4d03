/-
  ferialaw17.Has: the document's answer for sets.
  ferialaw21.held: a verdict that is the least instant, held against days that are told.
  meet.verdict: what is found of two sets.
-/
import Derived.Test.YtmjljpdeohbfbaaGreatDoorQ123253
import Derived.Test.YtmjljpdeohbfbaaGreatDoorQe3eab4
import Derived.Test.YtmjljpdeohbfbaaGreatDoorQ08d314
import Derived.Deep.CutRange
namespace Go.Proofs.YtmjljpdeohbfbaaGreatDoor
set_option linter.unusedVariables false
section
open Go.RowKit
attribute [local go_sem ↓] loadAt_cl
set_option maxRecDepth 100000 in
set_option maxHeartbeats 3200000 in
theorem RHas17_any (a:Option Addr) (cap:Nat) (l:List Cl) (t:Int) (w:World) (hl:l.length≤1000) (hs:Sl w a (cls l)) (hok:∀c∈l,c.Ok) :
  Calls Tryz.prog 38 #[.slice a l.length cap, .int .i64 t] w fun e w'=>e= .returned (.bool (hasL l t))∧Below w.heap.size w w':=by
 have cM:=hid (fun W (h:Sl W a (cls l))=>RMay17_any a cap l W hl h hok)
 have Hs:=hid hs
 have Hok:=hid hok
 have hhas:hasL l t= (mayL l && l.any (fun c=>hasC c t)):=rfl
 rw [hhas]
 obtain ⟨m,hm⟩:∃m,mayL l=m:=⟨_,rfl⟩
 rw [hm] at cM⊢
 clear hs hok hm hhas
 go_enter Tryz.func38,Tryz.ntmps38
 go_wp2_with fail
 go_loopw [5,6] (fun v i wr=>∃k:Nat,i= .int .i64 k∧k≤l.length∧v= .bool ((l.take k).any (fun c=>hasC c t))∧Hid (m=false→k=0)∧Hid (Below w.heap.size w wr)) (fun _ i _=>l.length - (intOf i).toNat)
 case atStart=>exact ⟨0,rfl,by omega,rfl,fun _=>rfl,Below.refl _ _⟩
 case round=>
  obtain ⟨k,rfl,hk,rfl,hm0,HB⟩:=hrel
  obtain ⟨v,hv⟩:∃v,(l.take k).any (fun c=>hasC c t)=v:=⟨_,rfl⟩
  have Hv:=hid hv
  rw [hv]
  by_cases hlt:k < l.length
  ·have hltI:(k:Int) < l.length:=by omega
   have cM1:=hid (cM.out wr (Hs.out.below HB.out))
   cases m
   ·have hz:Hid (k=0):=hm0.out rfl
    have hvf:v=false:=by rw [←hv,hz.out]; rfl
    clear hv
    go_wp2_with fail
    refine cM1.out.mono ?_
    rintro e w1 ⟨rfl,hB1⟩
    have HB1:=hid (HB.out.trans (hB1.mono HB.out.size))
    have Hvf:=hid hvf
    clear hB1 hvf
    go_wp2
    go_ret
    exact ⟨ret_bool rfl,HB1.out⟩
   ·obtain ⟨b,off,rfl,hbk,hr⟩:=Hs.out.atCl hlt
    have hr':=range_below hr HB.out hbk
    have hbw:b < wr.heap.size:=zH hbk HB.out.size
    have hcOk:=hid (Hok.out _ (List.getElem_mem hlt))
    have ts:=hid (take_snoc l k hlt)
    obtain ⟨c,hc⟩:∃c,l[k]=c:=⟨_,rfl⟩
    rw [hc] at hr' hcOk ts
    have cH:=hid (fun W=>RHas13_any c t W hcOk.out)
    obtain ⟨x,hx⟩:∃x,hasC c t=x:=⟨_,rfl⟩
    rw [hx] at cH
    have hnx:Hid ((l.take (k+1)).any (fun c=>hasC c t)= (v || x)):=by show _ = _; rw [ts.out,List.any_append,Hv.out,List.any_cons,hx]; simp
    clear hr hc hx hv
    have Hr':=hid hr'
    go_wp2_with fail
    refine cM1.out.mono ?_
    rintro e w1 ⟨rfl,hB1⟩
    have HB1:=hid (HB.out.trans (hB1.mono HB.out.size))
    have le:=ld_at (range_below Hr'.out hB1 hbw)
    clear hB1 hr'
    cases v
    ·go_wp2_with fail
     refine (cH.out _).mono ?_
     rintro e w2 ⟨rfl,hB2⟩
     have HB2:=hid (HB1.out.trans (hB2.mono HB1.out.size))
     clear hB2 le
     go_wp2
     exact ⟨⟨k+1,by go_num,by omega,by rw [hnx.out,Bool.false_or],hid (fun h=>(by cases h)),HB2⟩,by simp [intOf]; omega⟩
    ·go_wp2
     exact ⟨⟨k+1,by go_num,by omega,by rw [hnx.out,Bool.true_or],hid (fun h=>(by cases h)),HB1⟩,by simp [intOf]; omega⟩
  ·have hltI:¬(k:Int) < l.length:=by omega
   have hres:Hid (v= (m && l.any (fun c=>hasC c t))):=by
    show _ = _
    rw [←hv,List.take_of_length_le (by omega)]
    cases m
    ·have h0:=hm0.out rfl
     have hn:l= []:=List.eq_nil_of_length_eq_zero (by omega)
     rw [hn]; rfl
    ·rw [Bool.true_and]
   clear hv
   go_wp2
   go_ret
   exact ⟨ret_bool hres.out,HB.out⟩
end
section
open Go.RowKit Go.Maps
attribute [local irreducible] secL
theorem want_day {r:Bool→Bool→Bool} {la lb:List Cl} {n at':Int} (h:WantN (fun k=>r (dayQ la n k) (dayQ lb n k)) at'):at' = -1∨∃k:Nat,k < 86400∧at' =k∧r (instB la (86400 * n+k)) (instB lb (86400 * n+k))=true:=by
 obtain ⟨m,ok,h1,rfl⟩:=h
 rcases h1 with ⟨rfl,k,rfl,hk,h2,-⟩ | ⟨rfl,rfl,-⟩
 ·exact .inr ⟨k,hk,rfl,h2⟩
 ·exact .inl rfl
theorem want_least {r:Bool→Bool→Bool} {la lb:List Cl} {t at':Int} (hL:LeastP r la lb t) (h:WantN (fun k=>r (dayQ la (t / 86400) k) (dayQ lb (t / 86400) k)) at'):at' =t % 86400:=by
 obtain ⟨h1,h2,h3,h4⟩:=hL
 have e:86400 * (t / 86400)+(((t % 86400).toNat:Nat):Int)=t:=by omega
 refine h.unique ?_
 have:=WantN.some (r:=fun k=>r (dayQ la (t / 86400) k) (dayQ lb (t / 86400) k)) (k:=(t % 86400).toNat) (by omega) (by show r (dayQ la _ _) (dayQ lb _ _)=true; rw [dayQ_inst,dayQ_inst,e]; exact h3) (fun j hj=>by
  show r (dayQ la _ _) (dayQ lb _ _)=false
  rw [dayQ_inst,dayQ_inst]; exact h4 _ (by omega))
 rwa [show (((t % 86400).toNat:Nat):Int)=t % 86400 by omega] at this
theorem hasL_may {l:List Cl} (h:mayL l=true) (t:Int):hasL l t=instB l t:=by rw [hasL,h,Bool.true_and]; rfl
set_option maxRecDepth 100000 in
set_option maxHeartbeats 6400000 in
theorem MHeld_any {g:Nat} {r:Bool→Bool→Bool} (y:Bool) (t:Int) (f:Bool) (a:Option Addr) (cap:Nat) (la:List Cl) (b:Option Addr) (capb:Nat) (lb:List Cl) (d:Option Addr) (capd:Nat) (ds:List Nat) (w:World)
  (hl:la.length≤1000) (hs:Sl w a (cls la)) (hok:∀c∈la,c.Ok) (hlb:lb.length≤1000) (hsb:Sl w b (cls lb)) (hokb:∀c∈lb,c.Ok) (hm:mayL la=true)
  (hdl:ds.length≤9223372036854775807) (hd:Sl w d (u32s ds)) (hx:∀x∈ds,x < 4294967296) (hg:∀args w,(callFunc g args).run Tryz.prog w= .ok (.enter g args) w) (hW:WantC g r) (hV:VerP r la lb y t f) :
  Calls Tryz.prog 15 #[verV y t f, .slice a la.length cap, .slice b lb.length capb, .slice d ds.length capd, .func (.func g) #[] #[]] w fun e w'=>e= .returned (.bool true)∧Below w.heap.size w w':=by
 have cA:=hid (fun (n:Int) W (hB:Below w.heap.size w W) h0 h1=>own_ret (RLapAll16_any a cap la n W hl (hs.below hB) hok h0 h1))
 have cB:=hid (fun (n:Int) W (hB:Below w.heap.size w W) h0 h1=>own_ret (RLapAll16_any b capb lb n W hlb (hsb.below hB) hokb h0 h1))
 have cH:=hid (fun W (hB:Below w.heap.size w W)=>RHas17_any a cap la t W hl (hs.below hB) hok)
 have HW:=hid hW
 have HD:=hid hd
 have HX:=hid hx
 clear hs hok hsb hokb hW hd hx hl hlb
 unfold verV
 obtain ⟨W1,hW1⟩:∃W1,w.alloc (.cells #[.bool y, .int .i64 t, .bool f] 26)=W1:=⟨_,rfl⟩
 have HB1:Hid (Below w.heap.size w W1):=by rw [←hW1]; exact below_new (Below.refl _ _) (zG _)
 have hl1:w.heap.size < W1.heap.size:=by rw [←hW1]; simp
 have hc:Hid (∀W,Below W1.heap.size W1 W→W.cell? ⟨w.heap.size,0,none⟩=some (.bool y)∧W.cell? ⟨w.heap.size,1,none⟩=some (.int .i64 t)∧W.cell? ⟨w.heap.size,2,none⟩=some (.bool f)):=fun W hB=>
  ⟨(hB.cell (p:=⟨w.heap.size,0,none⟩) hl1).trans (by rw [←hW1]; simp [go_sem]),(hB.cell (p:=⟨w.heap.size,1,none⟩) hl1).trans (by rw [←hW1]; simp [go_sem]),(hB.cell (p:=⟨w.heap.size,2,none⟩) hl1).trans (by rw [←hW1]; simp [go_sem])⟩
 have HW1:=hid hW1
 clear hW1 hl1
 rcases hV with ⟨hN,rfl,rfl,rfl⟩ | ⟨hL,rfl,rfl⟩
 ·have KEY:Hid (∀n at',WantN (fun k=>r (dayQ la n k) (dayQ lb n k)) at'→at' = -1):=fun n at' h=>by
   rcases want_day h with h1 | ⟨k,-,-,h1⟩
   ·exact h1
   ·rw [hN] at h1; cases h1
  clear hN cH
  go_enter Tryz.func15,Tryz.ntmps15
  go_upto_region 1 with fail
  rw [HW1.out]
  obtain ⟨c0,c1,c2⟩:=hc.out W1 (Below.refl _ _)
  go_upto_region 9 with fail
  have HB3:Hid (Below W1.heap.size W1 W1):=Below.refl _ _
  obtain ⟨W3,hW3⟩:∃W3,W1=W3:=⟨_,rfl⟩
  have HB3:Hid (Below W1.heap.size W1 W3):=by rw [←hW3]; exact Below.refl _ _
  rw [hW3]
  clear hW3 c0 c1 c2
  go_wp2_with fail
  go_loopw [12] (fun i wr=>∃k:Nat,i= .int .i64 k∧Hid (Below W1.heap.size W1 wr)) (fun i _=>ds.length - (intOf i).toNat)
  case atStart=>exact ⟨0,rfl,HB3⟩
  case round=>
   obtain ⟨j,rfl,HBr⟩:=hrel
   obtain ⟨c0,c1,c2⟩:=hc.out wr HBr.out
   by_cases hlt:j < ds.length
   ·have hdj:decide ((j:Int) < (ds.length:Int))=true:=by simp; omega
    by_cases h8:j < 8
    ·have hd8:decide ((j:Int) < 8)=true:=by simp; omega
     obtain ⟨b3,o3,rfl,hb3,hc3⟩:=HD.out.at32 hlt
     have e3:=((HB1.out.trans (HBr.out.mono HB1.out.size)).cell (p:=⟨b3,o3+j,none⟩) hb3).trans hc3
     obtain ⟨x,hx⟩:∃x,ds[j]=x:=⟨_,rfl⟩
     have hx32:x < 4294967296:=by rw [←hx]; exact HX.out _ (List.getElem_mem hlt)
     rw [hx] at e3
     obtain ⟨X,hX⟩:∃X:Int,(x:Int)=X:=⟨_,rfl⟩
     rw [hX] at e3
     have hX0:0≤X:=by omega
     have hX1:X < 4294967296:=by omega
     have hwx:IntKind.i64.wrap X=X:=IntWalk.i64_in _ (by omega)
     obtain ⟨m,hm⟩:∃m,X % 146097=m:=⟨_,rfl⟩
     have Hm:Hid (0≤m∧m < 146097):=by show _∧_; omega
     have hwt:X.tmod 146097=m:=by rw [Int.tmod_eq_emod_of_nonneg hX0,hm]
     have hwm:IntKind.i64.wrap m=m:=IntWalk.i64_in _ (by omega)
     clear hc3 hb3 hx hx32 hX hm hX0 hX1
     go_wp2_with fail
     refine (cA.out m _ (HB1.out.trans (HBr.out.mono HB1.out.size)) Hm.out.1 Hm.out.2).mono ?_
     rintro e w6 ⟨xa,nx,cx,rfl,hnx,hsx,-,hB⟩
     cases hnx.out
     have HS6:=hid hsx
     have HB6:=hid (HBr.out.trans (hB.mono HBr.out.size))
     clear hB hsx hnx c0 c1 c2
     go_wp2_with fail
     refine (cB.out m _ (HB1.out.trans (HB6.out.mono HB1.out.size)) Hm.out.1 Hm.out.2).mono ?_
     rintro e w7 ⟨xb,nx,cxb,rfl,hnx,hsx,-,hB⟩
     cases hnx.out
     have HS7:=hid hsx
     have HS67:=hid (HS6.out.below hB)
     have HB7:=hid (HB6.out.trans (hB.mono HB6.out.size))
     clear hB hsx hnx HS6
     go_wp2_with fail
     refine (HW.out xa xb cx cxb (dayQ la m) (dayQ lb m) w7 HS67.out HS7.out).mono ?_
     rintro e w8 ⟨⟨at',rfl,hat⟩,hB⟩
     have hk:=KEY.out m at' hat
     have HB8:=hid (HB7.out.trans (hB.mono HB7.out.size))
     obtain ⟨c0,c1,c2⟩:=hc.out w8 HB8.out
     clear hB hat HS67 HS7 e3 hwx hwm hwt
     subst hk
     have hneg:decide ((0:Int)≤-1)=false:=by decide
     go_wp2
     exact ⟨⟨j+1,by go_num,HB8⟩,by simp [intOf]; omega⟩
    ·have hd8:decide ((j:Int) < 8)=false:=by simp; omega
     clear HD
     go_wp2
     go_ret
     exact ⟨rfl,HB1.out.trans (HBr.out.mono HB1.out.size)⟩
   ·have hdj:decide ((j:Int) < (ds.length:Int))=false:=by simp; omega
    clear HD
    go_wp2
    go_ret
    exact ⟨rfl,HB1.out.trans (HBr.out.mono HB1.out.size)⟩
 ·have t0:=hL.1
  have t1:=hL.2.1
  have KEY:Hid (∀n at',WantN (fun k=>r (dayQ la n k) (dayQ lb n k)) at'→at' = -1∨(0≤at'∧at' < 86400∧t≤86400 * n+at')):=fun n at' h=>by
   rcases want_day h with h1 | ⟨k,hk,rfl,h1⟩
   ·exact .inl h1
   ·refine .inr ⟨by omega,by omega,?_⟩
    rcases Int.lt_or_le (86400 * n+(k:Int)) t with h2 | h2
    ·rw [hL.2.2.2 _ h2] at h1; cases h1
    ·exact h2
  have LST:Hid (∀at',WantN (fun k=>r (dayQ la (t / 86400) k) (dayQ lb (t / 86400) k)) at'→at' =t % 86400):=fun at' h=>want_least hL h
  obtain ⟨q,hq⟩:∃q,instB la t=q:=⟨_,rfl⟩
  have eh:hasL la t=q:=by rw [hasL_may hm,hq]
  rw [eh] at cH
  rw [hq] at hc HW1⊢
  obtain ⟨n,hn⟩:∃n,t / 86400=n:=⟨_,rfl⟩
  obtain ⟨k,hk⟩:∃k,t % 86400=k:=⟨_,rfl⟩
  rw [hn,hk] at LST
  have Hn:Hid (0≤n∧n < 146097):=by show _∧_; omega
  have hd1:IntKind.i64.wrap (Int.tdiv t 86400)=n:=by rw [Int.tdiv_eq_ediv_of_nonneg t0,hn]; exact IntWalk.i64_in _ (by omega)
  have hd2:IntKind.i64.wrap (Int.tmod t 86400)=k:=by rw [Int.tmod_eq_emod_of_nonneg t0,hk]; exact IntWalk.i64_in _ (by omega)
  have hd3:Int.tmod t 86400=k:=by rw [Int.tmod_eq_emod_of_nonneg t0,hk]
  have hd4:IntKind.i64.wrap k=k:=IntWalk.i64_in _ (by omega)
  have hlo:decide (t < 0)=false:=by simp; omega
  have hhi:decide (12622780799 < t)=false:=by simp; omega
  have hqq:(q != q)=false:=by simp
  have hkk:(k != k)=false:=by simp
  have Ht:=hid (And.intro t0 t1)
  clear hL hm hq eh hn hk t0 t1
  go_enter Tryz.func15,Tryz.ntmps15
  go_upto_region 1 with fail
  rw [HW1.out]
  obtain ⟨c0,c1,c2⟩:=hc.out W1 (Below.refl _ _)
  go_upto_region 4 with fail
  clear c0 c1 c2
  refine wp_region_held_drew (S:=fun w=>Hid (Below W1.heap.size W1 w)) (by kernel_rfl) (hid (Below.refl _ _).drew) (fun hHeld=>?_)
  refine zT 0 (v:=?_) ?_ ?_
  rotate_left
  ·intro w hSw; obtain ⟨c0,c1,c2⟩:=hc.out w hSw.out; clear hSw; go_simp; (try with_reducible rfl)
  try simp only [zP]
  refine zT 1 (v:=?_) ?_ ?_
  rotate_left
  ·intro w hSw; obtain ⟨c0,c1,c2⟩:=hc.out w hSw.out; clear hSw; go_simp; (try with_reducible rfl)
  try simp only [zP]
  refine zT 2 (v:=?_) ?_ ?_
  rotate_left
  ·intro w hSw; obtain ⟨c0,c1,c2⟩:=hc.out w hSw.out; clear hSw; go_simp; (try with_reducible rfl)
  try simp only [zP]
  refine zT 3 (v:=?_) ?_ ?_
  rotate_left
  ·intro w hSw; obtain ⟨c0,c1,c2⟩:=hc.out w hSw.out; clear hSw; go_simp; (try with_reducible rfl)
  try simp only [zP]
  refine zT 4 (v:=?_) ?_ ?_
  rotate_left
  ·intro w hSw; obtain ⟨c0,c1,c2⟩:=hc.out w hSw.out; clear hSw; go_simp; (try with_reducible rfl)
  try simp only [zP]
  refine zT 5 (v:=?_) ?_ ?_
  rotate_left
  ·intro w hSw; obtain ⟨c0,c1,c2⟩:=hc.out w hSw.out; clear hSw; go_simp; (try with_reducible rfl)
  try simp only [zP]
  refine zT 6 (v:=?_) ?_ ?_
  rotate_left
  ·intro w hSw; obtain ⟨c0,c1,c2⟩:=hc.out w hSw.out; clear hSw; go_simp; (try with_reducible rfl)
  try simp only [zP]
  refine zT 7 (v:=?_) ?_ ?_
  rotate_left
  ·intro w hSw; obtain ⟨c0,c1,c2⟩:=hc.out w hSw.out; clear hSw; go_simp; (try with_reducible rfl)
  try simp only [zP]
  refine zT 8 (v:=?_) ?_ ?_
  rotate_left
  ·intro w hSw; obtain ⟨c0,c1,c2⟩:=hc.out w hSw.out; clear hSw; go_simp; (try with_reducible rfl)
  try simp only [zP]
  refine zT 9 (v:=?_) ?_ ?_
  rotate_left
  ·intro w hSw; obtain ⟨c0,c1,c2⟩:=hc.out w hSw.out; clear hSw; go_simp; (try with_reducible rfl)
  try simp only [zP]
  refine zT 10 (v:=?_) ?_ ?_
  rotate_left
  ·intro w hSw; obtain ⟨c0,c1,c2⟩:=hc.out w hSw.out; clear hSw; go_simp; (try with_reducible rfl)
  try simp only [zP]
  refine zT 11 (v:=?_) ?_ ?_
  rotate_left
  ·intro w hSw; obtain ⟨c0,c1,c2⟩:=hc.out w hSw.out; clear hSw; go_simp; (try with_reducible rfl)
  try simp only [zP]
  refine zT 12 (v:=?_) ?_ ?_
  rotate_left
  ·intro w hSw; obtain ⟨c0,c1,c2⟩:=hc.out w hSw.out; clear hSw; go_simp; (try with_reducible rfl)
  try simp only [zP]
  refine zT 13 (v:=?_) ?_ ?_
  rotate_left
  ·intro w hSw; obtain ⟨c0,c1,c2⟩:=hc.out w hSw.out; clear hSw; go_simp; (try with_reducible rfl)
  try simp only [zP]
  refine wpAnyH_ready (rs:= [14]) (by kernel_rfl) (by simp) ?_
  refine AllReadyH.cons rfl (fun K hK=>?_) AllReadyH.nil
  go_simp
  refine (cH.out _ (HB1.out.trans (hHeld.out.mono HB1.out.size))).mono ?_
  rintro e w2 ⟨rfl,hB2⟩
  have hH2:Hid (Below W1.heap.size W1 w2):=hHeld.out.trans (hB2.mono hHeld.out.size)
  clear hB2 cH hHeld
  (try go_wp2_with fail)
  refine hK.out _ _ hH2 (fun hHeld=>?_)
  clear hK K hH2
  try simp only [zP]
  refine zT 15 (v:=?_) ?_ ?_
  rotate_left
  ·intro w hSw; obtain ⟨c0,c1,c2⟩:=hc.out w hSw.out; clear hSw; go_simp; (try with_reducible rfl)
  try simp only [zP]
  refine zT 16 (v:=?_) ?_ ?_
  rotate_left
  ·intro w hSw; obtain ⟨c0,c1,c2⟩:=hc.out w hSw.out; clear hSw; go_simp; (try with_reducible rfl)
  try simp only [zP]
  refine wpAnyH_done (by kernel_rfl) ?_ _
  have HB2:=hHeld
  clear hHeld
  obtain ⟨c0,c1,c2⟩:=hc.out w2 HB2.out
  go_upto_region 7 with fail
  clear c0 c1 c2
  refine wp_region_held_drew (S:=fun w=>Hid (Below W1.heap.size W1 w)) (by kernel_rfl) (hid HB2.out.drew) (fun hHeld=>?_)
  refine zT 0 (v:=?_) ?_ ?_
  rotate_left
  ·intro w hSw; obtain ⟨c0,c1,c2⟩:=hc.out w hSw.out; clear hSw; go_simp; (try with_reducible rfl)
  try simp only [zP]
  refine zT 1 (v:=?_) ?_ ?_
  rotate_left
  ·intro w hSw; obtain ⟨c0,c1,c2⟩:=hc.out w hSw.out; clear hSw; go_simp; (try with_reducible rfl)
  try simp only [zP]
  refine zT 2 (v:=?_) ?_ ?_
  rotate_left
  ·intro w hSw; obtain ⟨c0,c1,c2⟩:=hc.out w hSw.out; clear hSw; go_simp; (try with_reducible rfl)
  try simp only [zP]
  refine zT 4 (v:=?_) ?_ ?_
  rotate_left
  ·intro w hSw; obtain ⟨c0,c1,c2⟩:=hc.out w hSw.out; clear hSw; go_simp; (try with_reducible rfl)
  try simp only [zP]
  refine zT 5 (v:=?_) ?_ ?_
  rotate_left
  ·intro w hSw; obtain ⟨c0,c1,c2⟩:=hc.out w hSw.out; clear hSw; go_simp; (try with_reducible rfl)
  try simp only [zP]
  refine zT 8 (v:=?_) ?_ ?_
  rotate_left
  ·intro w hSw; obtain ⟨c0,c1,c2⟩:=hc.out w hSw.out; clear hSw; go_simp; (try with_reducible rfl)
  try simp only [zP]
  refine zT 9 (v:=?_) ?_ ?_
  rotate_left
  ·intro w hSw; obtain ⟨c0,c1,c2⟩:=hc.out w hSw.out; clear hSw; go_simp; (try with_reducible rfl)
  try simp only [zP]
  refine zT 10 (v:=?_) ?_ ?_
  rotate_left
  ·intro w hSw; obtain ⟨c0,c1,c2⟩:=hc.out w hSw.out; clear hSw; go_simp; (try with_reducible rfl)
  try simp only [zP]
  refine wpAnyH_ready (rs:= [3]) (by kernel_rfl) (by simp) ?_
  refine AllReadyH.cons rfl (fun K hK=>?_) AllReadyH.nil
  go_simp
  refine (cA.out n _ (HB1.out.trans (hHeld.out.mono HB1.out.size)) Hn.out.1 Hn.out.2).mono ?_
  rintro e w3 ⟨xa,nx,cx,rfl,hnx,hsx,-,hB⟩
  cases hnx.out
  have HS3:=hid hsx
  have hH3:Hid (Below W1.heap.size W1 w3):=hHeld.out.trans (hB.mono hHeld.out.size)
  clear hB hHeld hsx hnx
  (try go_wp2_with fail)
  refine hK.out _ _ hH3 (fun hHeld=>?_)
  clear hK K hH3
  try simp only [zP]
  refine wpAnyH_ready (rs:= [6]) (by kernel_rfl) (by simp) ?_
  refine AllReadyH.cons rfl (fun K hK=>?_) AllReadyH.nil
  go_simp
  refine (cB.out n _ (HB1.out.trans (hHeld.out.mono HB1.out.size)) Hn.out.1 Hn.out.2).mono ?_
  rintro e w4 ⟨xb,nx,cxb,rfl,hnx,hsx,-,hB⟩
  cases hnx.out
  have HS4:=hid hsx
  have HS34:=hid (HS3.out.below hB)
  have hH4:Hid (Below W1.heap.size W1 w4):=hHeld.out.trans (hB.mono hHeld.out.size)
  clear hB hHeld hsx hnx HS3
  (try go_wp2_with fail)
  refine hK.out _ _ hH4 (fun hHeld=>?_)
  clear hK K hH4
  try simp only [zP]
  refine wpAnyH_ready (rs:= [7]) (by kernel_rfl) (by simp) ?_
  refine AllReadyH.cons rfl (fun K hK=>?_) AllReadyH.nil
  go_simp
  refine (HW.out xa xb cx cxb (dayQ la n) (dayQ lb n) w4 HS34.out HS4.out).mono ?_
  rintro e w5 ⟨⟨m,rfl,hm⟩,hB⟩
  have hmk:=LST.out m hm
  rw [hmk]
  have hH5:Hid (Below W1.heap.size W1 w5):=hHeld.out.trans (hB.mono hHeld.out.size)
  clear hB hHeld hm hmk HS34 HS4
  (try go_wp2_with fail)
  refine hK.out _ _ hH5 (fun hHeld=>?_)
  clear hK K hH5
  try simp only [zP]
  refine zT 11 (v:=?_) ?_ ?_
  rotate_left
  ·intro w hSw; obtain ⟨c0,c1,c2⟩:=hc.out w hSw.out; clear hSw; go_simp; (try with_reducible rfl)
  try simp only [zP]
  refine wpAnyH_done (by kernel_rfl) ?_ _
  have HB3:=hHeld
  clear hHeld
  obtain ⟨W3,hW3⟩:∃W3,w5=W3:=⟨_,rfl⟩
  rw [hW3] at HB3⊢
  clear hW3 LST
  go_upto_region 9 with fail
  clear hlo hhi hqq hkk hd1 hd2 hd3 hd4
  go_wp2_with fail
  go_loopw [12] (fun i wr=>∃k:Nat,i= .int .i64 k∧Hid (Below W1.heap.size W1 wr)) (fun i _=>ds.length - (intOf i).toNat)
  case atStart=>exact ⟨0,rfl,HB3⟩
  case round=>
   obtain ⟨j,rfl,HBr⟩:=hrel
   obtain ⟨c0,c1,c2⟩:=hc.out wr HBr.out
   by_cases hlt:j < ds.length
   ·have hdj:decide ((j:Int) < (ds.length:Int))=true:=by simp; omega
    by_cases h8:j < 8
    ·have hd8:decide ((j:Int) < 8)=true:=by simp; omega
     obtain ⟨b3,o3,rfl,hb3,hc3⟩:=HD.out.at32 hlt
     have e3:=((HB1.out.trans (HBr.out.mono HB1.out.size)).cell (p:=⟨b3,o3+j,none⟩) hb3).trans hc3
     obtain ⟨x,hx⟩:∃x,ds[j]=x:=⟨_,rfl⟩
     have hx32:x < 4294967296:=by rw [←hx]; exact HX.out _ (List.getElem_mem hlt)
     rw [hx] at e3
     obtain ⟨X,hX⟩:∃X:Int,(x:Int)=X:=⟨_,rfl⟩
     rw [hX] at e3
     have hX0:0≤X:=by omega
     have hX1:X < 4294967296:=by omega
     have hwx:IntKind.i64.wrap X=X:=IntWalk.i64_in _ (by omega)
     obtain ⟨m,hm⟩:∃m,X % 146097=m:=⟨_,rfl⟩
     have Hm:Hid (0≤m∧m < 146097):=by show _∧_; omega
     have hwt:X.tmod 146097=m:=by rw [Int.tmod_eq_emod_of_nonneg hX0,hm]
     have hwm:IntKind.i64.wrap m=m:=IntWalk.i64_in _ (by omega)
     clear hc3 hb3 hx hx32 hX hm hX0 hX1
     go_wp2_with fail
     refine (cA.out m _ (HB1.out.trans (HBr.out.mono HB1.out.size)) Hm.out.1 Hm.out.2).mono ?_
     rintro e w6 ⟨xa,nx,cx,rfl,hnx,hsx,-,hB⟩
     cases hnx.out
     have HS6:=hid hsx
     have HB6:=hid (HBr.out.trans (hB.mono HBr.out.size))
     clear hB hsx hnx c0 c1 c2
     go_wp2_with fail
     refine (cB.out m _ (HB1.out.trans (HB6.out.mono HB1.out.size)) Hm.out.1 Hm.out.2).mono ?_
     rintro e w7 ⟨xb,nx,cxb,rfl,hnx,hsx,-,hB⟩
     cases hnx.out
     have HS7:=hid hsx
     have HS67:=hid (HS6.out.below hB)
     have HB7:=hid (HB6.out.trans (hB.mono HB6.out.size))
     clear hB hsx hnx HS6
     go_wp2_with fail
     refine (HW.out xa xb cx cxb (dayQ la m) (dayQ lb m) w7 HS67.out HS7.out).mono ?_
     rintro e w8 ⟨⟨at',rfl,hat⟩,hB⟩
     have hk:=KEY.out m at' hat
     have HB8:=hid (HB7.out.trans (hB.mono HB7.out.size))
     obtain ⟨c0,c1,c2⟩:=hc.out w8 HB8.out
     clear hB hat HS67 HS7 e3 hwx hwm hwt
     rcases hk with rfl | ⟨k0,k1,k2⟩
     ·have hneg:decide ((0:Int)≤-1)=false:=by decide
      go_wp2
      exact ⟨⟨j+1,by go_num,HB8⟩,by simp [intOf]; omega⟩
     ·have hpos:decide (0≤at')=true:=by simp; omega
      have hw1:IntKind.i64.wrap (86400 * m)=86400 * m:=IntWalk.i64_in _ (by have:=Hm.out; omega)
      have hw2:IntKind.i64.wrap (86400 * m+at')=86400 * m+at':=IntWalk.i64_in _ (by have:=Hm.out; omega)
      have hge:decide (86400 * m+at' < t)=false:=by simp; omega
      clear k0 k1 k2
      go_wp2
      exact ⟨⟨j+1,by go_num,HB8⟩,by simp [intOf]; omega⟩
    ·have hd8:decide ((j:Int) < 8)=false:=by simp; omega
     clear HD
     go_wp2
     go_ret
     exact ⟨rfl,HB1.out.trans (HBr.out.mono HB1.out.size)⟩
   ·have hdj:decide ((j:Int) < (ds.length:Int))=false:=by simp; omega
    clear HD
    go_wp2
    go_ret
    exact ⟨rfl,HB1.out.trans (HBr.out.mono HB1.out.size)⟩
end
section
open Go.RowKit Go.Maps
def InvN (j:Nat) (ws:Nat→Bool) (m:Nat):Prop:=m≤j
theorem invN_step (cs:List Cl) (j:Nat) (n:Int) (ws:Nat→Bool) (m:Nat) (ws':Nat→Bool) (m':Nat) (h:InvN j ws m) (hs:AtStep cs n ws m ws' m'):InvN (j+1) ws' m':=by
 rw [InvN] at h⊢
 rcases hs with ⟨_,_,h1⟩ | ⟨_,_,_,h1⟩ | ⟨_,_,_,h1 | h1⟩
 ·omega
 ·split at h1 <;> omega
 ·omega
 ·omega
def VrdR (pw:Bool→Bool→Bool) (la lb:List Cl) (e:Ending):Prop:=
 (faultL la≠0∧e= .returned (.tuple #[verV false 0 false, .int .i64 (faultL la)]))∨
 (faultL la=0∧faultL lb≠0∧e= .returned (.tuple #[verV false 0 false, .int .i64 (faultL lb)]))∨
 (faultL la=0∧faultL lb=0∧∃y t f,e= .returned (.tuple #[verV y t f, .int .i64 0])∧VerP pw la lb y t f)
set_option maxRecDepth 100000 in
set_option maxHeartbeats 6400000 in
theorem MVerdict_any (a:Option Addr) (cap:Nat) (la:List Cl) (b:Option Addr) (capb:Nat) (lb:List Cl) (g:Nat) (pw:Bool→Bool→Bool) (W:World)
  (hl:la.length≤1000) (hlc:la.length≤cap) (hs:Sl W a (cls la)) (hno:a=none→cap=0) (hok:∀c∈la,c.Ok)
  (hlb:lb.length≤1000) (hlcb:lb.length≤capb) (hsb:Sl W b (cls lb)) (hnob:b=none→capb=0) (hokb:∀c∈lb,c.Ok) (hT:Tab W)
  (hg:∀args w,(callFunc g args).run Tryz.prog w= .ok (.enter g args) w) (hF:FindC g pw) (hp:pw false false=false) :
  Calls Tryz.prog 50 #[.slice a la.length cap, .slice b lb.length capb, .func (.func g) #[] #[]] W fun e W'=>VrdR pw la lb e∧Below W.heap.size W W':=by
 obtain ⟨W1,hW1⟩:∃W1,W.alloc (.cells #[.bool false, .int .i64 0, .bool false] 26)=W1:=⟨_,rfl⟩
 have HB1:Hid (Below W.heap.size W W1):=by rw [←hW1]; exact below_new (Below.refl _ _) (zG _)
 have L1:Hid (W.heap.size < W1.heap.size):=by show _ < _; rw [←hW1]; simp
 have C1:Hid ((W1.cell? ⟨W.heap.size,0,none⟩=some (.bool false)∧W1.cell? ⟨W.heap.size,1,none⟩=some (.int .i64 0)∧W1.cell? ⟨W.heap.size,2,none⟩=some (.bool false))∧∀i,W1.frozen? ⟨W.heap.size,i,none⟩=false):=by
  rw [←hW1]; exact ⟨⟨by simp [go_sem],by simp [go_sem],by simp [go_sem]⟩,fun i=>by simp [go_sem]⟩
 have cB:=hid (MBegin_any a cap la b capb lb g pw W1 hl hlc (hs.below HB1.out) hno hok hlb hlcb (hsb.below HB1.out) hnob hokb (hT.later HB1.out))
 have HT:=hid hT
 have HF:=hid hF
 have HP:=hid hp
 have HW1:=hid hW1
 clear hl hlc hs hno hok hlb hlcb hsb hnob hokb hT hF hp hW1
 go_enter Tryz.func50,Tryz.ntmps50
 go_upto_region 1 with fail
 rw [HW1.out]
 go_wp2_with fail
 refine cB.out.mono ?_
 rintro e w2 ⟨hR,hB2⟩
 have HB2:=hid (HB1.out.trans (hB2.mono HB1.out.size))
 have C2:Hid ((w2.cell? ⟨W.heap.size,0,none⟩=some (.bool false)∧w2.cell? ⟨W.heap.size,1,none⟩=some (.int .i64 0)∧w2.cell? ⟨W.heap.size,2,none⟩=some (.bool false))∧∀i,w2.frozen? ⟨W.heap.size,i,none⟩=false):=
  ⟨⟨(hB2.cell (p:=⟨W.heap.size,0,none⟩) L1.out).trans C1.out.1.1,(hB2.cell (p:=⟨W.heap.size,1,none⟩) L1.out).trans C1.out.1.2.1,(hB2.cell (p:=⟨W.heap.size,2,none⟩) L1.out).trans C1.out.1.2.2⟩,fun i=>(hB2.frozen (p:=⟨W.heap.size,i,none⟩) L1.out).trans (C1.out.2 i)⟩
 have L2:Hid (W1.heap.size≤w2.heap.size):=hB2.size
 clear hB2 cB
 have fault:∀X:Int,X≠0→VrdR pw la lb (.returned (.tuple #[verV false 0 false, .int .i64 X]))→e= .returned (.tuple #[.pointer none, .int .i64 X])→True:=fun _ _ _ _=>trivial
 clear fault
 rcases hR with ⟨hf,rfl⟩ | ⟨hf,hf2,rfl⟩ | ⟨hf,hf2,x,fm,ra,rb,Fa,Fb,rfl,hA,hx,hfm,hM⟩
 ·obtain ⟨X,hX⟩:∃X,faultL la=X:=⟨_,rfl⟩
  have HR:Hid (VrdR pw la lb (.returned (.tuple #[verV false 0 false, .int .i64 (faultL la)]))):= .inl ⟨hf,rfl⟩
  rw [hX] at hf HR⊢
  have hX0:(X == 0)=false:=by simpa using hf
  have hX1:(X != 0)=true:=by simpa using hf
  obtain ⟨⟨c0,c1,c2⟩,z⟩:=C2.out
  have z0:=z 0
  have z1:=z 1
  have z2:=z 2
  clear hX z
  go_wp2
  refine bodyPost_ret (v:= .tuple #[verV false 0 false, .int .i64 X]) ?_ rfl ⟨HR.out,?_⟩
  ·simp [results,Tryz.results50,go_sem,verV,c0,c1,c2]
  ·exact below_set (below_set (below_set HB2.out (zG _)) (zG _)) (zG _)
 ·obtain ⟨X,hX⟩:∃X,faultL lb=X:=⟨_,rfl⟩
  have HR:Hid (VrdR pw la lb (.returned (.tuple #[verV false 0 false, .int .i64 (faultL lb)]))):= .inr (.inl ⟨hf,hf2,rfl⟩)
  rw [hX] at hf2 HR⊢
  have hX0:(X == 0)=false:=by simpa using hf2
  have hX1:(X != 0)=true:=by simpa using hf2
  obtain ⟨⟨c0,c1,c2⟩,z⟩:=C2.out
  have z0:=z 0
  have z1:=z 1
  have z2:=z 2
  clear hX z
  go_wp2
  refine bodyPost_ret (v:= .tuple #[verV false 0 false, .int .i64 X]) ?_ rfl ⟨HR.out,?_⟩
  ·simp [results,Tryz.results50,go_sem,verV,c0,c1,c2]
  ·exact below_set (below_set (below_set HB2.out (zG _)) (zG _)) (zG _)
 ·have HA:=hid hA
  have Hx:=hid (And.intro hx (And.intro hfm hM))
  have Hf:=hid (And.intro hf hf2)
  have cF:=hid (MFirst_any (W:=w2) InvN InvN (fun j n ws m ws' m' _ _ h hs=>invN_step la j n ws m ws' m' h hs) (fun j n ws m ws' m' _ _ h hs=>invN_step lb j n ws m ws' m' h hs) (fun j ws m h hj=>by rw [InvN] at h; omega) (fun j ws m h hj=>by rw [InvN] at h; omega) hg HF.out hA (zG 0) (zG 0))
  clear hA hx hfm hM hf hf2
  go_wp2_with fail
  refine cF.out.mono ?_
  rintro e w3 ⟨t,ok,Fa',Fb',wa',wb',ma',mb',j,rfl,hD,hA3,hE3,-,-,iA,iB⟩
  have hpl:=first_plain HP.out hD
  have hx9:∀c,(c=x∨c=fm∨ra.M c∨rb.M c)→W1.heap.size≤c:=fun c hc=>by
   rcases hc with rfl | rfl | hc
   ·exact Hx.out.1
   ·exact Hx.out.2.1
   ·exact Hx.out.2.2 c hc
  have nW:¬(W.heap.size=x∨W.heap.size=fm∨ra.M W.heap.size∨rb.M W.heap.size):=fun h=>by have:=hx9 _ h; have:=L1.out; omega
  have lW:W.heap.size < w2.heap.size:=zH L1.out L2.out
  have HB3:Hid (Below W.heap.size W w3):=HB2.out.trans (hE3.below (fun c hc=>by have:=hx9 c hc; have:=HB1.out.size; omega) HB2.out.size)
  have c0:=(hE3.cell (p:=⟨W.heap.size,0,none⟩) lW nW).trans C2.out.1.1
  have c1:=(hE3.cell (p:=⟨W.heap.size,1,none⟩) lW nW).trans C2.out.1.2.1
  have c2:=(hE3.cell (p:=⟨W.heap.size,2,none⟩) lW nW).trans C2.out.1.2.2
  have z:∀i,w3.frozen? ⟨W.heap.size,i,none⟩=false:=fun i=>(hE3.frozen (p:=⟨W.heap.size,i,none⟩) lW nW).trans (C2.out.2 i)
  have z0:=z 0
  have z1:=z 1
  have z2:=z 2
  have HA3:=hid hA3
  have Hm:=hid (And.intro iA iB)
  have L3:Hid (w2.heap.size≤w3.heap.size):=hE3.size
  have lW3:Hid (W.heap.size < w3.heap.size):=zH lW L3.out
  clear hD hA3 hE3 iA iB cF hx9 lW z
  rcases hpl with ⟨⟨rfl,hLe,-⟩ | ⟨rfl,rfl,hN⟩,hj⟩
  rotate_left
  ·have HR:Hid (VrdR pw la lb (.returned (.tuple #[verV true 0 false, .int .i64 0]))):= .inr (.inr ⟨Hf.out.1,Hf.out.2,true,0,false,rfl, .inl ⟨hN,rfl,rfl,rfl⟩⟩)
   clear hN hj nW
   go_wp2
   refine bodyPost_ret (v:= .tuple #[verV true 0 false, .int .i64 0]) ?_ rfl ⟨HR.out,?_⟩
   ·simp [results,Tryz.results50,go_sem,verV,c0,c1,c2]
   ·exact below_set (below_set (below_set HB3.out (zG _)) (zG _)) (zG _)
  ·have hj2:=hj
   have t0:=hLe.1
   have t1:=hLe.2.1
   have HLe:=hid hLe
   obtain ⟨n,hn⟩:∃n,t / 86400=n:=⟨_,rfl⟩
   have n0:0≤n:=by omega
   have n1:n < 146097:=by omega
   obtain ⟨k,hk⟩:∃k:Nat,t % 86400=k:=⟨(t % 86400).toNat,by omega⟩
   have hk2:k < 86400:=by omega
   have cD:=hid (RollDay_any (W:=w3) n n0 n1 (by have:=Hm.out.1; rw [InvN] at this; omega) HA3.out.two.a)
   have x0:=HA3.out.c0
   have hd1:IntKind.i64.wrap (Int.tdiv t 86400)=n:=by rw [Int.tdiv_eq_ediv_of_nonneg t0,hn]; exact IntWalk.i64_in _ (by omega)
   have hd2:IntKind.i64.wrap (Int.tmod t 86400)= (k:Int):=by rw [Int.tmod_eq_emod_of_nonneg t0,hk]; exact IntWalk.i64_in _ (by omega)
   have Hq:Hid (dayQ la n k=instB la t):=by show _ = _; rw [dayQ_inst]; congr 1; omega
   have Hn:=hid (And.intro n0 n1)
   have Hk:=hid hk2
   have h8:=hid (mayL_len HA3.out.two.a.x.may)
   clear hLe hj hj2 n0 n1 hk2
   go_wp2_with fail
   refine cD.out.mono ?_
   rintro e w4 ⟨d,F2,ws2,m2,rfl,hR4,-,hE4,-,hnone,hsome⟩
   have hdo:DiscO w4 d (dayQ la n):=DOf.disc (F:=F2) (M:=ra.M) ⟨fun hd j hj=>day_none h8.out Hn.out.1 Hn.out.2 (hnone hd) hj,hsome⟩
   have cH:=DHasO_any d (dayQ la n) (k:Int) w4 hdo
   rw [dsecB_nat,decide_eq_true Hk.out,Bool.true_and,Int.toNat_natCast,Hq.out] at cH
   have CH:=hid cH
   obtain ⟨v,hv⟩:∃v,dptr d=v:=⟨_,rfl⟩
   rw [hv] at CH⊢
   have nM:¬RM ra.br ra.bk ra.bps W.heap.size:=fun h=>nW (.inr (.inr (.inl h)))
   have HB4:Hid (Below W.heap.size W w4):=HB3.out.trans (hE4.below (fun c hc=>by have:=Hx.out.2.2 c (.inl hc); have:=HB1.out.size; omega) HB3.out.size)
   replace c0:=(hE4.cell (p:=⟨W.heap.size,0,none⟩) lW3.out nM).trans c0
   replace c1:=(hE4.cell (p:=⟨W.heap.size,1,none⟩) lW3.out nM).trans c1
   replace c2:=(hE4.cell (p:=⟨W.heap.size,2,none⟩) lW3.out nM).trans c2
   replace z0:=(hE4.frozen (p:=⟨W.heap.size,0,none⟩) lW3.out nM).trans z0
   replace z1:=(hE4.frozen (p:=⟨W.heap.size,1,none⟩) lW3.out nM).trans z1
   replace z2:=(hE4.frozen (p:=⟨W.heap.size,2,none⟩) lW3.out nM).trans z2
   clear hR4 hE4 hnone hsome hdo cH hv nM cD x0
   go_wp2_with fail
   refine CH.out.mono ?_
   rintro e w5 ⟨rfl,rfl⟩
   obtain ⟨q,hq⟩:∃q,instB la t=q:=⟨_,rfl⟩
   have HR:Hid (VrdR pw la lb (.returned (.tuple #[verV false t q, .int .i64 0]))):= .inr (.inr ⟨Hf.out.1,Hf.out.2,false,t,q,rfl, .inr ⟨HLe.out,rfl,hq.symm⟩⟩)
   rw [hq]
   clear CH hq hd1 hd2 t0 t1 hn hk nW
   go_wp2
   refine bodyPost_ret (v:= .tuple #[verV false t q, .int .i64 0]) ?_ rfl ⟨HR.out,?_⟩
   ·simp [results,Tryz.results50,go_sem,verV,c0,c1,c2]
   ·exact below_set (below_set (below_set HB4.out (zG _)) (zG _)) (zG _)
end
end Go.Proofs.YtmjljpdeohbfbaaGreatDoor
