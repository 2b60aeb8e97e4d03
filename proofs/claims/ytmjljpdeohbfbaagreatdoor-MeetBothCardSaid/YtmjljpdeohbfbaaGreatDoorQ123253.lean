/-
  What the least instant of two sets is.
  ferialaw17.May: the document's answer for sets.
-/
import Derived.Test.YtmjljpdeohbfbaaGreatDoorQf10165
import Derived.Test.YtmjljpdeohbfbaaGreatDoorQd86d0d
import Derived.Test.YtmjljpdeohbfbaaGreatDoorQa1fa8d
import Derived.Test.YtmjljpdeohbfbaaGreatDoorQdc9b18
namespace Go.Proofs.YtmjljpdeohbfbaaGreatDoor
set_option linter.unusedVariables false
section
open Go.RowKit Go.Maps
def LeastP (pw:Bool→Bool→Bool) (la lb:List Cl) (t:Int):Prop:=0≤t∧t < 12622780800∧pw (instB la t) (instB lb t)=true∧∀s,s < t→pw (instB la s) (instB lb s)=false
def NoneP (pw:Bool→Bool→Bool) (la lb:List Cl):Prop:=∀s,pw (instB la s) (instB lb s)=false
def verV (y:Bool) (t:Int) (f:Bool):Value:= .agg #[.bool y, .int .i64 t, .bool f]
def VerP (pw:Bool→Bool→Bool) (la lb:List Cl) (y:Bool) (t:Int) (f:Bool):Prop:=(NoneP pw la lb∧y=true∧t=0∧f=false)∨(LeastP pw la lb t∧y=false∧f=instB la t)
theorem LeastP.unique {pw:Bool→Bool→Bool} {la lb:List Cl} {t t':Int} (h:LeastP pw la lb t) (h':LeastP pw la lb t'):t=t':=by
 obtain ⟨-,-,h3,h4⟩:=h
 obtain ⟨-,-,k3,k4⟩:=h'
 rcases Int.lt_trichotomy t t' with e | e | e
 ·rw [k4 t e] at h3; cases h3
 ·exact e
 ·rw [h4 t' e] at k3; cases k3
theorem VerP.unique {pw:Bool→Bool→Bool} {la lb:List Cl} {y y':Bool} {t t':Int} {f f':Bool} (h:VerP pw la lb y t f) (h':VerP pw la lb y' t' f'):y=y'∧t=t'∧f=f':=by
 rcases h with ⟨h,rfl,rfl,rfl⟩ | ⟨h,rfl,rfl⟩ <;> rcases h' with ⟨h',rfl,rfl,rfl⟩ | ⟨h',rfl,rfl⟩
 ·exact ⟨rfl,rfl,rfl⟩
 ·have:=h'.2.2.1; rw [h t'] at this; cases this
 ·have:=h.2.2.1; rw [h' t] at this; cases this
 ·cases h.unique h'; exact ⟨rfl,rfl,rfl⟩
theorem hull_day {l:List Cl} {n:Int} {k:Nat} (hk:k < 86400) (h:dayQ l n k=true):heldB (hF l) (hU l)=true∧hF l / 86400≤n∧n≤hU l / 86400∧0≤hF l∧hU l≤12622780799∧inD (hF l) (hU l) n=true:=by
 obtain ⟨h1,h2,h3,h4,h5⟩:=hul_in hk h
 have hr:=held_rng (f:=hullF l) (u:=hullU l) h1
 have e1:heldF (hullF l) (hullU l)=hF l:=rfl
 have e2:heldU (hullF l) (hullU l)=hU l:=rfl
 rw [e1,e2] at hr
 rw [e1] at h2
 rw [e2] at h3
 refine ⟨?_,h2,h3,hr.1,hr.2.2,?_⟩
 ·rw [hF,hU,held_held]; exact h1
 ·rw [inD,decide_eq_true_eq]
  omega
theorem mb_in {f u:Int} (h:heldB f u=true) (h0:0≤f) (hu:u≤12622780799) (a b:Int):mbF f u a≤f / 86400∧u / 86400≤mbU f u b:=by
 rw [mbF,mbU,if_pos h,if_pos h]
 have e1:max f 0=f:=by omega
 have e2:min u 12622780799=u:=by omega
 rw [e1,e2]
 omega
theorem mb_le (f u a b:Int):mbF f u a≤a∧b≤mbU f u b:=by
 rw [mbF,mbU]
 split <;> omega
theorem in_days {la lb:List Cl} {n:Int} {k:Nat} (hk:k < 86400) (h:dayQ la n k=true∨dayQ lb n k=true) :
  (inD (hF la) (hU la) n || inD (hF lb) (hU lb) n)=true∧mbF (hF lb) (hU lb) (mbF (hF la) (hU la) 146097)≤n∧n≤mbU (hF lb) (hU lb) (mbU (hF la) (hU la) (-1)):=by
 have m2:=mb_le (hF lb) (hU lb) (mbF (hF la) (hU la) 146097) (mbU (hF la) (hU la) (-1))
 rcases h with h | h
 ·obtain ⟨g1,g2,g3,g4,g5,g6⟩:=hull_day hk h
  have m1:=mb_in g1 g4 g5 146097 (-1)
  exact ⟨by rw [g6]; rfl,by omega,by omega⟩
 ·obtain ⟨g1,g2,g3,g4,g5,g6⟩:=hull_day hk h
  have m1:=mb_in g1 g4 g5 (mbF (hF la) (hU la) 146097) (mbU (hF la) (hU la) (-1))
  exact ⟨by rw [g6]; simp,by omega,by omega⟩
theorem daysL_ix {a b n:Int} (h0:a≤n) (h1:n≤b):(daysL a b)[(n - a).toNat]? =some n:=by
 have hk:(n - a).toNat < (daysL a b).length:=by rw [daysL_len]; omega
 rw [List.getElem?_eq_getElem hk,daysL_get hk]
 congr 1
 omega
theorem first_plain {pw:Bool→Bool→Bool} {la lb:List Cl} {t:Int} {ok:Bool} {j:Nat} (hp:pw false false=false) (h:FirstD pw la lb (hF la) (hU la) (hF lb) (hU lb) (dM (hF la) (hU la) (hF lb) (hU lb)) t ok j) :
  ((ok=true∧LeastP pw la lb t∧(j:Int)≤t / 86400+1)∨(ok=false∧t=0∧NoneP pw la lb))∧j≤146097:=by
 have hl:=dM_len (hF la) (hU la) (hF lb) (hU lb)
 -- whatever is found lies on a day of the list
 have key:∀s:Int,pw (instB la s) (instB lb s)=true→∃i:Nat,∃n:Int,(dM (hF la) (hU la) (hF lb) (hU lb))[i]? =some n∧n=s / 86400∧(inD (hF la) (hU la) n || inD (hF lb) (hU lb) n)=true∧pw (dayQ la n (s % 86400).toNat) (dayQ lb n (s % 86400).toNat)=true∧(i:Int)=n - mbF (hF lb) (hU lb) (mbF (hF la) (hU la) 146097):=fun s hs=>by
  have e:86400 * (s / 86400)+(((s % 86400).toNat:Nat):Int)=s:=by omega
  have ea:dayQ la (s / 86400) (s % 86400).toNat=instB la s:=by rw [dayQ_inst,e]
  have eb:dayQ lb (s / 86400) (s % 86400).toNat=instB lb s:=by rw [dayQ_inst,e]
  have hor:dayQ la (s / 86400) (s % 86400).toNat=true∨dayQ lb (s / 86400) (s % 86400).toNat=true:=by
   rw [ea,eb]
   cases e1:instB la s
   ·cases e2:instB lb s
    ·rw [e1,e2,hp] at hs; cases hs
    ·exact .inr rfl
   ·exact .inl rfl
  obtain ⟨g1,g2,g3⟩:=in_days (by omega) hor
  exact ⟨_,_,daysL_ix g2 g3,rfl,g1,by rw [ea,eb]; exact hs,by omega⟩
 rcases h with ⟨rfl,k,hk,hj,i,n,at',rfl,hn,rfl,hfo,hno⟩ | ⟨rfl,rfl,hj,hno⟩
 ·refine ⟨.inl ⟨rfl,?_,?_⟩,by omega⟩
  ·obtain ⟨q1,q2,q3⟩:=dM_mem hn
   rcases hfo with ⟨-,k',rfl,hk',hp',hb'⟩ | ⟨h,_⟩
   ·have e1:n * 86400+(k':Int)=86400 * n+k':=by omega
    refine ⟨by omega,by omega,?_,fun s hs=>?_⟩
    ·rw [e1]; exact hp'
    ·cases e:pw (instB la s) (instB lb s)
     ·rfl
     ·obtain ⟨i',n',g1,g2,g3,g4,g5⟩:=key s e
      obtain ⟨hk1,he1⟩:=List.getElem?_eq_some_iff.1 hn
      have e2:(dM (hF la) (hU la) (hF lb) (hU lb))[i]=mbF (hF lb) (hU lb) (mbF (hF la) (hU la) 146097)+i:=daysL_get hk1
      have hle:n'≤n:=by omega
      rcases Int.lt_or_eq_of_le hle with h1 | h1
      ·have:=hno i' n' (by omega) g1 g3 (s % 86400).toNat (by omega)
       rw [g4] at this; cases this
      ·have hx:pw (dayQ la n (s % 86400).toNat) (dayQ lb n (s % 86400).toNat)=false:=hb' (s % 86400).toNat (by omega)
       rw [h1] at g4
       rw [g4] at hx; cases hx
   ·cases h
  ·obtain ⟨q1,q2,q3⟩:=dM_mem hn
   rcases hfo with ⟨-,k',rfl,hk',-,-⟩ | ⟨h,_⟩
   ·omega
   ·cases h
 ·refine ⟨.inr ⟨rfl,rfl,fun s=>?_⟩,by omega⟩
  cases e:pw (instB la s) (instB lb s)
  ·rfl
  ·obtain ⟨i',n',g1,g2,g3,g4,g5⟩:=key s e
   have:=hno i' n' (List.getElem?_eq_some_iff.1 g1).1 g1 g3 (s % 86400).toNat (by omega)
   rw [g4] at this; cases this
end
section
open Go.RowKit
attribute [local go_sem ↓] loadAt_cl
set_option maxRecDepth 100000 in
set_option maxHeartbeats 3200000 in
theorem RMay17_any (a:Option Addr) (cap:Nat) (l:List Cl) (w:World) (hl:l.length≤1000) (hs:Sl w a (cls l)) (hok:∀c∈l,c.Ok) :
  Calls Tryz.prog 19 #[.slice a l.length cap] w fun e w'=>e= .returned (.bool (mayL l))∧Below w.heap.size w w':=by
 have Hs:=hid hs
 have Hok:=hid hok
 clear hs hok
 go_enter Tryz.func19,Tryz.ntmps19
 go_wp2_with fail
 go_loopw [3] (fun i wr=>∃k:Nat,i= .int .i64 k∧k≤l.length∧k≤9∧Hid ((l.take k).all mayC=true)∧Hid (Below w.heap.size w wr)) (fun i _=>l.length - (intOf i).toNat)
 case atStart=>exact ⟨0,rfl,by omega,by omega,by show _ = _; rfl,Below.refl _ _⟩
 case round=>
  obtain ⟨k,rfl,hk,hk9,hall,HB⟩:=hrel
  by_cases hlt:k < l.length
  ·by_cases h9:k < 9
   ·have hltI:(k:Int) < l.length:=by omega
    have h9I:(k:Int) < 9:=by omega
    obtain ⟨b,off,rfl,hbk,hr⟩:=Hs.out.atCl hlt
    have hr':=range_below hr HB.out hbk
    have hcOk:=hid (Hok.out _ (List.getElem_mem hlt))
    have ts:=hid (take_snoc l k hlt)
    have hmem:=hid (List.getElem_mem hlt)
    obtain ⟨c,hc⟩:∃c,l[k]=c:=⟨_,rfl⟩
    rw [hc] at hr' hcOk ts hmem
    have le:=ld_at hr'
    have cM:=hid (fun W=>RMayCl_any c W hcOk.out)
    cases hm:mayC c
    ·rw [hm] at cM
     have hno:Hid (mayL l=false):=by
      show _ = _
      rw [mayL,show l.all mayC=false by rw [List.all_eq_false]; exact ⟨c,hmem.out,by rw [hm]; simp⟩,Bool.and_false]
     clear hr hr' hc hm
     go_wp2_with fail
     refine (cM.out _).mono ?_
     rintro e w1 ⟨rfl,hB1⟩
     have HB1:=hid (HB.out.trans (hB1.mono HB.out.size))
     clear hB1 le
     go_wp2
     go_ret
     rw [hno.out]
     exact ⟨rfl,HB1.out⟩
    ·rw [hm] at cM
     have hyes:Hid ((l.take (k+1)).all mayC=true):=by show _ = _; rw [ts.out,List.all_append,hall.out,List.all_cons,hm]; rfl
     clear hr hr' hc hm
     go_wp2_with fail
     refine (cM.out _).mono ?_
     rintro e w1 ⟨rfl,hB1⟩
     have HB1:=hid (HB.out.trans (hB1.mono HB.out.size))
     clear hB1 le
     go_wp2
     exact ⟨⟨k+1,by go_num,by omega,by omega,hyes,HB1⟩,by simp [intOf]; omega⟩
   ·have hltI:(k:Int) < l.length:=by omega
    have h9I:¬(k:Int) < 9:=by omega
    have hno:Hid (mayL l=false):=by show _ = _; rw [mayL,decide_eq_false (by omega)]; rfl
    have h8J:decide ((l.length:Int)≤8)=false:=decide_eq_false (by omega)
    have h8I:¬(l.length:Int)≤8:=by omega
    go_wp2
    go_ret
    rw [hno.out]
    exact ⟨rfl,HB.out⟩
  ·have hltI:¬(k:Int) < l.length:=by omega
   have hke:l.take k=l:=List.take_of_length_le (by omega)
   rw [hke] at hall
   clear hke
   by_cases h8:l.length≤8
   ·have hno:Hid (mayL l=true):=by show _ = _; rw [mayL,decide_eq_true h8,hall.out]; rfl
    have h8I:(l.length:Int)≤8:=by omega
    clear hall
    go_wp2
    go_ret
    rw [hno.out]
    exact ⟨rfl,HB.out⟩
   ·have hno:Hid (mayL l=false):=by show _ = _; rw [mayL,decide_eq_false h8]; rfl
    have h8I:¬(l.length:Int)≤8:=by omega
    clear hall
    go_wp2
    go_ret
    rw [hno.out]
    exact ⟨rfl,HB.out⟩
end
end Go.Proofs.YtmjljpdeohbfbaaGreatDoor
