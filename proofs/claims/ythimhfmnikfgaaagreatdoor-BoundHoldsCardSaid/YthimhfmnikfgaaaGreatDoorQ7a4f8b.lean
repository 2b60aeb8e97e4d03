/-
  Function values that are called back: a closure, or a loop's yield; and who owns which block.
  What a disc's Put, and disc.Of, compute.
  disc.least, with each of the two functions that it is handed.
  What feriaref15's functions compute: lists of seconds.
  A disc's Join and Keep: they are handed discs that may be nil.
  The function that mask.All makes tells the numbers of its mask, rising, as long as more are wanted.
-/
import Derived.Test.YthimhfmnikfgaaaGreatDoorQ4acd54
import Derived.RangeFuncNested
import Derived.RangeFuncBound
import Derived.RangeFuncCalls
import Derived.RangeFuncLeaves
import Derived.OwnWalkIn
import Derived.Test.YthimhfmnikfgaaaGreatDoorQba836d
import Derived.Deep.MidRow
import Derived.TacticsInMore
import Derived.LoopNIn
import Derived.LoopIn
namespace Go.Proofs.YthimhfmnikfgaaaGreatDoor
set_option linter.unusedVariables false
section
open Go.RowKit
abbrev WF (r:Option Nat):Fence:={fn:=fun _=>True,depth:=none,alive:=false,round:=r}
theorem wf_calls {r:Option Nat} {n:Nat} {P:Program} {f:FuncId} {args:Array Value} {w:World} {R:Ending→World→Prop}:CallsIn (WF r) n P f args w R↔Calls P f args w R:=callsIn_wide (n:=n)
def CallV (P:Program) (y:Value) (args:Array Value) (W:World) (R:Ending→World→Prop):Prop:=
 (∃f cap,y= .func (.func f) #[] cap∧(∀args w,(callFunc f args).run P w= .ok (.enter f args) w)∧Calls P f (args ++ cap) W R)∨
 (∃l fn tmps assign body,y= .func (.yield l) #[] #[]∧(Instr.yield l args).run P W= .ok (.round l fn tmps assign body) W∧∀n,RoundIn (WF none) n P l fn tmps assign body W R)
theorem CallV.mono {P:Program} {y:Value} {args:Array Value} {W:World} {R R':Ending→World→Prop} (h:CallV P y args W R) (hr:∀e w',R e w'→R' e w'):CallV P y args W R':=by
 rcases h with ⟨f,cap,h1,h2,h3⟩ | ⟨l,fn,tmps,assign,body,h1,h2,h3⟩
 ·exact .inl ⟨f,cap,h1,h2,h3.mono hr⟩
 ·exact .inr ⟨l,fn,tmps,assign,body,h1,h2,fun n=>(h3 n).mono hr⟩
theorem callv {r:Option Nat} {n:Nat} {P:Program} {ops:Array Oper} {rest:List Oper} {o:Oper} {a:Act} {Q:Exit→Act→World→Prop} {W:World} (s x:Operand) (t:TypeId)
  (hgd:o.guard=none) (ho:o.op= .call {callee:= .value s,args:=#[x],argTypes:=#[t]}) {y u:Value} (hs:a.eval s=y) (hx:a.eval x=u) {R:Ending→World→Prop}
  (h:CallV P y #[u] W R) (hK:∀e W',R e W'→∃v,e= .returned v∧wpListIn (WF r) n P ops Q rest (a.put o.dst v) W') :
  wpListIn (WF r) n P ops Q (o :: rest) a W:=by
 refine wpListIn_plain hgd fun K hK'=>?_
 unfold Oper.wpIn
 refine ⟨fun _ _=>trivial,?_⟩
 rw [Oper.semAt_plain (WF r) _ _ (by rw [ho]; intro c hc; cases hc)]
 rcases h with ⟨f,cap,rfl,he,hc⟩ | ⟨l,fn,tmps,assign,body,rfl,hy,hc⟩
 ·simp [execOp,ho,resolve,invoke,hs,hx,he,Deferred.ofValue]
  rw [Oper.uponIn_enter]
  refine ⟨fun h=>(by cases h),wf_calls.mpr ((show Calls P f (#[u] ++ cap) W R from hc).mono fun e w' hr=>?_)⟩
  obtain ⟨v,rfl,hw⟩:=hK e w' hr
  exact hK' _ _ hw
 ·simp [execOp,ho,resolve,invoke,hs,hx,hy,Deferred.ofValue]
  rw [Oper.uponIn_round]
  refine ⟨fun h=>(by cases h),RoundIn.mono (hc _) fun e w' hr=>?_⟩
  obtain ⟨v,rfl,hw⟩:=hK e w' hr
  exact hK' _ _ hw
structure Eff (O:Nat→Prop) (W W':World):Prop where
 os:W'.os=W.os
 tape:W'.tape=W.tape
 output:W'.output=W.output
 size:W.heap.size≤W'.heap.size
 block:∀k,k < W.heap.size→¬O k→W'.heap[k]? =W.heap[k]?
theorem Eff.refl (O:Nat→Prop) (W:World):Eff O W W:=⟨rfl,rfl,rfl,zG _,fun _ _ _=>rfl⟩
theorem Eff.trans {O O':Nat→Prop} {A B C:World} (h:Eff O A B) (k:Eff O' B C) (hO:∀b,O' b→O b∨A.heap.size≤b):Eff O A C:=
 ⟨k.os.trans h.os,k.tape.trans h.tape,k.output.trans h.output,zI h.size k.size,fun i hi hn=>
  (k.block i (zH hi h.size) (fun ho=>by rcases hO i ho with h1 | h1; exact hn h1; omega)).trans (h.block i hi hn)⟩
theorem Eff.cell {O:Nat→Prop} {W W':World} (h:Eff O W W') {p:Addr} (hp:p.block < W.heap.size) (hn:¬O p.block):W'.cell? p=W.cell? p:=World.cell?_of_block (w:=W) (h.block p.block hp hn)
theorem Eff.of_below {O:Nat→Prop} {W W':World} (h:Below W.heap.size W W'):Eff O W W':=⟨h.os,h.tape,h.output,h.size,fun k hk _=>h.block k hk⟩
theorem Eff.below {O:Nat→Prop} {W W':World} {B:Nat} (h:Eff O W W') (hO:∀b,O b→B≤b) (hB:B≤W.heap.size):Below B W W':=
 ⟨h.os,h.tape,h.output,h.size,fun k hk=>h.block k (by omega) (fun ho=>by have:=hO k ho; omega)⟩
structure Client (P:Program) (y:Value) (xs:List Int) (J Jx:Nat→(Nat→Prop)→World→Prop):Prop where
 stab:∀k O W W',J k O W→W.heap.size≤W'.heap.size→(∀b,O b→W'.heap[b]? =W.heap[b]?)→J k O W'
 stabx:∀k O W W',Jx k O W→W.heap.size≤W'.heap.size→(∀b,O b→W'.heap[b]? =W.heap[b]?)→Jx k O W'
 lt:∀k O W,J k O W→∀b,O b→b < W.heap.size
 ltx:∀k O W,Jx k O W→∀b,O b→b < W.heap.size
 call:∀k O W,(hk:k < xs.length)→J k O W→CallV P y #[.int .i64 xs[k]] W fun e W'=>∃O':Nat→Prop,(∀b,O b→O' b)∧(∀b,O' b→O b∨W.heap.size≤b)∧Eff O W W'∧
  ((e= .returned (.bool true)∧J (k+1) O' W')∨(e= .returned (.bool false)∧Jx (k+1) O' W'))
def Told (xs:List Int) (J Jx:Nat→(Nat→Prop)→World→Prop) (O:Nat→Prop) (W:World) (W':World):Prop:=
 ∃O':Nat→Prop,(∀b,O b→O' b)∧(∀b,O' b→O b∨W.heap.size≤b)∧Eff O W W'∧(J xs.length O' W'∨∃k,1≤k∧k≤xs.length∧Jx k O' W')
end
section
open Go.RowKit
def putS (x:(Nat→Nat) × Nat) (n:Int):(Nat→Nat) × Nat:=
 if dsecB n && !bitW x.1 n.toNat then (fun j=>if j=n.toNat / 64 then x.1 (n.toNat / 64) ||| 2 ^ (n.toNat % 64) else x.1 j,x.2+1) else x
def putL (f:Nat→Nat) (l:List Int):(Nat→Nat) × Nat:=l.foldl putS (f,0)
theorem putL_snoc (f:Nat→Nat) (l:List Int) (k:Nat) (h:k < l.length):putL f (l.take (k+1))=putS (putL f (l.take k)) l[k]:=by
 rw [putL,putL,take_snoc l k h,List.foldl_append]; rfl
set_option maxRecDepth 100000 in
set_option maxHeartbeats 3200000 in
theorem Put_any (b:Nat) (f:Nat→Nat) (a:Option Addr) (cap:Nat) (l:List Int) (w:World) (hl:l.length≤9223372036854775807) (hs:Sl w a (ints l)) (hne:l≠ []→∀g off,a=some ⟨g,off,none⟩→g≠b)
  (hc:DC w b f) (hfz:∀i,w.frozen? ⟨b,i,none⟩=false) (hf:∀i,i < 1350→f i < 18446744073709551616) :
  Calls Tryz.prog 150 #[.pointer (some ⟨b,0,none⟩), .slice a l.length cap] w fun e w'=>e= .returned (.int .i64 ((putL f l).2:Nat))∧DC w' b (putL f l).1∧(∀i,w'.frozen? ⟨b,i,none⟩=false)∧
   Eff (fun x=>x=b) w w':=by
 have Hs:=hid hs
 have Hne:=hid hne
 have Hc:=hid hc
 have Hfz:=hid hfz
 have Hf:=hid hf
 have c1:=hid (fun n W=>DMay_any n W)
 have hlI:(l.length:Int)≤9223372036854775807:=by omega
 clear hs hne hc hfz hf hl
 go_enter Tryz.func150,Tryz.ntmps150
 go_wp2
 go_loopw [5,12] (fun m i wr=>∃k:Nat,i= .int .i64 k∧m= .int .i64 ((putL f (l.take k)).2:Nat)∧k≤l.length∧Hid (DC wr b (putL f (l.take k)).1∧(∀i,wr.frozen? ⟨b,i,none⟩=false)∧(∀i,i < 1350→(putL f (l.take k)).1 i < 18446744073709551616)∧(putL f (l.take k)).2≤k)∧Hid (Eff (fun x=>x=b) w wr)) (fun _ i _=>l.length - (intOf i).toNat)
 case atStart=>exact ⟨0,rfl,rfl,by omega,⟨Hc.out,Hfz.out,Hf.out,zG _⟩,Eff.refl _ _⟩
 case round=>
  obtain ⟨k,rfl,rfl,hk,HJ,HE⟩:=hrel
  by_cases hlt:k < l.length
  ·obtain ⟨g,off,rfl,hb,hcl⟩:=Hs.out.atInt hlt
   have e1:=(HE.out.cell (p:=⟨g,off+k,none⟩) hb (Hne.out (fun e=>by rw [e] at hlt; simp at hlt) g off rfl)).trans (hcl k hlt)
   have hsn:=hid (putL_snoc f l k hlt)
   obtain ⟨x,hx⟩:∃x,l[k]=x:=⟨_,rfl⟩
   rw [hx] at e1 hsn
   obtain ⟨p,hp⟩:∃p,putL f (l.take k)=p:=⟨_,rfl⟩
   rw [hp] at HJ hsn⊢
   clear hcl hx hp
   by_cases hd:dsecB x=true
   ·have hm:=hid (c1.out x)
    rw [hd] at hm
    have hh:=hid (DHas_any b p.1 x wr HJ.out.1 HJ.out.2.2.1)
    obtain ⟨n,rfl,hn⟩:=dsecB_some hd
    have hq:hasD p.1 (n:Int)=bitW p.1 n:=by rw [hasD,hd]; rfl
    rw [hq] at hh
    by_cases hb2:bitW p.1 n=true
    ·rw [hb2] at hh
     have he:Hid (putS p (n:Int)=p):=by show _ = _; rw [putS,Int.toNat_natCast,hb2]; simp
     clear hb2 hq hd
     have hnI:(n:Int) < 87000:=by omega
     clear hn
     go_wp2_with fail
     refine (hm.out _).mono ?_
     rintro e w' ⟨rfl,rfl⟩
     go_wp2_with fail
     refine hh.out.mono ?_
     rintro e w' ⟨rfl,rfl⟩
     go_wp2
     exact ⟨⟨k+1,by go_num,by rw [hsn.out,he.out],by omega,by rw [hsn.out,he.out]; exact ⟨HJ.out.1,HJ.out.2.1,HJ.out.2.2.1,by have:=HJ.out.2.2.2; omega⟩,HE.out⟩,by simp [intOf]; omega⟩
    ·have hb3:bitW p.1 n=false:=by simpa using hb2
     rw [hb3] at hh
     have he:Hid (putS p (n:Int)= (fun j=>if j=n / 64 then p.1 (n / 64) ||| 2 ^ (n % 64) else p.1 j,p.2+1)):=by show _ = _; rw [putS,Int.toNat_natCast,hd,hb3]; rfl
     have hi:n / 64 < 1350:=by omega
     have e2:=HJ.out.1 (n / 64) hi
     have e3:=HJ.out.2.1 (n / 64)
     have hnI:(n:Int) < 87000:=by omega
     have hcnt:(p.2:Int)+1≤9223372036854775807:=by have:=HJ.out.2.2.2; omega
     clear hb2 hb3 hq hd hn
     go_wp2_with fail
     refine (hm.out _).mono ?_
     rintro e w' ⟨rfl,rfl⟩
     go_wp2_with fail
     refine hh.out.mono ?_
     rintro e w' ⟨rfl,rfl⟩
     go_wp2_with fail
     go_region
     have hpw:n % 64 < 64:=Nat.mod_lt _ (by omega)
     have hor:=bits_or (HJ.out.2.2.1 (n / 64) hi) (pow_lt hpw)
     rw [←wrap_pow hpw] at hor
     rw [hor]
     have hlt2:=or_lt (HJ.out.2.2.1 (n / 64) hi) (pow_lt hpw)
     obtain ⟨v,hv⟩:∃v,p.1 (n / 64) ||| 2 ^ (n % 64)=v:=⟨_,rfl⟩
     rw [hv] at hlt2 he⊢
     have done:DC (wr.setCell ⟨b,n / 64,none⟩ (.int .u64 v)).drew b (putS p (n:Int)).1∧(∀i,(wr.setCell ⟨b,n / 64,none⟩ (.int .u64 v)).drew.frozen? ⟨b,i,none⟩=false)∧(∀i,i < 1350→(putS p (n:Int)).1 i < 18446744073709551616)∧(putS p (n:Int)).2≤k+1:=by
      rw [he.out]
      refine ⟨HJ.out.1.set hi,fun i=>by simp [go_sem,HJ.out.2.1 i],fun i hi=>?_,by have:=HJ.out.2.2.2; simp only []; omega⟩
      simp only []
      split
      ·exact hlt2
      ·exact HJ.out.2.2.1 i hi
     have Done:=hid done
     have HE2:Hid (Eff (fun x=>x=b) w (wr.setCell ⟨b,n / 64,none⟩ (.int .u64 v)).drew):=by
      have h:=HE.out
      refine ⟨h.os,h.tape,h.output,?_,fun j hj hn=>?_⟩
      ·show w.heap.size≤(wr.setCell ⟨b,n / 64,none⟩ (.int .u64 v)).heap.size
       simpa [go_sem] using h.size
      ·exact (Below.heap_setCell _ _ _ _ (by simpa using hn)).trans (h.block j hj hn)
     have h2:(putS p (n:Int)).2=p.2+1:=by rw [he.out]
     have H2:=hid h2
     clear done hor hpw hv hlt2 h2
     go_wp2
     exact ⟨⟨k+1,by go_num,by rw [hsn.out,H2.out]; go_num,by omega,by rw [hsn.out]; exact Done.out,HE2.out⟩,by simp [intOf]; omega⟩
   ·have hd':dsecB x=false:=by simpa using hd
    have hm:=hid (c1.out x)
    rw [hd'] at hm
    have he:Hid (putS p x=p):=by show _ = _; rw [putS,hd']; rfl
    clear hd hd'
    go_wp2_with fail
    refine (hm.out _).mono ?_
    rintro e w' ⟨rfl,rfl⟩
    go_wp2
    exact ⟨⟨k+1,by go_num,by rw [hsn.out,he.out],by omega,by rw [hsn.out,he.out]; exact ⟨HJ.out.1,HJ.out.2.1,HJ.out.2.2.1,by have:=HJ.out.2.2.2; omega⟩,HE.out⟩,by simp [intOf]; omega⟩
  ·have hke:l.take k=l:=List.take_of_length_le (by omega)
   rw [hke] at HJ⊢
   clear hke
   go_wp2
   go_ret
   exact ⟨rfl,HJ.out.1,HJ.out.2.1,HE.out⟩
theorem putS_bit (x:(Nat→Nat) × Nat) (n:Int) (k:Nat) (hk:k < 86400):bitW (putS x n).1 k= (bitW x.1 k || decide ((k:Int)=n)):=by
 rw [putS]
 by_cases hd:dsecB n=true
 ·obtain ⟨j,rfl,hj⟩:=dsecB_some hd
  rw [hd,Int.toNat_natCast]
  cases hb:bitW x.1 j
  ·simp only [Bool.not_false,Bool.and_self,if_true]
   rw [bitW,bitW]
   by_cases e:k / 64=j / 64
   ·have e2:decide (j % 64=k % 64)=decide ((k:Int)= (j:Int)):=by
     rw [Bool.eq_iff_iff,decide_eq_true_eq,decide_eq_true_eq]
     omega
    simp only [e,if_true,Nat.testBit_or,Nat.testBit_two_pow,e2]
   ·have h2:decide ((k:Int)= (j:Int))=false:=decide_eq_false (by omega)
    simp only [e,if_false,h2,Bool.or_false]
  ·simp only [Bool.not_true,Bool.and_false,Bool.false_eq_true,if_false]
   by_cases e:k=j
   ·subst e; rw [hb]; rfl
   ·rw [decide_eq_false (by omega),Bool.or_false]
 ·have hd':dsecB n=false:=by simpa using hd
  have hne:¬(k:Int)=n:=fun e=>by
   subst e
   rw [dsecB_nat,decide_eq_true hk] at hd'
   cases hd'
  rw [hd',decide_eq_false hne]
  simp
theorem foldl_bit (k:Nat) (hk:k < 86400):∀(l:List Int) (x:(Nat→Nat) × Nat),bitW (l.foldl putS x).1 k= (bitW x.1 k || decide ((k:Int)∈l))
 | [],x=>by simp
 | n :: l,x=>by
   rw [List.foldl_cons,foldl_bit k hk l,putS_bit x n k hk,Bool.or_assoc]
   congr 1
   rw [Bool.eq_iff_iff]
   simp
theorem putL_bit (f:Nat→Nat) (l:List Int) (k:Nat) (hk:k < 86400):bitW (putL f l).1 k= (bitW f k || decide ((k:Int)∈l)):=foldl_bit k hk l (f,0)
theorem putS_lt (x:(Nat→Nat) × Nat) (n:Int) (hx:∀i,i < 1350→x.1 i < 18446744073709551616):∀i,i < 1350→(putS x n).1 i < 18446744073709551616:=by
 intro i hi
 rw [putS]
 split
 ·rename_i h
  simp only [Bool.and_eq_true] at h
  obtain ⟨j,rfl,hj⟩:=dsecB_some h.1
  rw [Int.toNat_natCast]
  simp only []
  split
  ·exact or_lt (hx _ (by omega)) (pow_lt (Nat.mod_lt _ (by omega)))
  ·exact hx i hi
 ·exact hx i hi
theorem foldl_lt:∀(l:List Int) (x:(Nat→Nat) × Nat),(∀i,i < 1350→x.1 i < 18446744073709551616)→∀i,i < 1350→(l.foldl putS x).1 i < 18446744073709551616
 | [],x,hx=>hx
 | n :: l,x,hx=>foldl_lt l _ (putS_lt x n hx)
theorem putL_lt (f:Nat→Nat) (l:List Int) (hf:∀i,i < 1350→f i < 18446744073709551616):∀i,i < 1350→(putL f l).1 i < 18446744073709551616:=foldl_lt l _ hf
theorem frozen_fresh (W:World) (c:Array Value) (t:TypeId) (i:Nat):(W.alloc (.cells c t)).frozen? ⟨W.heap.size,i,none⟩=false:=by simp [go_sem]
def DiscAt (W:World) (b:Nat) (q:Nat→Bool):Prop:=∃f:Nat→Nat,DC W b f∧(∀i,W.frozen? ⟨b,i,none⟩=false)∧(∀i,i < 1350→f i < 18446744073709551616)∧(∀k,k < 86400→bitW f k=q k)∧b < W.heap.size
theorem DiscAt.below {W W':World} {b B:Nat} {q:Nat→Bool} (h:DiscAt W b q) (hb:Below B W W') (hB:b < B):DiscAt W' b q:=by
 obtain ⟨f,h1,h2,h3,h4,h5⟩:=h
 exact ⟨f,h1.below hb hB,fun i=>(hb.frozen (p:=⟨b,i,none⟩) hB).trans (h2 i),h3,h4,zH h5 hb.size⟩
def memD (l:List Int) (k:Nat):Bool:=decide ((k:Int)∈l)
set_option maxHeartbeats 1600000 in
theorem DOf_any (a:Option Addr) (cap:Nat) (l:List Int) (w:World) (hl:l.length≤9223372036854775807) (hs:Sl w a (ints l)) :
  Calls Tryz.prog 94 #[.slice a l.length cap] w fun e w'=>e= .returned (.pointer (some ⟨w.heap.size,0,none⟩))∧DiscAt w' w.heap.size (memD l)∧Below w.heap.size w w':=by
 obtain ⟨W1,hW1⟩:∃W1,w.alloc (.cells Tryz.zeroCells205 205)=W1:=⟨_,rfl⟩
 have q1:DC W1 w.heap.size (fun _=>0):=by rw [←hW1]; exact dc_new w
 have q2:∀i,W1.frozen? ⟨w.heap.size,i,none⟩=false:=fun i=>by rw [←hW1]; exact frozen_fresh w _ _ i
 have q3:Below w.heap.size w W1:=by rw [←hW1]; exact below_new (Below.refl _ _) (zG _)
 have q4:W1.heap.size=w.heap.size+1:=by rw [←hW1]; simp
 have c1:Hid (Calls Tryz.prog 150 #[.pointer (some ⟨w.heap.size,0,none⟩), .slice a l.length cap] W1 fun e w'=>(∃n:Nat,e= .returned (.int .i64 n))∧DiscAt w' w.heap.size (memD l)∧Eff (fun x=>x=w.heap.size) W1 w'):=by
  refine (Put_any w.heap.size (fun _=>0) a cap l W1 hl (hs.below q3) ?_ q1 q2 (fun _ _=>by omega)).mono fun e w' ⟨h1,h2,h3,h4⟩=>⟨⟨_,h1⟩,⟨_,h2,h3,putL_lt _ _ (fun _ _=>by omega),fun k hk=>?_,by have:=h4.size; omega⟩,h4⟩
  ·rintro hl g off rfl
   obtain ⟨g',off',e,hb,_⟩:=hs.atInt (k:=0) (List.length_pos_iff.mpr hl)
   cases e; omega
  ·rw [putL_bit _ _ k hk,bitW,Nat.zero_testBit,Bool.false_or]; rfl
 have HW1:=hid hW1
 have Q3:=hid q3
 clear hW1 q1 q2 q3 hs
 go_enter Tryz.func94,Tryz.ntmps94
 go_wp2_with fail
 rw [HW1.out]
 refine c1.out.mono ?_
 rintro e w2 ⟨⟨n,rfl⟩,hd,hE⟩
 have Hd:=hid hd
 have HE:=hid hE
 clear hd hE
 go_wp2
 go_ret
 exact ⟨rfl,Hd.out,Q3.out.trans (HE.out.below (by rintro b rfl; exact zG _) (by omega))⟩
end
section
open Go.RowKit
theorem bits_xor {a b:Nat} (ha:a < 18446744073709551616) (hb:b < 18446744073709551616):bits .xor .u64 (a:Int) (b:Int)= ((a ^^^ b:Nat):Int):=by
 show IntKind.u64.wrap ((BitVec.ofInt 64 (a:Int) ^^^ BitVec.ofInt 64 (b:Int)).toNat:Int)= _
 rw [BitVec.toNat_xor,ofInt_nat ha,ofInt_nat hb]
 exact wrap_nat (Nat.xor_lt_two_pow (n:=64) ha hb)
def dv:Option Nat→Value
 | none=> .pointer none
 | some b=> .pointer (some ⟨b,0,none⟩)
def DW (W:World):Option Nat→(Nat→Nat)→Prop
 | none,f=>f=fun _=>0
 | some b,f=>DC W b f
theorem WordD_any (d:Option Nat) (f:Nat→Nat) (i:Nat) (w:World) (hc:DW w d f) (hi:i < 1350) :
  Calls Tryz.prog 157 #[dv d, .int .i64 i] w fun e w'=>e= .returned (.int .u64 (f i:Nat))∧w=w':=by
 match d,hc with
 | none,hc=>rw [show f=fun _=>0 from hc]; exact Word_nil i w
 | some b,hc=>exact Word_any b f i w hc hi
theorem DifferFn_any (x y:Nat) (w:World) (hx:x < 18446744073709551616) (hy:y < 18446744073709551616) :
  Calls Tryz.prog 109 #[.int .u64 x, .int .u64 y] w fun e w'=>e= .returned (.int .u64 (x ^^^ y:Nat))∧w=w':=by
 have h:=hid (bits_xor hx hy)
 go_enter Tryz.func109,Tryz.ntmps109
 go_wp2
 go_ret
 rw [h.out]
 exact ⟨rfl,rfl⟩
def FirstOf (p:Nat→Bool) (n:Int) (ok:Bool):Prop:=
 (ok=true∧∃k:Nat,n=k∧k < 86400∧p k=true∧∀j,j < k→p j=false)∨(ok=false∧n=0∧∀j,j < 86400→p j=false)
theorem FirstOf.unique {p:Nat→Bool} {n n':Int} {ok ok':Bool} (h:FirstOf p n ok) (h':FirstOf p n' ok'):n=n'∧ok=ok':=by
 rcases h with ⟨rfl,k,rfl,hk,h1,h2⟩ | ⟨rfl,rfl,h2⟩ <;> rcases h' with ⟨rfl,k',rfl,hk',h1',h2'⟩ | ⟨rfl,rfl,h2'⟩
 ·refine ⟨?_,rfl⟩
  rcases Nat.lt_trichotomy k k' with h | h | h
  ·rw [h2' k h] at h1; cases h1
  ·rw [h]
  ·rw [h2 k' h] at h1'; cases h1'
 ·rw [h2' k hk] at h1; cases h1
 ·rw [h2 k' hk'] at h1'; cases h1'
 ·exact ⟨rfl,rfl⟩
theorem first_word (h:Nat→Nat) (k:Nat) (hk:k < 1350) (hz:∀j,j < k→h j=0) (hb:h k < 18446744073709551616) (hl:leastB (h k)=true):FirstOf (bitW h) ((k:Int) * 64+leastI (h k)) true:=by
 have h0:h k≠0:=by simpa [leastB] using hl
 obtain ⟨h1,h2,h3⟩:=lsb_spec h0 hb
 refine .inl ⟨rfl,k * 64+lsb (h k),by rw [leastI,if_neg h0]; simp,by omega,?_,fun j hj=>?_⟩
 ·rw [bitW,show (k * 64+lsb (h k)) / 64=k by omega,show (k * 64+lsb (h k)) % 64=lsb (h k) by omega]; exact h2
 ·rw [bitW]
  by_cases e:j / 64=k
  ·rw [e]; exact h3 _ (by omega)
  ·rw [hz (j / 64) (by omega),Nat.zero_testBit]
theorem leastI_bdD {m:Nat} (hm:m < 18446744073709551616):0≤leastI m∧leastI m < 64:=by
 rw [leastI]
 split
 ·omega
 ·rename_i h0
  have:=(lsb_spec h0 hm).1
  omega
theorem first_none (h:Nat→Nat) (hz:∀j,j < 1350→h j=0):FirstOf (bitW h) 0 false:=by
 refine .inr ⟨rfl,rfl,fun j hj=>?_⟩
 rw [bitW,hz (j / 64) (by omega),Nat.zero_testBit]
set_option maxRecDepth 100000 in
set_option maxHeartbeats 3200000 in
theorem leastDiffer_any (d e:Option Nat) (f g:Nat→Nat) (w:World) (hT:Tab w) (hd:DW w d f) (he:DW w e g) (hf:∀i,i < 1350→f i < 18446744073709551616) (hg:∀i,i < 1350→g i < 18446744073709551616) :
  Calls Tryz.prog 108 #[dv d,dv e, .func (.func 109) #[] #[]] w fun r w'=>(∃n ok,r= .returned (.tuple #[.int .i64 n, .bool ok])∧FirstOf (bitW (fun i=>f i ^^^ g i)) n ok)∧w=w':=by
 have c1:=hid (fun i hi=>WordD_any d f i w hd hi)
 have c2:=hid (fun i hi=>WordD_any e g i w he hi)
 have c3:=hid (fun i hi=>DifferFn_any (f i) (g i) w (hf i hi) (hg i hi))
 have c4:=hid (fun m hm=>Least_any m w hm hT)
 obtain ⟨h,hh⟩:∃h:Nat→Nat,h=fun i=>f i ^^^ g i:=⟨_,rfl⟩
 have hw:Hid (∀i,i < 1350→h i < 18446744073709551616):=fun i hi=>by rw [hh]; exact Nat.xor_lt_two_pow (n:=64) (hf i hi) (hg i hi)
 have e3:Hid (∀i,i < 1350→Calls Tryz.prog 109 #[.int .u64 (f i:Nat), .int .u64 (g i:Nat)] w fun e w'=>e= .returned (.int .u64 (h i:Nat))∧w=w'):=fun i hi=>by rw [hh]; exact c3.out i hi
 rw [←hh]
 obtain ⟨dp,hdp⟩:∃v,dv d=v:=⟨_,rfl⟩
 obtain ⟨ep,hep⟩:∃v,dv e=v:=⟨_,rfl⟩
 rw [hdp] at c1⊢
 rw [hep] at c2⊢
 clear hdp hep hd he hf hg hT hh c3
 go_enter Tryz.func108,Tryz.ntmps108
 go_wp2
 go_loopw [11] (fun i wr=>∃k:Nat,i= .int .i64 k∧Hid (k≤1350)∧Hid (∀j,j < k→h j=0)∧wr=w) (fun i _=>1350 - (intOf i).toNat)
 case atStart=>exact ⟨0,rfl,Nat.zero_le _,fun j hj=>by omega,rfl⟩
 case round=>
  obtain ⟨k,rfl,hk,hz,rfl⟩:=hrel
  by_cases hlt:(k:Int) < 1350
  ·have hk2:k < 1350:=by omega
   have d1:=hid (c1.out k hk2)
   have d2:=hid (c2.out k hk2)
   have d3:=hid (e3.out k hk2)
   have d4:=hid (c4.out _ (hw.out k hk2))
   have hfw:=hid (first_word h k hk2 hz.out (hw.out k hk2))
   obtain ⟨b1,b2⟩:=leastI_bdD (hw.out k hk2)
   have Hk2:=hid hk2
   have hb0:Hid (leastB (h k)=false→h k=0):=fun h=>by simpa [leastB] using h
   obtain ⟨L,hL⟩:∃L,leastI (h k)=L:=⟨_,rfl⟩
   rw [hL] at d4 hfw b1 b2
   clear hk2 hL
   cases hB:leastB (h k)
   ·rw [hB] at d4
    have hz2:Hid (∀j,j < k+1→h j=0):=fun j hj=>by
     by_cases e:j=k
     ·rw [e]; exact hb0.out hB
     ·exact hz.out j (by omega)
    clear hB
    go_wp2_with fail
    refine d1.out.mono ?_
    rintro e w' ⟨rfl,rfl⟩
    go_wp2_with fail
    refine d2.out.mono ?_
    rintro e w' ⟨rfl,rfl⟩
    go_wp2_with fail
    refine d3.out.mono ?_
    rintro e w' ⟨rfl,rfl⟩
    go_wp2_with fail
    refine d4.out.mono ?_
    rintro e w' ⟨rfl,rfl⟩
    go_wp2
    exact ⟨⟨k+1,by go_num,Hk2.out,hz2.out,by trivial⟩,by simp [intOf]; omega⟩
   ·rw [hB] at d4
    have hr:=hid (hfw.out hB)
    clear hB
    go_wp2_with fail
    refine d1.out.mono ?_
    rintro e w' ⟨rfl,rfl⟩
    go_wp2_with fail
    refine d2.out.mono ?_
    rintro e w' ⟨rfl,rfl⟩
    go_wp2_with fail
    refine d3.out.mono ?_
    rintro e w' ⟨rfl,rfl⟩
    go_wp2_with fail
    refine d4.out.mono ?_
    rintro e w' ⟨rfl,rfl⟩
    go_wp2
    go_ret2
    exact ⟨⟨_,_,rfl,hr.out⟩,rfl⟩
  ·have hz2:Hid (FirstOf (bitW h) 0 false):=first_none h (fun j hj=>hz.out j (by omega))
   go_wp2
   go_ret2
   exact ⟨⟨_, .inl ⟨rfl,hz2.out⟩⟩,rfl⟩
theorem FirstOf.congr {p q:Nat→Bool} {n:Int} {ok:Bool} (h:FirstOf p n ok) (e:∀k,k < 86400→p k=q k):FirstOf q n ok:=by
 rcases h with ⟨h1,k,h2,h3,h4,h5⟩ | ⟨h1,h2,h3⟩
 ·exact .inl ⟨h1,k,h2,h3,by rw [←e k h3]; exact h4,fun j hj=>by rw [←e j (by omega)]; exact h5 j hj⟩
 ·exact .inr ⟨h1,h2,fun j hj=>by rw [←e j hj]; exact h3 j hj⟩
def DiscV (W:World):Option Nat→(Nat→Bool)→Prop
 | none,q=>∀k,k < 86400→q k=false
 | some b,q=>DiscAt W b q
theorem DiscV.words {W:World} {d:Option Nat} {q:Nat→Bool} (h:DiscV W d q):∃f,DW W d f∧(∀i,i < 1350→f i < 18446744073709551616)∧∀k,k < 86400→bitW f k=q k:=by
 match d,h with
 | none,h=>exact ⟨fun _=>0,rfl,fun _ _=>by show 0 < _; omega,fun k hk=>by rw [bitW,Nat.zero_testBit]; exact (h k hk).symm⟩
 | some b,⟨f,h1,h2,h3,h4,h5⟩=>exact ⟨f,h1,h3,h4⟩
theorem xorW_bit (f g:Nat→Nat) (k:Nat):bitW (fun i=>f i ^^^ g i) k= (bitW f k != bitW g k):=by
 rw [bitW,bitW,bitW,Nat.testBit_xor]
theorem DDiffer_any (d e:Option Nat) (p q:Nat→Bool) (w:World) (hT:Tab w) (hd:DiscV w d p) (he:DiscV w e q) :
  Calls Tryz.prog 55 #[dv d,dv e] w fun r w'=>(∃n ok,r= .returned (.tuple #[.int .i64 n, .bool ok])∧FirstOf (fun k=>p k != q k) n ok)∧w=w':=by
 obtain ⟨f,f1,f2,f3⟩:=hd.words
 obtain ⟨g,g1,g2,g3⟩:=he.words
 have c1:=hid (leastDiffer_any d e f g w hT f1 g1 f2 g2)
 have hb:Hid (∀k,k < 86400→bitW (fun i=>f i ^^^ g i) k= (p k != q k)):=fun k hk=>by rw [xorW_bit,f3 k hk,g3 k hk]
 obtain ⟨dp,hdp⟩:∃v,dv d=v:=⟨_,rfl⟩
 obtain ⟨ep,hep⟩:∃v,dv e=v:=⟨_,rfl⟩
 rw [hdp] at c1⊢
 rw [hep] at c1⊢
 clear hdp hep hd he hT f1 f2 f3 g1 g2 g3
 go_enter Tryz.func55,Tryz.ntmps55
 go_wp2_with fail
 refine c1.out.mono ?_
 rintro r w' ⟨⟨n,ok,rfl,hF⟩,rfl⟩
 have HF:=hid hF
 clear hF
 go_wp2
 go_ret2
 exact ⟨⟨n,ok,rfl,HF.out.congr hb.out⟩,rfl⟩
end
section
open Go.RowKit
def MC (W:World) (b:Nat) (l:List Int):Prop:=∀j,j < 86400→W.cell? ⟨b,j,none⟩=some (.bool (memD l j))
theorem MC.below {W W':World} {b B:Nat} {l:List Int} (h:MC W b l) (hb:Below B W W') (hB:b < B):MC W' b l:=fun j hj=>(hb.cell (p:=⟨b,j,none⟩) hB).trans (h j hj)
def secL (q:Nat→Bool):List Int:=sel q 86400
end
section
open Go.RowKit
def dagg (f:Nat→Nat):Value:= .agg ((List.range 1350).map (fun i=>Value.int .u64 (f i:Nat))).toArray
theorem run_index_arr (cs:Array Value) (v:Value) (i:Nat) (h:i < 1350) (hc:cs[i]? =some v) (W:World):(Instr.index 203 (.agg cs) (.int .i64 i)).run Tryz.prog W= .ok v W:=by
 obtain ⟨i0,hi0,hz0,hz1,hz2⟩:=info_parts infoU64
 simp [Instr.index,go_sem,part,sizeOf,typeInfo,hi0,hz1,h,hc]
theorem run_index_dagg (f:Nat→Nat) (i:Nat) (h:i < 1350) (W:World):(Instr.index 203 (dagg f) (.int .i64 i)).run Tryz.prog W= .ok (.int .u64 (f i:Nat)) W:=by
 refine run_index_arr _ _ i h ?_ W
 rw [List.getElem?_toArray,List.getElem?_map,List.getElem?_range h]; rfl
theorem dc_range {W:World} {b:Nat} {f:Nat→Nat} (h:DC W b f):W.rangeAt b 0 ((List.range 1350).map (fun i=>Value.int .u64 (f i:Nat))):=fun j v hv=>by
 obtain ⟨hj,e⟩:=List.getElem?_eq_some_iff.1 hv
 simp at hj e
 rw [Nat.zero_add,h j hj,←e]
theorem infoDisc:(Tryz.prog.info? 203).map (·.size)=some 1350:=by kernel_rfl
theorem DC.eff {W W':World} {b:Nat} {O:Nat→Prop} {f:Nat→Nat} (h:DC W b f) (hE:Eff O W W') (hb:b < W.heap.size) (hn:¬O b):DC W' b f:=fun i hi=>(hE.cell (p:=⟨b,i,none⟩) hb hn).trans (h i hi)
theorem Eff.frozen {O:Nat→Prop} {W W':World} (h:Eff O W W') {p:Addr} (hp:p.block < W.heap.size) (hn:¬O p.block):W'.frozen? p=W.frozen? p:=World.frozen?_of_block (w:=W) (h.block p.block hp hn)
theorem Eff.set {O:Nat→Prop} {W W':World} (h:Eff O W W') {b:Nat} (hb:O b) (i:Nat) (v:Value):Eff O W (W'.setCell ⟨b,i,none⟩ v):=
 ⟨h.os,h.tape,h.output,by simpa [go_sem] using h.size,fun k hk hn=>(Below.heap_setCell _ _ _ _ (fun e=>hn (by subst e; exact hb))).trans (h.block k hk hn)⟩
theorem Eff.drew {O:Nat→Prop} {W W':World} (h:Eff O W W'):Eff O W W'.drew:=⟨h.os,h.tape,h.output,h.size,h.block⟩
abbrev DIn:=Option Nat × (Nat→Nat)
def dvs (ds:List DIn):List Value:=ds.map fun d=>dv d.1
theorem Sl.atD {w:World} {a:Option Addr} {l:List DIn} (h:Sl w a (dvs l)) {k:Nat} (hk:k < l.length) :
  ∃b off,a=some ⟨b,off,none⟩∧b < w.heap.size∧∀j (h:j < l.length),w.cell? ⟨b,off+j,none⟩=some (dv l[j].1):=by
 obtain ⟨b,off,rfl,hlt,hc⟩:=Sl.at h (k:=k) (by rw [dvs,List.length_map]; exact hk)
 refine ⟨b,off,rfl,hlt,fun j hj=>?_⟩
 rw [hc j (by rw [dvs,List.length_map]; exact hj)]
 simp [dvs]
structure DOk (W:World) (b:Nat) (d:DIn):Prop where
 words:DW W d.1 d.2
 bd:∀i,i < 1350→d.2 i < 18446744073709551616
 apart:∀c,d.1=some c→c≠b∧c < W.heap.size
theorem DOk.eff {W W':World} {b:Nat} {d:DIn} (h:DOk W b d) (hE:Eff (fun x=>x=b) W W'):DOk W' b d:=by
 obtain ⟨h1,h2,h3⟩:=h
 refine ⟨?_,h2,fun c e=>⟨(h3 c e).1,zH (h3 c e).2 hE.size⟩⟩
 match d,h1,h3 with
 | (none,f),h1,h3=>exact h1
 | (some c,f),h1,h3=>exact DC.eff h1 hE (h3 c rfl).2 (h3 c rfl).1
def orL (f:Nat→Nat) (ds:List DIn):Nat→Nat:=ds.foldl (fun f d i=>f i ||| d.2 i) f
theorem orL_snoc (f:Nat→Nat) (l:List DIn) (k:Nat) (h:k < l.length):orL f (l.take (k+1))=fun i=>orL f (l.take k) i ||| l[k].2 i:=by
 rw [orL,take_snoc l k h,List.foldl_append]; rfl
structure Upd (b:Nat) (f:Nat→Nat) (W W':World):Prop where
 words:DC W' b f
 free:∀i,W'.frozen? ⟨b,i,none⟩=false
 bd:∀i,i < 1350→f i < 18446744073709551616
 eff:Eff (fun x=>x=b) W W'
theorem Upd.congr {b:Nat} {f g:Nat→Nat} {W W':World} (h:Upd b f W W') (e:∀i,i < 1350→f i=g i):Upd b g W W':=
 ⟨h.words.congr e,h.free,fun i hi=>by rw [←e i hi]; exact h.bd i hi,h.eff⟩
theorem Upd.set {b:Nat} {f:Nat→Nat} {W W':World} (h:Upd b f W W') {i:Nat} (hi:i < 1350) {v:Nat} (hv:v < 18446744073709551616):Upd b (fun j=>if j=i then v else f j) W (W'.setCell ⟨b,i,none⟩ (.int .u64 v)):=
 ⟨h.words.set hi,fun j=>by simp [go_sem,h.free j],fun j hj=>by
  show (if j=i then v else f j) < _
  split
  ·exact hv
  ·exact h.bd j hj,h.eff.set rfl i _⟩
theorem Upd.drew {b:Nat} {f:Nat→Nat} {W W':World} (h:Upd b f W W'):Upd b f W W'.drew:=⟨h.words,h.free,h.bd,h.eff.drew⟩
set_option maxRecDepth 100000 in
set_option maxHeartbeats 3200000 in
theorem DJoin_any (b:Nat) (f:Nat→Nat) (a:Option Addr) (cap:Nat) (ds:List DIn) (w:World) (hl:ds.length≤9223372036854775807) (hs:Sl w a (dvs ds)) (hne:ds≠ []→∀g off,a=some ⟨g,off,none⟩→g≠b)
  (hd:∀d∈ds,DOk w b d) (hu:Upd b f w w) :
  Calls Tryz.prog 199 #[.pointer (some ⟨b,0,none⟩), .slice a ds.length cap] w fun e w'=>(∃v,e= .returned v)∧Upd b (orL f ds) w w':=by
 have Hs:=hid hs
 have Hne:=hid hne
 have Hd:=hid hd
 have Hu:=hid hu
 have hlI:(ds.length:Int)≤9223372036854775807:=by omega
 clear hs hne hd hu hl
 go_enter Tryz.func199,Tryz.ntmps199
 go_wp2
 go_loopw [12] (fun i wr=>∃k:Nat,i= .int .i64 k∧k≤ds.length∧Hid (Upd b (orL f (ds.take k)) w wr)) (fun i _=>ds.length - (intOf i).toNat)
 case atStart=>exact ⟨0,rfl,by omega,Hu.out⟩
 case round=>
  obtain ⟨k,rfl,hk,HJ⟩:=hrel
  by_cases hlt:k < ds.length
  ·obtain ⟨g,off,rfl,hb,hcl⟩:=Hs.out.atD hlt
   have e1:=(HJ.out.eff.cell (p:=⟨g,off+k,none⟩) hb (Hne.out (fun e=>by rw [e] at hlt; simp at hlt) g off rfl)).trans (hcl k hlt)
   have hsn:=hid (orL_snoc f ds k hlt)
   have hdk:=hid ((Hd.out ds[k] (List.getElem_mem hlt)).eff HJ.out.eff)
   obtain ⟨p,hp⟩:∃p,orL f (ds.take k)=p:=⟨_,rfl⟩
   rw [hp] at HJ hsn
   obtain ⟨d,hde⟩:∃d,ds[k]=d:=⟨_,rfl⟩
   rw [hde] at e1 hsn hdk
   clear hcl hp hde
   obtain ⟨dc,g2⟩:=d
   cases dc with
   | none=>
     have hz:Hid (g2=fun _=>0):=hdk.out.words
     have HJ2:Hid (Upd b (orL f (ds.take (k+1))) w wr):=by
      show Upd _ _ _ _
      rw [hsn.out]
      exact HJ.out.congr (fun i _=>by simp only [hz.out,Nat.or_zero])
     have e1':wr.cell? ⟨g,off+k,none⟩=some (.pointer none):=e1
     clear e1 HJ hsn hdk
     go_wp2
     exact ⟨⟨k+1,by go_num,by omega,HJ2.out⟩,by simp [intOf]; omega⟩
   | some c=>
     have hW:DC wr c g2:=hdk.out.words
     have hbd:=hid hdk.out.bd
     have hrg:=hid (dc_range hW)
     have hix:=hid (fun i hi W=>run_index_dagg g2 i hi W)
     have e1':wr.cell? ⟨g,off+k,none⟩=some (.pointer (some ⟨c,0,none⟩)):=e1
     clear e1 hW hdk
     go_wp2_with (refine wpList_load_mid rfl 203 (.tmp 20) rfl c 0 rfl _ _ hrg.out Tryz.underlying203 rfl (by rw [List.length_map,List.length_range]; exact infoDisc) ?_)
     obtain ⟨V,hV⟩:∃V,dagg g2=V:=⟨_,rfl⟩
     rw [show Value.agg ((List.range 1350).map (fun i=>Value.int .u64 (g2 i:Nat))).toArray=V from hV]
     rw [hV] at hix
     clear hV e1' hrg
     go_wp2_with fail
     go_loopw [22] (fun i wq=>∃j:Nat,i= .int .i64 j∧j≤1350∧Hid (Upd b (fun i=>if i < j then p i ||| g2 i else p i) w wq)) (fun i _=>1350 - (intOf i).toNat)
     case atStart=>exact ⟨0,rfl,by omega,HJ.out.congr (fun i _=>by simp)⟩
     case round=>
      obtain ⟨j,rfl,hj,HI⟩:=hrel
      by_cases hlt2:j < 1350
      ·have hi2:=hix.out j hlt2
       have e2:wr.cell? ⟨b,j,none⟩=some (.int .u64 (p j:Nat)):=by have:=HI.out.words j hlt2; simpa using this
       have e3:=HI.out.free j
       have hpj:=HI.out.bd j hlt2
       simp only [Nat.lt_irrefl,if_false] at hpj
       have hor:=hid (bits_or hpj (hbd.out j hlt2))
       have hlt3:=hid (or_lt hpj (hbd.out j hlt2))
       have hjI:(j:Int) < 1350:=by omega
       clear hpj
       go_wp2_with fail
       go_region
       rw [hor.out]
       have HI2:Hid (Upd b (fun i=>if i < j+1 then p i ||| g2 i else p i) w (wr.setCell ⟨b,j,none⟩ (.int .u64 (p j ||| g2 j:Nat))).drew):=by
        refine ((HI.out.set hlt2 hlt3.out).congr (fun i _=>?_)).drew
        by_cases e:i=j
        ·subst e; simp
        ·have:(i < j+1)= (i < j):=by simp; omega
         simp [e,this]
       clear e2 e3 hi2
       go_wp2
       exact ⟨⟨j+1,by go_num,by omega,HI2.out⟩,by simp [intOf]; omega⟩
      ·obtain rfl:j=1350:=by omega
       have HJ2:Hid (Upd b (orL f (ds.take (k+1))) w wr):=by
        show Upd _ _ _ _
        rw [hsn.out]
        exact HI.out.congr (fun i hi=>by simp [hi])
       go_wp2
       exact ⟨⟨k+1,by go_num,by omega,HJ2.out⟩,by simp [intOf]; omega⟩
  ·have hke:ds.take k=ds:=List.take_of_length_le (by omega)
   rw [hke] at HJ
   clear hke
   go_wp2
   go_end0
   exact ⟨⟨_,rfl⟩,HJ.out⟩
theorem Eff.setCells {O:Nat→Prop} {W:World} {b:Nat} (hb:O b):∀(vs:List Value) (o:Nat) (W':World),Eff O W W'→Eff O W (W'.setCells b o vs)
 | [],_,_,h=>h
 | v :: vs,o,W',h=>by rw [World.setCells]; exact Eff.setCells hb vs (o+1) _ (h.set hb o v)
theorem Upd.there {b:Nat} {f:Nat→Nat} {W W':World} (h:Upd b f W W'):W'.there b 0 (List.replicate 1350 (Value.int .u64 0)).toArray.size:=fun j hj=>by
 rw [List.size_toArray,List.length_replicate] at hj
 rw [Nat.zero_add]
 exact ⟨by rw [h.words j hj]; rfl,h.free j⟩
theorem Upd.zero {b:Nat} {f:Nat→Nat} {W W':World} (h:Upd b f W W'):Upd b (fun _=>0) W (W'.setCells b 0 (List.replicate 1350 (Value.int .u64 0))):=by
 refine ⟨fun i hi=>?_,fun i=>by rw [World.frozen?_setCells]; exact h.free i,fun _ _=>by omega,Eff.setCells (O:=fun x=>x=b) rfl _ _ _ h.eff⟩
 have:=World.cell?_setCells_in b (List.replicate 1350 (Value.int .u64 0)) 0 W' (fun j hj=>by rw [List.length_replicate] at hj; rw [Nat.zero_add,h.words j hj]; rfl) i (by rw [List.length_replicate]; exact hi)
 rw [Nat.zero_add,List.getElem_replicate] at this
 exact this
theorem Upd.all {b:Nat} {f:Nat→Nat} {W W':World} (h:Upd b f W W') (g:Nat→Nat):DC (W'.setCells b 0 ((List.range 1350).map (fun i=>Value.int .u64 (g i:Nat)))) b g∧Eff (fun x=>x=b) W (W'.setCells b 0 ((List.range 1350).map (fun i=>Value.int .u64 (g i:Nat)))):=by
 refine ⟨fun i hi=>?_,Eff.setCells (O:=fun x=>x=b) rfl _ _ _ h.eff⟩
 have:=World.cell?_setCells_in b ((List.range 1350).map (fun i=>Value.int .u64 (g i:Nat))) 0 W' (fun j hj=>by rw [List.length_map,List.length_range] at hj; rw [Nat.zero_add,h.words j hj]; rfl) i (by rw [List.length_map,List.length_range]; exact hi)
 rw [Nat.zero_add,List.getElem_map,List.getElem_range] at this
 exact this
end
section
open Go.RowKit
theorem sel_rising (p:Nat→Bool):∀n,(sel p n).Pairwise (·< ·)
 | 0=>by simp [sel_zero]
 | n+1=>by
   by_cases h:p n=true
   ·rw [sel_yes h,List.pairwise_append]
    refine ⟨sel_rising p n,by simp,fun x hx y hy=>?_⟩
    obtain ⟨k,hk,_,rfl⟩:=sel_mem.mp hx
    obtain rfl:y= (n:Int):=by simpa using hy
    omega
   ·rw [sel_no (by simpa using h)]; exact sel_rising p n
theorem wantF_skip (n:Int) (r:List Int):∀l:List Int,(∀x∈l,¬n < x)→wantF n (l ++ r)=wantF n r
 | [],_=>rfl
 | x :: xs,h=>by rw [List.cons_append,wantF,if_neg (h x (by simp)),wantF_skip n r xs (fun z hz=>h z (by simp [hz]))]
theorem wantF_next {l:List Int} (h:l.Pairwise (·< ·)) (k:Nat) (hk:k < l.length):wantF l[k] l=if hn:k+1 < l.length then l[k+1] else -1:=by
 have h1:wantF l[k] l=wantF l[k] (l.drop (k+1)):=by
  have gen:∀x,(∀y∈l.take (k+1),¬x < y)→wantF x l=wantF x (l.drop (k+1)):=fun x hx=>by
   have:=wantF_skip x (l.drop (k+1)) (l.take (k+1)) hx
   rwa [List.take_append_drop] at this
  refine gen _ (fun x hx=>?_)
  obtain ⟨j,hj,rfl⟩:=List.mem_take_iff_getElem.mp hx
  have hj':j≤k:=by omega
  rcases Nat.lt_or_ge j k with hjk | hjk
  ·have:=List.pairwise_iff_getElem.mp h j k (by omega) hk hjk; omega
  ·obtain rfl:j=k:=by omega
   omega
 rw [h1]
 by_cases hn:k+1 < l.length
 ·rw [dif_pos hn,List.drop_eq_getElem_cons hn,wantF,if_pos (List.pairwise_iff_getElem.mp h k (k+1) hk hn (by omega))]
 ·rw [dif_neg hn,List.drop_of_length_le (by omega)]; rfl
theorem sel_nonneg {p:Nat→Bool} {n:Nat} (k:Nat) (hk:k < (sel p n).length):0≤(sel p n)[k]:=by
 obtain ⟨j,_,_,e⟩:=sel_mem.mp (List.getElem_mem hk)
 omega
theorem next_at {m:Nat} (hm:m < 18446744073709551616) (k:Nat) (hk:k < (sel m.testBit 64).length) :
  leastB (aboveM m (sel m.testBit 64)[k])=decide (k+1 < (sel m.testBit 64).length)∧leastI (aboveM m (sel m.testBit 64)[k])= (sel m.testBit 64).getD (k+1) 0:=by
 have hw:=wantF_next (sel_rising m.testBit 64) k hk
 by_cases ha:aboveM m (sel m.testBit 64)[k]=0
 ·rw [want_no _ hm ha] at hw
  have hn:¬k+1 < (sel m.testBit 64).length:=fun hn=>by
   rw [dif_pos hn] at hw
   have:=sel_nonneg (k+1) hn
   omega
  rw [ha]
  refine ⟨by simp [leastB,hn],?_⟩
  rw [List.getD_eq_getElem?_getD,List.getElem?_eq_none (by omega)]; rfl
 ·rw [want_yes _ hm ha] at hw
  have hn:k+1 < (sel m.testBit 64).length:=Decidable.byContradiction fun hn=>by
   rw [dif_neg hn] at hw; omega
  rw [dif_pos hn] at hw
  refine ⟨by simp [leastB,hn,ha],?_⟩
  rw [leastI,if_neg ha,hw,List.getD_eq_getElem?_getD,List.getElem?_eq_getElem hn]; rfl
theorem least_at {m:Nat} (hm:m < 18446744073709551616):leastB m=decide (0 < (sel m.testBit 64).length)∧leastI m= (sel m.testBit 64).getD 0 0:=by
 by_cases h0:m=0
 ·rw [first_no h0]; simp [leastB,leastI,h0]
 ·obtain ⟨bs,hb⟩:=first_yes hm h0
  rw [hb]; simp [leastB,leastI,h0]
attribute [local go_sem] Oper.semAt_some
theorem Tab.eff {O:Nat→Prop} {W W':World} (h:Tab W) (hE:Eff O W W') (hn:¬O 0):Tab W':=
 ⟨zH h.1 hE.size,fun i hi=>(hE.cell (p:=⟨0,i,none⟩) h.1 hn).trans (h.2 i hi)⟩
def twOf:Value→Nat
 | .bool true=>1
 | _=>0
theorem sel_bd {p:Nat→Bool} (k:Nat) (hk:k < (sel p 64).length):0≤(sel p 64)[k]∧(sel p 64)[k]≤63:=by
 obtain ⟨j,hj,_,e⟩:=sel_mem.mp (List.getElem_mem hk)
 omega
theorem sel_less {p:Nat→Bool} (k:Nat) (hj:k < (sel p 64).length) (hk:k+1 < (sel p 64).length):(sel p 64)[k] < (sel p 64)[k+1]:=
 List.pairwise_iff_getElem.mp (sel_rising p 64) k (k+1) (by omega) hk (by omega)
end
end Go.Proofs.YthimhfmnikfgaaaGreatDoor
