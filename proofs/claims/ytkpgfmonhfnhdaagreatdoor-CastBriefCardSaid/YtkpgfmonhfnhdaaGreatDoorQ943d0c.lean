/-
  What a face is (plain).
  disc.least, with each of the two functions that it is handed.
  A disc's Join and Keep: they are handed discs that may be nil.
  cast.Face: its cells, and what a face is of days.
-/
import Derived.Test.YtkpgfmonhfnhdaaGreatDoorQ060903
import Derived.Test.YtkpgfmonhfnhdaaGreatDoorQ5411a8
import Derived.Test.YtkpgfmonhfnhdaaGreatDoorQ3e71e3
import Derived.Test.YtkpgfmonhfnhdaaGreatDoorQ9a3e48
import Derived.Test.YtkpgfmonhfnhdaaGreatDoorQd4b665
import Derived.Deep.MidRow
import Derived.Deep.CutRange
import Derived.Test.YtkpgfmonhfnhdaaGreatDoorQf229a4
namespace Go.Proofs.YtkpgfmonhfnhdaaGreatDoor
set_option linter.unusedVariables false
section
open Go.RowKit
def hrL (X:List Int):List Int:=X.map fun s=>s / 3600
def mnL (X:List Int):List Int:=X.map fun s=>s / 60 % 60
def scL (X:List Int):List Int:=X.map fun s=>s % 60
theorem tm_snoc {X:List Int} {k:Nat} (hk:k < X.length) (h0:0≤X[k]) (h1:X[k] < 86400) :
  ofM (hrL (X.take (k+1)))=ofM (hrL (X.take k)) ||| 2 ^ (X[k] / 3600).toNat∧ofM (mnL (X.take (k+1)))=ofM (mnL (X.take k)) ||| 2 ^ (X[k] / 60 % 60).toNat∧ofM (scL (X.take (k+1)))=ofM (scL (X.take k)) ||| 2 ^ (X[k] % 60).toNat:=by
 rw [yai X k hk]
 refine ⟨?_,?_,?_⟩
 ·rw [yii _ _ (by omega),hrL,List.map_append,Int.toNat_of_nonneg (by omega)]; rfl
 ·rw [yii _ _ (by omega),mnL,List.map_append,Int.toNat_of_nonneg (by omega)]; rfl
 ·rw [yii _ _ (by omega),scL,List.map_append,Int.toNat_of_nonneg (by omega)]; rfl
def fcU (H M S:Nat) (L:List Int) (i:Nat):Nat:=
 if i=0 then S else if i=1 then M else if i=2 then H
 else if i < 7 then ofM (L.map fun D=>shF D (i - 1))
 else if i < 14 then wof (L.map fun D=>shF D 1 - 1970) (i - 7)
 else if i < 22 then ofM ((L.filter fun D=>decide (shF D 5= ((i - 14:Nat):Int))).map fun D=>shF D 6)
 else if i < 30 then ofM ((L.filter fun D=>decide (shF D 5= ((i - 22:Nat):Int))).map fun D=>shF D 7)
 else if i < 38 then ofM ((L.filter fun D=>decide (shF D 5= ((i - 30:Nat):Int))).map fun D=>shF D 8)
 else ofM ((L.filter fun D=>decide (shF D 5= ((i - 38:Nat):Int))).map fun D=>shF D 9)
def dyU (s:Nat→Int) (u:Nat→Nat) (i:Nat):Nat:=
 if i < 3 then u i else if i < 7 then u i ||| ofM [s (i - 1)]
 else if i < 14 then if (i - 7:Nat)= (s 1 - 1970).toNat / 64 then u i ||| 2 ^ ((s 1 - 1970).toNat % 64) else u i
 else if i < 22 then if ((i - 14:Nat):Int)=s 5 then u i ||| ofM [s 6] else u i
 else if i < 30 then if ((i - 22:Nat):Int)=s 5 then u i ||| ofM [s 7] else u i
 else if i < 38 then if ((i - 30:Nat):Int)=s 5 then u i ||| ofM [s 8] else u i
 else if ((i - 38:Nat):Int)=s 5 then u i ||| ofM [s 9] else u i
theorem mk_bor (p q:Nat→Bool):mk p ||| mk q=mk fun i=>p i || q i:=
 ydv (yeE (yan p) (yan q)) fun i hi=>by rw [Nat.testBit_or,yaN,yaN]; simp [hi]
theorem yih (l:List Int) (x:Int):ofM (l ++ [x])=ofM l ||| ofM [x]:=by
 rw [ofM,ofM,ofM,mk_bor]
 exact yaE fun i _=>by simp [inB,Bool.decide_or]
theorem yej (L:List Int) (D:Int) (i k:Nat) (j:Nat):ofM (((L ++ [D]).filter fun D=>decide (shF D 5= (j:Int))).map fun D=>shF D k)=if (j:Int)=shF D 5 then ofM ((L.filter fun D=>decide (shF D 5= (j:Int))).map fun D=>shF D k) ||| ofM [shF D k] else ofM ((L.filter fun D=>decide (shF D 5= (j:Int))).map fun D=>shF D k):=by
 rw [List.filter_append,List.map_append]
 by_cases h:(j:Int)=shF D 5
 ·rw [if_pos h,List.filter_cons,if_pos (by rw [decide_eq_true_eq]; exact h.symm),List.filter_nil,List.map_cons,List.map_nil,yih]
 ·rw [if_neg h,List.filter_cons,if_neg (by rw [decide_eq_true_eq]; exact fun e=>h e.symm),List.filter_nil,List.map_nil,List.append_nil]
theorem fcU_snoc (H M S:Nat) (L:List Int) {D:Int} (h0:1970≤shF D 1) (h1:shF D 1 < 2370) (i:Nat):fcU H M S (L ++ [D]) i=dyU (shF D) (fcU H M S L) i:=by
 simp only [fcU,dyU]
 by_cases a3:i < 3
 ·rw [if_pos a3]
  have:i=0∨i=1∨i=2:=by omega
  rcases this with rfl | rfl | rfl <;> rfl
 ·simp only [if_neg a3,if_neg (show¬i=0 by omega),if_neg (show¬i=1 by omega),if_neg (show¬i=2 by omega)]
  by_cases a7:i < 7
  ·simp only [if_pos a7]
   rw [List.map_append,List.map_cons,List.map_nil,yih]
  simp only [if_neg a7]
  by_cases a14:i < 14
  ·simp only [if_pos a14]
   obtain ⟨n,hn⟩:∃n:Nat,shF D 1 - 1970= (n:Int):=⟨(shF D 1 - 1970).toNat,by omega⟩
   rw [List.map_append,List.map_cons,List.map_nil,hn,Int.toNat_natCast]
   by_cases e:i - 7=n / 64
   ·rw [if_pos e,e,wof_in _ _ (by omega)]
   ·rw [if_neg e,wof_other _ _ _ e]
  simp only [if_neg a14]
  by_cases a22:i < 22
  ·simp only [if_pos a22]; exact yej L D i 6 (i - 14)
  simp only [if_neg a22]
  by_cases a30:i < 30
  ·simp only [if_pos a30]; exact yej L D i 7 (i - 22)
  simp only [if_neg a30]
  by_cases a38:i < 38
  ·simp only [if_pos a38]; exact yej L D i 8 (i - 30)
  simp only [if_neg a38]
  exact yej L D i 9 (i - 38)
def bit3 (u:Nat→Nat) (s:Int):Prop:=(u 2).testBit (s / 3600).toNat=true∧(u 1).testBit (s / 60 % 60).toNat=true∧(u 0).testBit (s % 60).toNat=true
structure HmP (u:Nat→Nat) (P:Int→Prop):Prop where
 lt:∀i,i < 3→u i < 18446744073709551616
 inn:∀s,P s→bit3 u s
 rng:∀s,P s→0≤s∧s < 86400
 h:∀i,(u 2).testBit i=true→∃s,P s∧(s / 3600).toNat=i
 m:∀i,(u 1).testBit i=true→∃s,P s∧(s / 60 % 60).toNat=i
 s:∀i,(u 0).testBit i=true→∃s,P s∧(s % 60).toNat=i
theorem HmP.same {u:Nat→Nat} {P Q:Int→Prop} (h:HmP u P) (hi:∀s,P s→Q s) (ho:∀s,Q s→P s∨((0≤s∧s < 86400)∧bit3 u s)):HmP u Q:=
 ⟨h.lt,fun s hs=>(ho s hs).elim (h.inn s) (fun e=>e.2),fun s hs=>(ho s hs).elim (h.rng s) (fun e=>e.1),fun i e=>let ⟨s,h1,h2⟩:=h.h i e; ⟨s,hi s h1,h2⟩,fun i e=>let ⟨s,h1,h2⟩:=h.m i e; ⟨s,hi s h1,h2⟩,fun i e=>let ⟨s,h1,h2⟩:=h.s i e; ⟨s,hi s h1,h2⟩⟩
theorem HmP.as {u u':Nat→Nat} {P:Int→Prop} (h:HmP u P) (e:∀i,i < 3→u' i=u i):HmP u' P:=by
 have e0:=e 0 (by omega)
 have e1:=e 1 (by omega)
 have e2:=e 2 (by omega)
 exact ⟨fun i hi=>by rw [e i hi]; exact h.lt i hi,fun s hs=>by rw [bit3,e0,e1,e2]; exact h.inn s hs,h.rng,fun i=>by rw [e2]; exact h.h i,fun i=>by rw [e1]; exact h.m i,fun i=>by rw [e0]; exact h.s i⟩
theorem yb6 (l:List Int) (i:Nat):(ofM l).testBit i= (decide (i < 64) && decide ((i:Int)∈l)):=by rw [ofM,yaN,inB]
theorem HmP.or {u u':Nat→Nat} {P:Int→Prop} (h:HmP u P) {X:List Int} (hX:∀x∈X,0≤x∧x < 86400) (e2:u' 2=u 2 ||| ofM (hrL X)) (e1:u' 1=u 1 ||| ofM (mnL X)) (e0:u' 0=u 0 ||| ofM (scL X)):HmP u' (fun s=>P s∨s∈X):=by
 have key:∀s∈X,(ofM (hrL X)).testBit (s / 3600).toNat=true∧(ofM (mnL X)).testBit (s / 60 % 60).toNat=true∧(ofM (scL X)).testBit (s % 60).toNat=true:=fun s hs=>by
  have:=hX s hs
  refine ⟨?_,?_,?_⟩
  ·rw [yb6,Bool.and_eq_true,decide_eq_true_eq,decide_eq_true_eq,Int.toNat_of_nonneg (by omega)]
   exact ⟨by omega,List.mem_map.2 ⟨s,hs,rfl⟩⟩
  ·rw [yb6,Bool.and_eq_true,decide_eq_true_eq,decide_eq_true_eq,Int.toNat_of_nonneg (by omega)]
   exact ⟨by omega,List.mem_map.2 ⟨s,hs,rfl⟩⟩
  ·rw [yb6,Bool.and_eq_true,decide_eq_true_eq,decide_eq_true_eq,Int.toNat_of_nonneg (by omega)]
   exact ⟨by omega,List.mem_map.2 ⟨s,hs,rfl⟩⟩
 refine ⟨fun i hi=>?_,fun s hs=>?_,fun s hs=>hs.elim (h.rng s) (hX s),fun i hi=>?_,fun i hi=>?_,fun i hi=>?_⟩
 ·have:i=0∨i=1∨i=2:=by omega
  rcases this with rfl | rfl | rfl
  ·rw [e0]; exact yeE (h.lt 0 (by omega)) (yan _)
  ·rw [e1]; exact yeE (h.lt 1 (by omega)) (yan _)
  ·rw [e2]; exact yeE (h.lt 2 (by omega)) (yan _)
 ·rw [bit3,e0,e1,e2,Nat.testBit_or,Nat.testBit_or,Nat.testBit_or,Bool.or_eq_true,Bool.or_eq_true,Bool.or_eq_true]
  rcases hs with hs | hs
  ·obtain ⟨b2,b1,b0⟩:=h.inn s hs; exact ⟨.inl b2, .inl b1, .inl b0⟩
  ·obtain ⟨b2,b1,b0⟩:=key s hs; exact ⟨.inr b2, .inr b1, .inr b0⟩
 ·rw [e2,Nat.testBit_or,Bool.or_eq_true] at hi
  rcases hi with hi | hi
  ·obtain ⟨s,h1,h2⟩:=h.h i hi; exact ⟨s, .inl h1,h2⟩
  ·rw [yb6,Bool.and_eq_true,decide_eq_true_eq,decide_eq_true_eq,hrL,List.mem_map] at hi
   obtain ⟨-,s,hs,e⟩:=hi; exact ⟨s, .inr hs,by omega⟩
 ·rw [e1,Nat.testBit_or,Bool.or_eq_true] at hi
  rcases hi with hi | hi
  ·obtain ⟨s,h1,h2⟩:=h.m i hi; exact ⟨s, .inl h1,h2⟩
  ·rw [yb6,Bool.and_eq_true,decide_eq_true_eq,decide_eq_true_eq,mnL,List.mem_map] at hi
   obtain ⟨-,s,hs,e⟩:=hi; exact ⟨s, .inr hs,by omega⟩
 ·rw [e0,Nat.testBit_or,Bool.or_eq_true] at hi
  rcases hi with hi | hi
  ·obtain ⟨s,h1,h2⟩:=h.s i hi; exact ⟨s, .inl h1,h2⟩
  ·rw [yb6,Bool.and_eq_true,decide_eq_true_eq,decide_eq_true_eq,scL,List.mem_map] at hi
   obtain ⟨-,s,hs,e⟩:=hi; exact ⟨s, .inr hs,by omega⟩
theorem HmP.eq {u v:Nat→Nat} {P Q:Int→Prop} (h:HmP u P) (k:HmP v Q) (e:∀s,P s↔Q s) {i:Nat} (hi:i < 3):u i=v i:=by
 have:i=0∨i=1∨i=2:=by omega
 have key:∀{a b:Nat},(∀i,a.testBit i=true↔b.testBit i=true)→a=b:=fun hab=>Nat.eq_of_testBit_eq fun i=>Bool.eq_iff_iff.2 (hab i)
 rcases this with rfl | rfl | rfl
 ·refine key fun i=>⟨fun hi=>?_,fun hi=>?_⟩
  ·obtain ⟨s,h1,rfl⟩:=h.s i hi; exact (k.inn s ((e s).1 h1)).2.2
  ·obtain ⟨s,h1,rfl⟩:=k.s i hi; exact (h.inn s ((e s).2 h1)).2.2
 ·refine key fun i=>⟨fun hi=>?_,fun hi=>?_⟩
  ·obtain ⟨s,h1,rfl⟩:=h.m i hi; exact (k.inn s ((e s).1 h1)).2.1
  ·obtain ⟨s,h1,rfl⟩:=k.m i hi; exact (h.inn s ((e s).2 h1)).2.1
 ·refine key fun i=>⟨fun hi=>?_,fun hi=>?_⟩
  ·obtain ⟨s,h1,rfl⟩:=h.h i hi; exact (k.inn s ((e s).1 h1)).1
  ·obtain ⟨s,h1,rfl⟩:=k.h i hi; exact (h.inn s ((e s).2 h1)).1
def sqB (X:List Int):Bool:=decide ((yau (ofM (hrL X)) (ofM (mnL X)) (ofM (scL X))).length=X.length)
def evB (ls:List (List Int)):Bool:=ls.all fun L=>decide (L=ls.headD [])
theorem yiB (L0:List Int) (ls:List (List Int)) (L:List Int):evB ((L0 :: ls) ++ [L])= (evB (L0 :: ls) && decide (L=L0)):=by
 rw [evB,evB,List.cons_append,List.headD_cons,List.headD_cons,←List.cons_append,List.all_append]; simp
def sqA (ls:List (List Int)):Bool:=ls.all sqB
theorem ycp (ls:List (List Int)) (L:List Int):sqA (ls ++ [L])= (sqA ls && sqB L):=by rw [sqA,sqA,List.all_append]; simp
end
section
open Go.RowKit
theorem bits_xor {a b:Nat} (ha:a < 18446744073709551616) (hb:b < 18446744073709551616):bits .xor .u64 (a:Int) (b:Int)= ((a ^^^ b:Nat):Int):=by
 show IntKind.u64.wrap ((BitVec.ofInt 64 (a:Int) ^^^ BitVec.ofInt 64 (b:Int)).toNat:Int)= _
 rw [BitVec.toNat_xor,yaT ha,yaT hb]
 exact ybc (Nat.xor_lt_two_pow (n:=64) ha hb)
def dv:Option Nat→Value
 | none=> .pointer none
 | some b=> .pointer (some ⟨b,0,none⟩)
def DW (W:World):Option Nat→(Nat→Nat)→Prop
 | none,f=>f=fun _=>0
 | some b,f=>DC W b f
theorem ygR (d:Option Nat) (f:Nat→Nat) (i:Nat) (w:World) (hc:DW w d f) (hi:i < 1350) :
  Calls Tryz.prog 130 #[dv d, .int .i64 i] w fun e w'=>e= .returned (.int .u64 (f i:Nat))∧w=w':=by
 match d,hc with
 | none,hc=>rw [show f=fun _=>0 from hc]; exact Word_nil i w
 | some b,hc=>exact Word_any b f i w hc hi
theorem yg9 (x y:Nat) (w:World) (hx:x < 18446744073709551616) (hy:y < 18446744073709551616) :
  Calls Tryz.prog 150 #[.int .u64 x, .int .u64 y] w fun e w'=>e= .returned (.int .u64 (x ^^^ y:Nat))∧w=w':=by
 have h:=hid (bits_xor hx hy)
 go_enter Tryz.func150,Tryz.ntmps150
 go_wp2
 go_ret
 rw [h.out]
 exact ⟨rfl,rfl⟩
def FirstOf (p:Nat→Bool) (n:Int) (ok:Bool):Prop:=
 (ok=true∧∃k:Nat,n=k∧k < 86400∧p k=true∧∀j,j < k→p j=false)∨(ok=false∧n=0∧∀j,j < 86400→p j=false)
theorem FirstOf.unique {p:Nat→Bool} {n n':Int} {ok ok':Bool} (h:FirstOf p n ok) (h':FirstOf p n' ok'):n=n'∧ok=ok':=by
 rcases h with ⟨rfl,k,rfl,hk,h1,h2⟩ | ⟨rfl,rfl,h2⟩ <;> rcases h' with ⟨rfl,k',rfl,hk',h1',h2'⟩ | ⟨rfl,rfl,h2'⟩
 ·refine ⟨?_,rfl⟩
  rcases Nat.lt_trichotomy k k' with h | h | h
  ·rw [h2' k h] at h1; cases h1
  ·rw [h]
  ·rw [h2 k' h] at h1'; cases h1'
 ·rw [h2' k hk] at h1; cases h1
 ·rw [h2 k' hk'] at h1'; cases h1'
 ·exact ⟨rfl,rfl⟩
theorem yfj (h:Nat→Nat) (k:Nat) (hk:k < 1350) (hz:∀j,j < k→h j=0) (hb:h k < 18446744073709551616) (hl:ybf (h k)=true):FirstOf (bitW h) ((k:Int) * 64+ybS (h k)) true:=by
 have h0:h k≠0:=by simpa [ybf] using hl
 obtain ⟨h1,h2,h3⟩:=yeh h0 hb
 refine .inl ⟨rfl,k * 64+lsb (h k),by rw [ybS,if_neg h0]; simp,by omega,?_,fun j hj=>?_⟩
 ·rw [bitW,show (k * 64+lsb (h k)) / 64=k by omega,show (k * 64+lsb (h k)) % 64=lsb (h k) by omega]; exact h2
 ·rw [bitW]
  by_cases e:j / 64=k
  ·rw [e]; exact h3 _ (by omega)
  ·rw [hz (j / 64) (by omega),Nat.zero_testBit]
theorem yfh {m:Nat} (hm:m < 18446744073709551616):0≤ybS m∧ybS m < 64:=by
 rw [ybS]
 split
 ·omega
 ·rename_i h0
  have:=(yeh h0 hm).1
  omega
theorem yfk (h:Nat→Nat) (hz:∀j,j < 1350→h j=0):FirstOf (bitW h) 0 false:=by
 refine .inr ⟨rfl,rfl,fun j hj=>?_⟩
 rw [bitW,hz (j / 64) (by omega),Nat.zero_testBit]
set_option maxRecDepth 100000 in
set_option maxHeartbeats 3200000 in
theorem yeO (d e:Option Nat) (f g:Nat→Nat) (w:World) (hT:Tab w) (hd:DW w d f) (he:DW w e g) (hf:∀i,i < 1350→f i < 18446744073709551616) (hg:∀i,i < 1350→g i < 18446744073709551616) :
  Calls Tryz.prog 87 #[dv d,dv e, .func (.func 150) #[] #[]] w fun r w'=>(∃n ok,r= .returned (.tuple #[.int .i64 n, .bool ok])∧FirstOf (bitW (fun i=>f i ^^^ g i)) n ok)∧w=w':=by
 have c1:=hid (fun i hi=>ygR d f i w hd hi)
 have c2:=hid (fun i hi=>ygR e g i w he hi)
 have c3:=hid (fun i hi=>yg9 (f i) (g i) w (hf i hi) (hg i hi))
 have c4:=hid (fun m hm=>ycS m w hm hT)
 obtain ⟨h,hh⟩:∃h:Nat→Nat,h=fun i=>f i ^^^ g i:=⟨_,rfl⟩
 have hw:Hid (∀i,i < 1350→h i < 18446744073709551616):=fun i hi=>by rw [hh]; exact Nat.xor_lt_two_pow (n:=64) (hf i hi) (hg i hi)
 have e3:Hid (∀i,i < 1350→Calls Tryz.prog 150 #[.int .u64 (f i:Nat), .int .u64 (g i:Nat)] w fun e w'=>e= .returned (.int .u64 (h i:Nat))∧w=w'):=fun i hi=>by rw [hh]; exact c3.out i hi
 rw [←hh]
 obtain ⟨dp,hdp⟩:∃v,dv d=v:=⟨_,rfl⟩
 obtain ⟨ep,hep⟩:∃v,dv e=v:=⟨_,rfl⟩
 rw [hdp] at c1⊢
 rw [hep] at c2⊢
 clear hdp hep hd he hf hg hT hh c3
 go_enter Tryz.func87,Tryz.ntmps87
 go_wp2
 go_loopw [11] (fun i wr=>∃k:Nat,i= .int .i64 k∧Hid (k≤1350)∧Hid (∀j,j < k→h j=0)∧wr=w) (fun i _=>1350 - (intOf i).toNat)
 case atStart=>exact ⟨0,rfl,Nat.zero_le _,fun j hj=>by omega,rfl⟩
 case round=>
  obtain ⟨k,rfl,hk,hz,rfl⟩:=hrel
  by_cases hlt:(k:Int) < 1350
  ·have hk2:k < 1350:=by omega
   have d1:=hid (c1.out k hk2)
   have d2:=hid (c2.out k hk2)
   have d3:=hid (e3.out k hk2)
   have d4:=hid (c4.out _ (hw.out k hk2))
   have hfw:=hid (yfj h k hk2 hz.out (hw.out k hk2))
   obtain ⟨b1,b2⟩:=yfh (hw.out k hk2)
   have Hk2:=hid hk2
   have hb0:Hid (ybf (h k)=false→h k=0):=fun h=>by simpa [ybf] using h
   obtain ⟨L,hL⟩:∃L,ybS (h k)=L:=⟨_,rfl⟩
   rw [hL] at d4 hfw b1 b2
   clear hk2 hL
   cases hB:ybf (h k)
   ·rw [hB] at d4
    have hz2:Hid (∀j,j < k+1→h j=0):=fun j hj=>by
     by_cases e:j=k
     ·rw [e]; exact hb0.out hB
     ·exact hz.out j (by omega)
    clear hB
    go_wp2_with fail
    refine d1.out.mono ?_
    rintro e w' ⟨rfl,rfl⟩
    go_wp2_with fail
    refine d2.out.mono ?_
    rintro e w' ⟨rfl,rfl⟩
    go_wp2_with fail
    refine d3.out.mono ?_
    rintro e w' ⟨rfl,rfl⟩
    go_wp2_with fail
    refine d4.out.mono ?_
    rintro e w' ⟨rfl,rfl⟩
    go_wp2
    exact ⟨⟨k+1,by go_num,Hk2.out,hz2.out,by trivial⟩,by simp [intOf]; omega⟩
   ·rw [hB] at d4
    have hr:=hid (hfw.out hB)
    clear hB
    go_wp2_with fail
    refine d1.out.mono ?_
    rintro e w' ⟨rfl,rfl⟩
    go_wp2_with fail
    refine d2.out.mono ?_
    rintro e w' ⟨rfl,rfl⟩
    go_wp2_with fail
    refine d3.out.mono ?_
    rintro e w' ⟨rfl,rfl⟩
    go_wp2_with fail
    refine d4.out.mono ?_
    rintro e w' ⟨rfl,rfl⟩
    go_wp2
    go_ret2
    exact ⟨⟨_,_,rfl,hr.out⟩,rfl⟩
  ·have hz2:Hid (FirstOf (bitW h) 0 false):=yfk h (fun j hj=>hz.out j (by omega))
   go_wp2
   go_ret2
   exact ⟨⟨_, .inl ⟨rfl,hz2.out⟩⟩,rfl⟩
theorem FirstOf.congr {p q:Nat→Bool} {n:Int} {ok:Bool} (h:FirstOf p n ok) (e:∀k,k < 86400→p k=q k):FirstOf q n ok:=by
 rcases h with ⟨h1,k,h2,h3,h4,h5⟩ | ⟨h1,h2,h3⟩
 ·exact .inl ⟨h1,k,h2,h3,by rw [←e k h3]; exact h4,fun j hj=>by rw [←e j (by omega)]; exact h5 j hj⟩
 ·exact .inr ⟨h1,h2,fun j hj=>by rw [←e j hj]; exact h3 j hj⟩
def DiscV (W:World):Option Nat→(Nat→Bool)→Prop
 | none,q=>∀k,k < 86400→q k=false
 | some b,q=>DiscAt W b q
theorem DiscV.words {W:World} {d:Option Nat} {q:Nat→Bool} (h:DiscV W d q):∃f,DW W d f∧(∀i,i < 1350→f i < 18446744073709551616)∧∀k,k < 86400→bitW f k=q k:=by
 match d,h with
 | none,h=>exact ⟨fun _=>0,rfl,fun _ _=>by show 0 < _; omega,fun k hk=>by rw [bitW,Nat.zero_testBit]; exact (h k hk).symm⟩
 | some b,⟨f,h1,h2,h3,h4,h5⟩=>exact ⟨f,h1,h3,h4⟩
theorem xorW_bit (f g:Nat→Nat) (k:Nat):bitW (fun i=>f i ^^^ g i) k= (bitW f k != bitW g k):=by
 rw [bitW,bitW,bitW,Nat.testBit_xor]
theorem yhU (d e:Option Nat) (p q:Nat→Bool) (w:World) (hT:Tab w) (hd:DiscV w d p) (he:DiscV w e q) :
  Calls Tryz.prog 106 #[dv d,dv e] w fun r w'=>(∃n ok,r= .returned (.tuple #[.int .i64 n, .bool ok])∧FirstOf (fun k=>p k != q k) n ok)∧w=w':=by
 obtain ⟨f,f1,f2,f3⟩:=hd.words
 obtain ⟨g,g1,g2,g3⟩:=he.words
 have c1:=hid (yeO d e f g w hT f1 g1 f2 g2)
 have hb:Hid (∀k,k < 86400→bitW (fun i=>f i ^^^ g i) k= (p k != q k)):=fun k hk=>by rw [xorW_bit,f3 k hk,g3 k hk]
 obtain ⟨dp,hdp⟩:∃v,dv d=v:=⟨_,rfl⟩
 obtain ⟨ep,hep⟩:∃v,dv e=v:=⟨_,rfl⟩
 rw [hdp] at c1⊢
 rw [hep] at c1⊢
 clear hdp hep hd he hT f1 f2 f3 g1 g2 g3
 go_enter Tryz.func106,Tryz.ntmps106
 go_wp2_with fail
 refine c1.out.mono ?_
 rintro r w' ⟨⟨n,ok,rfl,hF⟩,rfl⟩
 have HF:=hid hF
 clear hF
 go_wp2
 go_ret2
 exact ⟨⟨n,ok,rfl,HF.out.congr hb.out⟩,rfl⟩
theorem yjX (d e:Option Nat) (p q:Nat→Bool) (w:World) (hT:Tab w) (hd:DiscV w d p) (he:DiscV w e q) :
  Calls Tryz.prog 59 #[dv d,dv e] w fun r w'=>(∃n ok,r= .returned (.bool !ok)∧FirstOf (fun k=>p k != q k) n ok)∧w=w':=by
 have c1:=hid (yhU d e p q w hT hd he)
 obtain ⟨dp,hdp⟩:∃v,dv d=v:=⟨_,rfl⟩
 obtain ⟨ep,hep⟩:∃v,dv e=v:=⟨_,rfl⟩
 rw [hdp] at c1⊢
 rw [hep] at c1⊢
 clear hdp hep hd he hT
 go_enter Tryz.func59,Tryz.ntmps59
 go_wp2_with fail
 refine c1.out.mono ?_
 rintro r w' ⟨⟨n,ok,rfl,hF⟩,rfl⟩
 have HF:=hid hF
 clear hF
 go_wp2
 go_ret
 exact ⟨⟨n,ok,rfl,HF.out⟩,rfl⟩
end
section
open Go.RowKit
def dagg (f:Nat→Nat):Value:= .agg ((List.range 1350).map (fun i=>Value.int .u64 (f i:Nat))).toArray
theorem yfJ (cs:Array Value) (v:Value) (i:Nat) (h:i < 1350) (hc:cs[i]? =some v) (W:World):(Instr.index 129 (.agg cs) (.int .i64 i)).run Tryz.prog W= .ok v W:=by
 obtain ⟨i0,hi0,hz0,hz1,hz2⟩:=info_parts yfV
 simp [Instr.index,go_sem,part,sizeOf,typeInfo,hi0,hz1,h,hc]
theorem ye0 (f:Nat→Nat) (i:Nat) (h:i < 1350) (W:World):(Instr.index 129 (dagg f) (.int .i64 i)).run Tryz.prog W= .ok (.int .u64 (f i:Nat)) W:=by
 refine yfJ _ _ i h ?_ W
 rw [List.getElem?_toArray,List.getElem?_map,List.getElem?_range h]; rfl
theorem yiD {W:World} {b:Nat} {f:Nat→Nat} (h:DC W b f):W.rangeAt b 0 ((List.range 1350).map (fun i=>Value.int .u64 (f i:Nat))):=fun j v hv=>by
 obtain ⟨hj,e⟩:=List.getElem?_eq_some_iff.1 hv
 simp at hj e
 rw [Nat.zero_add,h j hj,←e]
theorem yfW:(Tryz.prog.info? 129).map (·.size)=some 1350:=by kernel_rfl
theorem DC.eff {W W':World} {b:Nat} {O:Nat→Prop} {f:Nat→Nat} (h:DC W b f) (hE:Eff O W W') (hb:b < W.heap.size) (hn:¬O b):DC W' b f:=fun i hi=>(hE.cell (p:=⟨b,i,none⟩) hb hn).trans (h i hi)
theorem Eff.frozen {O:Nat→Prop} {W W':World} (h:Eff O W W') {p:Addr} (hp:p.block < W.heap.size) (hn:¬O p.block):W'.frozen? p=W.frozen? p:=World.frozen?_of_block (w:=W) (h.block p.block hp hn)
theorem Eff.set {O:Nat→Prop} {W W':World} (h:Eff O W W') {b:Nat} (hb:O b) (i:Nat) (v:Value):Eff O W (W'.setCell ⟨b,i,none⟩ v):=
 ⟨h.os,h.tape,h.output,by simpa [go_sem] using h.size,fun k hk hn=>(Below.heap_setCell _ _ _ _ (fun e=>hn (by subst e; exact hb))).trans (h.block k hk hn)⟩
theorem Eff.drew {O:Nat→Prop} {W W':World} (h:Eff O W W'):Eff O W W'.drew:=⟨h.os,h.tape,h.output,h.size,h.block⟩
abbrev DIn:=Option Nat × (Nat→Nat)
def dvs (ds:List DIn):List Value:=ds.map fun d=>dv d.1
theorem Sl.atD {w:World} {a:Option Addr} {l:List DIn} (h:Sl w a (dvs l)) {k:Nat} (hk:k < l.length) :
  ∃b off,a=some ⟨b,off,none⟩∧b < w.heap.size∧∀j (h:j < l.length),w.cell? ⟨b,off+j,none⟩=some (dv l[j].1):=by
 obtain ⟨b,off,rfl,hlt,hc⟩:=Sl.at h (k:=k) (by rw [dvs,List.length_map]; exact hk)
 refine ⟨b,off,rfl,hlt,fun j hj=>?_⟩
 rw [hc j (by rw [dvs,List.length_map]; exact hj)]
 simp [dvs]
structure DOk (W:World) (b:Nat) (d:DIn):Prop where
 words:DW W d.1 d.2
 bd:∀i,i < 1350→d.2 i < 18446744073709551616
 apart:∀c,d.1=some c→c≠b∧c < W.heap.size
theorem DOk.eff {W W':World} {b:Nat} {d:DIn} (h:DOk W b d) (hE:Eff (fun x=>x=b) W W'):DOk W' b d:=by
 obtain ⟨h1,h2,h3⟩:=h
 refine ⟨?_,h2,fun c e=>⟨(h3 c e).1,zH (h3 c e).2 hE.size⟩⟩
 match d,h1,h3 with
 | (none,f),h1,h3=>exact h1
 | (some c,f),h1,h3=>exact DC.eff h1 hE (h3 c rfl).2 (h3 c rfl).1
def orL (f:Nat→Nat) (ds:List DIn):Nat→Nat:=ds.foldl (fun f d i=>f i ||| d.2 i) f
theorem orL_snoc (f:Nat→Nat) (l:List DIn) (k:Nat) (h:k < l.length):orL f (l.take (k+1))=fun i=>orL f (l.take k) i ||| l[k].2 i:=by
 rw [orL,yai l k h,List.foldl_append]; rfl
structure Upd (b:Nat) (f:Nat→Nat) (W W':World):Prop where
 words:DC W' b f
 free:∀i,W'.frozen? ⟨b,i,none⟩=false
 bd:∀i,i < 1350→f i < 18446744073709551616
 eff:Eff (fun x=>x=b) W W'
theorem Upd.congr {b:Nat} {f g:Nat→Nat} {W W':World} (h:Upd b f W W') (e:∀i,i < 1350→f i=g i):Upd b g W W':=
 ⟨h.words.congr e,h.free,fun i hi=>by rw [←e i hi]; exact h.bd i hi,h.eff⟩
theorem Upd.set {b:Nat} {f:Nat→Nat} {W W':World} (h:Upd b f W W') {i:Nat} (hi:i < 1350) {v:Nat} (hv:v < 18446744073709551616):Upd b (fun j=>if j=i then v else f j) W (W'.setCell ⟨b,i,none⟩ (.int .u64 v)):=
 ⟨h.words.set hi,fun j=>by simp [go_sem,h.free j],fun j hj=>by
  show (if j=i then v else f j) < _
  split
  ·exact hv
  ·exact h.bd j hj,h.eff.set rfl i _⟩
theorem Upd.drew {b:Nat} {f:Nat→Nat} {W W':World} (h:Upd b f W W'):Upd b f W W'.drew:=⟨h.words,h.free,h.bd,h.eff.drew⟩
set_option maxRecDepth 100000 in
set_option maxHeartbeats 3200000 in
theorem DJoin_any (b:Nat) (f:Nat→Nat) (a:Option Addr) (cap:Nat) (ds:List DIn) (w:World) (hl:ds.length≤9223372036854775807) (hs:Sl w a (dvs ds)) (hne:ds≠ []→∀g off,a=some ⟨g,off,none⟩→g≠b)
  (hd:∀d∈ds,DOk w b d) (hu:Upd b f w w) :
  Calls Tryz.prog 159 #[.pointer (some ⟨b,0,none⟩), .slice a ds.length cap] w fun e w'=>(∃v,e= .returned v)∧Upd b (orL f ds) w w':=by
 have Hs:=hid hs
 have Hne:=hid hne
 have Hd:=hid hd
 have Hu:=hid hu
 have hlI:(ds.length:Int)≤9223372036854775807:=by omega
 clear hs hne hd hu hl
 go_enter Tryz.func159,Tryz.ntmps159
 go_wp2
 go_loopw [12] (fun i wr=>∃k:Nat,i= .int .i64 k∧k≤ds.length∧Hid (Upd b (orL f (ds.take k)) w wr)) (fun i _=>ds.length - (intOf i).toNat)
 case atStart=>exact ⟨0,rfl,by omega,Hu.out⟩
 case round=>
  obtain ⟨k,rfl,hk,HJ⟩:=hrel
  by_cases hlt:k < ds.length
  ·obtain ⟨g,off,rfl,hb,hcl⟩:=Hs.out.atD hlt
   have e1:=(HJ.out.eff.cell (p:=⟨g,off+k,none⟩) hb (Hne.out (fun e=>by rw [e] at hlt; simp at hlt) g off rfl)).trans (hcl k hlt)
   have hsn:=hid (orL_snoc f ds k hlt)
   have hdk:=hid ((Hd.out ds[k] (List.getElem_mem hlt)).eff HJ.out.eff)
   obtain ⟨p,hp⟩:∃p,orL f (ds.take k)=p:=⟨_,rfl⟩
   rw [hp] at HJ hsn
   obtain ⟨d,hde⟩:∃d,ds[k]=d:=⟨_,rfl⟩
   rw [hde] at e1 hsn hdk
   clear hcl hp hde
   obtain ⟨dc,g2⟩:=d
   cases dc with
   | none=>
     have hz:Hid (g2=fun _=>0):=hdk.out.words
     have HJ2:Hid (Upd b (orL f (ds.take (k+1))) w wr):=by
      show Upd _ _ _ _
      rw [hsn.out]
      exact HJ.out.congr (fun i _=>by simp only [hz.out,Nat.or_zero])
     have e1':wr.cell? ⟨g,off+k,none⟩=some (.pointer none):=e1
     clear e1 HJ hsn hdk
     go_wp2
     exact ⟨⟨k+1,by go_num,by omega,HJ2.out⟩,by simp [intOf]; omega⟩
   | some c=>
     have hW:DC wr c g2:=hdk.out.words
     have hbd:=hid hdk.out.bd
     have hrg:=hid (yiD hW)
     have hix:=hid (fun i hi W=>ye0 g2 i hi W)
     have e1':wr.cell? ⟨g,off+k,none⟩=some (.pointer (some ⟨c,0,none⟩)):=e1
     clear e1 hW hdk
     go_wp2_with (refine wpList_load_mid rfl 129 (.tmp 20) rfl c 0 rfl _ _ hrg.out Tryz.underlying129 rfl (by rw [List.length_map,List.length_range]; exact yfW) ?_)
     obtain ⟨V,hV⟩:∃V,dagg g2=V:=⟨_,rfl⟩
     rw [show Value.agg ((List.range 1350).map (fun i=>Value.int .u64 (g2 i:Nat))).toArray=V from hV]
     rw [hV] at hix
     clear hV e1' hrg
     go_wp2_with fail
     go_loopw [22] (fun i wq=>∃j:Nat,i= .int .i64 j∧j≤1350∧Hid (Upd b (fun i=>if i < j then p i ||| g2 i else p i) w wq)) (fun i _=>1350 - (intOf i).toNat)
     case atStart=>exact ⟨0,rfl,by omega,HJ.out.congr (fun i _=>by simp)⟩
     case round=>
      obtain ⟨j,rfl,hj,HI⟩:=hrel
      by_cases hlt2:j < 1350
      ·have hi2:=hix.out j hlt2
       have e2:wr.cell? ⟨b,j,none⟩=some (.int .u64 (p j:Nat)):=by have:=HI.out.words j hlt2; simpa using this
       have e3:=HI.out.free j
       have hpj:=HI.out.bd j hlt2
       simp only [Nat.lt_irrefl,if_false] at hpj
       have hor:=hid (yaQ hpj (hbd.out j hlt2))
       have hlt3:=hid (yeE hpj (hbd.out j hlt2))
       have hjI:(j:Int) < 1350:=by omega
       clear hpj
       go_wp2_with fail
       go_region
       rw [hor.out]
       have HI2:Hid (Upd b (fun i=>if i < j+1 then p i ||| g2 i else p i) w (wr.setCell ⟨b,j,none⟩ (.int .u64 (p j ||| g2 j:Nat))).drew):=by
        refine ((HI.out.set hlt2 hlt3.out).congr (fun i _=>?_)).drew
        by_cases e:i=j
        ·subst e; simp
        ·have:(i < j+1)= (i < j):=by simp; omega
         simp [e,this]
       clear e2 e3 hi2
       go_wp2
       exact ⟨⟨j+1,by go_num,by omega,HI2.out⟩,by simp [intOf]; omega⟩
      ·obtain rfl:j=1350:=by omega
       have HJ2:Hid (Upd b (orL f (ds.take (k+1))) w wr):=by
        show Upd _ _ _ _
        rw [hsn.out]
        exact HI.out.congr (fun i hi=>by simp [hi])
       go_wp2
       exact ⟨⟨k+1,by go_num,by omega,HJ2.out⟩,by simp [intOf]; omega⟩
  ·have hke:ds.take k=ds:=List.take_of_length_le (by omega)
   rw [hke] at HJ
   clear hke
   go_wp2
   go_end0
   exact ⟨⟨_,rfl⟩,HJ.out⟩
theorem Eff.setCells {O:Nat→Prop} {W:World} {b:Nat} (hb:O b):∀(vs:List Value) (o:Nat) (W':World),Eff O W W'→Eff O W (W'.setCells b o vs)
 | [],_,_,h=>h
 | v :: vs,o,W',h=>by rw [World.setCells]; exact Eff.setCells hb vs (o+1) _ (h.set hb o v)
theorem Upd.there {b:Nat} {f:Nat→Nat} {W W':World} (h:Upd b f W W'):W'.there b 0 (List.replicate 1350 (Value.int .u64 0)).toArray.size:=fun j hj=>by
 rw [List.size_toArray,List.length_replicate] at hj
 rw [Nat.zero_add]
 exact ⟨by rw [h.words j hj]; rfl,h.free j⟩
theorem Upd.zero {b:Nat} {f:Nat→Nat} {W W':World} (h:Upd b f W W'):Upd b (fun _=>0) W (W'.setCells b 0 (List.replicate 1350 (Value.int .u64 0))):=by
 refine ⟨fun i hi=>?_,fun i=>by rw [World.frozen?_setCells]; exact h.free i,fun _ _=>by omega,Eff.setCells (O:=fun x=>x=b) rfl _ _ _ h.eff⟩
 have:=World.cell?_setCells_in b (List.replicate 1350 (Value.int .u64 0)) 0 W' (fun j hj=>by rw [List.length_replicate] at hj; rw [Nat.zero_add,h.words j hj]; rfl) i (by rw [List.length_replicate]; exact hi)
 rw [Nat.zero_add,List.getElem_replicate] at this
 exact this
theorem Upd.there' {b:Nat} {f:Nat→Nat} {W W':World} (h:Upd b f W W') (g:Nat→Nat):W'.there b 0 ((List.range 1350).map (fun i=>Value.int .u64 (g i:Nat))).toArray.size:=fun j hj=>by
 rw [List.size_toArray,List.length_map,List.length_range] at hj
 rw [Nat.zero_add]
 exact ⟨by rw [h.words j hj]; rfl,h.free j⟩
theorem Upd.all {b:Nat} {f:Nat→Nat} {W W':World} (h:Upd b f W W') (g:Nat→Nat):DC (W'.setCells b 0 ((List.range 1350).map (fun i=>Value.int .u64 (g i:Nat)))) b g∧Eff (fun x=>x=b) W (W'.setCells b 0 ((List.range 1350).map (fun i=>Value.int .u64 (g i:Nat)))):=by
 refine ⟨fun i hi=>?_,Eff.setCells (O:=fun x=>x=b) rfl _ _ _ h.eff⟩
 have:=World.cell?_setCells_in b ((List.range 1350).map (fun i=>Value.int .u64 (g i:Nat))) 0 W' (fun j hj=>by rw [List.length_map,List.length_range] at hj; rw [Nat.zero_add,h.words j hj]; rfl) i (by rw [List.length_map,List.length_range]; exact hi)
 rw [Nat.zero_add,List.getElem_map,List.getElem_range] at this
 exact this
theorem dc_new' (W:World):DC (W.alloc (.cells Tryz.zeroCells129 129)) W.heap.size (fun _=>0):=fun i hi=>by
 rw [zcw]
 exact yf8 W 1350 _ _ i hi
end
section
open Go.RowKit Go.Maps
attribute [local irreducible] secL
def fcv (u:Nat→Nat) (fi la n:Int) (ev sq:Bool):Value:= .agg #[.int .u64 (u 0:Nat), .int .u64 (u 1:Nat), .int .u64 (u 2:Nat), .int .u64 (u 3:Nat), .int .u64 (u 4:Nat), .int .u64 (u 5:Nat), .int .u64 (u 6:Nat), .int .u64 (u 7:Nat), .int .u64 (u 8:Nat), .int .u64 (u 9:Nat), .int .u64 (u 10:Nat), .int .u64 (u 11:Nat), .int .u64 (u 12:Nat), .int .u64 (u 13:Nat), .int .u64 (u 14:Nat), .int .u64 (u 15:Nat), .int .u64 (u 16:Nat), .int .u64 (u 17:Nat), .int .u64 (u 18:Nat), .int .u64 (u 19:Nat), .int .u64 (u 20:Nat), .int .u64 (u 21:Nat), .int .u64 (u 22:Nat), .int .u64 (u 23:Nat), .int .u64 (u 24:Nat), .int .u64 (u 25:Nat), .int .u64 (u 26:Nat), .int .u64 (u 27:Nat), .int .u64 (u 28:Nat), .int .u64 (u 29:Nat), .int .u64 (u 30:Nat), .int .u64 (u 31:Nat), .int .u64 (u 32:Nat), .int .u64 (u 33:Nat), .int .u64 (u 34:Nat), .int .u64 (u 35:Nat), .int .u64 (u 36:Nat), .int .u64 (u 37:Nat), .int .u64 (u 38:Nat), .int .u64 (u 39:Nat), .int .u64 (u 40:Nat), .int .u64 (u 41:Nat), .int .u64 (u 42:Nat), .int .u64 (u 43:Nat), .int .u64 (u 44:Nat), .int .u64 (u 45:Nat), .int .i64 fi, .int .i64 la, .int .i64 n, .bool ev, .bool sq]
def fcL (u:Nat→Nat) (fi la n:Int) (ev sq:Bool):List Value:=((List.range 46).map fun i=> .int .u64 (u i:Nat)) ++ [.int .i64 fi, .int .i64 la, .int .i64 n, .bool ev, .bool sq]
theorem fcv_L (u:Nat→Nat) (fi la n:Int) (ev sq:Bool):fcv u fi la n ev sq= .agg (fcL u fi la n ev sq).toArray:=rfl
theorem ycx (u:Nat→Nat) (fi la n:Int) (ev sq:Bool):(fcL u fi la n ev sq).length=51:=by simp [fcL]
theorem ygJ:(Tryz.prog.info? 28).map (·.size)=some 51:=by kernel_rfl
structure FcB (b:Nat) (u:Nat→Nat) (fi la n:Int) (ev sq:Bool) (W:World):Prop where
 c:∀i,i < 46→W.cell? ⟨b,i,none⟩=some (.int .u64 (u i:Nat))
 c46:W.cell? ⟨b,46,none⟩=some (.int .i64 fi)
 c47:W.cell? ⟨b,47,none⟩=some (.int .i64 la)
 c48:W.cell? ⟨b,48,none⟩=some (.int .i64 n)
 c49:W.cell? ⟨b,49,none⟩=some (.bool ev)
 c50:W.cell? ⟨b,50,none⟩=some (.bool sq)
 z:∀i,W.frozen? ⟨b,i,none⟩=false
 lt:b < W.heap.size
section
variable {b:Nat} {u:Nat→Nat} {fi la n:Int} {ev sq:Bool} {W:World}
theorem FcB.block {W':World} (h:FcB b u fi la n ev sq W) (hs:W.heap.size≤W'.heap.size) (hb:W'.heap[b]? =W.heap[b]?):FcB b u fi la n ev sq W':=
 have e:=fun i=>World.cell?_of_block (w:=W) (w':=W') (a:=⟨b,i,none⟩) hb
 ⟨fun i hi=>(e i).trans (h.c i hi),(e 46).trans h.c46,(e 47).trans h.c47,(e 48).trans h.c48,(e 49).trans h.c49,(e 50).trans h.c50,fun i=>(World.frozen?_of_block (w:=W) (a:=⟨b,i,none⟩) hb).trans (h.z i),zH h.lt hs⟩
theorem FcB.as {u':Nat→Nat} (h:FcB b u fi la n ev sq W) (e:∀i,i < 46→u' i=u i):FcB b u' fi la n ev sq W:=
 ⟨fun i hi=>by rw [h.c i hi,e i hi],h.c46,h.c47,h.c48,h.c49,h.c50,h.z,h.lt⟩
theorem yay {i j:Nat} (h:i≠j) (v:Value):(W.setCell ⟨b,j,none⟩ v).cell? ⟨b,i,none⟩=W.cell? ⟨b,i,none⟩:=
 World.cell?_setCell_other _ _ _ _ (fun e=>by injection e with _ e; exact h e.symm)
theorem FcB.set (h:FcB b u fi la n ev sq W) {k:Nat} (hk:k < 46) (v:Nat) {u':Nat→Nat} (e:∀i,i < 46→u' i=if i=k then v else u i):FcB b u' fi la n ev sq (W.setCell ⟨b,k,none⟩ (.int .u64 (v:Nat))):=
 ⟨fun i hi=>by
  rw [e i hi]
  by_cases e:i=k
  ·subst e; rw [if_pos rfl]; exact World.cell?_setCell_same _ _ _ (by rw [h.c i hi])
  ·rw [yay e,h.c i hi,if_neg e],(yay (by omega) _).trans h.c46,(yay (by omega) _).trans h.c47,(yay (by omega) _).trans h.c48,(yay (by omega) _).trans h.c49,(yay (by omega) _).trans h.c50,fun i=>by simpa [go_sem] using h.z i,by simpa using h.lt⟩
theorem FcB.set46 (h:FcB b u fi la n ev sq W) (x:Int):FcB b u x la n ev sq (W.setCell ⟨b,46,none⟩ (.int .i64 x)):=
 ⟨fun i hi=>(yay (by omega) _).trans (h.c i hi),World.cell?_setCell_same _ _ _ (by rw [h.c46]),(yay (by omega) _).trans h.c47,(yay (by omega) _).trans h.c48,(yay (by omega) _).trans h.c49,(yay (by omega) _).trans h.c50,fun i=>by simpa [go_sem] using h.z i,by simpa using h.lt⟩
theorem FcB.set47 (h:FcB b u fi la n ev sq W) (x:Int):FcB b u fi x n ev sq (W.setCell ⟨b,47,none⟩ (.int .i64 x)):=
 ⟨fun i hi=>(yay (by omega) _).trans (h.c i hi),(yay (by omega) _).trans h.c46,World.cell?_setCell_same _ _ _ (by rw [h.c47]),(yay (by omega) _).trans h.c48,(yay (by omega) _).trans h.c49,(yay (by omega) _).trans h.c50,fun i=>by simpa [go_sem] using h.z i,by simpa using h.lt⟩
theorem FcB.set48 (h:FcB b u fi la n ev sq W) (x:Int):FcB b u fi la x ev sq (W.setCell ⟨b,48,none⟩ (.int .i64 x)):=
 ⟨fun i hi=>(yay (by omega) _).trans (h.c i hi),(yay (by omega) _).trans h.c46,(yay (by omega) _).trans h.c47,World.cell?_setCell_same _ _ _ (by rw [h.c48]),(yay (by omega) _).trans h.c49,(yay (by omega) _).trans h.c50,fun i=>by simpa [go_sem] using h.z i,by simpa using h.lt⟩
theorem FcB.set49 (h:FcB b u fi la n ev sq W) (x:Bool):FcB b u fi la n x sq (W.setCell ⟨b,49,none⟩ (.bool x)):=
 ⟨fun i hi=>(yay (by omega) _).trans (h.c i hi),(yay (by omega) _).trans h.c46,(yay (by omega) _).trans h.c47,(yay (by omega) _).trans h.c48,World.cell?_setCell_same _ _ _ (by rw [h.c49]),(yay (by omega) _).trans h.c50,fun i=>by simpa [go_sem] using h.z i,by simpa using h.lt⟩
theorem FcB.set50 (h:FcB b u fi la n ev sq W) (x:Bool):FcB b u fi la n ev x (W.setCell ⟨b,50,none⟩ (.bool x)):=
 ⟨fun i hi=>(yay (by omega) _).trans (h.c i hi),(yay (by omega) _).trans h.c46,(yay (by omega) _).trans h.c47,(yay (by omega) _).trans h.c48,(yay (by omega) _).trans h.c49,World.cell?_setCell_same _ _ _ (by rw [h.c50]),fun i=>by simpa [go_sem] using h.z i,by simpa using h.lt⟩
theorem FcB.at (h:FcB b u fi la n ev sq W) {j:Nat} {v:Value} (hv:(fcL u fi la n ev sq)[j]? =some v):W.cell? ⟨b,j,none⟩=some v:=by
 obtain ⟨hj,e⟩:=List.getElem?_eq_some_iff.1 hv
 rw [ycx] at hj
 by_cases h46:j < 46
 ·rw [h.c j h46,←e]
  simp only [fcL]
  rw [List.getElem_append_left (by simpa using h46)]; simp
 ·have h5:j=46∨j=47∨j=48∨j=49∨j=50:=by omega
  rcases h5 with rfl | rfl | rfl | rfl | rfl
  ·exact h.c46.trans hv
  ·exact h.c47.trans hv
  ·exact h.c48.trans hv
  ·exact h.c49.trans hv
  ·exact h.c50.trans hv
theorem FcB.range (h:FcB b u fi la n ev sq W):W.rangeAt b 0 (fcL u fi la n ev sq):=fun j v hv=>by rw [Nat.zero_add]; exact h.at hv
end
def yeK (v:Value):Sem Value:=Instr.loadAt 28 v
theorem ydt (v:Value):Instr.loadAt 28 v=yeK v:=rfl
def yco (v x:Value):Sem Unit:=Instr.storeAt 28 v x
theorem ycX (v x:Value):Instr.storeAt 28 v x=yco v x:=rfl
section
variable {b:Nat} {u:Nat→Nat} {fi la n:Int} {ev sq:Bool} {W:World}
theorem FcB.ld (h:FcB b u fi la n ev sq W):(yeK (.pointer (some ⟨b,0,none⟩))).run Tryz.prog W= .ok (fcv u fi la n ev sq) W:=by
 unfold yeK
 simp only [Instr.loadAt,Instr.sureAddr,Sem.run_bind,Sem.run_pure,Result.andThen_ok,run_loadVar_mid W b 0 28 (fcL u fi la n ev sq) _ h.range Tryz.underlying28 rfl (by rw [ycx]; exact ygJ)]
 rfl
theorem FcB.there (h:FcB b u fi la n ev sq W) (u':Nat→Nat) (fi' la' n':Int) (ev' sq':Bool):W.there b 0 (fcL u' fi' la' n' ev' sq').toArray.size:=fun j hj=>by
 rw [List.size_toArray,ycx] at hj
 rw [Nat.zero_add]
 have hl:j < (fcL u fi la n ev sq).length:=by rw [ycx]; exact hj
 exact ⟨by rw [h.at (List.getElem?_eq_getElem hl)]; rfl,h.z j⟩
theorem FcB.st (h:FcB b u fi la n ev sq W) (u':Nat→Nat) (fi' la' n':Int) (ev' sq':Bool):(yco (.pointer (some ⟨b,0,none⟩)) (fcv u' fi' la' n' ev' sq')).run Tryz.prog W= .ok () (W.setCells b 0 (fcL u' fi' la' n' ev' sq')):=by
 unfold yco
 rw [fcv_L,run_storeAt_mid W b 0 28 (fcL u' fi' la' n' ev' sq').toArray (h.there u' fi' la' n' ev' sq') (by rw [List.size_toArray,ycx]; exact ygJ) (by simp [fcL,Value.oneCell'])]
theorem FcB.put (h:FcB b u fi la n ev sq W) (u':Nat→Nat) (fi' la' n':Int) (ev' sq':Bool):FcB b u' fi' la' n' ev' sq' (W.setCells b 0 (fcL u' fi' la' n' ev' sq')):=by
 have hs:=(Eff.setCells (O:=fun x=>x=b) rfl (fcL u' fi' la' n' ev' sq') 0 W (Eff.refl _ W)).size
 have key:∀j v,(fcL u' fi' la' n' ev' sq')[j]? =some v→(W.setCells b 0 (fcL u' fi' la' n' ev' sq')).cell? ⟨b,j,none⟩=some v:=fun j v hv=>by
  obtain ⟨hj,e⟩:=List.getElem?_eq_some_iff.1 hv
  have:=World.cell?_setCells_in b (fcL u' fi' la' n' ev' sq') 0 W (fun j hj=>by
   have hl:j < (fcL u fi la n ev sq).length:=by rw [ycx] at hj⊢; exact hj
   rw [Nat.zero_add,h.at (List.getElem?_eq_getElem hl)]; rfl) j hj
  rw [Nat.zero_add,e] at this
  exact this
 refine ⟨fun i hi=>key i _ ?_,key 46 _ rfl,key 47 _ rfl,key 48 _ rfl,key 49 _ rfl,key 50 _ rfl,fun i=>by rw [World.frozen?_setCells]; exact h.z i,zH h.lt hs⟩
 simp only [fcL]
 rw [List.getElem?_append_left (by simpa using hi)]; simp [hi]
theorem ydS (w:World) (t:TypeId):FcB w.heap.size (fun _=>0) 0 0 0 false false (w.alloc (.cells zl0 t)):=by
 have e:(zl0:Array Value)= (fcL (fun _=>0) 0 0 0 false false).toArray:=rfl
 have key:∀j v,(fcL (fun _=>0) 0 0 0 false false)[j]? =some v→(w.alloc (.cells zl0 t)).cell? ⟨w.heap.size,j,none⟩=some v:=fun j v hv=>by
  rw [e]
  have e2:(fcL (fun _=>0) 0 0 0 false false).toArray[j]? =some v:=by rw [List.getElem?_toArray]; exact hv
  rw [World.cell?,World.alloc_heap_new]
  simpa using e2
 refine ⟨fun i hi=>key i _ ?_,key 46 _ rfl,key 47 _ rfl,key 48 _ rfl,key 49 _ rfl,key 50 _ rfl,fun i=>yav w _ t i,by simp⟩
 simp only [fcL]
 rw [List.getElem?_append_left (by simpa using hi)]; simp [hi]
end
end
end Go.Proofs.YtkpgfmonhfnhdaaGreatDoor
