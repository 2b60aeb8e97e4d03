/-
  math/bits.Len64, by the kit's shelf: how long a number is, in bits.
  A disc's Prev.
  disc.Prev, from any second on.
  What a face is of a set (plain).
  The rows of ferialaw22.face: what they hold (plain).
  Faces that are the same.
  ferialaw17.May: the document's answer for sets.
  feriaref09.Meet (of DayRefs, alone).
-/
import Derived.Test.YtkpgfmonhfnhdaaGreatDoorQd4b665
import Derived.Shelf.Strconv.Itoa0
import Derived.Test.YtkpgfmonhfnhdaaGreatDoorQ943d0c
import Derived.Test.YtkpgfmonhfnhdaaGreatDoorQ5e0909
import Derived.Test.YtkpgfmonhfnhdaaGreatDoorQ0a53e8
import Derived.Test.YtkpgfmonhfnhdaaGreatDoorQ456f18
import Derived.Test.YtkpgfmonhfnhdaaGreatDoorQ5ae103
import Derived.Test.YtkpgfmonhfnhdaaGreatDoorQ656077
import Derived.Test.YtkpgfmonhfnhdaaGreatDoorQdc52a2
import Derived.Test.YtkpgfmonhfnhdaaGreatDoorQa32723
import Derived.Test.YtkpgfmonhfnhdaaGreatDoorQ6d5c78
import Derived.Test.YtkpgfmonhfnhdaaGreatDoorQ9213a4
import Derived.Test.YtkpgfmonhfnhdaaGreatDoorQc54c6b
import Derived.Test.YtkpgfmonhfnhdaaGreatDoorQfb4f3d
import Derived.Deep.RegionHeld3
import Derived.BigQuiet
import Derived.Deep.CutRange
namespace Go.Proofs.YtkpgfmonhfnhdaaGreatDoor
set_option linter.unusedVariables false
section
open Go.RowKit Go.Shelf
def ren64:Ren:={f:=fun n=>if n=129 then 69 else 0,t:=fun n=>if n=3 then 3 else if n=4 then 4 else if n=5 then 5 else if n=9 then 9 else if n=46 then 199 else if n=53 then 24 else 0,g:=fun _=>0}
set_option maxRecDepth 100000 in
theorem yji:Tryz.f69=Body.n129 ren64:=by kernel_rfl
theorem lays64:Lays.n129 Tryz.prog ren64 where
 mixed:=rfl
 f129:=by
  show Tryz.prog.funcs[69]? = _
  rw [Tryz.func69,yji]
 t3:=Tryz.underlying3
 a3:=Tryz.isAgg3
 z3:=Tryz.sizeOf3
 v3:=Tryz.zeroValue3
 t4:=Tryz.underlying4
 a4:=Tryz.isAgg4
 z4:=Tryz.sizeOf4
 v4:=Tryz.zeroValue4
 t5:=Tryz.underlying5
 a5:=Tryz.isAgg5
 z5:=Tryz.sizeOf5
 v5:=Tryz.zeroValue5
 t9:=Tryz.underlying9
 a9:=Tryz.isAgg9
 z9:=Tryz.sizeOf9
 v9:=Tryz.zeroValue9
 t46:=Tryz.underlying199
 a46:=Tryz.isAgg199
 z46:=Tryz.sizeOf199
 v46:=Tryz.zeroValue199
 t53:=Tryz.underlying24
 a53:=Tryz.isAgg24
 z53:=Tryz.sizeOf24
 v53:=Tryz.zeroValue24
theorem Len64_any (x:Nat) (w:World) (hx:x < 18446744073709551616):Calls Tryz.prog 69 #[.int .u64 (x:Nat)] w fun e w'=>e= .returned (.int .i64 ((Lib.bitLen x:Nat):Int))∧w' =w:=by
 exact Any.bits_Len64 lays64 (x:Nat) w (by omega) (by omega)
theorem ydW:∀(n x:Nat),x < 2 ^ n→n≤64→x≠0→1≤Lib.bitLen x∧Lib.bitLen x≤n∧x.testBit (Lib.bitLen x - 1)=true∧∀j,Lib.bitLen x≤j→x.testBit j=false
 | 0,x,h,_,h0=>by simp at h; omega
 | n+1,x,h,hn,h0=>by
   have h64:x < 2 ^ 64:=zH h (Nat.pow_le_pow_right (by omega) hn)
   have e:=Lib.bitLen_half x h0 h64
   by_cases h1:x / 2=0
   ·have:x=1:=by omega
    subst this
    refine ⟨by decide,by rw [e]; rw [h1]; simp [show Lib.bitLen 0=0 from rfl],by decide,fun j hj=>?_⟩
    have:Lib.bitLen 1=1:=by decide
    rw [this] at hj
    obtain ⟨k,rfl⟩:∃k,j=k+1:=⟨j - 1,by omega⟩
    rw [Nat.testBit_succ]; simp
   ·have h2:x / 2 < 2 ^ n:=by rw [Nat.pow_succ] at h; omega
    obtain ⟨g1,g2,g3,g4⟩:=ydW n (x / 2) h2 (by omega) h1
    rw [e]
    refine ⟨by omega,by omega,?_,fun j hj=>?_⟩
    ·rw [show 1+Lib.bitLen (x / 2) - 1= (Lib.bitLen (x / 2) - 1)+1 by omega,Nat.testBit_succ]; exact g3
    ·obtain ⟨k,rfl⟩:∃k,j=k+1:=⟨j - 1,by omega⟩
     rw [Nat.testBit_succ]; exact g4 k (by omega)
end
section
open Go.RowKit
def LastOf (p:Nat→Bool) (n:Int) (ok:Bool):Prop:=
 (ok=true∧∃k:Nat,n=k∧k < 86400∧p k=true∧∀j,k < j→j < 86400→p j=false)∨(ok=false∧n=0∧∀j,j < 86400→p j=false)
theorem LastOf.congr {p q:Nat→Bool} {n:Int} {ok:Bool} (h:LastOf p n ok) (e:∀k,k < 86400→p k=q k):LastOf q n ok:=by
 rcases h with ⟨rfl,k,rfl,hk,h1,h2⟩ | ⟨rfl,rfl,h2⟩
 ·exact .inl ⟨rfl,k,rfl,hk,by rw [←e k hk]; exact h1,fun j hj h=>by rw [←e j h]; exact h2 j hj h⟩
 ·exact .inr ⟨rfl,rfl,fun j h=>by rw [←e j h]; exact h2 j h⟩
theorem last_word (h:Nat→Nat) (k:Nat) (hk:k < 1350) (hz:∀j,k < j→j < 1350→h j=0) (hb:h k < 18446744073709551616) (h0:h k≠0):LastOf (bitW h) ((k:Int) * 64+(Lib.bitLen (h k):Nat) - 1) true:=by
 obtain ⟨h1,h2,h3,h4⟩:=ydW 64 (h k) (by simpa using hb) (by omega) h0
 generalize Lib.bitLen (h k)=L at *
 refine .inl ⟨rfl,k * 64+(L - 1),by omega,by omega,?_,fun j hj hj2=>?_⟩
 ·rw [bitW,show (k * 64+(L - 1)) / 64=k by omega,show (k * 64+(L - 1)) % 64=L - 1 by omega]; exact h3
 ·rw [bitW]
  by_cases e:j / 64=k
  ·rw [e]; exact h4 _ (by omega)
  ·rw [hz (j / 64) (by omega) (by omega),Nat.zero_testBit]
theorem last_none (h:Nat→Nat) (hz:∀j,j < 1350→h j=0):LastOf (bitW h) 0 false:= .inr ⟨rfl,rfl,fun j hj=>by rw [bitW,hz (j / 64) (by omega),Nat.zero_testBit]⟩
def yb4 (f:Nat→Nat) (s j:Nat):Nat:=mk (fun t=>(f j).testBit t && decide (64 * j+t≤s))
theorem uptoW_lt (f:Nat→Nat) (s j:Nat):yb4 f s j < 18446744073709551616:=yan _
theorem yi5 (f:Nat→Nat) (s j:Nat) (h:s / 64 < j):yb4 f s j=0:=by
 rw [yb4,←ybG]
 exact yaE fun k hk=>by rw [decide_eq_false (by omega),Bool.and_false]
theorem uptoW_low (f:Nat→Nat) (s j:Nat) (h:j < s / 64) (hf:f j < 18446744073709551616):yb4 f s j=f j:=by
 refine (ydv hf fun k hk=>?_).symm
 rw [decide_eq_true (by omega),Bool.and_true]
theorem uptoW_bit (f:Nat→Nat) (s k:Nat):bitW (yb4 f s) k= (bitW f k && decide (k≤s)):=by
 rw [bitW,yb4,yaN,bitW,decide_eq_true (Nat.mod_lt _ (by omega)),Bool.true_and]
 have:64 * (k / 64)+k % 64=k:=Nat.div_add_mod k 64
 rw [this]
theorem uptoW_at (f:Nat→Nat) (s:Nat) (hf:f (s / 64) < 18446744073709551616):yb4 f s (s / 64)=f (s / 64) * 2 ^ (63 - s % 64) % 18446744073709551616 / 2 ^ (63 - s % 64):=by
 have h1:f (s / 64) * 2 ^ (63 - s % 64) % 18446744073709551616 / 2 ^ (63 - s % 64)≤f (s / 64) * 2 ^ (63 - s % 64) % 18446744073709551616:=Nat.div_le_self _ _
 have h2:f (s / 64) * 2 ^ (63 - s % 64) % 18446744073709551616 < 18446744073709551616:=Nat.mod_lt _ (by omega)
 refine (ydv (by omega) fun k hk=>?_).symm
 rw [←Nat.shiftRight_eq_div_pow,Nat.testBit_shiftRight,show (18446744073709551616:Nat)=2 ^ 64 from rfl,Nat.testBit_mod_two_pow,←Nat.shiftLeft_eq,Nat.testBit_shiftLeft]
 by_cases h:k≤s % 64
 ·rw [decide_eq_true (show 63 - s % 64+k < 64 by omega),decide_eq_true (show 63 - s % 64+k ≥ 63 - s % 64 by omega),decide_eq_true (show 64 * (s / 64)+k≤s by omega),show 63 - s % 64+k - (63 - s % 64)=k by omega,Bool.true_and,Bool.true_and,Bool.and_true]
 ·rw [decide_eq_false (show¬63 - s % 64+k < 64 by omega),decide_eq_false (show¬64 * (s / 64)+k≤s by omega),Bool.false_and,Bool.and_false]
end
section
open Go.RowKit
set_option maxRecDepth 100000 in
set_option maxHeartbeats 1600000 in
theorem yhT (b:Nat) (q:Nat→Bool) (a:Int) (s:Nat) (w:World) (hmn:min a 86399= (s:Int)) (hs:s < 86400) (hd:DiscAt w b q) :
  Calls Tryz.prog 27 #[.pointer (some ⟨b,0,none⟩), .int .i64 a] w fun r w'=>(∃n ok,r= .returned (.tuple #[.int .i64 n, .bool ok])∧LastOf (fun k=>q k && decide (k≤s)) n ok)∧w' =w:=by
 obtain ⟨f,f1,f2,f3,f4,f5⟩:=hd
 have c1:=hid (ydI (s:Int) w)
 rw [ydy,decide_eq_true hs] at c1
 have c2:=hid (fun m (hm:m < 18446744073709551616)=>Len64_any m w hm)
 have HC:=hid f1
 have Hf:=hid f3
 have hlt:=hid (fun j=>uptoW_lt f s j)
 have hhigh:=hid (fun j h=>yi5 f s j h)
 have hlow:=hid (fun j h hf=>uptoW_low f s j h hf)
 have hsh:Hid (IntKind.u64.wrap ((f (s / 64):Int) * 2 ^ (63 - s % 64)) / 2 ^ (63 - s % 64)= ((yb4 f s (s / 64):Nat):Int)):=by
  show _ = _
  have h2:=f3 (s / 64) (by omega)
  rw [uptoW_at f s h2,IntKind.wrap_u64]
  simp
 have hbit:Hid (∀k,k < 86400→bitW (yb4 f s) k= (q k && decide (k≤s))):=fun k hk=>by rw [uptoW_bit,f4 k hk]
 have hsI:(s:Int) < 86400:=by omega
 have hi:s / 64 < 1350:=by omega
 have e1:=f1 (s / 64) hi
 have hs0:(0:Int)≤s:=by omega
 clear hs f1 f2 f3 f4 f5
 go_enter Tryz.func27,Tryz.ntmps27
 go_wp2_with fail
 refine c1.out.mono ?_
 rintro e w' ⟨rfl,rfl⟩
 go_wp2_with fail
 rw [hsh.out]
 clear hsh e1
 go_loopw [7,8] (fun m i wr=>∃k:Nat,i= .int .i64 k∧m= .int .u64 (yb4 f s k:Nat)∧Hid (k≤s / 64)∧k < 1350∧Hid (∀j,k < j→j < 1350→yb4 f s j=0)∧wr=w) (fun _ i _=>(intOf i).toNat)
 case atStart=>exact ⟨s / 64,by simp,rfl,zG _,hi,fun j h _=>hhigh.out j h,rfl⟩
 case round=>
  obtain ⟨k,rfl,rfl,hsk,hk2,hz,rfl⟩:=hrel
  have d4:=hid (c2.out _ (hlt.out k))
  by_cases hB:yb4 f s k=0
  ·have hz2:Hid (∀j,k≤j→j < 1350→yb4 f s j=0):=fun j hj hj2=>by
    by_cases e:j=k
    ·rw [e]; exact hB
    ·exact hz.out j (by omega) hj2
   have hbz:(((yb4 f s k:Nat):Int) != 0)=false:=by simp [hB]
   have hbz2:(((yb4 f s k:Nat):Int) == 0)=true:=by simp [hB]
   clear hB
   by_cases hlast:k=0
   ·have hbq:decide ((k:Int) - 1 < 0)=true:=decide_eq_true (by omega)
    have hz3:Hid (LastOf (bitW (yb4 f s)) 0 false):=last_none _ (fun j hj=>hz2.out j (by omega) hj)
    clear hlast
    go_wp2
    go_ret2
    exact ⟨⟨_,_,rfl,hz3.out.congr hbit.out⟩,rfl⟩
   ·have hk3:k - 1 < 1350:=by omega
    have hbq:decide ((k:Int) - 1 < 0)=false:=decide_eq_false (by omega)
    have e5:=HC.out (k - 1) hk3
    have e6:=hlow.out (k - 1) (by have:=hsk.out; omega) (Hf.out _ hk3)
    rw [←e6] at e5
    have hsk2:Hid (k - 1≤s / 64):=by have:=hsk.out; show _≤_; omega
    have hk1:0≤(k:Int) - 1:=by omega
    have hk4:(k:Int) - 1 < 1350:=by omega
    have hk5:((k:Int) - 1).toNat=k - 1:=by omega
    clear e6
    go_wp2
    exact ⟨⟨k - 1,by congr 1; omega,rfl,hsk2.out,hk3,fun j h1 h2=>hz2.out j (by omega) h2,by trivial⟩,by simp [intOf]; omega⟩
  ·have hr:=hid (last_word (yb4 f s) k hk2 hz.out (hlt.out k) hB)
   have hbz:(((yb4 f s k:Nat):Int) != 0)=true:=by simp [hB]
   have hbz2:(((yb4 f s k:Nat):Int) == 0)=false:=by simp [hB]
   obtain ⟨-,hL,-,-⟩:=ydW 64 (yb4 f s k) (by simpa using hlt.out k) (by omega) hB
   obtain ⟨L,hLe⟩:∃L,Lib.bitLen (yb4 f s k)=L:=⟨_,rfl⟩
   rw [hLe] at d4 hr hL
   clear hLe hB
   go_wp2_with fail
   refine d4.out.mono ?_
   rintro e w' ⟨rfl,rfl⟩
   go_wp2
   go_ret2
   exact ⟨⟨_,_,rfl,hr.out.congr hbit.out⟩,rfl⟩
end
section
open Go.RowKit Go.Maps
attribute [local irreducible] secL
def fstI (L:List Int):Int:=(L[0]?).getD 0
def lstI (L:List Int):Int:=(L[L.length - 1]?).getD 0
def fiV (l:List Cl) (X:List Int):Int:=match X[0]? with
 | none=>0
 | some D=>86400 * D+fstI (secL (dayQ l D))
def laV (l:List Cl) (X:List Int):Int:=match X[X.length - 1]? with
 | none=>0
 | some D=>86400 * D+lstI (secL (dayQ l D))
theorem fiV_one (l:List Cl) (D:Int):fiV l ([] ++ [D])=86400 * D+fstI (secL (dayQ l D)):=rfl
theorem yiy (l:List Cl) {X:List Int} (h:X≠ []) (D:Int):fiV l (X ++ [D])=fiV l X:=by
 cases X with
 | nil=>exact absurd rfl h
 | cons E X=>rfl
theorem yin (l:List Cl) (X:List Int) (D:Int):laV l (X ++ [D])=86400 * D+lstI (secL (dayQ l D)):=by
 have e:(X ++ [D])[(X ++ [D]).length - 1]? =some D:=by simp
 rw [laV,e]
theorem yey (q:Nat→Bool):(secL q).Pairwise (·< ·):=by
 rw [secL,sel]
 exact List.Pairwise.map _ (fun a b h=>by omega) ((List.pairwise_lt_range).filter _)
theorem secL_ne {q:Nat→Bool} {j:Nat} (hj:j < 86400) (hq:q j=true):0 < (secL q).length:=List.length_pos_of_mem (yaw.2 ⟨j,hj,hq,rfl⟩)
theorem first_is {q:Nat→Bool} {n:Int} {ok:Bool} (h:FirstOf (fun k=>q k && decide (0≤k)) n ok) {j:Nat} (hj:j < 86400) (hq:q j=true):n=fstI (secL q)∧0≤n∧n < 86400:=by
 rcases h with ⟨-,k,rfl,hk,hp,hno⟩ | ⟨-,-,hno⟩
 ·have hqk:q k=true:=by simpa using hp
  have hm:(k:Int)∈secL q:=yaw.2 ⟨k,hk,hqk,rfl⟩
  obtain ⟨i,hi,he⟩:=List.getElem_of_mem hm
  refine ⟨?_,by omega,by omega⟩
  have h0:=secL_ne hj hq
  rw [fstI,List.getElem?_eq_getElem h0,Option.getD_some]
  obtain ⟨m,hm',hqm,e0⟩:=yaw.1 (List.getElem_mem h0)
  have hle:(k:Int)≤(secL q)[0]:=by
   rw [e0]
   apply Classical.byContradiction
   intro hn
   have:=hno m (by omega)
   simp [hqm] at this
  by_cases i0:i=0
  ·subst i0; exact he.symm
  ·have:=(List.pairwise_iff_getElem.1 (yey q)) 0 i h0 hi (by omega)
   omega
 ·have:=hno j hj
  simp [hq] at this
theorem last_is {q:Nat→Bool} {n:Int} {ok:Bool} (h:LastOf (fun k=>q k && decide (k≤86399)) n ok) {j:Nat} (hj:j < 86400) (hq:q j=true):n=lstI (secL q)∧0≤n∧n < 86400:=by
 rcases h with ⟨-,k,rfl,hk,hp,hno⟩ | ⟨-,-,hno⟩
 ·have hqk:q k=true:=by rw [Bool.and_eq_true] at hp; exact hp.1
  have hm:(k:Int)∈secL q:=yaw.2 ⟨k,hk,hqk,rfl⟩
  obtain ⟨i,hi,he⟩:=List.getElem_of_mem hm
  refine ⟨?_,by omega,by omega⟩
  have h0:(secL q).length - 1 < (secL q).length:=by omega
  rw [lstI,List.getElem?_eq_getElem h0,Option.getD_some]
  obtain ⟨m,hm',hqm,e0⟩:=yaw.1 (List.getElem_mem h0)
  have hle:(secL q)[(secL q).length - 1]≤(k:Int):=by
   rw [e0]
   apply Classical.byContradiction
   intro hn
   have:=hno m (by omega) hm'
   simp [hqm] at this
   omega
  by_cases i0:i= (secL q).length - 1
  ·subst i0; exact he.symm
  ·have:=(List.pairwise_iff_getElem.1 (yey q)) i ((secL q).length - 1) hi h0 (by omega)
   omega
 ·have:=hno j hj
  simp [hq] at this
  omega
def cuU (u0:Nat→Nat) (X:List Int) (i:Nat):Nat:=if i < 3 then u0 i else fcU 0 0 0 X i
theorem cuU_lt {u0:Nat→Nat} (h:∀i,i < 3→u0 i < 18446744073709551616) (X:List Int) (i:Nat):cuU u0 X i < 18446744073709551616:=by
 rw [cuU]
 by_cases e:i < 3
 ·rw [if_pos e]; exact h i e
 ·rw [if_neg e,fcU,if_neg (by omega),if_neg (by omega),if_neg (by omega)]
  split
  ·exact yan _
  ·split
   ·exact wof_lt _ _
   ·split
    ·exact yan _
    ·split
     ·exact yan _
     ·split
      ·exact yan _
      ·exact yan _
theorem cuU_snoc {u0:Nat→Nat} {X:List Int} {D:Int} (h0:1970≤shF D 1) (h1:shF D 1 < 2370) (i:Nat):cuU u0 (X ++ [D]) i=dyU (shF D) (cuU u0 X) i:=by
 by_cases e:i < 3
 ·rw [cuU,if_pos e,dyU,if_pos e,cuU,if_pos e]
 ·rw [cuU,if_neg e,fcU_snoc 0 0 0 X h0 h1,dyU,dyU,if_neg e,if_neg e,cuU,if_neg e]
def lsL (l:List Cl) (X:List Int):List (List Int):=X.map fun D=>secL (dayQ l D)
theorem yei (l:List Cl) (X:List Int) (D:Int):lsL l (X ++ [D])=lsL l X ++ [secL (dayQ l D)]:=by rw [lsL,lsL,List.map_append]; rfl
structure FaceP (l:List Cl) (u:Nat→Nat) (fi la n:Int) (ev sq:Bool):Prop where
 hm:HmP u (fun s=>∃D,s∈secL (dayQ l D))
 us:∀i,3≤i→i < 46→u i=fcU 0 0 0 (dayS l (yae 0 146096)) i
 n:n= ((dayS l (yae 0 146096)).length:Nat)
 fi:fi=fiV l (dayS l (yae 0 146096))
 la:la=laV l (dayS l (yae 0 146096))
 ev:ev=evB (lsL l (dayS l (yae 0 146096)))
 sq:sq=sqA (lsL l (dayS l (yae 0 146096)))
theorem FaceP.unique {l:List Cl} {u u':Nat→Nat} {fi la n fi' la' n':Int} {ev sq ev' sq':Bool} (h:FaceP l u fi la n ev sq) (k:FaceP l u' fi' la' n' ev' sq'):(∀i,i < 46→u i=u' i)∧fi=fi'∧la=la'∧n=n'∧ev=ev'∧sq=sq':=by
 refine ⟨fun i hi=>?_,h.fi.trans k.fi.symm,h.la.trans k.la.symm,h.n.trans k.n.symm,h.ev.trans k.ev.symm,h.sq.trans k.sq.symm⟩
 by_cases e:i < 3
 ·exact h.hm.eq k.hm (fun s=>Iff.rfl) e
 ·rw [h.us i (by omega) hi,k.us i (by omega) hi]
theorem day_any {l:List Cl} {D s:Int}:s∈secL (dayQ l D)↔∃c∈l,s∈secL (dayQ [c] D):=by
 constructor
 ·intro h
  obtain ⟨j,hj,hq,rfl⟩:=yaw.1 h
  rw [dayQ,List.any_eq_true] at hq
  obtain ⟨c,hc,hh⟩:=hq
  exact ⟨c,hc,yaw.2 ⟨j,hj,by simpa [dayQ] using hh,rfl⟩⟩
 ·rintro ⟨c,hc,h⟩
  obtain ⟨j,hj,hq,rfl⟩:=yaw.1 h
  refine yaw.2 ⟨j,hj,?_,rfl⟩
  rw [dayQ,List.any_eq_true]
  exact ⟨c,hc,by simpa [dayQ] using hq⟩
end
section
open Go.RowKit Go.Maps
attribute [local irreducible] secL
def newL (l:List Cl) (D:Int) (i:Nat):List Int:=
 if i=0 then sel (ofM (hrL (secL (dayQ l D)))).testBit 64
 else if i=1 then sel (ofM (mnL (secL (dayQ l D)))).testBit 64
 else if i=2 then sel (ofM (scL (secL (dayQ l D)))).testBit 64
 else if i < 7 then [shF D (i - 1)]
 else if i=7 then [shF D 1 - 1970]
 else if shF D 5= ((i % 8:Nat):Int) then [shF D (5+i / 8)] else []
def rowL (l:List Cl) (X:List Int) (i:Nat):List Int:=X.flatMap fun D=>newL l D i
theorem rowL_snoc (l:List Cl) (X:List Int) (D:Int) (i:Nat):rowL l (X ++ [D]) i=rowL l X i ++ newL l D i:=by
 rw [rowL,rowL,List.flatMap_append,List.flatMap_cons,List.flatMap_nil,List.append_nil]
theorem yij (l:List Cl) (D:Int) (i:Nat):(newL l D i).length≤64:=by
 rw [newL]
 split
 ·exact ya1 _ _
 ·split
  ·exact ya1 _ _
  ·split
   ·exact ya1 _ _
   ·split
    ·simp
    ·split
     ·simp
     ·split <;> simp
theorem yaW (l:List Cl) (X:List Int) (i:Nat):(rowL l X i).length≤64 * X.length:=by
 induction X with
 | nil=>simp [rowL]
 | cons D X ih=>
   have h:rowL l (D :: X) i=newL l D i ++ rowL l X i:=by rw [rowL,rowL,List.flatMap_cons]
   have:=yij l D i
   rw [h,List.length_append,List.length_cons]; omega
theorem yix {X:List Int} {g:Int→List Int} {f:Int→Int} (h:∀D,g D= [f D]):X.flatMap g=X.map f:=by
 induction X with
 | nil=>rfl
 | cons D X ih=>rw [List.flatMap_cons,List.map_cons,ih,h]; rfl
theorem flat_if {X:List Int} {g:Int→List Int} {p:Int→Bool} {f:Int→Int} (h:∀D,g D=if p D=true then [f D] else []):X.flatMap g= (X.filter p).map f:=by
 induction X with
 | nil=>rfl
 | cons D X ih=>
   rw [List.flatMap_cons,List.filter_cons,ih,h]
   cases p D <;> simp
def fcR (l:List Cl) (X:List Int) (i:Nat):Nat:=
 if i=0 then ofM (rowL l X 2) else if i=1 then ofM (rowL l X 1) else if i=2 then ofM (rowL l X 0)
 else if i < 7 then ofM (rowL l X i) else if i < 14 then wof (rowL l X 7) (i - 7) else ofM (rowL l X (i - 6))
theorem rowL_fld (l:List Cl) (X:List Int) {i:Nat} (h0:3≤i) (h1:i < 7):rowL l X i=X.map fun D=>shF D (i - 1):=
 yix fun D=>by rw [newL,if_neg (by omega),if_neg (by omega),if_neg (by omega),if_pos h1]
theorem rowL_yr (l:List Cl) (X:List Int):rowL l X 7=X.map fun D=>shF D 1 - 1970:=
 yix fun D=>by rw [newL,if_neg (by omega),if_neg (by omega),if_neg (by omega),if_neg (by omega),if_pos rfl]
theorem yeg (l:List Cl) (X:List Int) {i j k:Nat} (h0:8≤i) (hj:i % 8=j) (hk:5+i / 8=k):rowL l X i= (X.filter fun D=>decide (shF D 5= (j:Int))).map fun D=>shF D k:=
 flat_if fun D=>by
  rw [newL,if_neg (by omega),if_neg (by omega),if_neg (by omega),if_neg (by omega),if_neg (by omega),hj,hk]
  simp only [decide_eq_true_eq]
theorem fcR_fcU (l:List Cl) (X:List Int) {i:Nat} (h0:3≤i) (h1:i < 46):fcR l X i=fcU 0 0 0 X i:=by
 rw [fcR,fcU]
 simp only [if_neg (show¬i=0 by omega),if_neg (show¬i=1 by omega),if_neg (show¬i=2 by omega)]
 by_cases a7:i < 7
 ·rw [if_pos a7,if_pos a7,rowL_fld l X h0 a7]
 rw [if_neg a7,if_neg a7]
 by_cases a14:i < 14
 ·rw [if_pos a14,if_pos a14,rowL_yr]
 rw [if_neg a14,if_neg a14]
 by_cases a22:i < 22
 ·rw [if_pos a22,yeg l X (j:=i - 14) (k:=6) (by omega) (by omega) (by omega)]
 rw [if_neg a22]
 by_cases a30:i < 30
 ·rw [if_pos a30,yeg l X (j:=i - 22) (k:=7) (by omega) (by omega) (by omega)]
 rw [if_neg a30]
 by_cases a38:i < 38
 ·rw [if_pos a38,yeg l X (j:=i - 30) (k:=8) (by omega) (by omega) (by omega)]
 rw [if_neg a38,yeg l X (j:=i - 38) (k:=9) (by omega) (by omega) (by omega)]
theorem ydL {l:List Cl} {X:List Int} {f:Int→Int} {i:Nat}:(ofM (X.flatMap fun D=>sel (ofM ((secL (dayQ l D)).map f)).testBit 64)).testBit i=true↔i < 64∧∃D∈X,∃s∈secL (dayQ l D),f s= (i:Int):=by
 rw [yb6,Bool.and_eq_true,decide_eq_true_eq,decide_eq_true_eq,List.mem_flatMap]
 constructor
 ·rintro ⟨h,D,hD,hm⟩
  obtain ⟨k,hk,hb,e⟩:=sel_mem.1 hm
  obtain rfl:i=k:=by omega
  rw [yb6,Bool.and_eq_true,decide_eq_true_eq,decide_eq_true_eq] at hb
  obtain ⟨s,hs,e⟩:=List.mem_map.1 hb.2
  exact ⟨h,D,hD,s,hs,e⟩
 ·rintro ⟨h,D,hD,s,hs,e⟩
  refine ⟨h,D,hD,sel_mem.2 ⟨i,h,?_,rfl⟩⟩
  rw [yb6,Bool.and_eq_true,decide_eq_true_eq,decide_eq_true_eq]
  exact ⟨h,List.mem_map.2 ⟨s,hs,e⟩⟩
theorem fcR_2 (l:List Cl) (X:List Int):fcR l X 2=ofM (X.flatMap fun D=>sel (ofM ((secL (dayQ l D)).map fun s=>s / 3600)).testBit 64):=by
 rw [fcR,if_neg (by omega),if_neg (by omega),if_pos rfl,rowL]
 congr 2
theorem fcR_1 (l:List Cl) (X:List Int):fcR l X 1=ofM (X.flatMap fun D=>sel (ofM ((secL (dayQ l D)).map fun s=>s / 60 % 60)).testBit 64):=by
 rw [fcR,if_neg (by omega),if_pos rfl,rowL]
 congr 2
theorem fcR_0 (l:List Cl) (X:List Int):fcR l X 0=ofM (X.flatMap fun D=>sel (ofM ((secL (dayQ l D)).map fun s=>s % 60)).testBit 64):=by
 rw [fcR,if_pos rfl,rowL]
 congr 2
theorem hm_rows {l:List Cl} {X:List Int} (hX:∀D,D∈X↔∃s,s∈secL (dayQ l D)):HmP (fcR l X) (fun s=>∃D,s∈secL (dayQ l D)):=by
 have rng:∀{D s:Int},s∈secL (dayQ l D)→0≤s∧s < 86400:=fun h=>by
  obtain ⟨j,hj,-,rfl⟩:=yaw.1 h; omega
 refine ⟨fun i hi=>?_,fun s ⟨D,hs⟩=>?_,fun s ⟨D,hs⟩=>rng hs,fun i h=>?_,fun i h=>?_,fun i h=>?_⟩
 ·have:i=0∨i=1∨i=2:=by omega
  rcases this with rfl | rfl | rfl
  ·rw [fcR_0]; exact yan _
  ·rw [fcR_1]; exact yan _
  ·rw [fcR_2]; exact yan _
 ·have hr:=rng hs
  have hD:=(hX D).2 ⟨s,hs⟩
  rw [bit3,fcR_0,fcR_1,fcR_2,ydL,ydL,ydL]
  exact ⟨⟨by omega,D,hD,s,hs,by omega⟩,⟨by omega,D,hD,s,hs,by omega⟩,⟨by omega,D,hD,s,hs,by omega⟩⟩
 ·rw [fcR_2,ydL] at h
  obtain ⟨-,D,-,s,hs,e⟩:=h
  exact ⟨s,⟨D,hs⟩,by omega⟩
 ·rw [fcR_1,ydL] at h
  obtain ⟨-,D,-,s,hs,e⟩:=h
  exact ⟨s,⟨D,hs⟩,by omega⟩
 ·rw [fcR_0,ydL] at h
  obtain ⟨-,D,-,s,hs,e⟩:=h
  exact ⟨s,⟨D,hs⟩,by omega⟩
theorem dayS_has {l:List Cl} {D:Int}:D∈dayS l (yae 0 146096)↔∃s,s∈secL (dayQ l D):=by
 rw [dayS,List.mem_filter,ybW,yaP]
 constructor
 ·rintro ⟨-,k,hk,hq⟩
  exact ⟨k,yaw.2 ⟨k,hk,hq,rfl⟩⟩
 ·rintro ⟨s,hs⟩
  obtain ⟨k,hk,hq,rfl⟩:=yaw.1 hs
  refine ⟨?_,k,hk,hq⟩
  rw [dayQ,List.any_eq_true] at hq
  obtain ⟨c,-,hc⟩:=hq
  rw [hasC,Bool.and_eq_true] at hc
  have:=hc.1
  rw [winB,decide_eq_true_eq] at this
  omega
theorem face_rows (l:List Cl) {X:List Int} (hX:X=dayS l (yae 0 146096)):FaceP l (fcR l X) (fiV l X) (laV l X) (X.length:Nat) (evB (lsL l X)) (sqA (lsL l X)):=by
 refine ⟨hm_rows fun D=>by rw [hX]; exact dayS_has,fun i h0 h1=>?_,?_,?_,?_,?_,?_⟩
 ·rw [←hX]; exact fcR_fcU l _ h0 h1
 ·rw [←hX]
 ·rw [←hX]
 ·rw [←hX]
 ·rw [←hX]
 ·rw [←hX]
theorem evB_any (ls:List (List Int)) (L:List Int):evB (ls ++ [L])= (evB ls && decide (L= (ls ++ [L]).headD [])):=by
 cases ls with
 | nil=>simp [evB]
 | cons L0 ls=>rw [yiB]; rfl
end
section
open Go.RowKit
theorem cellsFc:Tryz.prog.cellsOf 28=51:=by kernel_rfl
theorem keyFc:Tryz.prog.keyTypeAt 4 28=true:=by kernel_rfl
def fcLt (u:Nat→Nat) (fi la n:Int) (ev sq:Bool):List Lit:=((List.range 46).map fun i=> .int .u64 (u i:Nat)) ++ [.int .i64 fi, .int .i64 la, .int .i64 n, .bool ev, .bool sq]
theorem formFc (u:Nat→Nat) (fi la n:Int) (ev sq:Bool):(fcv u fi la n ev sq).formed Tryz.prog 28=true:=by
 unfold Value.formed; rw [fcv]; simp only [Tryz.underlying28,cellsFc]; rfl
theorem lits_fc (d:Nat) (u:Nat→Nat) (fi la n:Int) (ev sq:Bool) (hu:∀i,i < 46→u i < 18446744073709551616) (h1:i64B fi) (h2:i64B la) (h3:i64B n):Tryz.prog.keyLits (d+3) 28 (fcL u fi la n ev sq)=some (fcLt u fi la n ev sq):=by
 have e:fcL u fi la n ev sq= [.int .u64 (u 0:Nat), .int .u64 (u 1:Nat), .int .u64 (u 2:Nat), .int .u64 (u 3:Nat), .int .u64 (u 4:Nat), .int .u64 (u 5:Nat), .int .u64 (u 6:Nat), .int .u64 (u 7:Nat), .int .u64 (u 8:Nat), .int .u64 (u 9:Nat), .int .u64 (u 10:Nat), .int .u64 (u 11:Nat), .int .u64 (u 12:Nat), .int .u64 (u 13:Nat), .int .u64 (u 14:Nat), .int .u64 (u 15:Nat), .int .u64 (u 16:Nat), .int .u64 (u 17:Nat), .int .u64 (u 18:Nat), .int .u64 (u 19:Nat), .int .u64 (u 20:Nat), .int .u64 (u 21:Nat), .int .u64 (u 22:Nat), .int .u64 (u 23:Nat), .int .u64 (u 24:Nat), .int .u64 (u 25:Nat), .int .u64 (u 26:Nat), .int .u64 (u 27:Nat), .int .u64 (u 28:Nat), .int .u64 (u 29:Nat), .int .u64 (u 30:Nat), .int .u64 (u 31:Nat), .int .u64 (u 32:Nat), .int .u64 (u 33:Nat), .int .u64 (u 34:Nat), .int .u64 (u 35:Nat), .int .u64 (u 36:Nat), .int .u64 (u 37:Nat), .int .u64 (u 38:Nat), .int .u64 (u 39:Nat), .int .u64 (u 40:Nat), .int .u64 (u 41:Nat), .int .u64 (u 42:Nat), .int .u64 (u 43:Nat), .int .u64 (u 44:Nat), .int .u64 (u 45:Nat), .int .i64 fi, .int .i64 la, .int .i64 n, .bool ev, .bool sq]:=rfl
 rw [e]
 unfold Program.keyLits
 simp only [Tryz.underlying28]
 simp [cellsFc,cells8,cells7,cellsI,yf7,cellsU,cellsBl,lits_i,lits_l,lits_u,lits_b,hu,h1,h2,h3]
 rw [lits_7 d (fun i=>u (7+i)) (fun i hi=>hu (7+i) (by omega)),yfg d (fun i=>u (14+i)) (fun i hi=>hu (14+i) (by omega)),yfg d (fun i=>u (22+i)) (fun i hi=>hu (22+i) (by omega)),yfg d (fun i=>u (30+i)) (fun i hi=>hu (30+i) (by omega)),yfg d (fun i=>u (38+i)) (fun i hi=>hu (38+i) (by omega))]; rfl
def ygM (a b:Value):Sem Value:=binOp .eql 28 a b
theorem eql_fcS (a b:Value):binOp .eql 28 a b=ygM a b:=rfl
theorem eqlFc_run (u:Nat→Nat) (fi la n:Int) (ev sq:Bool) (w:World) (hu:∀i,i < 46→u i < 18446744073709551616) (h1:i64B fi) (h2:i64B la) (h3:i64B n):(ygM (fcv u fi la n ev sq) (fcv u fi la n ev sq)).run Tryz.prog w= .ok (.bool true) w:=by
 obtain ⟨r,hr,hi⟩:=run_equalIn_deep 9996 4 28 keyFc w 4 4 _ _ _ _ (formFc u fi la n ev sq) (formFc u fi la n ev sq) (lits_fc 1 u fi la n ev sq hu h1 h2 h3) (lits_fc 1 u fi la n ev sq hu h1 h2 h3)
 have e:r=true:=hi.2 rfl
 rw [e] at hr
 rw [ygM,fcv,run_eql_struct]
 rw [fcv] at hr
 rw [hr]; rfl
theorem fcv_same {u u':Nat→Nat} (fi la n:Int) (ev sq:Bool) (h:∀i,i < 46→u i=u' i):fcv u fi la n ev sq=fcv u' fi la n ev sq:=by
 rw [fcv_L,fcv_L,fcL,fcL]
 congr 3
 exact List.map_congr_left fun i hi=>by rw [h i (List.mem_range.1 hi)]
end
section
open Go.RowKit
attribute [local go_sem ↓] yap
set_option maxRecDepth 100000 in
set_option maxHeartbeats 3200000 in
theorem yjI (a:Option Addr) (cap:Nat) (l:List Cl) (w:World) (hl:l.length≤1000) (hs:Sl w a (cls l)) (hok:∀c∈l,c.Ok) :
  Calls Tryz.prog 9 #[.slice a l.length cap] w fun e w'=>e= .returned (.bool (mayL l))∧Below w.heap.size w w':=by
 have Hs:=hid hs
 have Hok:=hid hok
 clear hs hok
 go_enter Tryz.func9,Tryz.ntmps9
 go_wp2_with fail
 go_loopw [3] (fun i wr=>∃k:Nat,i= .int .i64 k∧k≤l.length∧k≤9∧Hid ((l.take k).all mayC=true)∧Hid (Below w.heap.size w wr)) (fun i _=>l.length - (intOf i).toNat)
 case atStart=>exact ⟨0,rfl,by omega,by omega,by show _ = _; rfl,Below.refl _ _⟩
 case round=>
  obtain ⟨k,rfl,hk,hk9,hall,HB⟩:=hrel
  by_cases hlt:k < l.length
  ·by_cases h9:k < 9
   ·have hltI:(k:Int) < l.length:=by omega
    have h9I:(k:Int) < 9:=by omega
    obtain ⟨b,off,rfl,hbk,hr⟩:=Hs.out.atCl hlt
    have hr':=yaA hr HB.out hbk
    have hcOk:=hid (Hok.out _ (List.getElem_mem hlt))
    have ts:=hid (yai l k hlt)
    have hmem:=hid (List.getElem_mem hlt)
    obtain ⟨c,hc⟩:∃c,l[k]=c:=⟨_,rfl⟩
    rw [hc] at hr' hcOk ts hmem
    have le:=yfT hr'
    have cM:=hid (fun W=>yfu c W hcOk.out)
    cases hm:mayC c
    ·rw [hm] at cM
     have hno:Hid (mayL l=false):=by
      show _ = _
      rw [mayL,show l.all mayC=false by rw [List.all_eq_false]; exact ⟨c,hmem.out,by rw [hm]; simp⟩,Bool.and_false]
     clear hr hr' hc hm
     go_wp2_with fail
     refine (cM.out _).mono ?_
     rintro e w1 ⟨rfl,hB1⟩
     have HB1:=hid (HB.out.trans (hB1.mono HB.out.size))
     clear hB1 le
     go_wp2
     go_ret
     rw [hno.out]
     exact ⟨rfl,HB1.out⟩
    ·rw [hm] at cM
     have hyes:Hid ((l.take (k+1)).all mayC=true):=by show _ = _; rw [ts.out,List.all_append,hall.out,List.all_cons,hm]; rfl
     clear hr hr' hc hm
     go_wp2_with fail
     refine (cM.out _).mono ?_
     rintro e w1 ⟨rfl,hB1⟩
     have HB1:=hid (HB.out.trans (hB1.mono HB.out.size))
     clear hB1 le
     go_wp2
     exact ⟨⟨k+1,by go_num,by omega,by omega,hyes,HB1⟩,by simp [intOf]; omega⟩
   ·have hltI:(k:Int) < l.length:=by omega
    have h9I:¬(k:Int) < 9:=by omega
    have hno:Hid (mayL l=false):=by show _ = _; rw [mayL,decide_eq_false (by omega)]; rfl
    have h8J:decide ((l.length:Int)≤8)=false:=decide_eq_false (by omega)
    have h8I:¬(l.length:Int)≤8:=by omega
    go_wp2
    go_ret
    rw [hno.out]
    exact ⟨rfl,HB.out⟩
  ·have hltI:¬(k:Int) < l.length:=by omega
   have hke:l.take k=l:=List.take_of_length_le (by omega)
   rw [hke] at hall
   clear hke
   by_cases h8:l.length≤8
   ·have hno:Hid (mayL l=true):=by show _ = _; rw [mayL,decide_eq_true h8,hall.out]; rfl
    have h8I:(l.length:Int)≤8:=by omega
    clear hall
    go_wp2
    go_ret
    rw [hno.out]
    exact ⟨rfl,HB.out⟩
   ·have hno:Hid (mayL l=false):=by show _ = _; rw [mayL,decide_eq_false h8]; rfl
    have h8I:¬(l.length:Int)≤8:=by omega
    clear hall
    go_wp2
    go_ret
    rw [hno.out]
    exact ⟨rfl,HB.out⟩
end
section
open Go.RowKit
def yec (l:List (Int × Int)):List Value:=l.flatMap fun p=> [.int .i64 p.1, .int .i64 p.2]
theorem pints_len (l:List (Int × Int)):(yec l).length=l.length * 2:=by
 induction l with
 | nil=>rfl
 | cons p l ih=>rw [show yec (p :: l)= [.int .i64 p.1, .int .i64 p.2] ++ yec l by simp [yec],List.length_append,ih]; simp only [List.length_cons,List.length_nil]; omega
theorem ygy:∀(l:List (Int × Int)) (k:Nat) (hk:k < l.length),(yec l)[k * 2]? =some (.int .i64 l[k].1)∧(yec l)[k * 2+1]? =some (.int .i64 l[k].2)
 | p :: l,0,_=>by simp [yec]
 | p :: l,k+1,hk=>by
   have e:yec (p :: l)= [.int .i64 p.1, .int .i64 p.2] ++ yec l:=by simp [yec]
   have h:=ygy l k (by simpa using hk)
   constructor
   ·rw [e,List.getElem?_append_right (by simp only [List.length_cons,List.length_nil]; omega),show (k+1) * 2 - [Value.int .i64 p.1, .int .i64 p.2].length=k * 2 by simp only [List.length_cons,List.length_nil]; omega,h.1]; simp
   ·rw [e,List.getElem?_append_right (by simp only [List.length_cons,List.length_nil]; omega),show (k+1) * 2+1 - [Value.int .i64 p.1, .int .i64 p.2].length=k * 2+1 by simp only [List.length_cons,List.length_nil]; omega,h.2]; simp
theorem Sl.atPint {w:World} {a:Option Addr} {l:List (Int × Int)} (h:Sl w a (yec l)) {k:Nat} (hk:k < l.length) :
  ∃b off,a=some ⟨b,off,none⟩∧b < w.heap.size∧w.cell? ⟨b,off+k * 2,none⟩=some (.int .i64 l[k].1)∧w.cell? ⟨b,off+k * 2+1,none⟩=some (.int .i64 l[k].2):=by
 obtain ⟨b,off,rfl,hlt,hc⟩:=Sl.at h (k:=k * 2) (by rw [pints_len]; omega)
 obtain ⟨h1,h2⟩:=ygy l k hk
 obtain ⟨g1,g2⟩:=List.getElem?_eq_some_iff.1 h1
 obtain ⟨g3,g4⟩:=List.getElem?_eq_some_iff.1 h2
 exact ⟨b,off,rfl,hlt,by rw [hc _ g1,g2],by rw [Nat.add_assoc,hc _ g3,g4]⟩
def mtF (l:List (Int × Int)):Int:=l.foldl (fun a p=>max a p.1) 0
def mtU (l:List (Int × Int)):Int:=l.foldl (fun a p=>min a p.2) 12622780799
theorem mtF_snoc (l:List (Int × Int)) (p:Int × Int):mtF (l ++ [p])=max (mtF l) p.1:=by rw [mtF,List.foldl_append]; rfl
theorem mtU_snoc (l:List (Int × Int)) (p:Int × Int):mtU (l ++ [p])=min (mtU l) p.2:=by rw [mtU,List.foldl_append]; rfl
structure MtS (w:World) (F U:Int) (W:World):Prop where
 r0:W.cell? ⟨w.heap.size,0,none⟩=some (.int .i64 0)
 r1:W.cell? ⟨w.heap.size,1,none⟩=some (.int .i64 0)
 g0:W.frozen? ⟨w.heap.size,0,none⟩=false
 g1:W.frozen? ⟨w.heap.size,1,none⟩=false
 c0:W.cell? ⟨w.heap.size+1,0,none⟩=some (.int .i64 F)
 c1:W.cell? ⟨w.heap.size+1,1,none⟩=some (.int .i64 U)
 f0:W.frozen? ⟨w.heap.size+1,0,none⟩=false
 f1:W.frozen? ⟨w.heap.size+1,1,none⟩=false
 be:Below w.heap.size w W
 l:w.heap.size+1 < W.heap.size
theorem MtS.drew {w W:World} {F U:Int} (h:MtS w F U W):MtS w F U W.drew:=by
 have hd:Below W.heap.size W W.drew:=(Below.refl _ _).drew
 have l1:w.heap.size < W.heap.size:=by have:=h.l; omega
 exact ⟨(hd.cell (p:=⟨w.heap.size,0,none⟩) l1).trans h.r0,(hd.cell (p:=⟨w.heap.size,1,none⟩) l1).trans h.r1,(hd.frozen (p:=⟨w.heap.size,0,none⟩) l1).trans h.g0,(hd.frozen (p:=⟨w.heap.size,1,none⟩) l1).trans h.g1,
  (hd.cell (p:=⟨w.heap.size+1,0,none⟩) h.l).trans h.c0,(hd.cell (p:=⟨w.heap.size+1,1,none⟩) h.l).trans h.c1,(hd.frozen (p:=⟨w.heap.size+1,0,none⟩) h.l).trans h.f0,(hd.frozen (p:=⟨w.heap.size+1,1,none⟩) h.l).trans h.f1,h.be.trans (hd.mono (by omega)),zH h.l hd.size⟩
theorem MtS.setF {w W:World} {F U x:Int} (h:MtS w F U W):MtS w x U (W.setCell ⟨w.heap.size+1,0,none⟩ (.int .i64 x)):=by
 obtain ⟨r0,r1,g0,g1,c0,c1,f0,f1,be,l⟩:=h
 exact ⟨by simp [go_sem,r0],by simp [go_sem,r1],by simp [go_sem,g0],by simp [go_sem,g1],by simp [go_sem,c0],by simp [go_sem,c1],by simp [go_sem,f0],by simp [go_sem,f1],yab be (by omega),by simp [l]⟩
theorem MtS.setU {w W:World} {F U x:Int} (h:MtS w F U W):MtS w F x (W.setCell ⟨w.heap.size+1,1,none⟩ (.int .i64 x)):=by
 obtain ⟨r0,r1,g0,g1,c0,c1,f0,f1,be,l⟩:=h
 exact ⟨by simp [go_sem,r0],by simp [go_sem,r1],by simp [go_sem,g0],by simp [go_sem,g1],by simp [go_sem,c0],by simp [go_sem,c1],by simp [go_sem,f0],by simp [go_sem,f1],yab be (by omega),by simp [l]⟩
set_option maxRecDepth 100000 in
set_option maxHeartbeats 3200000 in
theorem yjH (a:Option Addr) (cap:Nat) (l:List (Int × Int)) (w:World) (hl:l.length≤1000) (hs:Sl w a (yec l)) :
  Calls Tryz.prog 8 #[.slice a l.length cap] w fun e w'=>e= .returned (spv (yal (mtF l) (mtU l)) (yak (mtF l) (mtU l)))∧Below w.heap.size w w':=by
 have cH:=hid (fun f u W=>yjK f u W)
 have Hs:=hid hs
 clear hs
 go_enter Tryz.func8,Tryz.ntmps8
 go_upto_region 2 with fail
 have H0:Hid (MtS w 0 12622780799 ((w.alloc (.cells #[.int .i64 0, .int .i64 0] 38)).alloc (.cells #[.int .i64 0, .int .i64 12622780799] 38))):=
  ⟨by simp [go_sem],by simp [go_sem],by simp [go_sem],by simp [go_sem],by simp [go_sem],by simp [go_sem],by simp [go_sem],by simp [go_sem],yaa (yaa (Below.refl _ _) (zG _)) (by simp),by simp⟩
 go_wp2_with fail
 go_loopw [4] (fun i wr=>∃k:Nat,i= .int .i64 k∧k≤l.length∧Hid (MtS w (mtF (l.take k)) (mtU (l.take k)) wr)) (fun i _=>l.length - (intOf i).toNat)
 case atStart=>exact ⟨0,rfl,by omega,H0⟩
 case round=>
  obtain ⟨k,rfl,hk,HI⟩:=hrel
  by_cases hlt:k < l.length
  ·have hltI:(k:Int) < l.length:=by omega
   obtain ⟨b,off,rfl,hb,e1,e2⟩:=Hs.out.atPint hlt
   have e1':=(HI.out.be.cell (p:=⟨b,off+k * 2,none⟩) hb).trans e1
   have e2':=(HI.out.be.cell (p:=⟨b,off+k * 2+1,none⟩) hb).trans e2
   have ts:=yai l k hlt
   obtain ⟨⟨x,y⟩,hxy⟩:∃p,l[k]=p:=⟨_,rfl⟩
   rw [hxy] at e1' e2' ts
   have s1:=mtF_snoc (l.take k) (x,y)
   have s2:=mtU_snoc (l.take k) (x,y)
   rw [←ts] at s1 s2
   obtain ⟨F,hF⟩:∃F,mtF (l.take k)=F:=⟨_,rfl⟩
   obtain ⟨U,hU⟩:∃U,mtU (l.take k)=U:=⟨_,rfl⟩
   rw [hF] at s1 HI
   rw [hU] at s2 HI
   have S1:=hid s1
   have S2:=hid s2
   have hne:Hid (b≠w.heap.size+1):=by have:=hb; exact Nat.ne_of_lt (by omega)
   clear e1 e2 ts hxy s1 s2 hF hU
   obtain ⟨r0,r1,g0,g1,c0,c1,f0,f1,-,-⟩:=HI.out
   have en:(b=w.heap.size+1)=False:=by simpa using hne.out
   rcases Int.lt_or_le F x with h1 | h1 <;> rcases Int.lt_or_le y U with h2 | h2
   all_goals
    go_upto_region 5 with fail
    go_region
    go_upto_region 7 with fail
    go_region
    go_wp2
    refine ⟨⟨k+1,by go_num,by omega,?_⟩,by simp [intOf]; omega⟩
    rw [S1.out,S2.out]
    first
     | (rw [show max F x=x by omega,show min U y=y by omega]; exact HI.out.setF.setU.drew.drew)
     | (rw [show max F x=x by omega,show min U y=U by omega]; exact HI.out.setF.drew.drew)
     | (rw [show max F x=F by omega,show min U y=y by omega]; exact HI.out.setU.drew.drew)
     | (rw [show max F x=F by omega,show min U y=U by omega]; exact HI.out.drew.drew)
  ·have hltI:¬(k:Int) < l.length:=by omega
   have hall:Hid (l.take k=l):=by show _ = _; rw [List.take_of_length_le (by omega)]
   rw [hall.out] at HI
   obtain ⟨F,hF⟩:∃F,mtF l=F:=⟨_,rfl⟩
   obtain ⟨U,hU⟩:∃U,mtU l=U:=⟨_,rfl⟩
   rw [hF,hU] at HI
   have HF:=hid hF
   have HU:=hid hU
   clear hF hU
   obtain ⟨r0,r1,g0,g1,c0,c1,f0,f1,-,-⟩:=HI.out
   go_wp2_with fail
   refine (cH.out _ _ _).mono ?_
   rintro e w2 ⟨rfl,hB2⟩
   have l1:=HI.out.l
   have k1:=(hB2.cell (p:=⟨w.heap.size,0,none⟩) (by simp only []; omega)).trans r0
   have k2:=(hB2.cell (p:=⟨w.heap.size,1,none⟩) (by simp only []; omega)).trans r1
   have q1:=(hB2.frozen (p:=⟨w.heap.size,0,none⟩) (by simp only []; omega)).trans g0
   have q2:=(hB2.frozen (p:=⟨w.heap.size,1,none⟩) (by simp only []; omega)).trans g1
   have HB2:Hid (Below w.heap.size w w2):=HI.out.be.trans (hB2.mono (by omega))
   clear hB2 r0 r1 g0 g1 c0 c1 f0 f1
   obtain ⟨X,hX⟩:∃X,yal F U=X:=⟨_,rfl⟩
   obtain ⟨Y,hY⟩:∃Y,yak F U=Y:=⟨_,rfl⟩
   rw [hX,hY]
   have HX:=hid hX
   have HY:=hid hY
   clear hX hY
   go_wp2
   refine bodyPost_ret (v:=spv X Y) (yac rfl _ _ w.heap.size 0 _ _ rfl (ycd k1 k2) Tryz.underlying38 rfl infoS9) rfl ⟨?_,yab (yab HB2.out (zG _)) (zG _)⟩
   rw [HF.out,HU.out,HX.out,HY.out]
end
end Go.Proofs.YtkpgfmonhfnhdaaGreatDoor
