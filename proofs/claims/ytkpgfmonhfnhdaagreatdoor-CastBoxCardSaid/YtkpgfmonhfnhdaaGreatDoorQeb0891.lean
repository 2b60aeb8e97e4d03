/-
  math/bits.Len64, by the kit's shelf: how long a number is, in bits.
  A disc's Prev.
  disc.Prev, from any second on.
  What a face is of a set (plain).
  The rows of ferialaw22.face: what they hold (plain).
  ferialaw17.May: the document's answer for sets.
  feriaref09.Meet (of DayRefs, alone).
  A set held within days: what CastBrief asks (plain).
  What wide.Both and wide.Either compute.
-/
import Derived.Test.YtkpgfmonhfnhdaaGreatDoorQc23fdd
import Derived.Shelf.Strconv.Itoa0
import Derived.Test.YtkpgfmonhfnhdaaGreatDoorQ0477a0
import Derived.Test.YtkpgfmonhfnhdaaGreatDoorQcb3d1c
import Derived.Test.YtkpgfmonhfnhdaaGreatDoorQ75de94
import Derived.Test.YtkpgfmonhfnhdaaGreatDoorQ671f55
import Derived.Test.YtkpgfmonhfnhdaaGreatDoorQ13a173
import Derived.Test.YtkpgfmonhfnhdaaGreatDoorQ962259
import Derived.Test.YtkpgfmonhfnhdaaGreatDoorQ7ac251
import Derived.Test.YtkpgfmonhfnhdaaGreatDoorQ06a435
import Derived.Test.YtkpgfmonhfnhdaaGreatDoorQf1801c
import Derived.Test.YtkpgfmonhfnhdaaGreatDoorQe30e88
import Derived.Test.YtkpgfmonhfnhdaaGreatDoorQf49d9a
import Derived.Test.YtkpgfmonhfnhdaaGreatDoorQe52770
import Derived.Test.YtkpgfmonhfnhdaaGreatDoorQb0eb1f
import Derived.Deep.RegionHeld3
import Derived.BigQuiet
import Derived.Deep.CutRange
import Derived.BigRegion
set_option maxRecDepth 100000
set_option maxHeartbeats 25600000
namespace Go.Proofs.YtkpgfmonhfnhdaaGreatDoor
set_option linter.unusedVariables false
section
open Go.RowKit Go.Shelf
def ren64:Ren:={f:=fun n=>if n=129 then 69 else 0,t:=fun n=>if n=3 then 3 else if n=4 then 4 else if n=5 then 5 else if n=9 then 9 else if n=46 then 199 else if n=53 then 24 else 0,g:=fun _=>0}
theorem yja:Tryz.f69=Body.n129 ren64:=by kernel_rfl
theorem lays64:Lays.n129 Tryz.prog ren64 where
 mixed:=rfl
 f129:=by
  show Tryz.prog.funcs[69]? = _
  rw [Tryz.func69,yja]
 t3:=Tryz.underlying3
 a3:=Tryz.isAgg3
 z3:=Tryz.sizeOf3
 v3:=Tryz.zeroValue3
 t4:=Tryz.underlying4
 a4:=Tryz.isAgg4
 z4:=Tryz.sizeOf4
 v4:=Tryz.zeroValue4
 t5:=Tryz.underlying5
 a5:=Tryz.isAgg5
 z5:=Tryz.sizeOf5
 v5:=Tryz.zeroValue5
 t9:=Tryz.underlying9
 a9:=Tryz.isAgg9
 z9:=Tryz.sizeOf9
 v9:=Tryz.zeroValue9
 t46:=Tryz.underlying199
 a46:=Tryz.isAgg199
 z46:=Tryz.sizeOf199
 v46:=Tryz.zeroValue199
 t53:=Tryz.underlying24
 a53:=Tryz.isAgg24
 z53:=Tryz.sizeOf24
 v53:=Tryz.zeroValue24
theorem Len64_any (x:Nat) (w:World) (hx:x < 18446744073709551616):Calls Tryz.prog 69 #[.int .u64 (x:Nat)] w fun e w'=>e= .returned (.int .i64 ((Lib.bitLen x:Nat):Int))∧w' =w:=by
 exact Any.bits_Len64 lays64 (x:Nat) w (by omega) (by omega)
theorem ydQ:∀(n x:Nat),x < 2 ^ n→n≤64→x≠0→1≤Lib.bitLen x∧Lib.bitLen x≤n∧x.testBit (Lib.bitLen x - 1)=true∧∀j,Lib.bitLen x≤j→x.testBit j=false
 | 0,x,h,_,h0=>by simp at h; omega
 | n+1,x,h,hn,h0=>by
   have h64:x < 2 ^ 64:=zH h (Nat.pow_le_pow_right (by omega) hn)
   have e:=Lib.bitLen_half x h0 h64
   by_cases h1:x / 2=0
   ·have:x=1:=by omega
    subst this
    refine ⟨by decide,by rw [e]; rw [h1]; simp [show Lib.bitLen 0=0 from rfl],by decide,fun j hj=>?_⟩
    have:Lib.bitLen 1=1:=by decide
    rw [this] at hj
    obtain ⟨k,rfl⟩:∃k,j=k+1:=⟨j - 1,by omega⟩
    rw [Nat.testBit_succ]; simp
   ·have h2:x / 2 < 2 ^ n:=by rw [Nat.pow_succ] at h; omega
    obtain ⟨g1,g2,g3,g4⟩:=ydQ n (x / 2) h2 (by omega) h1
    rw [e]
    refine ⟨by omega,by omega,?_,fun j hj=>?_⟩
    ·rw [show 1+Lib.bitLen (x / 2) - 1= (Lib.bitLen (x / 2) - 1)+1 by omega,Nat.testBit_succ]; exact g3
    ·obtain ⟨k,rfl⟩:∃k,j=k+1:=⟨j - 1,by omega⟩
     rw [Nat.testBit_succ]; exact g4 k (by omega)
end
section
open Go.RowKit
def LastOf (p:Nat→Bool) (n:Int) (ok:Bool):Prop:=
 (ok=true∧∃k:Nat,n=k∧k < 86400∧p k=true∧∀j,k < j→j < 86400→p j=false)∨(ok=false∧n=0∧∀j,j < 86400→p j=false)
theorem LastOf.congr {p q:Nat→Bool} {n:Int} {ok:Bool} (h:LastOf p n ok) (e:∀k,k < 86400→p k=q k):LastOf q n ok:=by
 rcases h with ⟨rfl,k,rfl,hk,h1,h2⟩ | ⟨rfl,rfl,h2⟩
 ·exact .inl ⟨rfl,k,rfl,hk,by rw [←e k hk]; exact h1,fun j hj h=>by rw [←e j h]; exact h2 j hj h⟩
 ·exact .inr ⟨rfl,rfl,fun j h=>by rw [←e j h]; exact h2 j h⟩
theorem last_word (h:Nat→Nat) (k:Nat) (hk:k < 1350) (hz:∀j,k < j→j < 1350→h j=0) (hb:h k < 18446744073709551616) (h0:h k≠0):LastOf (bitW h) ((k:Int) * 64+(Lib.bitLen (h k):Nat) - 1) true:=by
 obtain ⟨h1,h2,h3,h4⟩:=ydQ 64 (h k) (by simpa using hb) (by omega) h0
 generalize Lib.bitLen (h k)=L at *
 refine .inl ⟨rfl,k * 64+(L - 1),by omega,by omega,?_,fun j hj hj2=>?_⟩
 ·rw [bitW,show (k * 64+(L - 1)) / 64=k by omega,show (k * 64+(L - 1)) % 64=L - 1 by omega]; exact h3
 ·rw [bitW]
  by_cases e:j / 64=k
  ·rw [e]; exact h4 _ (by omega)
  ·rw [hz (j / 64) (by omega) (by omega),Nat.zero_testBit]
theorem last_none (h:Nat→Nat) (hz:∀j,j < 1350→h j=0):LastOf (bitW h) 0 false:= .inr ⟨rfl,rfl,fun j hj=>by rw [bitW,hz (j / 64) (by omega),Nat.zero_testBit]⟩
def ybS (f:Nat→Nat) (s j:Nat):Nat:=mk (fun t=>(f j).testBit t && decide (64 * j+t≤s))
theorem uptoW_lt (f:Nat→Nat) (s j:Nat):ybS f s j < 18446744073709551616:=yao _
theorem yiV (f:Nat→Nat) (s j:Nat) (h:s / 64 < j):ybS f s j=0:=by
 rw [ybS,←ybE]
 exact yaB fun k hk=>by rw [zzd (by omega),Bool.and_false]
theorem uptoW_low (f:Nat→Nat) (s j:Nat) (h:j < s / 64) (hf:f j < 18446744073709551616):ybS f s j=f j:=by
 refine (ydM hf fun k hk=>?_).symm
 rw [zzZ (by omega),Bool.and_true]
theorem uptoW_bit (f:Nat→Nat) (s k:Nat):bitW (ybS f s) k= (bitW f k && decide (k≤s)):=by
 rw [bitW,ybS,yax,bitW,zzZ (Nat.mod_lt _ (by omega)),zzo]
 have:64 * (k / 64)+k % 64=k:=Nat.div_add_mod k 64
 rw [this]
theorem uptoW_at (f:Nat→Nat) (s:Nat) (hf:f (s / 64) < 18446744073709551616):ybS f s (s / 64)=f (s / 64) * 2 ^ (63 - s % 64) % 18446744073709551616 / 2 ^ (63 - s % 64):=by
 have h1:f (s / 64) * 2 ^ (63 - s % 64) % 18446744073709551616 / 2 ^ (63 - s % 64)≤f (s / 64) * 2 ^ (63 - s % 64) % 18446744073709551616:=Nat.div_le_self _ _
 have h2:f (s / 64) * 2 ^ (63 - s % 64) % 18446744073709551616 < 18446744073709551616:=Nat.mod_lt _ (by omega)
 refine (ydM (by omega) fun k hk=>?_).symm
 rw [←Nat.shiftRight_eq_div_pow,Nat.testBit_shiftRight,show (18446744073709551616:Nat)=2 ^ 64 from rfl,Nat.testBit_mod_two_pow,←Nat.shiftLeft_eq,Nat.testBit_shiftLeft]
 by_cases h:k≤s % 64
 ·rw [zzZ (show 63 - s % 64+k < 64 by omega),zzZ (show 63 - s % 64+k ≥ 63 - s % 64 by omega),zzZ (show 64 * (s / 64)+k≤s by omega),show 63 - s % 64+k - (63 - s % 64)=k by omega,zzo,zzo,Bool.and_true]
 ·rw [zzd (show¬63 - s % 64+k < 64 by omega),zzd (show¬64 * (s / 64)+k≤s by omega),Bool.false_and,Bool.and_false]
end
section
open Go.RowKit
theorem yhR (b:Nat) (q:Nat→Bool) (a:Int) (s:Nat) (w:World) (hmn:min a 86399= (s:Int)) (hs:s < 86400) (hd:DiscAt w b q) :
  Calls Tryz.prog 27 #[.pointer (some ⟨b,0,none⟩), .int .i64 a] w fun r w'=>(∃n ok,r= .returned (.tuple #[.int .i64 n, .bool ok])∧LastOf (fun k=>q k && decide (k≤s)) n ok)∧w' =w:=by
 obtain ⟨f,f1,f2,f3,f4,f5⟩:=hd
 have c1:=hid (ydt (s:Int) w)
 rw [ydj,zzZ hs] at c1
 have c2:=hid (fun m (hm:m < 18446744073709551616)=>Len64_any m w hm)
 have HC:=hid f1
 have Hf:=hid f3
 have hlt:=hid (fun j=>uptoW_lt f s j)
 have hhigh:=hid (fun j h=>yiV f s j h)
 have hlow:=hid (fun j h hf=>uptoW_low f s j h hf)
 have hsh:Hid (IntKind.u64.wrap ((f (s / 64):Int) * 2 ^ (63 - s % 64)) / 2 ^ (63 - s % 64)= ((ybS f s (s / 64):Nat):Int)):=by
  show _ = _
  have h2:=f3 (s / 64) (by omega)
  rw [uptoW_at f s h2,IntKind.wrap_u64]
  simp
 have hbit:Hid (∀k,k < 86400→bitW (ybS f s) k= (q k && decide (k≤s))):=fun k hk=>by rw [uptoW_bit,f4 k hk]
 have hsI:(s:Int) < 86400:=by omega
 have hi:s / 64 < 1350:=by omega
 have e1:=f1 (s / 64) hi
 have hs0:(0:Int)≤s:=by omega
 clear hs f1 f2 f3 f4 f5
 go_enter Tryz.func27,Tryz.ntmps27
 go_wp2_with fail
 refine c1.out.mono ?_
 rintro e w' ⟨rfl,rfl⟩
 go_wp2_with fail
 rw [hsh.out]
 clear hsh e1
 go_loopw [7,8] (fun m i wr=>∃k:Nat,i= .int .i64 k∧m= .int .u64 (ybS f s k:Nat)∧Hid (k≤s / 64)∧k < 1350∧Hid (∀j,k < j→j < 1350→ybS f s j=0)∧wr=w) (fun _ i _=>(intOf i).toNat)
 case atStart=>exact ⟨s / 64,by simp,rfl,zG _,hi,fun j h _=>hhigh.out j h,rfl⟩
 case round=>
  obtain ⟨k,rfl,rfl,hsk,hk2,hz,rfl⟩:=hrel
  have d4:=hid (c2.out _ (hlt.out k))
  by_cases hB:ybS f s k=0
  ·have hz2:Hid (∀j,k≤j→j < 1350→ybS f s j=0):=fun j hj hj2=>by
    by_cases e:j=k
    ·rw [e]; exact hB
    ·exact hz.out j (by omega) hj2
   have hbz:(((ybS f s k:Nat):Int) != 0)=false:=by simp [hB]
   have hbz2:(((ybS f s k:Nat):Int) == 0)=true:=by simp [hB]
   clear hB
   by_cases hlast:k=0
   ·have hbq:decide ((k:Int) - 1 < 0)=true:=zzZ (by omega)
    have hz3:Hid (LastOf (bitW (ybS f s)) 0 false):=last_none _ (fun j hj=>hz2.out j (by omega) hj)
    clear hlast
    go_wp2
    go_ret2
    exact ⟨⟨_,_,rfl,hz3.out.congr hbit.out⟩,rfl⟩
   ·have hk3:k - 1 < 1350:=by omega
    have hbq:decide ((k:Int) - 1 < 0)=false:=zzd (by omega)
    have e5:=HC.out (k - 1) hk3
    have e6:=hlow.out (k - 1) (by have:=hsk.out; omega) (Hf.out _ hk3)
    rw [←e6] at e5
    have hsk2:Hid (k - 1≤s / 64):=by have:=hsk.out; show _≤_; omega
    have hk1:0≤(k:Int) - 1:=by omega
    have hk4:(k:Int) - 1 < 1350:=by omega
    have hk5:((k:Int) - 1).toNat=k - 1:=by omega
    clear e6
    go_wp2
    exact ⟨⟨k - 1,by congr 1; omega,rfl,hsk2.out,hk3,fun j h1 h2=>hz2.out j (by omega) h2,by trivial⟩,by simp [intOf]; omega⟩
  ·have hr:=hid (last_word (ybS f s) k hk2 hz.out (hlt.out k) hB)
   have hbz:(((ybS f s k:Nat):Int) != 0)=true:=by simp [hB]
   have hbz2:(((ybS f s k:Nat):Int) == 0)=false:=by simp [hB]
   obtain ⟨-,hL,-,-⟩:=ydQ 64 (ybS f s k) (by simpa using hlt.out k) (by omega) hB
   obtain ⟨L,hLe⟩:∃L,Lib.bitLen (ybS f s k)=L:=⟨_,rfl⟩
   rw [hLe] at d4 hr hL
   clear hLe hB
   go_wp2_with fail
   refine d4.out.mono ?_
   rintro e w' ⟨rfl,rfl⟩
   go_wp2
   go_ret2
   exact ⟨⟨_,_,rfl,hr.out.congr hbit.out⟩,rfl⟩
end
section
open Go.RowKit Go.Maps
attribute [local irreducible] secL
def fstI (L:List Int):Int:=(L[0]?).getD 0
def lstI (L:List Int):Int:=(L[L.length - 1]?).getD 0
def fiV (l:List Cl) (X:List Int):Int:=match X[0]? with
 | none=>0
 | some D=>86400 * D+fstI (secL (dayQ l D))
def laV (l:List Cl) (X:List Int):Int:=match X[X.length - 1]? with
 | none=>0
 | some D=>86400 * D+lstI (secL (dayQ l D))
theorem fiV_one (l:List Cl) (D:Int):fiV l ([] ++ [D])=86400 * D+fstI (secL (dayQ l D)):=rfl
theorem fiV_more (l:List Cl) {X:List Int} (h:X≠ []) (D:Int):fiV l (X ++ [D])=fiV l X:=by
 cases X with
 | nil=>exact absurd rfl h
 | cons E X=>rfl
theorem laV_snoc (l:List Cl) (X:List Int) (D:Int):laV l (X ++ [D])=86400 * D+lstI (secL (dayQ l D)):=by
 have e:(X ++ [D])[(X ++ [D]).length - 1]? =some D:=by simp
 rw [laV,e]
theorem yco (q:Nat→Bool):(secL q).Pairwise (·< ·):=by
 rw [secL,sel]
 exact List.Pairwise.map _ (fun a b h=>by omega) ((List.pairwise_lt_range).filter _)
theorem secL_ne {q:Nat→Bool} {j:Nat} (hj:j < 86400) (hq:q j=true):0 < (secL q).length:=List.length_pos_of_mem (yas.2 ⟨j,hj,hq,rfl⟩)
theorem first_is {q:Nat→Bool} {n:Int} {ok:Bool} (h:FirstOf (fun k=>q k && decide (0≤k)) n ok) {j:Nat} (hj:j < 86400) (hq:q j=true):n=fstI (secL q)∧0≤n∧n < 86400:=by
 rcases h with ⟨-,k,rfl,hk,hp,hno⟩ | ⟨-,-,hno⟩
 ·have hqk:q k=true:=by simpa using hp
  have hm:(k:Int)∈secL q:=yas.2 ⟨k,hk,hqk,rfl⟩
  obtain ⟨i,hi,he⟩:=List.getElem_of_mem hm
  refine ⟨?_,by omega,by omega⟩
  have h0:=secL_ne hj hq
  rw [fstI,zzp h0,Option.getD_some]
  obtain ⟨m,hm',hqm,e0⟩:=yas.1 (zzr h0)
  have hle:(k:Int)≤(secL q)[0]:=by
   rw [e0]
   apply Classical.byContradiction
   intro hn
   have:=hno m (by omega)
   simp [hqm] at this
  by_cases i0:i=0
  ·subst i0; exact he.symm
  ·have:=(List.pairwise_iff_getElem.1 (yco q)) 0 i h0 hi (by omega)
   omega
 ·have:=hno j hj
  simp [hq] at this
theorem last_is {q:Nat→Bool} {n:Int} {ok:Bool} (h:LastOf (fun k=>q k && decide (k≤86399)) n ok) {j:Nat} (hj:j < 86400) (hq:q j=true):n=lstI (secL q)∧0≤n∧n < 86400:=by
 rcases h with ⟨-,k,rfl,hk,hp,hno⟩ | ⟨-,-,hno⟩
 ·have hqk:q k=true:=by rw [zzX] at hp; exact hp.1
  have hm:(k:Int)∈secL q:=yas.2 ⟨k,hk,hqk,rfl⟩
  obtain ⟨i,hi,he⟩:=List.getElem_of_mem hm
  refine ⟨?_,by omega,by omega⟩
  have h0:(secL q).length - 1 < (secL q).length:=by omega
  rw [lstI,zzp h0,Option.getD_some]
  obtain ⟨m,hm',hqm,e0⟩:=yas.1 (zzr h0)
  have hle:(secL q)[(secL q).length - 1]≤(k:Int):=by
   rw [e0]
   apply Classical.byContradiction
   intro hn
   have:=hno m (by omega) hm'
   simp [hqm] at this
   omega
  by_cases i0:i= (secL q).length - 1
  ·subst i0; exact he.symm
  ·have:=(List.pairwise_iff_getElem.1 (yco q)) i ((secL q).length - 1) hi h0 (by omega)
   omega
 ·have:=hno j hj
  simp [hq] at this
  omega
def cuU (u0:Nat→Nat) (X:List Int) (i:Nat):Nat:=if i < 3 then u0 i else fcU 0 0 0 X i
theorem cuU_lt {u0:Nat→Nat} (h:∀i,i < 3→u0 i < 18446744073709551616) (X:List Int) (i:Nat):cuU u0 X i < 18446744073709551616:=by
 rw [cuU]
 by_cases e:i < 3
 ·rw [if_pos e]; exact h i e
 ·rw [if_neg e,fcU,if_neg (by omega),if_neg (by omega),if_neg (by omega)]
  split
  ·exact yao _
  ·split
   ·exact wof_lt _ _
   ·split
    ·exact yao _
    ·split
     ·exact yao _
     ·split
      ·exact yao _
      ·exact yao _
theorem cuU_snoc {u0:Nat→Nat} {X:List Int} {D:Int} (h0:1970≤shF D 1) (h1:shF D 1 < 2370) (i:Nat):cuU u0 (X ++ [D]) i=dyU (shF D) (cuU u0 X) i:=by
 by_cases e:i < 3
 ·rw [cuU,if_pos e,dyU,if_pos e,cuU,if_pos e]
 ·rw [cuU,if_neg e,fcU_snoc 0 0 0 X h0 h1,dyU,dyU,if_neg e,if_neg e,cuU,if_neg e]
def lsL (l:List Cl) (X:List Int):List (List Int):=X.map fun D=>secL (dayQ l D)
theorem yfI (l:List Cl) (X:List Int) (D:Int):lsL l (X ++ [D])=lsL l X ++ [secL (dayQ l D)]:=by rw [lsL,lsL,List.map_append]; rfl
structure FaceP (l:List Cl) (u:Nat→Nat) (fi la n:Int) (ev sq:Bool):Prop where
 hm:HmP u (fun s=>∃D,s∈secL (dayQ l D))
 us:∀i,3≤i→i < 46→u i=fcU 0 0 0 (dayS l (yaf 0 146096)) i
 n:n= ((dayS l (yaf 0 146096)).length:Nat)
 fi:fi=fiV l (dayS l (yaf 0 146096))
 la:la=laV l (dayS l (yaf 0 146096))
 ev:ev=evB (lsL l (dayS l (yaf 0 146096)))
 sq:sq=sqA (lsL l (dayS l (yaf 0 146096)))
theorem FaceP.unique {l:List Cl} {u u':Nat→Nat} {fi la n fi' la' n':Int} {ev sq ev' sq':Bool} (h:FaceP l u fi la n ev sq) (k:FaceP l u' fi' la' n' ev' sq'):(∀i,i < 46→u i=u' i)∧fi=fi'∧la=la'∧n=n'∧ev=ev'∧sq=sq':=by
 refine ⟨fun i hi=>?_,h.fi.trans k.fi.symm,h.la.trans k.la.symm,h.n.trans k.n.symm,h.ev.trans k.ev.symm,h.sq.trans k.sq.symm⟩
 by_cases e:i < 3
 ·exact h.hm.eq k.hm (fun s=>Iff.rfl) e
 ·rw [h.us i (by omega) hi,k.us i (by omega) hi]
theorem day_any {l:List Cl} {D s:Int}:s∈secL (dayQ l D)↔∃c∈l,s∈secL (dayQ [c] D):=by
 constructor
 ·intro h
  obtain ⟨j,hj,hq,rfl⟩:=yas.1 h
  rw [dayQ,List.any_eq_true] at hq
  obtain ⟨c,hc,hh⟩:=hq
  exact ⟨c,hc,yas.2 ⟨j,hj,by simpa [dayQ] using hh,rfl⟩⟩
 ·rintro ⟨c,hc,h⟩
  obtain ⟨j,hj,hq,rfl⟩:=yas.1 h
  refine yas.2 ⟨j,hj,?_,rfl⟩
  rw [dayQ,List.any_eq_true]
  exact ⟨c,hc,by simpa [dayQ] using hq⟩
end
section
open Go.RowKit Go.Maps
attribute [local irreducible] secL
theorem yeb {l:List Cl} {D:Int}:D∈dayS l (yaf 0 146096)↔∃s,s∈secL (dayQ l D):=by
 rw [dayS,List.mem_filter,ycz,yaE]
 constructor
 ·rintro ⟨-,k,hk,hq⟩
  exact ⟨k,yas.2 ⟨k,hk,hq,rfl⟩⟩
 ·rintro ⟨s,hs⟩
  obtain ⟨k,hk,hq,rfl⟩:=yas.1 hs
  refine ⟨?_,k,hk,hq⟩
  rw [dayQ,List.any_eq_true] at hq
  obtain ⟨c,-,hc⟩:=hq
  rw [hasC,zzX] at hc
  have:=hc.1
  rw [winB,zzY] at this
  omega
end
section
open Go.RowKit
attribute [local go_sem ↓] yan
theorem yjA (a:Option Addr) (cap:Nat) (l:List Cl) (w:World) (hl:l.length≤1000) (hs:Sl w a (cls l)) (hok:∀c∈l,c.Ok) :
  Calls Tryz.prog 9 #[.slice a l.length cap] w fun e w'=>e= .returned (.bool (mayL l))∧Below w.heap.size w w':=by
 have Hs:=hid hs
 have Hok:=hid hok
 clear hs hok
 go_enter Tryz.func9,Tryz.ntmps9
 go_wp2_with fail
 go_loopw [3] (fun i wr=>∃k:Nat,i= .int .i64 k∧k≤l.length∧k≤9∧Hid ((l.take k).all mayC=true)∧Hid (Below w.heap.size w wr)) (fun i _=>l.length - (intOf i).toNat)
 case atStart=>exact ⟨0,rfl,by omega,by omega,by show _ = _; rfl,Below.refl _ _⟩
 case round=>
  obtain ⟨k,rfl,hk,hk9,hall,HB⟩:=hrel
  by_cases hlt:k < l.length
  ·by_cases h9:k < 9
   ·have hltI:(k:Int) < l.length:=by omega
    have h9I:(k:Int) < 9:=by omega
    obtain ⟨b,off,rfl,hbk,hr⟩:=Hs.out.atCl hlt
    have hr':=yaU hr HB.out hbk
    have hcOk:=hid (Hok.out _ (zzr hlt))
    have ts:=hid (yar l k hlt)
    have hmem:=hid (zzr hlt)
    obtain ⟨c,hc⟩:∃c,l[k]=c:=⟨_,rfl⟩
    rw [hc] at hr' hcOk ts hmem
    have le:=yho hr'
    have cM:=hid (fun W=>yfj c W hcOk.out)
    cases hm:mayC c
    ·rw [hm] at cM
     have hno:Hid (mayL l=false):=by
      show _ = _
      rw [mayL,show l.all mayC=false by rw [List.all_eq_false]; exact ⟨c,hmem.out,by rw [hm]; simp⟩,Bool.and_false]
     clear hr hr' hc hm
     go_wp2_with fail
     refine (cM.out _).mono ?_
     rintro e w1 ⟨rfl,hB1⟩
     have HB1:=hid (HB.out.trans (hB1.mono HB.out.size))
     clear hB1 le
     go_wp2
     go_ret
     rw [hno.out]
     exact ⟨rfl,HB1.out⟩
    ·rw [hm] at cM
     have hyes:Hid ((l.take (k+1)).all mayC=true):=by show _ = _; rw [ts.out,List.all_append,hall.out,List.all_cons,hm]; rfl
     clear hr hr' hc hm
     go_wp2_with fail
     refine (cM.out _).mono ?_
     rintro e w1 ⟨rfl,hB1⟩
     have HB1:=hid (HB.out.trans (hB1.mono HB.out.size))
     clear hB1 le
     go_wp2
     exact ⟨⟨k+1,by go_num,by omega,by omega,hyes,HB1⟩,by simp [intOf]; omega⟩
   ·have hltI:(k:Int) < l.length:=by omega
    have h9I:¬(k:Int) < 9:=by omega
    have hno:Hid (mayL l=false):=by show _ = _; rw [mayL,zzd (by omega)]; rfl
    have h8J:decide ((l.length:Int)≤8)=false:=zzd (by omega)
    have h8I:¬(l.length:Int)≤8:=by omega
    go_wp2
    go_ret
    rw [hno.out]
    exact ⟨rfl,HB.out⟩
  ·have hltI:¬(k:Int) < l.length:=by omega
   have hke:l.take k=l:=List.take_of_length_le (by omega)
   rw [hke] at hall
   clear hke
   by_cases h8:l.length≤8
   ·have hno:Hid (mayL l=true):=by show _ = _; rw [mayL,zzZ h8,hall.out]; rfl
    have h8I:(l.length:Int)≤8:=by omega
    clear hall
    go_wp2
    go_ret
    rw [hno.out]
    exact ⟨rfl,HB.out⟩
   ·have hno:Hid (mayL l=false):=by show _ = _; rw [mayL,zzd h8]; rfl
    have h8I:¬(l.length:Int)≤8:=by omega
    clear hall
    go_wp2
    go_ret
    rw [hno.out]
    exact ⟨rfl,HB.out⟩
end
section
open Go.RowKit
structure MtS (w:World) (F U:Int) (W:World):Prop where
 r0:W.cell? ⟨w.heap.size,0,none⟩=some (.int .i64 0)
 r1:W.cell? ⟨w.heap.size,1,none⟩=some (.int .i64 0)
 g0:W.frozen? ⟨w.heap.size,0,none⟩=false
 g1:W.frozen? ⟨w.heap.size,1,none⟩=false
 c0:W.cell? ⟨w.heap.size+1,0,none⟩=some (.int .i64 F)
 c1:W.cell? ⟨w.heap.size+1,1,none⟩=some (.int .i64 U)
 f0:W.frozen? ⟨w.heap.size+1,0,none⟩=false
 f1:W.frozen? ⟨w.heap.size+1,1,none⟩=false
 be:Below w.heap.size w W
 l:w.heap.size+1 < W.heap.size
theorem MtS.drew {w W:World} {F U:Int} (h:MtS w F U W):MtS w F U W.drew:=by
 have hd:Below W.heap.size W W.drew:=(Below.refl _ _).drew
 have l1:w.heap.size < W.heap.size:=by have:=h.l; omega
 exact ⟨(hd.cell (p:=⟨w.heap.size,0,none⟩) l1).trans h.r0,(hd.cell (p:=⟨w.heap.size,1,none⟩) l1).trans h.r1,(hd.frozen (p:=⟨w.heap.size,0,none⟩) l1).trans h.g0,(hd.frozen (p:=⟨w.heap.size,1,none⟩) l1).trans h.g1,
  (hd.cell (p:=⟨w.heap.size+1,0,none⟩) h.l).trans h.c0,(hd.cell (p:=⟨w.heap.size+1,1,none⟩) h.l).trans h.c1,(hd.frozen (p:=⟨w.heap.size+1,0,none⟩) h.l).trans h.f0,(hd.frozen (p:=⟨w.heap.size+1,1,none⟩) h.l).trans h.f1,h.be.trans (hd.mono (by omega)),zH h.l hd.size⟩
end
section
open Go.RowKit Go.Maps
attribute [local irreducible] secL
theorem day_rise (l:List Cl) (a b:Int):(dayS l (yaf a b)).Pairwise (·< ·):=by
 rw [dayS,yaf]
 exact (List.Pairwise.map _ (fun a b h=>by omega) (List.pairwise_lt_range)).filter _
theorem yh7 {q:Nat→Bool} {x:Int} (h:x∈secL q):0≤x∧x < 86400:=by
 obtain ⟨j,hj,-,rfl⟩:=yas.1 h; omega
theorem fst_rng (q:Nat→Bool):0≤fstI (secL q)∧fstI (secL q) < 86400:=by
 rw [fstI]
 cases e:(secL q)[0]? with
 | none=>exact ⟨by simp,by simp⟩
 | some x=>exact yh7 (List.mem_of_getElem? e)
theorem lst_rng (q:Nat→Bool):0≤lstI (secL q)∧lstI (secL q) < 86400:=by
 rw [lstI]
 cases e:(secL q)[(secL q).length - 1]? with
 | none=>exact ⟨by simp,by simp⟩
 | some x=>exact yh7 (List.mem_of_getElem? e)
theorem fi_rng {l:List Cl} {X:List Int} (h:∀D∈X,0≤D∧D≤146096):0≤fiV l X∧fiV l X≤12622780799:=by
 unfold fiV
 cases e:X[0]? with
 | none=>exact ⟨by simp,by simp⟩
 | some D=>
   have h1:=h D (List.mem_of_getElem? e)
   have h2:=fst_rng (dayQ l D)
   simp only []; omega
theorem la_rng {l:List Cl} {X:List Int} (h:∀D∈X,0≤D∧D≤146096):0≤laV l X∧laV l X≤12622780799:=by
 unfold laV
 cases e:X[X.length - 1]? with
 | none=>exact ⟨by simp,by simp⟩
 | some D=>
   have h1:=h D (List.mem_of_getElem? e)
   have h2:=lst_rng (dayQ l D)
   simp only []; omega
theorem fcU_lt (X:List Int) {i:Nat} (h:3≤i):fcU 0 0 0 X i < 18446744073709551616:=by
 rw [fcU,if_neg (by omega),if_neg (by omega),if_neg (by omega)]
 split
 ·exact yao _
 ·split
  ·exact wof_lt _ _
  ·split
   ·exact yao _
   ·split
    ·exact yao _
    ·split
     ·exact yao _
     ·exact yao _
theorem FaceP.lt {l:List Cl} {u:Nat→Nat} {fi la n:Int} {ev sq:Bool} (h:FaceP l u fi la n ev sq):∀i,i < 46→u i < 18446744073709551616:=fun i hi=>by
 by_cases e:i < 3
 ·exact h.hm.lt i e
 ·rw [h.us i (by omega) hi]; exact fcU_lt _ (by omega)
theorem yhx (l:List Cl):∀D∈dayS l (yaf 0 146096),0≤D∧D≤146096:=fun D h=>by
 rw [dayS,List.mem_filter,yaE] at h; exact h.1
theorem FaceP.bd {l:List Cl} {u:Nat→Nat} {fi la n:Int} {ev sq:Bool} (h:FaceP l u fi la n ev sq):i64B fi∧i64B la∧i64B n∧0≤fi∧0≤la∧0≤n:=by
 have h1:=fi_rng (l:=l) (yhx l)
 have h2:=la_rng (l:=l) (yhx l)
 have h3:(dayS l (yaf 0 146096)).length≤146097:=by rw [dayS]; exact zI (List.length_filter_le _ _) (by rw [yaF]; decide)
 rw [←h.fi] at h1
 rw [←h.la] at h2
 have h4:=h.n
 unfold i64B
 omega
theorem fc_box (w1:World) (u:Nat→Nat) (fi la n:Int) (ev sq:Bool):∃w3,(ycG (.pointer (some ⟨w1.heap.size,0,none⟩)) (fcv u fi la n ev sq)).run Tryz.prog (w1.alloc (.cells zl0 28))= .ok () w3∧Hid (FcB w1.heap.size u fi la n ev sq w3)∧Hid (Below w1.heap.size w1 w3):=by
 have e8:=yfV w1 28
 exact ⟨_,e8.st u fi la n ev sq,e8.put u fi la n ev sq,(yaa (Below.refl _ _) (zG _)).trans ((Eff.setCells (O:=fun x=>x=w1.heap.size) rfl (fcL u fi la n ev sq) 0 _ (Eff.refl _ _)).below (by rintro b rfl; exact zG _) (by simp))⟩
end
section
open Go.RowKit
def set7 (s:Nat→Nat):List Value:= [.int .u64 (s 0:Nat), .int .u64 (s 1:Nat), .int .u64 (s 2:Nat), .int .u64 (s 3:Nat), .int .u64 (s 4:Nat), .int .u64 (s 5:Nat), .int .u64 (s 6:Nat)]
def sets (L:List (Nat→Nat)):List Value:=L.flatMap set7
theorem yg9 (L:List (Nat→Nat)):(sets L).length=L.length * 7:=by
 induction L with
 | nil=>rfl
 | cons s L ih=>
   have:sets (s :: L)=set7 s ++ sets L:=by simp [sets]
   rw [this,List.length_append,ih,List.length_cons,Nat.succ_mul]; simp [set7]; omega
theorem yh4:∀(L:List (Nat→Nat)) (k:Nat) (hk:k < L.length) (i:Nat),i < 7→(sets L)[k * 7+i]? =some (.int .u64 (L[k] i:Nat))
 | s :: L,0,_,i,hi=>by
   have e:sets (s :: L)=set7 s ++ sets L:=by simp [sets]
   rw [e,Nat.zero_mul,zzn,List.getElem?_append_left (by simpa [set7] using hi)]
   rcases yep hi with rfl | rfl | rfl | rfl | rfl | rfl | rfl <;> rfl
 | s :: L,k+1,hk,i,hi=>by
   have e:sets (s :: L)=set7 s ++ sets L:=by simp [sets]
   have h7:(set7 s).length=7:=rfl
   rw [e,List.getElem?_append_right (by rw [h7]; omega),h7,show (k+1) * 7+i - 7=k * 7+i by omega,yh4 L k (by simpa using hk) i hi]; rfl
theorem Sl.atW {w:World} {a:Option Addr} {L:List (Nat→Nat)} (h:Sl w a (sets L)) {k:Nat} (hk:k < L.length) :
  ∃b off,a=some ⟨b,off,none⟩∧b < w.heap.size∧∀j (h:j < L.length) i,i < 7→w.cell? ⟨b,off+j * 7+i,none⟩=some (.int .u64 (L[j] i:Nat)):=by
 obtain ⟨b,off,rfl,hlt,hc⟩:=Sl.at h (k:=k * 7) (by rw [yg9]; omega)
 refine ⟨b,off,rfl,hlt,fun j hj i hi=>?_⟩
 obtain ⟨h1,h2⟩:=zzq.1 (yh4 L j hj i hi)
 rw [Nat.add_assoc,hc _ h1,h2]
def ybm (L:List (Nat→Nat)) (i:Nat):Nat:=L.foldl (fun x s=>x &&& s i) (ybA i)
theorem yiY {α:Type} (l:List α) (k:Nat) (h:k < l.length):l.take (k+1)=l.take k ++ [l[k]]:=List.take_succ_eq_append_getElem h
theorem yjs (L:List (Nat→Nat)) (k:Nat) (hk:k < L.length) (i:Nat):ybm (L.take (k+1)) i=ybm (L.take k) i &&& L[k] i:=by
 rw [yiY L k hk,ybm,ybm,List.foldl_append]; rfl
theorem bothW_lt (L:List (Nat→Nat)) (i:Nat):ybm L i < 18446744073709551616:=by
 unfold ybm
 have:∀(L:List (Nat→Nat)) (m:Nat),m < 18446744073709551616→L.foldl (fun x s=>x &&& s i) m < 18446744073709551616:=by
  intro L
  induction L with
  | nil=>intro m hm; exact hm
  | cons s L ih=>intro m hm; exact ih _ (ya0 (b:=s i) hm)
 exact this L _ (yit i)
def BoK (w W:World) (b3:Nat) (g:Nat→Nat):Prop:=WCells W b3 g∧WFree W b3∧WCells W w.heap.size (fun _=>0)∧WFree W w.heap.size∧Below w.heap.size w W∧w.heap.size < b3∧b3 < W.heap.size
theorem BoK.below {w W W':World} {b3:Nat} {g:Nat→Nat} (h:BoK w W b3 g) (hb:Below W.heap.size W W'):BoK w W' b3 g:=by
 obtain ⟨d1,d2,d3,d4,d5,d6,d7⟩:=h
 exact ⟨d1.below hb d7,d2.below hb d7,d3.below hb (by omega),d4.below hb (by omega),d5.trans (hb.mono (by omega)),d6,zH d7 hb.size⟩
theorem BoK.set {w W:World} {b3:Nat} {g:Nat→Nat} (h:BoK w W b3 g) {i:Nat} (hi:i < 7) (v:Nat):BoK w (W.setCell ⟨b3,i,none⟩ (.int .u64 v)) b3 (fun j=>if j=i then v else g j):=by
 obtain ⟨d1,d2,d3,d4,d5,d6,d7⟩:=h
 exact ⟨d1.set hi,d2.set _ _,fun j hj=>(zzJ (w:=W) (a:=⟨w.heap.size,j,none⟩) (Below.heap_setCell _ _ _ _ (by simp only []; omega))).trans (d3 j hj),d4.set _ _,yab d5 (by omega),d6,by simpa [go_sem] using d7⟩
theorem BoK.drew {w W:World} {b3:Nat} {g:Nat→Nat} (h:BoK w W b3 g):BoK w W.drew b3 g:=⟨h.1,h.2.1,h.2.2.1,h.2.2.2.1,h.2.2.2.2.1.drew,h.2.2.2.2.2⟩
theorem BoK.congr {w W:World} {b3:Nat} {g t:Nat→Nat} (h:BoK w W b3 g) (e:∀i,i < 7→g i=t i):BoK w W b3 t:=⟨h.1.congr e,h.2⟩
theorem WBoth_any (a:Option Addr) (cap:Nat) (L:List (Nat→Nat)) (w:World) (hl:L.length≤9223372036854775807) (hs:Sl w a (sets L)) (hb:∀s∈L,∀i,i < 7→s i < 18446744073709551616) :
  Calls Tryz.prog 38 #[.slice a L.length cap] w fun e w'=>e= .returned (wv (ybm L))∧Below w.heap.size w w':=by
 have Hs:=hid hs
 have Hb:=hid hb
 have c1:=hid (fun W=>yeQ W)
 obtain ⟨W0,hW0⟩:∃W0,w.alloc (.cells #[.int .u64 0, .int .u64 0, .int .u64 0, .int .u64 0, .int .u64 0, .int .u64 0, .int .u64 0] 25)=W0:=⟨_,rfl⟩
 have q1:W0.heap.size=w.heap.size+1:=by rw [←hW0]; simp
 have q2:Hid (Below w.heap.size w W0):=by rw [←hW0]; exact yaa (Below.refl _ _) (zG _)
 have q3:Hid (WCells W0 w.heap.size (fun _=>0)):=by
  rw [←hW0]
  intro i hi
  rcases yep hi with rfl | rfl | rfl | rfl | rfl | rfl | rfl <;> simp [go_sem]
 have q4:Hid (WFree W0 w.heap.size):=fun i=>by rw [←hW0]; simp [go_sem]
 have HW0:=hid hW0
 have f0:Hid (∀i,ybm (L.take 0) i=ybA i):=fun i=>rfl
 obtain ⟨fu,hfu⟩:∃f,ybA=f:=⟨_,rfl⟩
 rw [hfu] at c1 f0
 clear hs hb hW0 hfu
 go_enter Tryz.func38,Tryz.ntmps38
 go_wp2_with fail
 rw [HW0.out]
 refine (c1.out W0).mono ?_
 rintro e w1 ⟨rfl,hB1⟩
 obtain ⟨W2,hW2⟩:∃W2,w1.alloc (.cells #[.int .u64 (fu 0:Nat), .int .u64 (fu 1:Nat), .int .u64 (fu 2:Nat), .int .u64 (fu 3:Nat), .int .u64 (fu 4:Nat), .int .u64 (fu 5:Nat), .int .u64 (fu 6:Nat)] 25)=W2:=⟨_,rfl⟩
 have s1:=hB1.size
 have hK2:Hid (BoK w W2 w1.heap.size fu):=by
  have b12:Below w1.heap.size w1 W2:=by rw [←hW2]; exact yaa (Below.refl _ _) (zG _)
  exact ⟨by rw [←hW2]; exact ya7 w1 fu _,by rw [←hW2]; exact ygf w1 fu _,(q3.out.below hB1 (by omega)).below b12 (by omega),(q4.out.below hB1 (by omega)).below b12 (by omega),(q2.out.trans (hB1.mono (by omega))).trans (b12.mono (by omega)),by omega,by rw [←hW2]; simp⟩
 have HW2:=hid hW2
 clear hB1 hW2
 go_wp2_with fail
 rw [HW2.out]
 go_loopw [10] (fun i wr=>∃k:Nat,i= .int .i64 k∧k≤L.length∧Hid (BoK w wr w1.heap.size (ybm (L.take k)))) (fun i _=>L.length - (intOf i).toNat)
 case atStart=>exact ⟨0,rfl,by omega,hK2.out.congr (fun i hi=>(f0.out i).symm)⟩
 case round=>
  obtain ⟨wo,rfl⟩:∃wo:World,wo=wr:=⟨_,rfl⟩
  obtain ⟨k,rfl,hk,HK⟩:=hrel
  by_cases hlt:k < L.length
  ·obtain ⟨b,off,rfl,hbk,hc⟩:=Hs.out.atW hlt
   have hcell:=fun i hi=>(HK.out.2.2.2.2.1.cell (p:=⟨b,off+k * 7+i,none⟩) hbk).trans (hc k hlt i hi)
   have hsn:=hid (fun i=>yjs L k hlt i)
   have hsb:=Hb.out L[k] (zzr hlt)
   obtain ⟨s,hsk⟩:∃s,L[k]=s:=⟨_,rfl⟩
   rw [hsk] at hcell hsn hsb
   have e0:=hcell 0 (by omega)
   have e1:=hcell 1 (by omega)
   have e2:=hcell 2 (by omega)
   have e3:=hcell 3 (by omega)
   have e4:=hcell 4 (by omega)
   have e5:=hcell 5 (by omega)
   have e6:=hcell 6 (by omega)
   rw [Nat.add_zero] at e0
   have Hsb:=hid hsb
   obtain ⟨W3,hW3⟩:∃W3,wo.alloc (.cells #[.int .u64 (s 0:Nat), .int .u64 (s 1:Nat), .int .u64 (s 2:Nat), .int .u64 (s 3:Nat), .int .u64 (s 4:Nat), .int .u64 (s 5:Nat), .int .u64 (s 6:Nat)] 25)=W3:=⟨_,rfl⟩
   have b3:Below wo.heap.size wo W3:=by rw [←hW3]; exact yaa (Below.refl _ _) (zG _)
   have k3:Hid (BoK w W3 w1.heap.size (ybm (L.take k))):=HK.out.below b3
   have k5:Hid (WCells W3 wo.heap.size s):=by rw [←hW3]; exact ya7 wo s _
   have lt3:w1.heap.size < wo.heap.size:=HK.out.2.2.2.2.2.2
   have lt4:wo.heap.size < W3.heap.size:=by rw [←hW3]; simp
   have HW3:=hid hW3
   have HBl:=hid (fun i=>bothW_lt (L.take k) i)
   obtain ⟨g,hg⟩:∃g,ybm (L.take k)=g:=⟨_,rfl⟩
   have Hg:=hid hg
   rw [hg] at k3 hsn HBl
   clear hc hcell hsk hsb b3 hW3 hg
   go_wp2_with fail
   rw [HW3.out]
   go_loopw [14] (fun v wq=>∃i:Nat,v= .int .i64 i∧i≤7∧Hid (BoK w wq w1.heap.size (fun j=>if j < i then ybm (L.take (k+1)) j else g j)∧WCells wq wo.heap.size s)) (fun v _=>7 - (intOf v).toNat)
   case atStart=>exact ⟨0,rfl,by omega,k3.out.congr (fun j hj=>by simp),k5.out⟩
   case round=>
    obtain ⟨i,rfl,hi,HJ⟩:=hrel
    by_cases hi7:i < 7
    ·have c1:wr.cell? ⟨w1.heap.size,i,none⟩=some (.int .u64 (g i:Nat)):=by have:=HJ.out.1.1 i hi7; simpa using this
     have c2:=HJ.out.2 i hi7
     have c3:=HJ.out.1.2.1 i
     have hand:=yap (HBl.out i) (Hsb.out i hi7)
     rw [←hsn.out i] at hand
     have done:∀v,v= ((ybm (L.take (k+1)) i:Nat):Int)→BoK w ((wr.setCell ⟨w1.heap.size,i,none⟩ (.int .u64 v)).drew) w1.heap.size (fun j=>if j < i+1 then ybm (L.take (k+1)) j else g j)∧WCells ((wr.setCell ⟨w1.heap.size,i,none⟩ (.int .u64 v)).drew) wo.heap.size s:=by
      rintro v rfl
      refine ⟨BoK.drew ((HJ.out.1.set hi7 (ybm (L.take (k+1)) i)).congr (fun j hj=>?_)),fun j hj=>(zzJ (w:=wr) (a:=⟨wo.heap.size,j,none⟩) (Below.heap_setCell _ _ _ _ (by simp only []; omega))).trans (HJ.out.2 j hj)⟩
      by_cases e:j=i
      ·subst e; simp
      ·have:(j < i+1)= (j < i):=by simp; omega
       simp [e,this]
     have Done:=hid done
     have Hand:=hid hand
     clear done hand
     go_wp2
     go_region
     go_wp2
     obtain ⟨d1,d2⟩:=Done.out (bits .and .u64 (g i:Nat) (s i:Nat)) Hand.out
     exact ⟨⟨i+1,by go_num,by omega,d1,d2⟩,by simp [intOf]; omega⟩
    ·obtain rfl:i=7:=by omega
     have hn:Hid (BoK w wr w1.heap.size (ybm (L.take (k+1)))):=HJ.out.1.congr (fun j hj=>by simp [hj])
     go_wp2
     exact ⟨⟨k+1,by go_num,by omega,hn.out⟩,by simp [intOf]; omega⟩
  ·have hke:L.take k=L:=List.take_of_length_le (by omega)
   rw [hke] at HK
   obtain ⟨d1,d2,d3,d4,d5,d6,d7⟩:=HK.out
   obtain ⟨r0,r1,r2,r3,r4,r5,r6⟩:=d1.all
   obtain ⟨z0,z1,z2,z3,z4,z5,z6⟩:=d3.all
   have f0:=d4 0
   have f1:=d4 1
   have f2:=d4 2
   have f3:=d4 3
   have f4:=d4 4
   have f5:=d4 5
   have f6:=d4 6
   have D5:=hid d5
   clear hke d1 d2 d3 d4 d5 HK
   go_wp2
   refine bodyPost_ret (v:=wv (ybm L)) (by simp [results,Tryz.results38,go_sem,z0,z1,z2,z3,z4,z5,z6]) rfl ⟨rfl,?_⟩
   exact yab (yab (yab (yab (yab (yab (yab D5.out (zG _)) (zG _)) (zG _)) (zG _)) (zG _)) (zG _)) (zG _)
end
end Go.Proofs.YtkpgfmonhfnhdaaGreatDoor
