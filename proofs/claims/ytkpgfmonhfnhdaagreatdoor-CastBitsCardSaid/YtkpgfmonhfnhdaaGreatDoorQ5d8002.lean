/-
  math/bits.Len64, by the kit's shelf: how long a number is, in bits.
  A disc's Prev.
  disc.Prev, from any second on.
  What a face is of a set (plain).
  The rows of ferialaw22.face: what they hold (plain).
  Faces that are the same.
  ferialaw17.May: the document's answer for sets.
  feriaref09.Meet (of DayRefs, alone).
  A set held within days: what CastBrief asks (plain).
  What wide.Both and wide.Either compute.
  The box of a face (plain).
-/
import Derived.Test.YtkpgfmonhfnhdaaGreatDoorQ15e503
import Derived.Shelf.Strconv.Itoa0
import Derived.Test.YtkpgfmonhfnhdaaGreatDoorQ967547
import Derived.Test.YtkpgfmonhfnhdaaGreatDoorQb0e37b
import Derived.Test.YtkpgfmonhfnhdaaGreatDoorQ2a1781
import Derived.Test.YtkpgfmonhfnhdaaGreatDoorQ42a3de
import Derived.Test.YtkpgfmonhfnhdaaGreatDoorQf7cea8
import Derived.Test.YtkpgfmonhfnhdaaGreatDoorQ76d87d
import Derived.Test.YtkpgfmonhfnhdaaGreatDoorQ1af996
import Derived.Test.YtkpgfmonhfnhdaaGreatDoorQ4d98a8
import Derived.Test.YtkpgfmonhfnhdaaGreatDoorQ822f09
import Derived.Test.YtkpgfmonhfnhdaaGreatDoorQ6cd530
import Derived.Test.YtkpgfmonhfnhdaaGreatDoorQ0be0eb
import Derived.Test.YtkpgfmonhfnhdaaGreatDoorQbf9d08
import Derived.Test.YtkpgfmonhfnhdaaGreatDoorQfea719
import Derived.Deep.RegionHeld3
import Derived.BigQuiet
import Derived.Deep.CutRange
import Derived.BigRegion
set_option maxRecDepth 100000
set_option maxHeartbeats 25600000
namespace Go.Proofs.YtkpgfmonhfnhdaaGreatDoor
set_option linter.unusedVariables false
section
open Go.RowKit Go.Shelf
def ren64:Ren:={f:=fun n=>if n=129 then 69 else 0,t:=fun n=>if n=3 then 3 else if n=4 then 4 else if n=5 then 5 else if n=9 then 9 else if n=46 then 199 else if n=53 then 24 else 0,g:=fun _=>0}
theorem yjK:Tryz.f69=Body.n129 ren64:=by kernel_rfl
theorem lays64:Lays.n129 Tryz.prog ren64 where
 mixed:=rfl
 f129:=by
  show Tryz.prog.funcs[69]? = _
  rw [Tryz.func69,yjK]
 t3:=Tryz.underlying3
 a3:=Tryz.isAgg3
 z3:=Tryz.sizeOf3
 v3:=Tryz.zeroValue3
 t4:=Tryz.underlying4
 a4:=Tryz.isAgg4
 z4:=Tryz.sizeOf4
 v4:=Tryz.zeroValue4
 t5:=Tryz.underlying5
 a5:=Tryz.isAgg5
 z5:=Tryz.sizeOf5
 v5:=Tryz.zeroValue5
 t9:=Tryz.underlying9
 a9:=Tryz.isAgg9
 z9:=Tryz.sizeOf9
 v9:=Tryz.zeroValue9
 t46:=Tryz.underlying199
 a46:=Tryz.isAgg199
 z46:=Tryz.sizeOf199
 v46:=Tryz.zeroValue199
 t53:=Tryz.underlying24
 a53:=Tryz.isAgg24
 z53:=Tryz.sizeOf24
 v53:=Tryz.zeroValue24
theorem yht (x:Nat) (w:World) (hx:x < 18446744073709551616):Calls Tryz.prog 69 #[.int .u64 (x:Nat)] w fun e w'=>e= .returned (.int .i64 ((Lib.bitLen x:Nat):Int))∧w' =w:=by
 exact Any.bits_Len64 lays64 (x:Nat) w (by omega) (by omega)
theorem ycY:∀(n x:Nat),x < 2 ^ n→n≤64→x≠0→1≤Lib.bitLen x∧Lib.bitLen x≤n∧x.testBit (Lib.bitLen x - 1)=true∧∀j,Lib.bitLen x≤j→x.testBit j=false
 | 0,x,h,_,h0=>by simp at h; omega
 | n+1,x,h,hn,h0=>by
   have h64:x < 2 ^ 64:=zH h (Nat.pow_le_pow_right (by omega) hn)
   have e:=Lib.bitLen_half x h0 h64
   by_cases h1:x / 2=0
   ·have:x=1:=by omega
    subst this
    refine ⟨by decide,by rw [e]; rw [h1]; simp [show Lib.bitLen 0=0 from rfl],by decide,fun j hj=>?_⟩
    have:Lib.bitLen 1=1:=by decide
    rw [this] at hj
    obtain ⟨k,rfl⟩:∃k,j=k+1:=⟨j - 1,by omega⟩
    rw [Nat.testBit_succ]; simp
   ·have h2:x / 2 < 2 ^ n:=by rw [Nat.pow_succ] at h; omega
    obtain ⟨g1,g2,g3,g4⟩:=ycY n (x / 2) h2 (by omega) h1
    rw [e]
    refine ⟨by omega,by omega,?_,fun j hj=>?_⟩
    ·rw [show 1+Lib.bitLen (x / 2) - 1= (Lib.bitLen (x / 2) - 1)+1 by omega,Nat.testBit_succ]; exact g3
    ·obtain ⟨k,rfl⟩:∃k,j=k+1:=⟨j - 1,by omega⟩
     rw [Nat.testBit_succ]; exact g4 k (by omega)
end
section
open Go.RowKit
def LastOf (p:Nat→Bool) (n:Int) (ok:Bool):Prop:=
 (ok=true∧∃k:Nat,n=k∧k < 86400∧p k=true∧∀j,k < j→j < 86400→p j=false)∨(ok=false∧n=0∧∀j,j < 86400→p j=false)
theorem LastOf.congr {p q:Nat→Bool} {n:Int} {ok:Bool} (h:LastOf p n ok) (e:∀k,k < 86400→p k=q k):LastOf q n ok:=by
 rcases h with ⟨rfl,k,rfl,hk,h1,h2⟩ | ⟨rfl,rfl,h2⟩
 ·exact .inl ⟨rfl,k,rfl,hk,by rw [←e k hk]; exact h1,fun j hj h=>by rw [←e j h]; exact h2 j hj h⟩
 ·exact .inr ⟨rfl,rfl,fun j h=>by rw [←e j h]; exact h2 j h⟩
theorem ygZ (h:Nat→Nat) (k:Nat) (hk:k < 1350) (hz:∀j,k < j→j < 1350→h j=0) (hb:h k < 18446744073709551616) (h0:h k≠0):LastOf (bitW h) ((k:Int) * 64+(Lib.bitLen (h k):Nat) - 1) true:=by
 obtain ⟨h1,h2,h3,h4⟩:=ycY 64 (h k) (by simpa using hb) (by omega) h0
 generalize Lib.bitLen (h k)=L at *
 refine .inl ⟨rfl,k * 64+(L - 1),by omega,by omega,?_,fun j hj hj2=>?_⟩
 ·rw [bitW,show (k * 64+(L - 1)) / 64=k by omega,show (k * 64+(L - 1)) % 64=L - 1 by omega]; exact h3
 ·rw [bitW]
  by_cases e:j / 64=k
  ·rw [e]; exact h4 _ (by omega)
  ·rw [hz (j / 64) (by omega) (by omega),Nat.zero_testBit]
theorem yg0 (h:Nat→Nat) (hz:∀j,j < 1350→h j=0):LastOf (bitW h) 0 false:= .inr ⟨rfl,rfl,fun j hj=>by rw [bitW,hz (j / 64) (by omega),Nat.zero_testBit]⟩
def yaV (f:Nat→Nat) (s j:Nat):Nat:=mk (fun t=>(f j).testBit t && decide (64 * j+t≤s))
theorem yip (f:Nat→Nat) (s j:Nat):yaV f s j < 18446744073709551616:=yao _
theorem yfh (f:Nat→Nat) (s j:Nat) (h:s / 64 < j):yaV f s j=0:=by
 rw [yaV,←ybu]
 exact yaC fun k hk=>by rw [zzd (by omega),Bool.and_false]
theorem ygH (f:Nat→Nat) (s j:Nat) (h:j < s / 64) (hf:f j < 18446744073709551616):yaV f s j=f j:=by
 refine (ydV hf fun k hk=>?_).symm
 rw [zzZ (by omega),Bool.and_true]
theorem ygI (f:Nat→Nat) (s k:Nat):bitW (yaV f s) k= (bitW f k && decide (k≤s)):=by
 rw [bitW,yaV,yaw,bitW,zzZ (Nat.mod_lt _ (by omega)),zzo]
 have:64 * (k / 64)+k % 64=k:=Nat.div_add_mod k 64
 rw [this]
theorem yiq (f:Nat→Nat) (s:Nat) (hf:f (s / 64) < 18446744073709551616):yaV f s (s / 64)=f (s / 64) * 2 ^ (63 - s % 64) % 18446744073709551616 / 2 ^ (63 - s % 64):=by
 have h1:f (s / 64) * 2 ^ (63 - s % 64) % 18446744073709551616 / 2 ^ (63 - s % 64)≤f (s / 64) * 2 ^ (63 - s % 64) % 18446744073709551616:=Nat.div_le_self _ _
 have h2:f (s / 64) * 2 ^ (63 - s % 64) % 18446744073709551616 < 18446744073709551616:=Nat.mod_lt _ (by omega)
 refine (ydV (by omega) fun k hk=>?_).symm
 rw [←Nat.shiftRight_eq_div_pow,Nat.testBit_shiftRight,show (18446744073709551616:Nat)=2 ^ 64 from rfl,Nat.testBit_mod_two_pow,←Nat.shiftLeft_eq,Nat.testBit_shiftLeft]
 by_cases h:k≤s % 64
 ·rw [zzZ (show 63 - s % 64+k < 64 by omega),zzZ (show 63 - s % 64+k ≥ 63 - s % 64 by omega),zzZ (show 64 * (s / 64)+k≤s by omega),show 63 - s % 64+k - (63 - s % 64)=k by omega,zzo,zzo,Bool.and_true]
 ·rw [zzd (show¬63 - s % 64+k < 64 by omega),zzd (show¬64 * (s / 64)+k≤s by omega),Bool.false_and,Bool.and_false]
theorem ykt (b:Nat) (q:Nat→Bool) (s:Nat) (w:World) (hs:s < 86400) (hd:DiscAt w b q) :
  Calls Tryz.prog 27 #[.pointer (some ⟨b,0,none⟩), .int .i64 s] w fun r w'=>(∃n ok,r= .returned (.tuple #[.int .i64 n, .bool ok])∧LastOf (fun k=>q k && decide (k≤s)) n ok)∧w' =w:=by
 obtain ⟨f,f1,f2,f3,f4,f5⟩:=hd
 have c1:=hid (yc2 (s:Int) w)
 rw [ycF,zzZ hs] at c1
 have c2:=hid (fun m (hm:m < 18446744073709551616)=>yht m w hm)
 have HC:=hid f1
 have Hf:=hid f3
 have hlt:=hid (fun j=>yip f s j)
 have hhigh:=hid (fun j h=>yfh f s j h)
 have hlow:=hid (fun j h hf=>ygH f s j h hf)
 have hsh:Hid (IntKind.u64.wrap ((f (s / 64):Int) * 2 ^ (63 - s % 64)) / 2 ^ (63 - s % 64)= ((yaV f s (s / 64):Nat):Int)):=by
  show _ = _
  have h2:=f3 (s / 64) (by omega)
  rw [yiq f s h2,IntKind.wrap_u64]
  simp
 have hbit:Hid (∀k,k < 86400→bitW (yaV f s) k= (q k && decide (k≤s))):=fun k hk=>by rw [ygI,f4 k hk]
 have hsI:(s:Int) < 86400:=by omega
 have hi:s / 64 < 1350:=by omega
 have e1:=f1 (s / 64) hi
 have hs0:(0:Int)≤s:=by omega
 have hmn:min (s:Int) 86399=s:=by omega
 clear hs f1 f2 f3 f4 f5
 go_enter Tryz.func27,Tryz.ntmps27
 go_wp2_with fail
 refine c1.out.mono ?_
 rintro e w' ⟨rfl,rfl⟩
 go_wp2_with fail
 rw [hsh.out]
 clear hsh e1
 go_loopw [7,8] (fun m i wr=>∃k:Nat,i= .int .i64 k∧m= .int .u64 (yaV f s k:Nat)∧Hid (k≤s / 64)∧k < 1350∧Hid (∀j,k < j→j < 1350→yaV f s j=0)∧wr=w) (fun _ i _=>(intOf i).toNat)
 case atStart=>exact ⟨s / 64,by simp,rfl,zG _,hi,fun j h _=>hhigh.out j h,rfl⟩
 case round=>
  obtain ⟨k,rfl,rfl,hsk,hk2,hz,rfl⟩:=hrel
  have d4:=hid (c2.out _ (hlt.out k))
  by_cases hB:yaV f s k=0
  ·have hz2:Hid (∀j,k≤j→j < 1350→yaV f s j=0):=fun j hj hj2=>by
    by_cases e:j=k
    ·rw [e]; exact hB
    ·exact hz.out j (by omega) hj2
   have hbz:(((yaV f s k:Nat):Int) != 0)=false:=by simp [hB]
   have hbz2:(((yaV f s k:Nat):Int) == 0)=true:=by simp [hB]
   clear hB
   by_cases hlast:k=0
   ·have hbq:decide ((k:Int) - 1 < 0)=true:=zzZ (by omega)
    have hz3:Hid (LastOf (bitW (yaV f s)) 0 false):=yg0 _ (fun j hj=>hz2.out j (by omega) hj)
    clear hlast
    go_wp2
    go_ret2
    exact ⟨⟨_,_,rfl,hz3.out.congr hbit.out⟩,rfl⟩
   ·have hk3:k - 1 < 1350:=by omega
    have hbq:decide ((k:Int) - 1 < 0)=false:=zzd (by omega)
    have e5:=HC.out (k - 1) hk3
    have e6:=hlow.out (k - 1) (by have:=hsk.out; omega) (Hf.out _ hk3)
    rw [←e6] at e5
    have hsk2:Hid (k - 1≤s / 64):=by have:=hsk.out; show _≤_; omega
    have hk1:0≤(k:Int) - 1:=by omega
    have hk4:(k:Int) - 1 < 1350:=by omega
    have hk5:((k:Int) - 1).toNat=k - 1:=by omega
    clear e6
    go_wp2
    exact ⟨⟨k - 1,by congr 1; omega,rfl,hsk2.out,hk3,fun j h1 h2=>hz2.out j (by omega) h2,by trivial⟩,by simp [intOf]; omega⟩
  ·have hr:=hid (ygZ (yaV f s) k hk2 hz.out (hlt.out k) hB)
   have hbz:(((yaV f s k:Nat):Int) != 0)=true:=by simp [hB]
   have hbz2:(((yaV f s k:Nat):Int) == 0)=false:=by simp [hB]
   obtain ⟨-,hL,-,-⟩:=ycY 64 (yaV f s k) (by simpa using hlt.out k) (by omega) hB
   obtain ⟨L,hLe⟩:∃L,Lib.bitLen (yaV f s k)=L:=⟨_,rfl⟩
   rw [hLe] at d4 hr hL
   clear hLe hB
   go_wp2_with fail
   refine d4.out.mono ?_
   rintro e w' ⟨rfl,rfl⟩
   go_wp2
   go_ret2
   exact ⟨⟨_,_,rfl,hr.out.congr hbit.out⟩,rfl⟩
end
section
open Go.RowKit
theorem yik (b:Nat) (q:Nat→Bool) (a:Int) (s:Nat) (w:World) (hmn:min a 86399= (s:Int)) (hs:s < 86400) (hd:DiscAt w b q) :
  Calls Tryz.prog 27 #[.pointer (some ⟨b,0,none⟩), .int .i64 a] w fun r w'=>(∃n ok,r= .returned (.tuple #[.int .i64 n, .bool ok])∧LastOf (fun k=>q k && decide (k≤s)) n ok)∧w' =w:=by
 obtain ⟨f,f1,f2,f3,f4,f5⟩:=hd
 have c1:=hid (yc2 (s:Int) w)
 rw [ycF,zzZ hs] at c1
 have c2:=hid (fun m (hm:m < 18446744073709551616)=>yht m w hm)
 have HC:=hid f1
 have Hf:=hid f3
 have hlt:=hid (fun j=>yip f s j)
 have hhigh:=hid (fun j h=>yfh f s j h)
 have hlow:=hid (fun j h hf=>ygH f s j h hf)
 have hsh:Hid (IntKind.u64.wrap ((f (s / 64):Int) * 2 ^ (63 - s % 64)) / 2 ^ (63 - s % 64)= ((yaV f s (s / 64):Nat):Int)):=by
  show _ = _
  have h2:=f3 (s / 64) (by omega)
  rw [yiq f s h2,IntKind.wrap_u64]
  simp
 have hbit:Hid (∀k,k < 86400→bitW (yaV f s) k= (q k && decide (k≤s))):=fun k hk=>by rw [ygI,f4 k hk]
 have hsI:(s:Int) < 86400:=by omega
 have hi:s / 64 < 1350:=by omega
 have e1:=f1 (s / 64) hi
 have hs0:(0:Int)≤s:=by omega
 clear hs f1 f2 f3 f4 f5
 go_enter Tryz.func27,Tryz.ntmps27
 go_wp2_with fail
 refine c1.out.mono ?_
 rintro e w' ⟨rfl,rfl⟩
 go_wp2_with fail
 rw [hsh.out]
 clear hsh e1
 go_loopw [7,8] (fun m i wr=>∃k:Nat,i= .int .i64 k∧m= .int .u64 (yaV f s k:Nat)∧Hid (k≤s / 64)∧k < 1350∧Hid (∀j,k < j→j < 1350→yaV f s j=0)∧wr=w) (fun _ i _=>(intOf i).toNat)
 case atStart=>exact ⟨s / 64,by simp,rfl,zG _,hi,fun j h _=>hhigh.out j h,rfl⟩
 case round=>
  obtain ⟨k,rfl,rfl,hsk,hk2,hz,rfl⟩:=hrel
  have d4:=hid (c2.out _ (hlt.out k))
  by_cases hB:yaV f s k=0
  ·have hz2:Hid (∀j,k≤j→j < 1350→yaV f s j=0):=fun j hj hj2=>by
    by_cases e:j=k
    ·rw [e]; exact hB
    ·exact hz.out j (by omega) hj2
   have hbz:(((yaV f s k:Nat):Int) != 0)=false:=by simp [hB]
   have hbz2:(((yaV f s k:Nat):Int) == 0)=true:=by simp [hB]
   clear hB
   by_cases hlast:k=0
   ·have hbq:decide ((k:Int) - 1 < 0)=true:=zzZ (by omega)
    have hz3:Hid (LastOf (bitW (yaV f s)) 0 false):=yg0 _ (fun j hj=>hz2.out j (by omega) hj)
    clear hlast
    go_wp2
    go_ret2
    exact ⟨⟨_,_,rfl,hz3.out.congr hbit.out⟩,rfl⟩
   ·have hk3:k - 1 < 1350:=by omega
    have hbq:decide ((k:Int) - 1 < 0)=false:=zzd (by omega)
    have e5:=HC.out (k - 1) hk3
    have e6:=hlow.out (k - 1) (by have:=hsk.out; omega) (Hf.out _ hk3)
    rw [←e6] at e5
    have hsk2:Hid (k - 1≤s / 64):=by have:=hsk.out; show _≤_; omega
    have hk1:0≤(k:Int) - 1:=by omega
    have hk4:(k:Int) - 1 < 1350:=by omega
    have hk5:((k:Int) - 1).toNat=k - 1:=by omega
    clear e6
    go_wp2
    exact ⟨⟨k - 1,by congr 1; omega,rfl,hsk2.out,hk3,fun j h1 h2=>hz2.out j (by omega) h2,by trivial⟩,by simp [intOf]; omega⟩
  ·have hr:=hid (ygZ (yaV f s) k hk2 hz.out (hlt.out k) hB)
   have hbz:(((yaV f s k:Nat):Int) != 0)=true:=by simp [hB]
   have hbz2:(((yaV f s k:Nat):Int) == 0)=false:=by simp [hB]
   obtain ⟨-,hL,-,-⟩:=ycY 64 (yaV f s k) (by simpa using hlt.out k) (by omega) hB
   obtain ⟨L,hLe⟩:∃L,Lib.bitLen (yaV f s k)=L:=⟨_,rfl⟩
   rw [hLe] at d4 hr hL
   clear hLe hB
   go_wp2_with fail
   refine d4.out.mono ?_
   rintro e w' ⟨rfl,rfl⟩
   go_wp2
   go_ret2
   exact ⟨⟨_,_,rfl,hr.out.congr hbit.out⟩,rfl⟩
end
section
open Go.RowKit Go.Maps
attribute [local irreducible] secL
def fstI (L:List Int):Int:=(L[0]?).getD 0
def lstI (L:List Int):Int:=(L[L.length - 1]?).getD 0
def fiV (l:List Cl) (X:List Int):Int:=match X[0]? with
 | none=>0
 | some D=>86400 * D+fstI (secL (dayQ l D))
def laV (l:List Cl) (X:List Int):Int:=match X[X.length - 1]? with
 | none=>0
 | some D=>86400 * D+lstI (secL (dayQ l D))
theorem fiV_one (l:List Cl) (D:Int):fiV l ([] ++ [D])=86400 * D+fstI (secL (dayQ l D)):=rfl
theorem fiV_more (l:List Cl) {X:List Int} (h:X≠ []) (D:Int):fiV l (X ++ [D])=fiV l X:=by
 cases X with
 | nil=>exact absurd rfl h
 | cons E X=>rfl
theorem laV_snoc (l:List Cl) (X:List Int) (D:Int):laV l (X ++ [D])=86400 * D+lstI (secL (dayQ l D)):=by
 have e:(X ++ [D])[(X ++ [D]).length - 1]? =some D:=by simp
 rw [laV,e]
theorem ycx (q:Nat→Bool):(secL q).Pairwise (·< ·):=by
 rw [secL,sel]
 exact List.Pairwise.map _ (fun a b h=>by omega) ((List.pairwise_lt_range).filter _)
theorem secL_ne {q:Nat→Bool} {j:Nat} (hj:j < 86400) (hq:q j=true):0 < (secL q).length:=List.length_pos_of_mem (yas.2 ⟨j,hj,hq,rfl⟩)
theorem first_is {q:Nat→Bool} {n:Int} {ok:Bool} (h:FirstOf (fun k=>q k && decide (0≤k)) n ok) {j:Nat} (hj:j < 86400) (hq:q j=true):n=fstI (secL q)∧0≤n∧n < 86400:=by
 rcases h with ⟨-,k,rfl,hk,hp,hno⟩ | ⟨-,-,hno⟩
 ·have hqk:q k=true:=by simpa using hp
  have hm:(k:Int)∈secL q:=yas.2 ⟨k,hk,hqk,rfl⟩
  obtain ⟨i,hi,he⟩:=List.getElem_of_mem hm
  refine ⟨?_,by omega,by omega⟩
  have h0:=secL_ne hj hq
  rw [fstI,zzp h0,Option.getD_some]
  obtain ⟨m,hm',hqm,e0⟩:=yas.1 (zzr h0)
  have hle:(k:Int)≤(secL q)[0]:=by
   rw [e0]
   apply Classical.byContradiction
   intro hn
   have:=hno m (by omega)
   simp [hqm] at this
  by_cases i0:i=0
  ·subst i0; exact he.symm
  ·have:=(List.pairwise_iff_getElem.1 (ycx q)) 0 i h0 hi (by omega)
   omega
 ·have:=hno j hj
  simp [hq] at this
theorem last_is {q:Nat→Bool} {n:Int} {ok:Bool} (h:LastOf (fun k=>q k && decide (k≤86399)) n ok) {j:Nat} (hj:j < 86400) (hq:q j=true):n=lstI (secL q)∧0≤n∧n < 86400:=by
 rcases h with ⟨-,k,rfl,hk,hp,hno⟩ | ⟨-,-,hno⟩
 ·have hqk:q k=true:=by rw [zzX] at hp; exact hp.1
  have hm:(k:Int)∈secL q:=yas.2 ⟨k,hk,hqk,rfl⟩
  obtain ⟨i,hi,he⟩:=List.getElem_of_mem hm
  refine ⟨?_,by omega,by omega⟩
  have h0:(secL q).length - 1 < (secL q).length:=by omega
  rw [lstI,zzp h0,Option.getD_some]
  obtain ⟨m,hm',hqm,e0⟩:=yas.1 (zzr h0)
  have hle:(secL q)[(secL q).length - 1]≤(k:Int):=by
   rw [e0]
   apply Classical.byContradiction
   intro hn
   have:=hno m (by omega) hm'
   simp [hqm] at this
   omega
  by_cases i0:i= (secL q).length - 1
  ·subst i0; exact he.symm
  ·have:=(List.pairwise_iff_getElem.1 (ycx q)) i ((secL q).length - 1) hi h0 (by omega)
   omega
 ·have:=hno j hj
  simp [hq] at this
  omega
def cuU (u0:Nat→Nat) (X:List Int) (i:Nat):Nat:=if i < 3 then u0 i else fcU 0 0 0 X i
theorem cuU_lt {u0:Nat→Nat} (h:∀i,i < 3→u0 i < 18446744073709551616) (X:List Int) (i:Nat):cuU u0 X i < 18446744073709551616:=by
 rw [cuU]
 by_cases e:i < 3
 ·rw [if_pos e]; exact h i e
 ·rw [if_neg e,fcU,if_neg (by omega),if_neg (by omega),if_neg (by omega)]
  split
  ·exact yao _
  ·split
   ·exact wof_lt _ _
   ·split
    ·exact yao _
    ·split
     ·exact yao _
     ·split
      ·exact yao _
      ·exact yao _
theorem cuU_snoc {u0:Nat→Nat} {X:List Int} {D:Int} (h0:1970≤shF D 1) (h1:shF D 1 < 2370) (i:Nat):cuU u0 (X ++ [D]) i=dyU (shF D) (cuU u0 X) i:=by
 by_cases e:i < 3
 ·rw [cuU,if_pos e,dyU,if_pos e,cuU,if_pos e]
 ·rw [cuU,if_neg e,fcU_snoc 0 0 0 X h0 h1,dyU,dyU,if_neg e,if_neg e,cuU,if_neg e]
def lsL (l:List Cl) (X:List Int):List (List Int):=X.map fun D=>secL (dayQ l D)
theorem yf4 (l:List Cl) (X:List Int) (D:Int):lsL l (X ++ [D])=lsL l X ++ [secL (dayQ l D)]:=by rw [lsL,lsL,List.map_append]; rfl
structure FaceP (l:List Cl) (u:Nat→Nat) (fi la n:Int) (ev sq:Bool):Prop where
 hm:HmP u (fun s=>∃D,s∈secL (dayQ l D))
 us:∀i,3≤i→i < 46→u i=fcU 0 0 0 (dayS l (yac 0 146096)) i
 n:n= ((dayS l (yac 0 146096)).length:Nat)
 fi:fi=fiV l (dayS l (yac 0 146096))
 la:la=laV l (dayS l (yac 0 146096))
 ev:ev=evB (lsL l (dayS l (yac 0 146096)))
 sq:sq=sqA (lsL l (dayS l (yac 0 146096)))
theorem FaceP.unique {l:List Cl} {u u':Nat→Nat} {fi la n fi' la' n':Int} {ev sq ev' sq':Bool} (h:FaceP l u fi la n ev sq) (k:FaceP l u' fi' la' n' ev' sq'):(∀i,i < 46→u i=u' i)∧fi=fi'∧la=la'∧n=n'∧ev=ev'∧sq=sq':=by
 refine ⟨fun i hi=>?_,h.fi.trans k.fi.symm,h.la.trans k.la.symm,h.n.trans k.n.symm,h.ev.trans k.ev.symm,h.sq.trans k.sq.symm⟩
 by_cases e:i < 3
 ·exact h.hm.eq k.hm (fun s=>Iff.rfl) e
 ·rw [h.us i (by omega) hi,k.us i (by omega) hi]
theorem day_any {l:List Cl} {D s:Int}:s∈secL (dayQ l D)↔∃c∈l,s∈secL (dayQ [c] D):=by
 constructor
 ·intro h
  obtain ⟨j,hj,hq,rfl⟩:=yas.1 h
  rw [dayQ,List.any_eq_true] at hq
  obtain ⟨c,hc,hh⟩:=hq
  exact ⟨c,hc,yas.2 ⟨j,hj,by simpa [dayQ] using hh,rfl⟩⟩
 ·rintro ⟨c,hc,h⟩
  obtain ⟨j,hj,hq,rfl⟩:=yas.1 h
  refine yas.2 ⟨j,hj,?_,rfl⟩
  rw [dayQ,List.any_eq_true]
  exact ⟨c,hc,by simpa [dayQ] using hq⟩
end
section
open Go.RowKit Go.Maps
attribute [local irreducible] secL
theorem ydw {l:List Cl} {D:Int}:D∈dayS l (yac 0 146096)↔∃s,s∈secL (dayQ l D):=by
 rw [dayS,List.mem_filter,ybA,yaz]
 constructor
 ·rintro ⟨-,k,hk,hq⟩
  exact ⟨k,yas.2 ⟨k,hk,hq,rfl⟩⟩
 ·rintro ⟨s,hs⟩
  obtain ⟨k,hk,hq,rfl⟩:=yas.1 hs
  refine ⟨?_,k,hk,hq⟩
  rw [dayQ,List.any_eq_true] at hq
  obtain ⟨c,-,hc⟩:=hq
  rw [hasC,zzX] at hc
  have:=hc.1
  rw [winB,zzY] at this
  omega
end
section
open Go.RowKit
theorem cellsFc:Tryz.prog.cellsOf 28=51:=by kernel_rfl
theorem keyFc:Tryz.prog.keyTypeAt 4 28=true:=by kernel_rfl
def fcLt (u:Nat→Nat) (fi la n:Int) (ev sq:Bool):List Lit:=((List.range 46).map fun i=> .int .u64 (u i:Nat)) ++ [.int .i64 fi, .int .i64 la, .int .i64 n, .bool ev, .bool sq]
theorem formFc (u:Nat→Nat) (fi la n:Int) (ev sq:Bool):(fcv u fi la n ev sq).formed Tryz.prog 28=true:=by
 unfold Value.formed; rw [fcv]; simp only [Tryz.underlying28,cellsFc]; rfl
theorem lits_fc (d:Nat) (u:Nat→Nat) (fi la n:Int) (ev sq:Bool) (hu:∀i,i < 46→u i < 18446744073709551616) (h1:i64B fi) (h2:i64B la) (h3:i64B n):Tryz.prog.keyLits (d+3) 28 (fcL u fi la n ev sq)=some (fcLt u fi la n ev sq):=by
 have e:fcL u fi la n ev sq= [.int .u64 (u 0:Nat), .int .u64 (u 1:Nat), .int .u64 (u 2:Nat), .int .u64 (u 3:Nat), .int .u64 (u 4:Nat), .int .u64 (u 5:Nat), .int .u64 (u 6:Nat), .int .u64 (u 7:Nat), .int .u64 (u 8:Nat), .int .u64 (u 9:Nat), .int .u64 (u 10:Nat), .int .u64 (u 11:Nat), .int .u64 (u 12:Nat), .int .u64 (u 13:Nat), .int .u64 (u 14:Nat), .int .u64 (u 15:Nat), .int .u64 (u 16:Nat), .int .u64 (u 17:Nat), .int .u64 (u 18:Nat), .int .u64 (u 19:Nat), .int .u64 (u 20:Nat), .int .u64 (u 21:Nat), .int .u64 (u 22:Nat), .int .u64 (u 23:Nat), .int .u64 (u 24:Nat), .int .u64 (u 25:Nat), .int .u64 (u 26:Nat), .int .u64 (u 27:Nat), .int .u64 (u 28:Nat), .int .u64 (u 29:Nat), .int .u64 (u 30:Nat), .int .u64 (u 31:Nat), .int .u64 (u 32:Nat), .int .u64 (u 33:Nat), .int .u64 (u 34:Nat), .int .u64 (u 35:Nat), .int .u64 (u 36:Nat), .int .u64 (u 37:Nat), .int .u64 (u 38:Nat), .int .u64 (u 39:Nat), .int .u64 (u 40:Nat), .int .u64 (u 41:Nat), .int .u64 (u 42:Nat), .int .u64 (u 43:Nat), .int .u64 (u 44:Nat), .int .u64 (u 45:Nat), .int .i64 fi, .int .i64 la, .int .i64 n, .bool ev, .bool sq]:=rfl
 rw [e]
 unfold Program.keyLits
 simp only [Tryz.underlying28]
 simp [cellsFc,cells8,cells7,cellsI,ygo,cellsU,cellsBl,lits_i,lits_l,lits_u,lits_b,hu,h1,h2,h3]
 rw [lits_7 d (fun i=>u (7+i)) (fun i hi=>hu (7+i) (by omega)),yfu d (fun i=>u (14+i)) (fun i hi=>hu (14+i) (by omega)),yfu d (fun i=>u (22+i)) (fun i hi=>hu (22+i) (by omega)),yfu d (fun i=>u (30+i)) (fun i hi=>hu (30+i) (by omega)),yfu d (fun i=>u (38+i)) (fun i hi=>hu (38+i) (by omega))]; rfl
def yg9 (a b:Value):Sem Value:=binOp .eql 28 a b
theorem eql_fcS (a b:Value):binOp .eql 28 a b=yg9 a b:=rfl
theorem eqlFc_run (u:Nat→Nat) (fi la n:Int) (ev sq:Bool) (w:World) (hu:∀i,i < 46→u i < 18446744073709551616) (h1:i64B fi) (h2:i64B la) (h3:i64B n):(yg9 (fcv u fi la n ev sq) (fcv u fi la n ev sq)).run Tryz.prog w= .ok (.bool true) w:=by
 obtain ⟨r,hr,hi⟩:=run_equalIn_deep 9996 4 28 keyFc w 4 4 _ _ _ _ (formFc u fi la n ev sq) (formFc u fi la n ev sq) (lits_fc 1 u fi la n ev sq hu h1 h2 h3) (lits_fc 1 u fi la n ev sq hu h1 h2 h3)
 have e:r=true:=hi.2 rfl
 rw [e] at hr
 rw [yg9,fcv,run_eql_struct]
 rw [fcv] at hr
 rw [hr]; rfl
theorem fcv_same {u u':Nat→Nat} (fi la n:Int) (ev sq:Bool) (h:∀i,i < 46→u i=u' i):fcv u fi la n ev sq=fcv u' fi la n ev sq:=by
 rw [fcv_L,fcv_L,fcL,fcL]
 congr 3
 exact List.map_congr_left fun i hi=>by rw [h i (List.mem_range.1 hi)]
end
section
open Go.RowKit
attribute [local go_sem ↓] yaq
theorem ykg (a:Option Addr) (cap:Nat) (l:List Cl) (w:World) (hl:l.length≤1000) (hs:Sl w a (cls l)) (hok:∀c∈l,c.Ok) :
  Calls Tryz.prog 9 #[.slice a l.length cap] w fun e w'=>e= .returned (.bool (mayL l))∧Below w.heap.size w w':=by
 have Hs:=hid hs
 have Hok:=hid hok
 clear hs hok
 go_enter Tryz.func9,Tryz.ntmps9
 go_wp2_with fail
 go_loopw [3] (fun i wr=>∃k:Nat,i= .int .i64 k∧k≤l.length∧k≤9∧Hid ((l.take k).all mayC=true)∧Hid (Below w.heap.size w wr)) (fun i _=>l.length - (intOf i).toNat)
 case atStart=>exact ⟨0,rfl,by omega,by omega,by show _ = _; rfl,Below.refl _ _⟩
 case round=>
  obtain ⟨k,rfl,hk,hk9,hall,HB⟩:=hrel
  by_cases hlt:k < l.length
  ·by_cases h9:k < 9
   ·have hltI:(k:Int) < l.length:=by omega
    have h9I:(k:Int) < 9:=by omega
    obtain ⟨b,off,rfl,hbk,hr⟩:=Hs.out.atCl hlt
    have hr':=yaM hr HB.out hbk
    have hcOk:=hid (Hok.out _ (zzr hlt))
    have ts:=hid (yap l k hlt)
    have hmem:=hid (zzr hlt)
    obtain ⟨c,hc⟩:∃c,l[k]=c:=⟨_,rfl⟩
    rw [hc] at hr' hcOk ts hmem
    have le:=ygY hr'
    have cM:=hid (fun W=>ykf c W hcOk.out)
    cases hm:mayC c
    ·rw [hm] at cM
     have hno:Hid (mayL l=false):=by
      show _ = _
      rw [mayL,show l.all mayC=false by rw [List.all_eq_false]; exact ⟨c,hmem.out,by rw [hm]; simp⟩,Bool.and_false]
     clear hr hr' hc hm
     go_wp2_with fail
     refine (cM.out _).mono ?_
     rintro e w1 ⟨rfl,hB1⟩
     have HB1:=hid (HB.out.trans (hB1.mono HB.out.size))
     clear hB1 le
     go_wp2
     go_ret
     rw [hno.out]
     exact ⟨rfl,HB1.out⟩
    ·rw [hm] at cM
     have hyes:Hid ((l.take (k+1)).all mayC=true):=by show _ = _; rw [ts.out,List.all_append,hall.out,List.all_cons,hm]; rfl
     clear hr hr' hc hm
     go_wp2_with fail
     refine (cM.out _).mono ?_
     rintro e w1 ⟨rfl,hB1⟩
     have HB1:=hid (HB.out.trans (hB1.mono HB.out.size))
     clear hB1 le
     go_wp2
     exact ⟨⟨k+1,by go_num,by omega,by omega,hyes,HB1⟩,by simp [intOf]; omega⟩
   ·have hltI:(k:Int) < l.length:=by omega
    have h9I:¬(k:Int) < 9:=by omega
    have hno:Hid (mayL l=false):=by show _ = _; rw [mayL,zzd (by omega)]; rfl
    have h8J:decide ((l.length:Int)≤8)=false:=zzd (by omega)
    have h8I:¬(l.length:Int)≤8:=by omega
    go_wp2
    go_ret
    rw [hno.out]
    exact ⟨rfl,HB.out⟩
  ·have hltI:¬(k:Int) < l.length:=by omega
   have hke:l.take k=l:=List.take_of_length_le (by omega)
   rw [hke] at hall
   clear hke
   by_cases h8:l.length≤8
   ·have hno:Hid (mayL l=true):=by show _ = _; rw [mayL,zzZ h8,hall.out]; rfl
    have h8I:(l.length:Int)≤8:=by omega
    clear hall
    go_wp2
    go_ret
    rw [hno.out]
    exact ⟨rfl,HB.out⟩
   ·have hno:Hid (mayL l=false):=by show _ = _; rw [mayL,zzd h8]; rfl
    have h8I:¬(l.length:Int)≤8:=by omega
    clear hall
    go_wp2
    go_ret
    rw [hno.out]
    exact ⟨rfl,HB.out⟩
end
section
open Go.RowKit
structure MtS (w:World) (F U:Int) (W:World):Prop where
 r0:W.cell? ⟨w.heap.size,0,none⟩=some (.int .i64 0)
 r1:W.cell? ⟨w.heap.size,1,none⟩=some (.int .i64 0)
 g0:W.frozen? ⟨w.heap.size,0,none⟩=false
 g1:W.frozen? ⟨w.heap.size,1,none⟩=false
 c0:W.cell? ⟨w.heap.size+1,0,none⟩=some (.int .i64 F)
 c1:W.cell? ⟨w.heap.size+1,1,none⟩=some (.int .i64 U)
 f0:W.frozen? ⟨w.heap.size+1,0,none⟩=false
 f1:W.frozen? ⟨w.heap.size+1,1,none⟩=false
 be:Below w.heap.size w W
 l:w.heap.size+1 < W.heap.size
theorem MtS.drew {w W:World} {F U:Int} (h:MtS w F U W):MtS w F U W.drew:=by
 have hd:Below W.heap.size W W.drew:=(Below.refl _ _).drew
 have l1:w.heap.size < W.heap.size:=by have:=h.l; omega
 exact ⟨(hd.cell (p:=⟨w.heap.size,0,none⟩) l1).trans h.r0,(hd.cell (p:=⟨w.heap.size,1,none⟩) l1).trans h.r1,(hd.frozen (p:=⟨w.heap.size,0,none⟩) l1).trans h.g0,(hd.frozen (p:=⟨w.heap.size,1,none⟩) l1).trans h.g1,
  (hd.cell (p:=⟨w.heap.size+1,0,none⟩) h.l).trans h.c0,(hd.cell (p:=⟨w.heap.size+1,1,none⟩) h.l).trans h.c1,(hd.frozen (p:=⟨w.heap.size+1,0,none⟩) h.l).trans h.f0,(hd.frozen (p:=⟨w.heap.size+1,1,none⟩) h.l).trans h.f1,h.be.trans (hd.mono (by omega)),zH h.l hd.size⟩
end
section
open Go.RowKit Go.Maps
attribute [local irreducible] secL
theorem cls_snoc (l:List Cl) (c:Cl):cls (l ++ [c])=cls l ++ yad c:=by
 rw [cls,cls,List.flatMap_append]; simp
theorem day_rise (l:List Cl) (a b:Int):(dayS l (yac a b)).Pairwise (·< ·):=by
 rw [dayS,yac]
 exact (List.Pairwise.map _ (fun a b h=>by omega) (List.pairwise_lt_range)).filter _
theorem yiB {q:Nat→Bool} {x:Int} (h:x∈secL q):0≤x∧x < 86400:=by
 obtain ⟨j,hj,-,rfl⟩:=yas.1 h; omega
theorem fst_rng (q:Nat→Bool):0≤fstI (secL q)∧fstI (secL q) < 86400:=by
 rw [fstI]
 cases e:(secL q)[0]? with
 | none=>exact ⟨by simp,by simp⟩
 | some x=>exact yiB (List.mem_of_getElem? e)
theorem lst_rng (q:Nat→Bool):0≤lstI (secL q)∧lstI (secL q) < 86400:=by
 rw [lstI]
 cases e:(secL q)[(secL q).length - 1]? with
 | none=>exact ⟨by simp,by simp⟩
 | some x=>exact yiB (List.mem_of_getElem? e)
theorem fi_rng {l:List Cl} {X:List Int} (h:∀D∈X,0≤D∧D≤146096):0≤fiV l X∧fiV l X≤12622780799:=by
 unfold fiV
 cases e:X[0]? with
 | none=>exact ⟨by simp,by simp⟩
 | some D=>
   have h1:=h D (List.mem_of_getElem? e)
   have h2:=fst_rng (dayQ l D)
   simp only []; omega
theorem la_rng {l:List Cl} {X:List Int} (h:∀D∈X,0≤D∧D≤146096):0≤laV l X∧laV l X≤12622780799:=by
 unfold laV
 cases e:X[X.length - 1]? with
 | none=>exact ⟨by simp,by simp⟩
 | some D=>
   have h1:=h D (List.mem_of_getElem? e)
   have h2:=lst_rng (dayQ l D)
   simp only []; omega
theorem fcU_lt (X:List Int) {i:Nat} (h:3≤i):fcU 0 0 0 X i < 18446744073709551616:=by
 rw [fcU,if_neg (by omega),if_neg (by omega),if_neg (by omega)]
 split
 ·exact yao _
 ·split
  ·exact wof_lt _ _
  ·split
   ·exact yao _
   ·split
    ·exact yao _
    ·split
     ·exact yao _
     ·exact yao _
theorem FaceP.lt {l:List Cl} {u:Nat→Nat} {fi la n:Int} {ev sq:Bool} (h:FaceP l u fi la n ev sq):∀i,i < 46→u i < 18446744073709551616:=fun i hi=>by
 by_cases e:i < 3
 ·exact h.hm.lt i e
 ·rw [h.us i (by omega) hi]; exact fcU_lt _ (by omega)
theorem day_all (l:List Cl):∀D∈dayS l (yac 0 146096),0≤D∧D≤146096:=fun D h=>by
 rw [dayS,List.mem_filter,yaz] at h; exact h.1
theorem FaceP.bd {l:List Cl} {u:Nat→Nat} {fi la n:Int} {ev sq:Bool} (h:FaceP l u fi la n ev sq):i64B fi∧i64B la∧i64B n∧0≤fi∧0≤la∧0≤n:=by
 have h1:=fi_rng (l:=l) (day_all l)
 have h2:=la_rng (l:=l) (day_all l)
 have h3:(dayS l (yac 0 146096)).length≤146097:=by rw [dayS]; exact zI (List.length_filter_le _ _) (by rw [yat]; decide)
 rw [←h.fi] at h1
 rw [←h.la] at h2
 have h4:=h.n
 unfold i64B
 omega
theorem FaceP.eql {l:List Cl} {u:Nat→Nat} {fi la n:Int} {ev sq:Bool} (h:FaceP l u fi la n ev sq) (W:World):(yg9 (fcv u fi la n ev sq) (fcv u fi la n ev sq)).run Tryz.prog W= .ok (.bool true) W:=by
 obtain ⟨h1,h2,h3,-⟩:=h.bd
 exact eqlFc_run u fi la n ev sq W h.lt h1 h2 h3
theorem fc_box (w1:World) (u:Nat→Nat) (fi la n:Int) (ev sq:Bool):∃w3,(ycO (.pointer (some ⟨w1.heap.size,0,none⟩)) (fcv u fi la n ev sq)).run Tryz.prog (w1.alloc (.cells zl0 28))= .ok () w3∧Hid (FcB w1.heap.size u fi la n ev sq w3)∧Hid (Below w1.heap.size w1 w3):=by
 have e8:=ygi w1 28
 exact ⟨_,e8.st u fi la n ev sq,e8.put u fi la n ev sq,(yaa (Below.refl _ _) (zG _)).trans ((Eff.setCells (O:=fun x=>x=w1.heap.size) rfl (fcL u fi la n ev sq) 0 _ (Eff.refl _ _)).below (by rintro b rfl; exact zG _) (by simp))⟩
theorem eqgFc (x y:Operand) (u:Nat→Nat) (fi la n:Int) (ev sq:Bool) (a:Array Value) (W:World):(eqGuard .eql 28 x y (fcv u fi la n ev sq) (.agg a)).run Tryz.prog W= .ok () W:=run_eqGuard_agg W .eql _ x y _ _ Tryz.eqGuardType28
theorem eqgFc2 (x y:Operand) (u u':Nat→Nat) (fi la n fi' la' n':Int) (ev sq ev' sq':Bool) (W:World):(eqGuard .eql 28 x y (fcv u fi la n ev sq) (fcv u' fi' la' n' ev' sq')).run Tryz.prog W= .ok () W:=run_eqGuard_agg W .eql _ x y _ _ Tryz.eqGuardType28
end
section
open Go.RowKit
def BoK (w W:World) (b3:Nat) (g:Nat→Nat):Prop:=WCells W b3 g∧WFree W b3∧WCells W w.heap.size (fun _=>0)∧WFree W w.heap.size∧Below w.heap.size w W∧w.heap.size < b3∧b3 < W.heap.size
theorem BoK.below {w W W':World} {b3:Nat} {g:Nat→Nat} (h:BoK w W b3 g) (hb:Below W.heap.size W W'):BoK w W' b3 g:=by
 obtain ⟨d1,d2,d3,d4,d5,d6,d7⟩:=h
 exact ⟨d1.below hb d7,d2.below hb d7,d3.below hb (by omega),d4.below hb (by omega),d5.trans (hb.mono (by omega)),d6,zH d7 hb.size⟩
theorem BoK.set {w W:World} {b3:Nat} {g:Nat→Nat} (h:BoK w W b3 g) {i:Nat} (hi:i < 7) (v:Nat):BoK w (W.setCell ⟨b3,i,none⟩ (.int .u64 v)) b3 (fun j=>if j=i then v else g j):=by
 obtain ⟨d1,d2,d3,d4,d5,d6,d7⟩:=h
 exact ⟨d1.set hi,d2.set _ _,fun j hj=>(zzJ (w:=W) (a:=⟨w.heap.size,j,none⟩) (Below.heap_setCell _ _ _ _ (by simp only []; omega))).trans (d3 j hj),d4.set _ _,yab d5 (by omega),d6,by simpa [go_sem] using d7⟩
theorem BoK.drew {w W:World} {b3:Nat} {g:Nat→Nat} (h:BoK w W b3 g):BoK w W.drew b3 g:=⟨h.1,h.2.1,h.2.2.1,h.2.2.2.1,h.2.2.2.2.1.drew,h.2.2.2.2.2⟩
theorem BoK.congr {w W:World} {b3:Nat} {g t:Nat→Nat} (h:BoK w W b3 g) (e:∀i,i < 7→g i=t i):BoK w W b3 t:=⟨h.1.congr e,h.2⟩
end
section
open Go.RowKit Go.Maps
attribute [local irreducible] secL
abbrev allD (l:List Cl):List Int:=dayS l (yac 0 146096)
theorem yjr {l:List Cl} {t:Int} (h:yam l t=true):0≤t∧t < 12622780800∧t % 86400∈secL (dayQ l (t / 86400))∧t / 86400∈allD l:=by
 obtain ⟨h0,h1⟩:=ybJ h
 have hm:t % 86400∈secL (dayQ l (t / 86400)):=yas.2 ⟨(t % 86400).toNat,by omega,by
  rw [ya2,show 86400 * (t / 86400)+(((t % 86400).toNat:Nat):Int)=t by omega]; exact h,by omega⟩
 exact ⟨h0,h1,hm,ydw.2 ⟨_,hm⟩⟩
theorem xSec {l:List Cl} {D s:Int} (h:s∈secL (dayQ l D)):yam l (86400 * D+s)=true∧0≤s∧s < 86400:=by
 obtain ⟨j,hj,hq,rfl⟩:=yas.1 h
 rw [ya2] at hq
 exact ⟨hq,by omega,by omega⟩
section
variable {l:List Cl} {u:Nat→Nat} {fi la n:Int} {ev sq:Bool}
theorem fldT (h:FaceP l u fi la n ev sq) {i:Nat} (h3:3≤i) (h7:i < 7) (k:Nat):(u i).testBit k=true↔k < 64∧∃D∈allD l,shF D (i - 1)= (k:Int):=by
 rw [h.us i h3 (by omega),fcU,if_neg (by omega),if_neg (by omega),if_neg (by omega),if_pos h7,ych,zzX,zzY,zzY,List.mem_map]
theorem fldB (h:FaceP l u fi la n ev sq) {i:Nat} (h3:3≤i) (h7:i < 7) {x:Int} (h0:0≤x) (h1:x < 64):hasB (u i) x=true↔∃D∈allD l,shF D (i - 1)=x:=by
 rw [hasB,zzZ h0,zzo,fldT h h3 h7,Int.toNat_of_nonneg h0]
 exact ⟨fun h=>h.2,fun h=>⟨by omega,h⟩⟩
theorem yrB (h:FaceP l u fi la n ev sq) {x:Int} (h0:0≤x) (h1:x < 400):hasW (fun i=>u (7+i)) x=true↔∃D∈allD l,shF D 1 - 1970=x:=by
 have hi:x.toNat / 64 < 7:=by omega
 have e:u (7+x.toNat / 64)=wof ((allD l).map fun D=>shF D 1 - 1970) (x.toNat / 64):=by
  rw [h.us _ (by omega) (by omega),fcU,if_neg (by omega),if_neg (by omega),if_neg (by omega),if_neg (by omega),if_pos (by omega),Nat.add_sub_cancel_left]
 rw [hasW,mayB,zzZ h0,zzZ h1,zzo,zzo,bitW,e,wof,yaw,inWB,show 64 * (x.toNat / 64)+x.toNat % 64=x.toNat by omega,Int.toNat_of_nonneg h0,zzX,zzX,zzY,zzY,zzY,List.mem_map]
 exact ⟨fun h=>h.2.1,fun h=>⟨by omega,h,by omega⟩⟩
theorem shp_rng {D:Int} (h0:0≤D) (h1:D≤146096):(1≤shF D 2∧shF D 2≤12)∧(1≤shF D 3∧shF D 3≤31)∧(1≤shF D 4∧shF D 4≤31)∧(1≤shF D 5∧shF D 5≤7)∧(0≤shF D 1 - 1970∧shF D 1 - 1970 < 400):=by
 obtain ⟨y0,y1,m0,m1,d0,d1⟩:=yaB h0 (show D < 146097 by omega)
 obtain ⟨l0,l1⟩:=yb2 (fY D) (fMo D)
 refine ⟨⟨m0,m1⟩,⟨d0,by show fD D≤31; omega⟩,⟨by show 1≤lenI (fY D) (fMo D) - fD D+1; omega,by show lenI (fY D) (fMo D) - fD D+1≤31; omega⟩,yiy D,by show 0≤fY D - 1970; omega,by show fY D - 1970 < 400; omega⟩
theorem ygd (c:Cl) (t:Int):hasC c t=true↔(winB t=true∧mayC c=true∧betB c.fr c.un t=true∧yaW (t % 86400) (c.m 2) (c.m 1) (c.m 0)=true∧onB c.unit c.step c.anchor t=true∧dayC c (t / 86400)=true):=by
 simp only [hasC,zzX]
theorem win_iff (t:Int):winB t=true↔0≤t∧t < 12622780800:=by rw [winB,zzY]
theorem yc9 {L:List Int} (h:L.Pairwise (·< ·)) {x:Int} (hx:x∈L):fstI L≤x∧x≤lstI L:=by
 obtain ⟨i,hi,rfl⟩:=List.getElem_of_mem hx
 have h0:0 < L.length:=by omega
 have hl:L.length - 1 < L.length:=by omega
 rw [fstI,lstI,zzp h0,zzp hl,Option.getD_some,Option.getD_some]
 constructor
 ·by_cases e:i=0
  ·subst e; exact Int.le_refl _
  ·exact Int.le_of_lt ((List.pairwise_iff_getElem.1 h) 0 i h0 hi (by omega))
 ·by_cases e:i=L.length - 1
  ·subst e; exact Int.le_refl _
  ·exact Int.le_of_lt ((List.pairwise_iff_getElem.1 h) i (L.length - 1) hi hl (by omega))
theorem yhU {L:List Int} (h:0 < L.length):fstI L∈L∧lstI L∈L:=by
 have hl:L.length - 1 < L.length:=by omega
 rw [fstI,lstI,zzp h,zzp hl,Option.getD_some,Option.getD_some]
 exact ⟨zzr _,zzr _⟩
theorem fi_is {X:List Int} (h:0 < X.length):fiV l X=86400 * fstI X+fstI (secL (dayQ l (fstI X))):=by
 unfold fiV
 rw [fstI,zzp h]; rfl
theorem la_is {X:List Int} (h:0 < X.length):laV l X=86400 * lstI X+lstI (secL (dayQ l (lstI X))):=by
 unfold laV
 rw [lstI,zzp (show X.length - 1 < X.length by omega)]; rfl
theorem fl_is (h:FaceP l u fi la n ev sq) (h0:0 < (allD l).length):yam l fi=true∧yam l la=true∧∀t,yam l t=true→fi≤t∧t≤la:=by
 have e1:fi=86400 * fstI (allD l)+fstI (secL (dayQ l (fstI (allD l)))):=h.fi.trans (fi_is h0)
 have e2:la=86400 * lstI (allD l)+lstI (secL (dayQ l (lstI (allD l)))):=h.la.trans (la_is h0)
 obtain ⟨hf,hl⟩:=yhU h0
 have sec:∀D∈allD l,0 < (secL (dayQ l D)).length:=fun D hD=>by
  obtain ⟨s,hs⟩:=ydw.1 hD
  exact List.length_pos_of_mem hs
 have f1:=xSec (yhU (sec _ hf)).1
 have f2:=xSec (yhU (sec _ hl)).2
 refine ⟨by rw [e1]; exact f1.1,by rw [e2]; exact f2.1,fun t ht=>?_⟩
 obtain ⟨t0,t1,hs,hD⟩:=yjr ht
 have hd:fstI (allD l)≤t / 86400∧t / 86400≤lstI (allD l):=yc9 (day_rise l 0 146096) hD
 constructor
 ·rw [e1]
  by_cases e:fstI (allD l)=t / 86400
  ·have:=(yc9 (ycx _) hs).1
   rw [e]; omega
  ·have:=hd.1; omega
 ·rw [e2]
  by_cases e:lstI (allD l)=t / 86400
  ·have:=(yc9 (ycx _) hs).2
   rw [e]; omega
  ·have:=hd.2; omega
end
end
end Go.Proofs.YtkpgfmonhfnhdaaGreatDoor
