/-
  math/bits.Len64, by the kit's shelf: how long a number is, in bits.
  A disc's Prev.
  The greatest instant of a set below another one, day by day.
  seek.Prev and seek.Last.
  What Next and Prev of a set tell, in plain words.
  seek.Some.
  The first instants above one, in plain words.
-/
import Derived.Test.YtjahgimnfliooaaGreatDoorQ2fd074
import Derived.Shelf.Strconv.Itoa0
import Derived.Test.YtjahgimnfliooaaGreatDoorQf0fed3
import Derived.Test.YtjahgimnfliooaaGreatDoorQ79b4da
import Derived.Test.YtjahgimnfliooaaGreatDoorQ10ca9b
import Derived.Test.YtjahgimnfliooaaGreatDoorQ76f94a
import Derived.Test.YtjahgimnfliooaaGreatDoorQ6fdd12
set_option maxRecDepth 100000
set_option maxHeartbeats 25600000
namespace Go.Proofs.YtjahgimnfliooaaGreatDoor
set_option linter.unusedVariables false
section
open Go.RowKit Go.Shelf
def ren64:Ren:={f:=fun n=>if n=129 then 145 else 0,t:=fun n=>if n=3 then 3 else if n=4 then 4 else if n=5 then 5 else if n=9 then 9 else if n=46 then 222 else if n=53 then 28 else 0,g:=fun _=>0}
theorem ykl:Tryz.f145=Body.n129 ren64:=by kernel_rfl
theorem lays64:Lays.n129 Tryz.prog ren64 where
 mixed:=rfl
 f129:=by
  show Tryz.prog.funcs[145]? = _
  rw [Tryz.func145,ykl]
 t3:=Tryz.underlying3
 a3:=Tryz.isAgg3
 z3:=Tryz.sizeOf3
 v3:=Tryz.zeroValue3
 t4:=Tryz.underlying4
 a4:=Tryz.isAgg4
 z4:=Tryz.sizeOf4
 v4:=Tryz.zeroValue4
 t5:=Tryz.underlying5
 a5:=Tryz.isAgg5
 z5:=Tryz.sizeOf5
 v5:=Tryz.zeroValue5
 t9:=Tryz.underlying9
 a9:=Tryz.isAgg9
 z9:=Tryz.sizeOf9
 v9:=Tryz.zeroValue9
 t46:=Tryz.underlying222
 a46:=Tryz.isAgg222
 z46:=Tryz.sizeOf222
 v46:=Tryz.zeroValue222
 t53:=Tryz.underlying28
 a53:=Tryz.isAgg28
 z53:=Tryz.sizeOf28
 v53:=Tryz.zeroValue28
theorem Len64_any (x:Nat) (w:World) (hx:x < 18446744073709551616):Calls Tryz.prog 145 #[.int .u64 (x:Nat)] w fun e w'=>e= .returned (.int .i64 ((Lib.bitLen x:Nat):Int))∧w' =w:=by
 exact Any.bits_Len64 lays64 (x:Nat) w (by omega) (by omega)
theorem yef:∀(n x:Nat),x < 2 ^ n→n≤64→x≠0→1≤Lib.bitLen x∧Lib.bitLen x≤n∧x.testBit (Lib.bitLen x - 1)=true∧∀j,Lib.bitLen x≤j→x.testBit j=false
 | 0,x,h,_,h0=>by simp at h; omega
 | n+1,x,h,hn,h0=>by
   have h64:x < 2 ^ 64:=zH h (Nat.pow_le_pow_right (by omega) hn)
   have e:=Lib.bitLen_half x h0 h64
   by_cases h1:x / 2=0
   ·have:x=1:=by omega
    subst this
    refine ⟨by decide,by rw [e]; rw [h1]; simp [show Lib.bitLen 0=0 from rfl],by decide,fun j hj=>?_⟩
    have:Lib.bitLen 1=1:=by decide
    rw [this] at hj
    obtain ⟨k,rfl⟩:∃k,j=k+1:=⟨j - 1,by omega⟩
    rw [Nat.testBit_succ]; simp
   ·have h2:x / 2 < 2 ^ n:=by rw [Nat.pow_succ] at h; omega
    obtain ⟨g1,g2,g3,g4⟩:=yef n (x / 2) h2 (by omega) h1
    rw [e]
    refine ⟨by omega,by omega,?_,fun j hj=>?_⟩
    ·rw [show 1+Lib.bitLen (x / 2) - 1= (Lib.bitLen (x / 2) - 1)+1 by omega,Nat.testBit_succ]; exact g3
    ·obtain ⟨k,rfl⟩:∃k,j=k+1:=⟨j - 1,by omega⟩
     rw [Nat.testBit_succ]; exact g4 k (by omega)
end
section
open Go.RowKit
def LastOf (p:Nat→Bool) (n:Int) (ok:Bool):Prop:=
 (ok=true∧∃k:Nat,n=k∧k < 86400∧p k=true∧∀j,k < j→j < 86400→p j=false)∨(ok=false∧n=0∧∀j,j < 86400→p j=false)
theorem LastOf.congr {p q:Nat→Bool} {n:Int} {ok:Bool} (h:LastOf p n ok) (e:∀k,k < 86400→p k=q k):LastOf q n ok:=by
 rcases h with ⟨rfl,k,rfl,hk,h1,h2⟩ | ⟨rfl,rfl,h2⟩
 ·exact .inl ⟨rfl,k,rfl,hk,by rw [←e k hk]; exact h1,fun j hj h=>by rw [←e j h]; exact h2 j hj h⟩
 ·exact .inr ⟨rfl,rfl,fun j h=>by rw [←e j h]; exact h2 j h⟩
theorem last_word (h:Nat→Nat) (k:Nat) (hk:k < 1350) (hz:∀j,k < j→j < 1350→h j=0) (hb:h k < 18446744073709551616) (h0:h k≠0):LastOf (bitW h) ((k:Int) * 64+(Lib.bitLen (h k):Nat) - 1) true:=by
 obtain ⟨h1,h2,h3,h4⟩:=yef 64 (h k) (by simpa using hb) (by omega) h0
 generalize Lib.bitLen (h k)=L at *
 refine .inl ⟨rfl,k * 64+(L - 1),by omega,by omega,?_,fun j hj hj2=>?_⟩
 ·rw [bitW,show (k * 64+(L - 1)) / 64=k by omega,show (k * 64+(L - 1)) % 64=L - 1 by omega]; exact h3
 ·rw [bitW]
  by_cases e:j / 64=k
  ·rw [e]; exact h4 _ (by omega)
  ·rw [hz (j / 64) (by omega) (by omega),Nat.zero_testBit]
theorem last_none (h:Nat→Nat) (hz:∀j,j < 1350→h j=0):LastOf (bitW h) 0 false:= .inr ⟨rfl,rfl,fun j hj=>by rw [bitW,hz (j / 64) (by omega),Nat.zero_testBit]⟩
def yb9 (f:Nat→Nat) (s j:Nat):Nat:=mk (fun t=>(f j).testBit t && decide (64 * j+t≤s))
theorem uptoW_lt (f:Nat→Nat) (s j:Nat):yb9 f s j < 18446744073709551616:=yaS _
theorem yjZ (f:Nat→Nat) (s j:Nat) (h:s / 64 < j):yb9 f s j=0:=by
 rw [yb9,←yb5]
 exact ybo fun k hk=>by rw [zzd (by omega),Bool.and_false]
theorem uptoW_low (f:Nat→Nat) (s j:Nat) (h:j < s / 64) (hf:f j < 18446744073709551616):yb9 f s j=f j:=by
 refine (yfA hf fun k hk=>?_).symm
 rw [zzZ (by omega),Bool.and_true]
theorem uptoW_bit (f:Nat→Nat) (s k:Nat):bitW (yb9 f s) k= (bitW f k && decide (k≤s)):=by
 rw [bitW,yb9,ya8,bitW,zzZ (Nat.mod_lt _ (by omega)),zzo]
 have:64 * (k / 64)+k % 64=k:=Nat.div_add_mod k 64
 rw [this]
theorem uptoW_at (f:Nat→Nat) (s:Nat) (hf:f (s / 64) < 18446744073709551616):yb9 f s (s / 64)=f (s / 64) * 2 ^ (63 - s % 64) % 18446744073709551616 / 2 ^ (63 - s % 64):=by
 have h1:f (s / 64) * 2 ^ (63 - s % 64) % 18446744073709551616 / 2 ^ (63 - s % 64)≤f (s / 64) * 2 ^ (63 - s % 64) % 18446744073709551616:=Nat.div_le_self _ _
 have h2:f (s / 64) * 2 ^ (63 - s % 64) % 18446744073709551616 < 18446744073709551616:=Nat.mod_lt _ (by omega)
 refine (yfA (by omega) fun k hk=>?_).symm
 rw [←Nat.shiftRight_eq_div_pow,Nat.testBit_shiftRight,show (18446744073709551616:Nat)=2 ^ 64 from rfl,Nat.testBit_mod_two_pow,←Nat.shiftLeft_eq,Nat.testBit_shiftLeft]
 by_cases h:k≤s % 64
 ·rw [zzZ (show 63 - s % 64+k < 64 by omega),zzZ (show 63 - s % 64+k ≥ 63 - s % 64 by omega),zzZ (show 64 * (s / 64)+k≤s by omega),show 63 - s % 64+k - (63 - s % 64)=k by omega,zzo,zzo,Bool.and_true]
 ·rw [zzd (show¬63 - s % 64+k < 64 by omega),zzd (show¬64 * (s / 64)+k≤s by omega),Bool.false_and,Bool.and_false]
theorem yk6 (b:Nat) (q:Nat→Bool) (s:Nat) (w:World) (hs:s < 86400) (hd:DiscAt w b q) :
  Calls Tryz.prog 98 #[.pointer (some ⟨b,0,none⟩), .int .i64 s] w fun r w'=>(∃n ok,r= .returned (.tuple #[.int .i64 n, .bool ok])∧LastOf (fun k=>q k && decide (k≤s)) n ok)∧w' =w:=by
 obtain ⟨f,f1,f2,f3,f4,f5⟩:=hd
 have c1:=hid (ydZ (s:Int) w)
 rw [ydL,zzZ hs] at c1
 have c2:=hid (fun m (hm:m < 18446744073709551616)=>Len64_any m w hm)
 have HC:=hid f1
 have Hf:=hid f3
 have hlt:=hid (fun j=>uptoW_lt f s j)
 have hhigh:=hid (fun j h=>yjZ f s j h)
 have hlow:=hid (fun j h hf=>uptoW_low f s j h hf)
 have hsh:Hid (IntKind.u64.wrap ((f (s / 64):Int) * 2 ^ (63 - s % 64)) / 2 ^ (63 - s % 64)= ((yb9 f s (s / 64):Nat):Int)):=by
  show _ = _
  have h2:=f3 (s / 64) (by omega)
  rw [uptoW_at f s h2,IntKind.wrap_u64]
  simp
 have hbit:Hid (∀k,k < 86400→bitW (yb9 f s) k= (q k && decide (k≤s))):=fun k hk=>by rw [uptoW_bit,f4 k hk]
 have hsI:(s:Int) < 86400:=by omega
 have hi:s / 64 < 1350:=by omega
 have e1:=f1 (s / 64) hi
 have hs0:(0:Int)≤s:=by omega
 have hmn:min (s:Int) 86399=s:=by omega
 clear hs f1 f2 f3 f4 f5
 go_enter Tryz.func98,Tryz.ntmps98
 go_wp2_with fail
 refine c1.out.mono ?_
 rintro e w' ⟨rfl,rfl⟩
 go_wp2_with fail
 rw [hsh.out]
 clear hsh e1
 go_loopw [7,8] (fun m i wr=>∃k:Nat,i= .int .i64 k∧m= .int .u64 (yb9 f s k:Nat)∧Hid (k≤s / 64)∧k < 1350∧Hid (∀j,k < j→j < 1350→yb9 f s j=0)∧wr=w) (fun _ i _=>(intOf i).toNat)
 case atStart=>exact ⟨s / 64,by simp,rfl,zG _,hi,fun j h _=>hhigh.out j h,rfl⟩
 case round=>
  obtain ⟨k,rfl,rfl,hsk,hk2,hz,rfl⟩:=hrel
  have d4:=hid (c2.out _ (hlt.out k))
  by_cases hB:yb9 f s k=0
  ·have hz2:Hid (∀j,k≤j→j < 1350→yb9 f s j=0):=fun j hj hj2=>by
    by_cases e:j=k
    ·rw [e]; exact hB
    ·exact hz.out j (by omega) hj2
   have hbz:(((yb9 f s k:Nat):Int) != 0)=false:=by simp [hB]
   have hbz2:(((yb9 f s k:Nat):Int) == 0)=true:=by simp [hB]
   clear hB
   by_cases hlast:k=0
   ·have hbq:decide ((k:Int) - 1 < 0)=true:=zzZ (by omega)
    have hz3:Hid (LastOf (bitW (yb9 f s)) 0 false):=last_none _ (fun j hj=>hz2.out j (by omega) hj)
    clear hlast
    go_wp2
    go_ret2
    exact ⟨⟨_,_,rfl,hz3.out.congr hbit.out⟩,rfl⟩
   ·have hk3:k - 1 < 1350:=by omega
    have hbq:decide ((k:Int) - 1 < 0)=false:=zzd (by omega)
    have e5:=HC.out (k - 1) hk3
    have e6:=hlow.out (k - 1) (by have:=hsk.out; omega) (Hf.out _ hk3)
    rw [←e6] at e5
    have hsk2:Hid (k - 1≤s / 64):=by have:=hsk.out; show _≤_; omega
    have hk1:0≤(k:Int) - 1:=by omega
    have hk4:(k:Int) - 1 < 1350:=by omega
    have hk5:((k:Int) - 1).toNat=k - 1:=by omega
    clear e6
    go_wp2
    exact ⟨⟨k - 1,by congr 1; omega,rfl,hsk2.out,hk3,fun j h1 h2=>hz2.out j (by omega) h2,by trivial⟩,by simp [intOf]; omega⟩
  ·have hr:=hid (last_word (yb9 f s) k hk2 hz.out (hlt.out k) hB)
   have hbz:(((yb9 f s k:Nat):Int) != 0)=true:=by simp [hB]
   have hbz2:(((yb9 f s k:Nat):Int) == 0)=false:=by simp [hB]
   obtain ⟨-,hL,-,-⟩:=yef 64 (yb9 f s k) (by simpa using hlt.out k) (by omega) hB
   obtain ⟨L,hLe⟩:∃L,Lib.bitLen (yb9 f s k)=L:=⟨_,rfl⟩
   rw [hLe] at d4 hr hL
   clear hLe hB
   go_wp2_with fail
   refine d4.out.mono ?_
   rintro e w' ⟨rfl,rfl⟩
   go_wp2
   go_ret2
   exact ⟨⟨_,_,rfl,hr.out.congr hbit.out⟩,rfl⟩
end
section
open Go.RowKit Go.Maps
def ydh (l:List Cl) (t:Int):Int × Int:=if yaj l≠0 then (0,yaj l) else yim (yaT l 0 (ycz t - 1)).reverse
def LastI (cs:List Cl) (T x:Int):Prop:=yav cs x=true∧x < T∧∀y,x < y→y < T→yav cs y=false
theorem head_last {cs:List Cl} {T x:Int} (h:LastI cs T x):yim (yaT cs 0 (T - 1)).reverse= (x,0):=by
 obtain ⟨h1,h2,h3⟩:=h
 have hm:x∈yaT cs 0 (T - 1):=yaA.2 ⟨(ybp h1).1,by omega,h1⟩
 have hp:=yaZ cs 0 (T - 1)
 have hmem:∀y∈yaT cs 0 (T - 1),y < T∧yav cs y=true:=fun y hy=>by have:=yaA.1 hy; exact ⟨by omega,this.2.2⟩
 generalize yaT cs 0 (T - 1)=L at *
 have hpr:L.reverse.Pairwise (·> ·):=List.pairwise_reverse.2 hp
 have hmr:x∈L.reverse:=List.mem_reverse.2 hm
 have hmemr:∀y∈L.reverse,y < T∧yav cs y=true:=fun y hy=>hmem y (List.mem_reverse.1 hy)
 generalize L.reverse=R at *
 cases R with
 | nil=>simp at hmr
 | cons z R=>
   rcases List.mem_cons.1 hmr with e | e
   ·rw [yim,e]
   ·have g1:=(List.pairwise_cons.1 hpr).1 x e
    have g2:=hmemr z (by simp)
    have:=h3 z (by omega) g2.1
    rw [g2.2] at this; cases this
theorem head_none {cs:List Cl} {T:Int} (h:∀y,y < T→yav cs y=false):yim (yaT cs 0 (T - 1)).reverse= (0,15):=by
 have:yaT cs 0 (T - 1)= []:=by
  rw [List.eq_nil_iff_forall_not_mem]
  intro y hy
  have:=yaA.1 hy
  rw [h y (by omega)] at this
  exact absurd this.2.2 (by simp)
 rw [this]; rfl
def yeg (cs:List Cl) (T:Int):List Int:=(dayS cs (yai 0 ((T - 1) / 86400))).reverse
theorem yhx {cs:List Cl} {T n:Int}:n∈yeg cs T↔0≤n∧n≤(T - 1) / 86400∧anyQ (dayQ cs n)=true:=by
 rw [yeg,List.mem_reverse,dayS,List.mem_filter,ybw,and_assoc]
theorem ykF (cs:List Cl) (T:Int):(yeg cs T).Pairwise (·> ·):=List.pairwise_reverse.2 (dayS_up cs _ _)
def yfn (cs:List Cl) (T:Int) (k:Nat):Prop:=∀j n y,j < k→(yeg cs T)[j]? =some n→y / 86400=n→y < T→yav cs y=false
theorem late_zero (cs:List Cl) (T:Int):yfn cs T 0:=fun j n y h=>absurd h (by omega)
theorem inst_any {cs:List Cl} {y:Int} (h:yav cs y=true):anyQ (dayQ cs (y / 86400))=true:=
 yco.2 ⟨(y % 86400).toNat,by omega,by rw [yby,show 86400 * (y / 86400)+((y % 86400).toNat:Int)=y by omega]; exact h⟩
theorem yjj {cs:List Cl} {T:Int} {k:Nat} (h:yfn cs T k) {y:Int} (hy:y < T) (hi:yav cs y=true):∃j,k≤j∧(yeg cs T)[j]? =some (y / 86400):=by
 have hm:y / 86400∈yeg cs T:=yhx.2 ⟨by have:=(ybp hi).1; omega,by omega,inst_any hi⟩
 obtain ⟨j,hj,e⟩:=List.mem_iff_getElem.1 hm
 have e2:(yeg cs T)[j]? =some (y / 86400):=by rw [zzp hj,e]
 refine ⟨j,?_,e2⟩
 apply Nat.le_of_not_lt
 intro h2
 have:=h j _ y h2 e2 rfl hy
 rw [hi] at this; cases this
theorem down_at {L:List Int} (h:L.Pairwise (·> ·)) {i j:Nat} {a b:Int} (ha:L[i]? =some a) (hb:L[j]? =some b) (hij:i≤j):b≤a:=by
 obtain ⟨h1,rfl⟩:=zzq.1 ha
 obtain ⟨h2,rfl⟩:=zzq.1 hb
 rcases Nat.lt_or_ge i j with h3 | h3
 ·have:=List.pairwise_iff_getElem.1 h i j h1 h2 h3; omega
 ·obtain rfl:i=j:=by omega
  exact Int.le_refl _
theorem late_last {cs:List Cl} {T n at':Int} {k lo:Nat} (h:yfn cs T k) (hn:(yeg cs T)[k]? =some n) (hlo:(lo:Int)=min (T - 1 - 86400 * n) 86399) (hL:LastOf (fun j=>dayQ cs n j && decide (j≤lo)) at' true):LastI cs T (86400 * n+at'):=by
 rcases hL with ⟨-,j,rfl,hj,h1,h2⟩ | ⟨h1,-⟩
 ·rw [zzX,zzY,yby] at h1
  refine ⟨h1.1,by omega,fun y hy hyT=>?_⟩
  cases hi:yav cs y
  ·rfl
  ·obtain ⟨i,hki,ei⟩:=yjj h hyT hi
   have h3:=down_at (ykF cs T) hn ei hki
   have h4:y / 86400=n:=by omega
   have h5:(dayQ cs n (y % 86400).toNat && decide ((y % 86400).toNat≤lo))=false:=h2 (y % 86400).toNat (by omega) (by omega)
   rw [yby,show 86400 * n+((y % 86400).toNat:Int)=y by omega,hi,zzZ (by omega)] at h5
   cases h5
 ·cases h1
theorem late_more {cs:List Cl} {T n at':Int} {k lo:Nat} (h:yfn cs T k) (hn:(yeg cs T)[k]? =some n) (hlo:(lo:Int)=min (T - 1 - 86400 * n) 86399) (hL:LastOf (fun j=>dayQ cs n j && decide (j≤lo)) at' false):yfn cs T (k+1):=by
 intro j m y hj hm hy hyT
 rcases Nat.lt_or_ge j k with h1 | h1
 ·exact h j m y h1 hm hy hyT
 ·obtain rfl:j=k:=by omega
  rw [hn] at hm
  obtain rfl:=Option.some.inj hm
  rcases hL with ⟨h1,-⟩ | ⟨-,-,h2⟩
  ·cases h1
  ·have h5:(dayQ cs n (y % 86400).toNat && decide ((y % 86400).toNat≤lo))=false:=h2 (y % 86400).toNat (by omega)
   rw [yby,show 86400 * n+((y % 86400).toNat:Int)=y by omega,zzZ (by omega),Bool.and_true] at h5
   exact h5
theorem late_none {cs:List Cl} {T:Int} {k:Nat} (h:yfn cs T k) (hk:(yeg cs T).length=k) {y:Int} (hy:y < T):yav cs y=false:=by
 cases hi:yav cs y
 ·rfl
 ·obtain ⟨j,h1,h2⟩:=yjj h hy hi
  have:=(zzq.1 h2).1
  omega
theorem back_clip (cs:List Cl) (T:Int):dayS cs (yai (bndF cs 0) (bndU cs ((T - 1) / 86400))).reverse=yeg cs T:=by
 rw [yeg,←yff cs 0,dayS,List.filter_reverse]; rfl
end
section
open Go.RowKit Go.Maps
attribute [local go_sem] Oper.semAt_some
structure PvC (b:Nat) (T x y:Int) (O:Blk) (W:World):Prop where
 two:TwoC (b+1) x y O W
 c3:W.cell? ⟨b,0,none⟩=some (.int .i64 T)
 o3:O b
theorem PvC.keep {b:Nat} {T x y:Int} {O:Blk} {W W':World} (h:PvC b T x y O W) (hs:W.heap.size≤W'.heap.size) (hb:∀c,O c→W'.heap[c]? =W.heap[c]?):PvC b T x y O W':=
 ⟨h.two.keep hs hb,(zzJ (w:=W) (a:=⟨b,0,none⟩) (hb _ h.o3)).trans h.c3,h.o3⟩
def PvI (cs:List Cl) (b:Nat) (T:Int):OwnF:=fun k O _ W=>PvC b T 0 0 O W∧yfn cs T k
def PvX (cs:List Cl) (b:Nat) (T:Int) (c:Code):OwnF:=fun k O _ W=>c= .ret∧∃x,LastI cs T x∧TwoC (b+1) x 0 O W
theorem yge (cs:List Cl) (b:Nat) (T:Int) (M:Blk):StabF M (PvI cs b T):=fun k O F F' W W' h hs hF hO=>⟨h.1.keep hs (fun c hc=>hO c (.inl hc)),h.2⟩
theorem pvX_stab (cs:List Cl) (b:Nat) (T:Int) (M:Blk) (c:Code):StabF M (PvX cs b T c):=fun k O F F' W W' ⟨h1,x,h2,h3⟩ hs hF hO=>⟨h1,x,h2,h3.keep hs (fun c hc=>hO c (.inl hc))⟩
theorem pvI_lt (cs:List Cl) (b:Nat) (T:Int):LtF (PvI cs b T):=fun k O F W h=>h.1.two.lt
theorem pvX_lt (cs:List Cl) (b:Nat) (T:Int) (c:Code):LtF (PvX cs b T c):=fun k O F W ⟨_,_,_,h⟩=>h.lt
def PvT (h0 h1 h2 h3 h4 h5 h6 h7 h8 h9:Value) (ds:List Deferred) (a:Act):Prop:=∃u:Nat→Value,a= {tmps:=#[h0,h1,h2,h3,h4,h5,h6,h7,h8,h9,u 0,u 1,u 2,u 3,u 4,u 5,u 6,u 7,u 8,u 9,u 10,u 11,u 12,u 13,u 14,u 15,u 16,u 17,u 18,u 19,u 20,u 21,u 22,u 23,u 24,u 25,u 26,u 27,u 28,u 29,u 30,u 31,u 32,u 33,u 34,u 35,u 36,u 37,u 38],defers:=ds}
theorem PvT.of {h0 h1 h2 h3 h4 h5 h6 h7 h8 h9 u10 u11 u12 u13 u14 u15 u16 u17 u18 u19 u20 u21 u22 u23 u24 u25 u26 u27 u28 u29 u30 u31 u32 u33 u34 u35 u36 u37 u38 u39 u40 u41 u42 u43 u44 u45 u46 u47 u48:Value} {ds:List Deferred}:PvT h0 h1 h2 h3 h4 h5 h6 h7 h8 h9 ds {tmps:=#[h0,h1,h2,h3,h4,h5,h6,h7,h8,h9,u10,u11,u12,u13,u14,u15,u16,u17,u18,u19,u20,u21,u22,u23,u24,u25,u26,u27,u28,u29,u30,u31,u32,u33,u34,u35,u36,u37,u38,u39,u40,u41,u42,u43,u44,u45,u46,u47,u48],defers:=ds}:=
 ⟨fun i=>(#[u10,u11,u12,u13,u14,u15,u16,u17,u18,u19,u20,u21,u22,u23,u24,u25,u26,u27,u28,u29,u30,u31,u32,u33,u34,u35,u36,u37,u38,u39,u40,u41,u42,u43,u44,u45,u46,u47,u48]:Array Value).getD i undef,rfl⟩
theorem yeW (args:Array Value) (w:World):(callFunc 144 args).run Tryz.prog w= .ok (.enter 144 args) w:=by simp [go_sem]
theorem ykL (a:Option Addr) (cap:Nat) (l:List Cl) (t:Int) (w:World) (hl:l.length≤9223372036854775807) (hlc:l.length≤cap) (hs:Sl w a (cls l)) (hno:a=none→cap=0) (hok:∀c∈l,c.Ok) (hT:Tab w) :
  Calls Tryz.prog 51 #[.slice a l.length cap, .int .i64 t] w fun e w'=>e= .returned (.tuple #[.int .i64 (ydh l t).1, .int .i64 (ydh l t).2])∧Below w.heap.size w w':=by
 obtain ⟨W1,hW1⟩:∃W1,((w.alloc (.cells #[.int .i64 t] 2)).alloc (.cells #[.int .i64 0] 2)).alloc (.cells #[.int .i64 0] 35)=W1:=⟨_,rfl⟩
 have hB1:Below w.heap.size w W1:=by rw [←hW1]; exact yaa (yaa (yaa (Below.refl _ _) (zG _)) (by simp)) (by simp; omega)
 have s1:W1.heap.size=w.heap.size+3:=by rw [←hW1]; simp
 have hC1:PvC w.heap.size t 0 0 (fun b=>b=w.heap.size∨b=w.heap.size+1∨b=w.heap.size+1+1) W1:=by
  refine ⟨⟨?_,?_,?_,?_, .inr (.inl rfl), .inr (.inr rfl),fun c hc=>by omega⟩,?_, .inl rfl⟩ <;> (rw [←hW1]; simp [go_sem])
 have z3:W1.frozen? ⟨w.heap.size,0,none⟩=false:=by rw [←hW1]; simp [go_sem]
 have cN:=hid (ydV a cap l W1 hl hlc (hs.below hB1) hno hok (hT.later hB1))
 have cH:=hid (fun W=>ykN t W)
 have g1:=held_le t
 obtain ⟨T,hh0⟩:∃x,ycz t=x:=⟨_,rfl⟩
 have hP:Hid (ydh l t=if yaj l≠0 then (0,yaj l) else yim (yaT l 0 (T - 1)).reverse):=by show _ = _; rw [ydh,hh0]
 rw [hh0] at cH g1
 obtain ⟨pr,hpr⟩:∃x,ydh l t=x:=⟨_,rfl⟩
 rw [hpr] at hP⊢
 have HB1:=hid hB1
 have HW1:=hid hW1
 have S1:=hid s1
 have C1:=hid hC1
 have Ht0:Hid (0 < w.heap.size):=hT.1
 clear hW1 hB1 hs hok hT s1 hno hlc hh0 hpr hC1
 refine (wf_calls (r:=none) (n:=1)).mp ?_
 refine callsIn_of_wp_marks Tryz.func51 rfl trivial ?_ rfl
 simp only [Tryz.ntmps51,List.size_toArray,List.length_cons,List.length_nil,Nat.reduceAdd,Nat.reduceSub,Array.replicate_succ,Array.replicate_zero,List.push_toArray,List.append_toArray,List.nil_append,List.cons_append]
 gi_wp2_with fail
 rw [HW1.out]
 refine (wf_calls.mpr cN.out).mono ?_
 rintro e w2 ⟨hN,hB2⟩
 have hB02:=hid (HB1.out.trans (hB2.mono HB1.out.size))
 have S2:Hid (w.heap.size+3≤w2.heap.size):=by have:=hB2.size; have:=S1.out; show _≤_; omega
 have C2:Hid (PvC w.heap.size t 0 0 (fun b=>b=w.heap.size∨b=w.heap.size+1∨b=w.heap.size+1+1) w2):=C1.out.keep hB2.size (fun c hc=>hB2.block c (C1.out.two.lt c hc))
 have z32:=(hB2.frozen (p:=⟨w.heap.size,0,none⟩) (by have:=S1.out; simp only []; omega)).trans z3
 rcases hN with ⟨hf,rfl⟩ | ⟨hf,br,bk,bps,rfl,hR,hM⟩
 ·have hpr:Hid (pr= (0,yaj l)):=by show _ = _; rw [hP.out,if_pos hf]
  have hBf:Hid (Below w.heap.size w ((w2.setCell ⟨w.heap.size+1,0,none⟩ (.int .i64 0)).setCell ⟨w.heap.size+1+1,0,none⟩ (.int .i64 (yaj l)))):=yab (yab hB02.out (by omega)) (by omega)
  obtain ⟨X,hX⟩:∃X,yaj l=X:=⟨_,rfl⟩
  rw [hX] at hf hpr hBf⊢
  have HX:=hid (C2.out.two.set (x':=0) (y':=X))
  obtain ⟨⟨c4,c5,f4,f5,-,-,-⟩,-,-⟩:=C2.out
  have hX0:(X == 0)=false:=by simpa using hf
  have hX1:(X != 0)=true:=by simpa using hf
  clear hB2 hX hP z3 z32
  gi_wp2
  obtain ⟨d4,d5,-,-,-,-,-⟩:=HX.out
  refine ⟨_,?_,by rw [hpr.out],hBf.out⟩
  simp [results,Tryz.results51,go_sem,d4,d5]
 ·have Hf:=hid hf
  have HR:=hid hR
  have HM:=hid hM
  have c32:=C2.out.c3
  clear hB2 z3 hR hM hf
  gi_wp2_with fail
  refine (wf_calls.mpr (cH.out w2)).mono ?_
  rintro e wx ⟨rfl,hwx⟩
  rw [hwx]
  clear cH hwx
  obtain ⟨w3,hw3⟩:∃w3,w2.setCell ⟨w.heap.size,0,none⟩ (.int .i64 T)=w3:=⟨_,rfl⟩
  have sz3:w3.heap.size=w2.heap.size:=by rw [←hw3]; simp
  have C3:PvC w.heap.size T 0 0 (fun b=>b=w.heap.size∨b=w.heap.size+1∨b=w.heap.size+1+1) w3:=by
   obtain ⟨⟨c4,c5,f4,f5,h1,h2,h3⟩,c3,o3⟩:=C2.out
   refine ⟨⟨?_,?_,?_,?_,h1,h2,fun c hc=>by rw [sz3]; exact h3 c hc⟩,?_,o3⟩ <;> (rw [←hw3]; simp [go_sem,c4,c5,f4,f5,c3])
  have B3:Below w.heap.size w w3:=by rw [←hw3]; exact yab hB02.out (zG _)
  have hHP:=hid hP.out
  by_cases h1:T < 1
  ·have e1:decide (T < 1)=true:=zzZ h1
   have hpr:Hid (pr= (0,15)):=by
    show _ = _
    rw [hHP.out,if_neg (by rw [Hf.out]; simp),yhj (by omega)]; rfl
   have hBf:Hid (Below w.heap.size w ((w3.setCell ⟨w.heap.size+1,0,none⟩ (.int .i64 0)).setCell ⟨w.heap.size+1+1,0,none⟩ (.int .i64 15))):=yab (yab B3 (by omega)) (by omega)
   have HX:=hid (C3.two.set (x':=0) (y':=15))
   have k3:=C3.c3
   obtain ⟨⟨c4,c5,f4,f5,-,-,-⟩,-,-⟩:=C2.out
   have Hw3:=hid hw3
   rw [←hw3] at k3
   clear hP hw3 sz3 B3 h1 C3
   gi_wp2
   rw [Hw3.out]
   obtain ⟨d4,d5,-,-,-,-,-⟩:=HX.out
   refine ⟨_,?_,by rw [hpr.out],hBf.out⟩
   simp [results,Tryz.results51,go_sem,d4,d5]
  ·have e1:decide (T < 1)=false:=zzd h1
   have t1:1≤T:=by omega
   have k3:=C3.c3
   have HC3:=hid C3
   have HB3:=hid B3
   have Hw3:=hid hw3
   have SZ3:=hid sz3
   clear hP hw3 sz3 B3 h1 C3 k3
   gi_wp2_with fail
   rw [Hw3.out]
   have hFb:∀b,FNew W1 w2 b→b≠w.heap.size∧b≠w.heap.size+1∧b≠w.heap.size+1+1:=fun b hb=>by
    have:=S1.out; have:=Ht0.out
    rcases hb with hb | hb <;> omega
   have HR3:Hid (RollS w3 l br bk bps (FNew W1 w2) (fun _=>false) 0):=HR.out.keep (by rw [SZ3.out]; exact zG _) (fun b hb=>by rw [←Hw3.out]; exact Below.heap_setCell _ _ _ _ (hFb b hb).1)
   have HFb:=hid hFb
   have cB:=hid (ykT 0 ((T - 1) / 86400) HR3.out (InvS 0) (zG 0))
   have hbr:=yiv l (f:=0) (t:=(T - 1) / 86400) (by omega) (by omega)
   have hclip:=back_clip l T
   obtain ⟨X1,hX1⟩:∃X,bndF l 0=X:=⟨_,rfl⟩
   obtain ⟨X2,hX2⟩:∃X,bndU l ((T - 1) / 86400)=X:=⟨_,rfl⟩
   rw [hX1,hX2] at cB hbr hclip
   have tl:=ykS (cs:=l) (br:=br) (bk:=bk) (bps:=bps) InvS (w3.heap.size+2) (w3.heap.size+1) w3.heap.size X1 X2 hbr.1 hbr.2.1 hbr.2.2.1 hbr.2.2.2
    (fun j n ws m ws' m' hn hi hs=>ye5 hi hs) (fun j ws m hi hj=>by rw [List.length_reverse,yaO] at hj; rw [InvS] at hi; omega)
   rw [hclip] at tl
   obtain ⟨L,hL⟩:∃L,(yai X1 X2).reverse.length=L:=⟨_,rfl⟩
   rw [hL] at tl
   have TL:=hid tl
   have hP2:Hid (pr=yim (yaT l 0 (T - 1)).reverse):=by show _ = _; rw [hHP.out,if_neg (by rw [Hf.out]; simp)]
   clear hFb hbr hclip tl hL hX1 hX2 z32 c32
   refine (wf_calls.mpr cB.out).mono ?_
   rintro e w4 ⟨rfl,hB4,hl4,hHA⟩
   have HB4:=hid (HB3.out.trans (hB4.mono HB3.out.size))
   have C4:=hid (HC3.out.keep hB4.size (fun c hc=>hB4.block c (HC3.out.two.lt c hc)))
   have HHA:=hid hHA
   have S3:Hid (w.heap.size+3≤w3.heap.size):=by show _≤_; rw [SZ3.out]; exact S2.out
   have HFO:Hid (∀b,F3 (FNew W1 w2) w3.heap.size b→¬(b=w.heap.size∨b=w.heap.size+1∨b=w.heap.size+1+1)):=fun b hb h=>by
    have:=S3.out
    rcases hb with hb | hb
    ·have:=HFb.out b hb; omega
    ·omega
   clear hB4 hHA cB e1
   gi_wp2_with fail
   refine ycN (F:=F3 (FNew W1 w2) w3.heap.size) (M:=RM br bk bps) (gf:=144) (lb:=#[.pointer (some ⟨w3.heap.size+2,0,none⟩), .pointer (some ⟨w3.heap.size+1,0,none⟩), .pointer (some ⟨w3.heap.size,0,none⟩)]) rfl yeW (fun b=>b=w.heap.size∨b=w.heap.size+1∨b=w.heap.size+1+1)
    (fun k vs F W h=>by obtain ⟨_,_,_,_,_,rfl,_⟩:=h; rfl) TL.out HA.host HA.host HA.hostE HHA.out HFO.out
    (PvI l w.heap.size T) (PvX l w.heap.size T) (yge _ _ _ _) (pvX_stab _ _ _ _) (pvI_lt _ _ _) (pvX_lt _ _ _) ⟨C4.out,late_zero _ _⟩
    (fun k O F a' W=>PvI l w.heap.size T k O F W∧∃bx n d,(yeg l T)[k]? =some n∧SkD l (RM br bk bps) n d bx O F W∧PvT (.slice a l.length cap) (.int .i64 t) undef (.pointer (some ⟨w.heap.size,0,none⟩)) (.pointer (some ⟨w.heap.size+1,0,none⟩)) (.pointer (some ⟨w.heap.size+1+1,0,none⟩)) (.pointer (some ⟨br,0,none⟩)) (.int .i64 0) (.pointer (some ⟨bx,0,none⟩)) (.pointer (some ⟨d,0,none⟩)) [] a')
    ?putl ?assign ?body ?done ?stop
   case putl=>
    rintro l' o k O F a' W hr hnO hnF ⟨h1,bx,n,d,h3,h4,h5⟩
    have ko:∀b,O b∨(F b∧¬RM br bk bps b)→(W.putObj l' o).heap[b]? =W.heap[b]?:=fun b hb=>World.putObj_heap_other (fun e=>hb.elim (fun h=>hnO (e ▸ h)) (fun h=>hnF (e ▸ h.1)))
    exact ⟨yge _ _ _ (RM br bk bps) k O F F W _ h1 (by rw [World.putObj_size]; exact zG _) (fun _ h=>h) ko,bx,n,d,h3,h4.put hr hnF,h5⟩
   case assign=>
    rintro l' k O6 F6 W6 vs K hk hJ6 hFl ⟨n,d,hn,h0,h1,rfl,hd,ht,hlt⟩ hG6 hK
    rw [←yaK]
    obtain ⟨s,hs⟩:∃s,shF n=s:=⟨_,rfl⟩
    rw [hs,shq]
    have Hs:=hid hs
    have HP:=hid (And.intro hJ6 (And.intro hFl (And.intro hn (And.intro hd (And.intro ht (And.intro hlt hG6))))))
    clear hs hJ6 hFl hn hd ht hlt hG6 h0 h1
    gi_wp2
    obtain ⟨hJ6,hFl,hn,hd,ht,hlt,hG6⟩:=HP.out
    have hbel:=yaa (o:= .cells (yaV s).toArray 88) (Below.refl W6.heap.size W6) (zG _)
    have hlO:=pvI_lt _ _ _ _ _ _ _ hJ6
    refine hK _ O6 _ (Grow.of_below hbel) ⟨yge _ _ _ (RM br bk bps) _ O6 F6 F6 W6 _ hJ6 hbel.size (fun _ h=>h) (fun b hb=>hbel.block b (hb.elim (hlO b) (fun h=>hlt b h.1))),W6.heap.size,n,d,hn,
     ⟨fun b hb=>(hFl b hb).1,⟨hd.1,hd.2.1,hd.2.2.block hbel.size (hbel.block d (hlt d hd.1))⟩,⟨ht.1.later hbel,ht.2.1⟩,fun b hb=>zH (hlt b hb) hbel.size,by simp,⟨fun h=>by have:=hlO _ h; omega,fun h=>by have:=hlt _ h; omega⟩,by rw [Hs.out]; exact ybL W6 88 _ _ _ _ _ _ _ _ _ _⟩,PvT.of⟩
   case done=>
    rintro O9 F9 w9 hG9 hHN hFs hFn hFO9 ⟨hI,hLt⟩ hD hnD hnF
    have hpr:Hid (pr= (0,15)):=by
     show _ = _
     rw [hP2.out,head_none (fun y hy=>late_none hLt rfl hy)]
    have hI2:=hI.two
    have HX:=hid (hI2.set (x':=0) (y':=15))
    have HB9:Hid (Below w.heap.size w w9):=HB4.out.trans (hG9.eff.below (fun b hb=>by
     rcases hb with (h | h | h) | h
     ·omega
     ·omega
     ·omega
     ·have:=HM.out b h; have:=S1.out; omega) HB4.out.size)
    have HDx:Hid (((w9.setCell ⟨w.heap.size+1,0,none⟩ (.int .i64 0)).setCell ⟨w.heap.size+1+1,0,none⟩ (.int .i64 15)).heap[w4.heap.size]? =some (.deferred (some []))):=by
     show _ = _
     rw [Below.heap_setCell _ _ _ _ (fun e=>hnD (by rw [e]; exact hI2.o5)),Below.heap_setCell _ _ _ _ (fun e=>hnD (by rw [e]; exact hI2.o4))]
     exact hD
    have HND:=hid hnD
    obtain ⟨c4,c5,f4,f5,-,-,-⟩:=hI2
    clear hG9 hHN hFs hFn hFO9 hnD hnF hD hLt hI
    gi_wp2
    refine ⟨by simp, .inl ⟨_,_,rfl,run_takeDeferred HDx.out,?_⟩⟩
    have hBf:=ybc (yab (yab HB9.out (by omega)) (by omega):Below w.heap.size w ((w9.setCell ⟨w.heap.size+1,0,none⟩ (.int .i64 0)).setCell ⟨w.heap.size+1+1,0,none⟩ (.int .i64 15))) HB4.out.size (.deferred none)
    have hX2:=HX.out.keep (W':=((w9.setCell ⟨w.heap.size+1,0,none⟩ (.int .i64 0)).setCell ⟨w.heap.size+1+1,0,none⟩ (.int .i64 15)).putObj w4.heap.size (.deferred none)) (by rw [World.putObj_size]; exact zG _) (fun b hb=>World.putObj_heap_other (fun e=>HND.out (e ▸ hb)))
    refine ⟨.tuple #[.int .i64 0, .int .i64 15],?_,by rw [hpr.out],hBf⟩
    obtain ⟨WF,hWF⟩:∃W,((w9.setCell ⟨w.heap.size+1,0,none⟩ (.int .i64 0)).setCell ⟨w.heap.size+1+1,0,none⟩ (.int .i64 15)).putObj w4.heap.size (.deferred none)=W:=⟨_,rfl⟩
    rw [hWF] at hX2
    obtain ⟨c4,c5,-,-,-,-,-⟩:=hX2
    rw [hWF]
    simp [results,Tryz.results51,go_sem,c4,c5]
   case stop=>
    rintro c k O9 F9 w9 hk1 hk2 hG9 hHN hFs hFn hFO9 ⟨rfl,x,hx,hX⟩ hD hnD hnF
    have hX':TwoC (w.heap.size+1) x 0 O9 (w9.putObj w4.heap.size (.deferred none)):=hX.keep (by rw [World.putObj_size]; exact zG _) (fun b hb=>World.putObj_heap_other (fun e=>hnD (e ▸ hb)))
    have hBf:Hid (Below w.heap.size w (w9.putObj w4.heap.size (.deferred none))):=ybc (HB4.out.trans (hG9.eff.below (fun b hb=>by
     rcases hb with (h | h | h) | h
     ·omega
     ·omega
     ·omega
     ·have:=HM.out b h; have:=S1.out; omega) HB4.out.size)) HB4.out.size _
    have HD:=hid hD
    have HX:=hid hX'
    have hpr:Hid (pr= (x,0)):=by
     show _ = _
     rw [hP2.out,head_last hx]
    clear hX hG9 hD hX' hHN hFs hFn hFO9 hnD hnF hx
    gi_wp2
    refine ⟨by simp, .inl ⟨_,_,rfl,run_takeDeferred HD.out,?_⟩⟩
    obtain ⟨c4,c5,-,-,-,-,-⟩:=HX.out
    refine ⟨.tuple #[.int .i64 x, .int .i64 0],?_,by rw [hpr.out],hBf.out⟩
    simp [results,Tryz.results51,go_sem,c4,c5]
   case body=>
    rintro l3 k O6 F6 a' W6 hk hG6 hl3 hrec6 hnl3 hnF3 ⟨⟨hI6,hN6⟩,bx,n,d,en,hD,V,rfl⟩
    have hmem:=yhx.1 (List.mem_of_getElem? en)
    obtain ⟨lo,hlo⟩:∃lo:Nat,(lo:Int)=min (T - 1 - 86400 * n) 86399:=⟨(min (T - 1 - 86400 * n) 86399).toNat,by omega⟩
    have cP:=hid (yk6 d (dayQ l n) lo W6 (by omega) hD.di.2.2)
    have cP1:Hid (∀v:Int,v=lo→Calls Tryz.prog 98 #[.pointer (some ⟨d,0,none⟩), .int .i64 v] W6 fun r w'=>(∃n2 ok,r= .returned (.tuple #[.int .i64 n2, .bool ok])∧LastOf (fun k=>dayQ l n k && decide (k≤lo)) n2 ok)∧w' =W6):=by
     rintro v rfl; exact cP.out
    obtain ⟨s,hs⟩:∃s,shF n=s:=⟨_,rfl⟩
    have hs0:s 0=n:=by rw [←hs]; rfl
    have hsh:=hD.sh
    rw [hs] at hsh
    obtain ⟨s0,-⟩:=hsh
    rw [hs0] at s0
    have n0:=hmem.1
    have n1:n < 146097:=by omega
    have k3:=hI6.c3
    have HI6:=hid hI6
    have HN6:=hid hN6
    have En:=hid en
    have Hlo:=hid hlo
    obtain ⟨⟨c4,c5,f4,f5,-,-,-⟩,-,-⟩:=hI6
    clear hG6 hs hs0 hD hmem hk hN6 en hlo cP
    gi_wp2_with fail
    all_goals
     refine (wf_calls.mpr (cP1.out _ (by have:=Hlo.out; omega))).mono ?_
     rintro e w7 ⟨⟨a7,ok7,rfl,hF7⟩,hw7⟩
     rw [hw7]
     clear hw7 cP1
     cases ok7
     ·have HN7:=hid (late_more HN6.out En.out Hlo.out hF7)
      clear hF7 s0
      gi_wp2
      exact ⟨O6,⟨fun _ h=>h,fun _ h=> .inl h,Eff.refl _ _⟩,HI6.out,HN7.out⟩
     ·have HL7:=hid (late_last HN6.out En.out Hlo.out hF7)
      have a70:0≤a7∧a7 < 86400:=by
       rcases hF7 with ⟨-,j,rfl,hj,-⟩ | ⟨h,-⟩
       ·omega
       ·cases h
      obtain ⟨a0,a1⟩:=a70
      clear hF7 s0
      gi_wp2
      have hHL:=HL7.out
      first
       | exact ⟨O6,⟨fun _ h=>h,fun _ h=> .inl h,((Eff.refl O6 W6).set HI6.out.two.o4 _ _).set HI6.out.two.o5 _ _⟩,rfl,_,hHL,HI6.out.two.set⟩
       | (rw [Int.mul_comm] at hHL; exact ⟨O6,⟨fun _ h=>h,fun _ h=> .inl h,((Eff.refl O6 W6).set HI6.out.two.o4 _ _).set HI6.out.two.o5 _ _⟩,rfl,_,hHL,HI6.out.two.set⟩)
theorem ykM (a:Option Addr) (cap:Nat) (l:List Cl) (w:World) (hl:l.length≤9223372036854775807) (hlc:l.length≤cap) (hs:Sl w a (cls l)) (hno:a=none→cap=0) (hok:∀c∈l,c.Ok) (hT:Tab w) :
  Calls Tryz.prog 16 #[.slice a l.length cap] w fun e w'=>e= .returned (.tuple #[.int .i64 (ydh l 12622780800).1, .int .i64 (ydh l 12622780800).2])∧Below w.heap.size w w':=by
 have cN:=hid (ykL a cap l 12622780800 w hl hlc hs hno hok hT)
 obtain ⟨pr,hpr⟩:∃x,ydh l 12622780800=x:=⟨_,rfl⟩
 rw [hpr] at cN⊢
 clear hs hno hok hT hpr
 go_enter Tryz.func16,Tryz.ntmps16
 go_wp2_with fail
 refine cN.out.mono ?_
 rintro e w2 ⟨rfl,hB⟩
 have HB:=hid hB
 clear hB
 go_wp2
 go_ret2
 exact ⟨rfl,HB.out⟩
end
section
open Go.RowKit Go.Maps
theorem held_lt {t y:Int} (h0:0≤y) (h1:y < 12622780800):ycz t+1≤y↔t < y:=by rw [ycz]; omega
theorem held_gt {t y:Int} (h0:0≤y) (h1:y < 12622780800):y≤ycz t - 1↔y < t:=by rw [ycz]; omega
def NextI (cs:List Cl) (t x:Int):Prop:=yav cs x=true∧t < x∧∀y,t < y→y < x→yav cs y=false
theorem ykf {l:List Cl} {t:Int} (h:yaj l=0):(∃x,ykg l t= (x,0)∧NextI l t x)∨(ykg l t= (0,15)∧∀y,t < y→yav l y=false):=by
 rw [ykg,if_neg (by simp [h])]
 have hp:=yaZ l (ycz t+1) 12622780799
 have hm:∀y,y∈yaT l (ycz t+1) 12622780799↔t < y∧yav l y=true:=fun y=>by
  rw [yaA]
  constructor
  ·rintro ⟨h1,h2,h3⟩
   have:=ybp h3
   exact ⟨(held_lt this.1 this.2).1 h1,h3⟩
  ·rintro ⟨h1,h3⟩
   have:=ybp h3
   exact ⟨(held_lt this.1 this.2).2 h1,by omega,h3⟩
 generalize yaT l (ycz t+1) 12622780799=L at *
 cases L with
 | nil=>
   refine .inr ⟨rfl,fun y hy=>?_⟩
   cases e:yav l y
   ·rfl
   ·have:=(hm y).2 ⟨hy,e⟩; cases this
 | cons x L=>
   have hx:=(hm x).1 (by simp)
   refine .inl ⟨x,rfl,hx.2,hx.1,fun y h1 h2=>?_⟩
   cases e:yav l y
   ·rfl
   ·rcases List.mem_cons.1 ((hm y).2 ⟨h1,e⟩) with h3 | h3
    ·omega
    ·have:=(List.pairwise_cons.1 hp).1 y h3; omega
theorem yfJ {l:List Cl} {t:Int} (h:yaj l=0):(∃x,ydh l t= (x,0)∧LastI l t x)∨(ydh l t= (0,15)∧∀y,y < t→yav l y=false):=by
 rw [ydh,if_neg (by simp [h])]
 have hp:(yaT l 0 (ycz t - 1)).reverse.Pairwise (·> ·):=List.pairwise_reverse.2 (yaZ l 0 (ycz t - 1))
 have hm:∀y,y∈(yaT l 0 (ycz t - 1)).reverse↔y < t∧yav l y=true:=fun y=>by
  rw [List.mem_reverse,yaA]
  constructor
  ·rintro ⟨h1,h2,h3⟩
   have:=ybp h3
   exact ⟨(held_gt this.1 this.2).1 h2,h3⟩
  ·rintro ⟨h1,h3⟩
   have:=ybp h3
   exact ⟨this.1,(held_gt this.1 this.2).2 h1,h3⟩
 generalize (yaT l 0 (ycz t - 1)).reverse=L at *
 cases L with
 | nil=>
   refine .inr ⟨rfl,fun y hy=>?_⟩
   cases e:yav l y
   ·rfl
   ·have:=(hm y).2 ⟨hy,e⟩; cases this
 | cons x L=>
   have hx:=(hm x).1 (by simp)
   refine .inl ⟨x,rfl,hx.2,hx.1,fun y h1 h2=>?_⟩
   cases e:yav l y
   ·rfl
   ·rcases List.mem_cons.1 ((hm y).2 ⟨h2,e⟩) with h3 | h3
    ·omega
    ·have:=(List.pairwise_cons.1 hp).1 y h3; omega
theorem nextP_is {l:List Cl} {t x:Int} (h:yaj l=0) (hx:NextI l t x):ykg l t= (x,0):=by
 obtain ⟨h1,h2,h3⟩:=hx
 rcases ykf (t:=t) h with ⟨y,e,g1,g2,g3⟩ | ⟨e,g⟩
 ·rw [e]
  by_cases h4:x < y
  ·have:=g3 x h2 h4; rw [h1] at this; cases this
  ·by_cases h5:y < x
   ·have:=h3 y g2 h5; rw [g1] at this; cases this
   ·rw [show x=y by omega]
 ·have:=g x h2; rw [h1] at this; cases this
theorem prevP_is {l:List Cl} {t x:Int} (h:yaj l=0) (hx:LastI l t x):ydh l t= (x,0):=by
 obtain ⟨h1,h2,h3⟩:=hx
 rcases yfJ (t:=t) h with ⟨y,e,g1,g2,g3⟩ | ⟨e,g⟩
 ·rw [e]
  by_cases h4:y < x
  ·have:=g3 x h4 h2; rw [h1] at this; cases this
  ·by_cases h5:x < y
   ·have:=h3 y h5 g2; rw [g1] at this; cases this
   ·rw [show x=y by omega]
 ·have:=g x h2; rw [h1] at this; cases this
end
section
open Go.RowKit Go.Maps
attribute [local go_sem] Oper.semAt_some
structure SmC (b5 bg base:Nat) (many:Int) (xs:List Int) (k:Nat) (O:Nat→Prop) (W:World) (v:Value):Prop where
 cg:W.cell? ⟨bg,0,none⟩=some v
 c5:W.cell? ⟨b5,0,none⟩=some (.int .i64 many)
 own:W.ownsRow base 2 1 v k (ints (xs.take k))
 fg:W.frozen? ⟨bg,0,none⟩=false
 lg:bg < base
 l5:b5 < base
 ne:bg≠b5
 bs:base≤W.heap.size
 og:O bg
 o5:O b5
 ov:∀b,v.ownBlock=some b→O b
 lt:∀b,O b→b < W.heap.size
theorem SmC.keep {b5 bg base:Nat} {many:Int} {xs:List Int} {k:Nat} {O:Nat→Prop} {W W':World} {v:Value} (h:SmC b5 bg base many xs k O W v) (hs:W.heap.size≤W'.heap.size) (hO:∀b,O b→W'.heap[b]? =W.heap[b]?):SmC b5 bg base many xs k O W' v:=
 ⟨(zzJ (w:=W) (a:=⟨bg,0,none⟩) (hO bg h.og)).trans h.cg,(zzJ (w:=W) (a:=⟨b5,0,none⟩) (hO b5 h.o5)).trans h.c5,yaL h.own (fun b hb=>hO b (h.ov b hb)),
   (zzM (w:=W) (a:=⟨bg,0,none⟩) (hO bg h.og)).trans h.fg,h.lg,h.l5,h.ne,zI h.bs hs,h.og,h.o5,h.ov,fun b hb=>zH (h.lt b hb) hs⟩
def SmT (h0 h1 h2 h3 h4 h5 h6 h7:Value) (ds:List Deferred) (a:Act):Prop:=∃u:Nat→Value,a= {tmps:=#[h0,h1,h2,h3,h4,h5,u 0,u 1,u 2,u 3,h6,h7,u 4,u 5,u 6,u 7,u 8,u 9,u 10,u 11,u 12,u 13,u 14,u 15,u 16,u 17,u 18,u 19,u 20,u 21,u 22,u 23,u 24,u 25,u 26,u 27,u 28,u 29,u 30,u 31,u 32],defers:=ds}
theorem SmT.of {h0 h1 h2 h3 h4 h5 h6 h7 u6 u7 u8 u9 u12 u13 u14 u15 u16 u17 u18 u19 u20 u21 u22 u23 u24 u25 u26 u27 u28 u29 u30 u31 u32 u33 u34 u35 u36 u37 u38 u39 u40:Value} {ds:List Deferred}:SmT h0 h1 h2 h3 h4 h5 h6 h7 ds {tmps:=#[h0,h1,h2,h3,h4,h5,u6,u7,u8,u9,h6,h7,u12,u13,u14,u15,u16,u17,u18,u19,u20,u21,u22,u23,u24,u25,u26,u27,u28,u29,u30,u31,u32,u33,u34,u35,u36,u37,u38,u39,u40],defers:=ds}:=
 ⟨fun i=>(#[u6,u7,u8,u9,u12,u13,u14,u15,u16,u17,u18,u19,u20,u21,u22,u23,u24,u25,u26,u27,u28,u29,u30,u31,u32,u33,u34,u35,u36,u37,u38,u39,u40]:Array Value).getD i undef,rfl⟩
end
section
open Go.RowKit Go.Maps
theorem yj0 {L:List Int} (hp:L.Pairwise (·< ·)) {i j:Nat} (hi:i < L.length) (hj:j < L.length):L[i] < L[j]↔i < j:=by
 rw [List.pairwise_iff_getElem] at hp
 constructor
 ·intro h
  rcases Nat.lt_trichotomy i j with h1 | h1 | h1
  ·exact h1
  ·subst h1; omega
  ·have:=hp j i hj hi h1; omega
 ·exact hp i j hi hj
end
end Go.Proofs.YtjahgimnfliooaaGreatDoor
