/-
  Small functions over lists of numbers: rule.outside, rule.mixed, slices' functions of them.
  Small functions over lists of weekdays; rules in memory.
  feriaref32: out, signs, list; rule.list.
  feriaref32.signs.
-/
import Derived.Test.YtjahgimnfliooaaGreatDoorQc1e868
set_option maxRecDepth 100000
set_option maxHeartbeats 25600000
namespace Go.Proofs.YtjahgimnfliooaaGreatDoor
set_option linter.unusedVariables false
section
open Go.RowKit
def outP (lo hi n:Int):Bool:=decide (n < lo) || decide (hi < n)
def outB (lo hi:Int) (l:List Int):Bool:=l.any (outP lo hi)
def idxP (p:Int→Bool):List Int→Int
 | []=>-1
 | x :: l=>if p x then 0 else if idxP p l < 0 then -1 else idxP p l+1
theorem ygp (p:Int→Bool):∀l:List Int,(decide (0≤idxP p l)=l.any p)∧-1≤idxP p l
 | []=>⟨rfl,Int.le_refl _⟩
 | x :: l=>by
   obtain ⟨h,h1⟩:=ygp p l
   rw [idxP,List.any_cons]
   by_cases hx:p x=true
   ·rw [if_pos hx,hx]; exact ⟨rfl,by omega⟩
   ·rw [if_neg hx]
    have hx':p x=false:=by simpa using hx
    rw [hx',Bool.false_or,←h]
    by_cases h0:idxP p l < 0
    ·rw [if_pos h0,zzd (by omega:¬0≤idxP p l)]; exact ⟨rfl,by omega⟩
    ·rw [if_neg h0,zzZ (by omega:0≤idxP p l),zzZ (by omega:0≤idxP p l+1)]; exact ⟨rfl,by omega⟩
theorem idxP_at {p:Int→Bool} {l:List Int}:∀{k:Nat} (hk:k < l.length),(∀x∈l.take k,p x=false)→p l[k]=true→idxP p l=k:=by
 induction l with
 | nil=>intro k hk; simp at hk
 | cons x l ih=>
   intro k hk h1 h2
   cases k with
   | zero=>rw [idxP]; simp only [zC] at h2; rw [if_pos h2]; rfl
   | succ k=>
     have hk':k < l.length:=by simpa using hk
     have hx:p x=false:=h1 x (by simp)
     have:=ih hk' (fun y hy=>h1 y (by simp [hy])) (by simpa using h2)
     rw [idxP,hx,if_neg (by simp),this,if_neg (by omega)]
     omega
theorem yff {p:Int→Bool}:∀{l:List Int},(∀x∈l,p x=false)→idxP p l= -1
 | [],_=>rfl
 | x :: l,h=>by
   rw [idxP,h x (by simp),if_neg (by simp),yff (fun y hy=>h y (by simp [hy])),if_pos (by omega)]
theorem yb2 {p:Int→Bool} {l:List Int} {k:Nat} {y:Int} (ht:l.take (k+1)=l.take k ++ [y]) (h:∀x∈l.take k,p x=false) (hy:p y=false):∀x∈l.take (k+1),p x=false:=by
 rw [ht]
 intro x hx
 rcases List.mem_append.1 hx with hx | hx
 ·exact h x hx
 ·obtain rfl:=List.mem_singleton.1 hx; exact hy
theorem Out1_any (n lo hi:Int) (b4 b5:Nat) (w:World) (h4:w.cell? ⟨b4,0,none⟩=some (.int .i64 lo)) (h5:w.cell? ⟨b5,0,none⟩=some (.int .i64 hi)) :
  Calls Tryz.prog 169 #[.int .i64 n, .pointer (some ⟨b4,0,none⟩), .pointer (some ⟨b5,0,none⟩)] w fun e w'=>e= .returned (.bool (outP lo hi n))∧w=w':=by
 rw [outP]
 by_cases h:n < lo
 ·have hd:decide (n < lo)=true:=zzZ h
  rw [hd]
  clear hd
  go_enter Tryz.func169,Tryz.ntmps169
  go_wp2
  go_ret
  exact ⟨rfl,rfl⟩
 ·have hd:decide (n < lo)=false:=zzd h
  rw [hd]
  clear hd
  go_enter Tryz.func169,Tryz.ntmps169
  go_wp2
  go_ret
  exact ⟨rfl,rfl⟩
theorem ykA (a:Option Addr) (cap:Nat) (l:List Int) (lo hi:Int) (b4 b5:Nat) (w:World) (hl:l.length≤9223372036854775807) (hs:Sl w a (ints l))
  (h4:w.cell? ⟨b4,0,none⟩=some (.int .i64 lo)) (h5:w.cell? ⟨b5,0,none⟩=some (.int .i64 hi)) :
  Calls Tryz.prog 187 #[.slice a l.length cap, .func (.func 169) #[] #[.pointer (some ⟨b4,0,none⟩), .pointer (some ⟨b5,0,none⟩)]] w fun e w'=>e= .returned (.int .i64 (idxP (outP lo hi) l))∧w=w':=by
 have Hs:=hid hs
 have c1:=hid (fun n=>Out1_any n lo hi b4 b5 w h4 h5)
 have hlI:(l.length:Int)≤9223372036854775807:=by omega
 clear hs hl h4 h5
 go_enter Tryz.func187,Tryz.ntmps187
 go_wp2
 go_loopw [8] (fun i wr=>∃k:Nat,i= .int .i64 k∧k≤l.length∧Hid (∀x∈l.take k,outP lo hi x=false)∧wr=w) (fun i _=>l.length - (intOf i).toNat)
 case atStart=>exact ⟨0,rfl,by omega,by show∀x,_; simp,rfl⟩
 case round=>
  obtain ⟨k,rfl,hk,hI,rfl⟩:=hrel
  by_cases hlt:k < l.length
  ·obtain ⟨b,off,rfl,hb,hc⟩:=Hs.out.atInt hlt
   have e1:=hc k hlt
   have ht:=hid (yam l k hlt)
   have hat:=hid (fun h=>idxP_at (p:=outP lo hi) hlt hI.out h)
   obtain ⟨y,hy⟩:∃y,l[k]=y:=⟨_,rfl⟩
   rw [hy] at e1 ht hat
   clear hc hy
   obtain ⟨q,hq⟩:∃q,outP lo hi y=q:=⟨_,rfl⟩
   have c2:=hid (c1.out y)
   rw [hq] at c2
   have Hq:=hid hq
   clear hq
   cases q
   ·go_wp2_with fail
    refine c2.out.mono ?_
    rintro e w1 ⟨rfl,rfl⟩
    go_wp2
    exact ⟨⟨k+1,by go_num,by omega,yb2 ht.out hI.out Hq.out,by trivial⟩,by simp [intOf]; omega⟩
   ·go_wp2_with fail
    refine c2.out.mono ?_
    rintro e w1 ⟨rfl,rfl⟩
    go_wp2
    go_ret
    exact ⟨by rw [hat.out Hq.out]; rfl,by trivial⟩
  ·have hke:l.take k=l:=List.take_of_length_le (by omega)
   rw [hke] at hI
   have hr:=hid (yff hI.out)
   clear hke
   go_wp2
   go_ret
   exact ⟨by rw [hr.out]; rfl,by trivial⟩
theorem yiz (a:Option Addr) (cap:Nat) (l:List Int) (lo hi:Int) (b4 b5:Nat) (w:World) (hl:l.length≤9223372036854775807) (hs:Sl w a (ints l))
  (h4:w.cell? ⟨b4,0,none⟩=some (.int .i64 lo)) (h5:w.cell? ⟨b5,0,none⟩=some (.int .i64 hi)) :
  Calls Tryz.prog 168 #[.slice a l.length cap, .func (.func 169) #[] #[.pointer (some ⟨b4,0,none⟩), .pointer (some ⟨b5,0,none⟩)]] w fun e w'=>e= .returned (.bool (outB lo hi l))∧w=w':=by
 have c1:=hid (ykA a cap l lo hi b4 b5 w hl hs h4 h5)
 have hr:=hid (ygp (outP lo hi) l).1
 rw [outB,←hr.out]
 clear hs hl h4 h5
 go_enter Tryz.func168,Tryz.ntmps168
 go_wp2_with fail
 refine c1.out.mono ?_
 rintro e w1 ⟨rfl,rfl⟩
 go_wp2
 go_ret
 exact ⟨rfl,rfl⟩
theorem ycv (a:Option Addr) (cap:Nat) (l:List Int) (lo hi:Int) (w:World) (hl:l.length≤9223372036854775807) (hs:Sl w a (ints l)) :
  Calls Tryz.prog 119 #[.slice a l.length cap, .int .i64 lo, .int .i64 hi] w fun e w'=>e= .returned (.bool (outB lo hi l))∧Below w.heap.size w w':=by
 have hB:Below w.heap.size w ((w.alloc (.cells #[.int .i64 lo] 3)).alloc (.cells #[.int .i64 hi] 3)):=yaa (yaa (Below.refl _ _) (zG _)) (by simp)
 have c1:=hid (yiz a cap l lo hi w.heap.size (w.heap.size+1) _ hl (hs.below hB) (by simp [go_sem]) (by simp [go_sem]))
 have HB:=hid hB
 clear hs hl hB
 go_enter Tryz.func119,Tryz.ntmps119
 go_wp2_with fail
 refine c1.out.mono ?_
 rintro e w1 ⟨rfl,rfl⟩
 go_wp2
 go_ret
 exact ⟨rfl,HB.out⟩
def negC (l:List Int):Nat:=l.countP (fun n=>decide (n < 0))
def posC (l:List Int):Nat:=l.countP (fun n=>decide (0 < n))
def yfx (l:List Int):Nat:=l.countP (fun n=>decide (n=0))
def mixB (l:List Int):Bool:=(decide (0 < negC l) && decide (0 < posC l+yfx l)) || (decide (0 < posC l) && decide (0 < yfx l))
theorem ydr (p:Int→Bool) {l:List Int} {k:Nat} {y:Int} (ht:l.take (k+1)=l.take k ++ [y]):(l.take (k+1)).countP p= (l.take k).countP p+(if p y then 1 else 0):=by
 rw [ht,List.countP_append]; simp [List.countP_cons]
theorem yhF (a:Option Addr) (cap:Nat) (l:List Int) (w:World) (hl:l.length≤1000000000000) (hs:Sl w a (ints l)) :
  Calls Tryz.prog 184 #[.slice a l.length cap] w fun e w'=>e= .returned (.bool (mixB l))∧w=w':=by
 have Hs:=hid hs
 have hlI:(l.length:Int)≤1000000000000:=by omega
 clear hs hl
 go_enter Tryz.func184,Tryz.ntmps184
 go_wp2
 go_loopw [3,4,5,10] (fun b c d i wr=>∃k x y z:Nat,i= .int .i64 k∧k≤l.length∧b= .int .i64 x∧c= .int .i64 y∧d= .int .i64 z∧Hid (x=negC (l.take k)∧y=posC (l.take k)∧z=yfx (l.take k))∧(x≤k∧y≤k∧z≤k)∧wr=w) (fun _ _ _ i _=>l.length - (intOf i).toNat)
 case atStart=>exact ⟨0,0,0,0,rfl,by omega,rfl,rfl,rfl,⟨rfl,rfl,rfl⟩,⟨by omega,by omega,by omega⟩,rfl⟩
 case round=>
  obtain ⟨k,x,y,z,rfl,hk,rfl,rfl,rfl,hI,⟨hx,hy,hz⟩,rfl⟩:=hrel
  by_cases hlt:k < l.length
  ·obtain ⟨b,off,rfl,hb,hc⟩:=Hs.out.atInt hlt
   have e1:=hc k hlt
   have ht:=hid (yam l k hlt)
   obtain ⟨v,hv⟩:∃v,l[k]=v:=⟨_,rfl⟩
   rw [hv] at e1 ht
   clear hc hv
   have n1:=hid (ydr (fun n=>decide (n < 0)) ht.out)
   have n2:=hid (ydr (fun n=>decide (0 < n)) ht.out)
   have n3:=hid (ydr (fun n=>decide (n=0)) ht.out)
   have h3:v < 0∨0 < v∨v=0:=by omega
   rcases h3 with h | h | h
   ·have hr:Hid (x+1=negC (l.take (k+1))∧y=posC (l.take (k+1))∧z=yfx (l.take (k+1))):=by
     refine ⟨?_,?_,?_⟩
     ·rw [negC,n1.out,if_pos (zzZ h),hI.out.1]; rfl
     ·rw [posC,n2.out,if_neg (by simp; omega),hI.out.2.1]; rfl
     ·rw [yfx,n3.out,if_neg (by simp; omega),hI.out.2.2]; rfl
    go_wp2
    exact ⟨⟨k+1,x+1,y,z,by go_num,by omega,by go_num,rfl,rfl,hr,⟨by omega,by omega,by omega⟩,by trivial⟩,by simp [intOf]; omega⟩
   ·have hr:Hid (x=negC (l.take (k+1))∧y+1=posC (l.take (k+1))∧z=yfx (l.take (k+1))):=by
     refine ⟨?_,?_,?_⟩
     ·rw [negC,n1.out,if_neg (by simp; omega),hI.out.1]; rfl
     ·rw [posC,n2.out,if_pos (zzZ h),hI.out.2.1]; rfl
     ·rw [yfx,n3.out,if_neg (by simp; omega),hI.out.2.2]; rfl
    have hn:¬v < 0:=by omega
    go_wp2
    exact ⟨⟨k+1,x,y+1,z,by go_num,by omega,rfl,by go_num,rfl,hr,⟨by omega,by omega,by omega⟩,by trivial⟩,by simp [intOf]; omega⟩
   ·have hr:Hid (x=negC (l.take (k+1))∧y=posC (l.take (k+1))∧z+1=yfx (l.take (k+1))):=by
     refine ⟨?_,?_,?_⟩
     ·rw [negC,n1.out,if_neg (by simp; omega),hI.out.1]; rfl
     ·rw [posC,n2.out,if_neg (by simp; omega),hI.out.2.1]; rfl
     ·rw [yfx,n3.out,if_pos (zzZ h),hI.out.2.2]; rfl
    have hn:¬v < 0:=by omega
    have hn':¬0 < v:=by omega
    clear h
    go_wp2
    exact ⟨⟨k+1,x,y,z+1,by go_num,by omega,rfl,rfl,by go_num,hr,⟨by omega,by omega,by omega⟩,by trivial⟩,by simp [intOf]; omega⟩
  ·have hke:l.take k=l:=List.take_of_length_le (by omega)
   rw [hke] at hI
   have hr:Hid (mixB l= ((decide (0 < x) && decide (0 < y+z)) || (decide (0 < y) && decide (0 < z)))):=by
    show _ = _
    rw [mixB,←hI.out.1,←hI.out.2.1,←hI.out.2.2]
   clear hke hI
   by_cases h1:0 < x
   ·by_cases h2:0 < y+z
    ·have h2':(0:Int) < y+z:=by omega
     have hf:Hid (mixB l=true):=by show _ = _; rw [hr.out,zzZ h1,zzZ h2]; rfl
     clear hr
     go_wp2
     go_ret
     exact ⟨by rw [hf.out]; rfl,by trivial⟩
    ·have h2':¬(0:Int) < y+z:=by omega
     have h3:¬0 < y:=by omega
     have hf:Hid (mixB l=false):=by show _ = _; rw [hr.out,zzd h2,zzd h3,Bool.and_false]; rfl
     clear hr
     go_wp2
     go_ret
     exact ⟨by rw [hf.out]; rfl,by trivial⟩
   ·by_cases h3:0 < y
    ·by_cases h4:0 < z
     ·have hf:Hid (mixB l=true):=by show _ = _; rw [hr.out,zzZ h3,zzZ h4,Bool.and_true,Bool.or_true]
      clear hr
      go_wp2
      go_ret
      exact ⟨by rw [hf.out]; rfl,by trivial⟩
     ·have hf:Hid (mixB l=false):=by show _ = _; rw [hr.out,zzd h1,zzd h4,Bool.and_false,Bool.false_and]; rfl
      clear hr
      go_wp2
      go_ret
      exact ⟨by rw [hf.out]; rfl,by trivial⟩
    ·have hf:Hid (mixB l=false):=by show _ = _; rw [hr.out,zzd h1,zzd h3,Bool.false_and,Bool.false_and]; rfl
     clear hr
     go_wp2
     go_ret
     exact ⟨by rw [hf.out]; rfl,by trivial⟩
end
section
open Go.RowKit
def nth2 (x:Int × Int):List Value:= [.int .i64 x.1, .int .i64 x.2]
def nths (l:List (Int × Int)):List Value:=l.flatMap nth2
theorem yh2 (l:List (Int × Int)):(nths l).length=l.length * 2:=by
 induction l with
 | nil=>rfl
 | cons x l ih=>simp only [nths,List.flatMap_cons,List.length_append,List.length_cons] at ih⊢; rw [ih]; simp [nth2]; omega
theorem nths_get (l:List (Int × Int)):∀(k:Nat) (hk:k < l.length),(nths l)[k * 2]? =some (.int .i64 l[k].1)∧(nths l)[k * 2+1]? =some (.int .i64 l[k].2):=by
 induction l with
 | nil=>intro k hk; simp at hk
 | cons x l ih=>
   intro k hk
   have e:nths (x :: l)=nth2 x ++ nths l:=by simp [nths]
   cases k with
   | zero=>simp [e,nth2]
   | succ k=>
     have hk':k < l.length:=by simpa using hk
     obtain ⟨h1,h2⟩:=ih k hk'
     have hl:(nth2 x).length=2:=rfl
     refine ⟨?_,?_⟩
     ·rw [e,List.getElem?_append_right (by rw [hl]; omega),hl,show (k+1) * 2 - 2=k * 2 by omega,h1]; simp
     ·rw [e,List.getElem?_append_right (by rw [hl]; omega),hl,show (k+1) * 2+1 - 2=k * 2+1 by omega,h2]; simp
theorem Sl.atNth {w:World} {a:Option Addr} {l:List (Int × Int)} (h:Sl w a (nths l)) {k:Nat} (hk:k < l.length) :
  ∃b off,a=some ⟨b,off,none⟩∧b < w.heap.size∧∀j (h:j < l.length),w.cell? ⟨b,off+j * 2,none⟩=some (.int .i64 l[j].1)∧w.cell? ⟨b,off+j * 2+1,none⟩=some (.int .i64 l[j].2):=by
 obtain ⟨b,off,rfl,hlt,hc⟩:=Sl.at h (k:=k * 2) (by rw [yh2]; omega)
 refine ⟨b,off,rfl,hlt,fun j hj=>?_⟩
 have hg:=nths_get l j hj
 have get:∀m v,(nths l)[m]? =some v→w.cell? ⟨b,off+m,none⟩=some v:=by
  intro m v hm
  obtain ⟨hlm,hv⟩:=zzq.1 hm
  rw [hc m hlm,hv]
 exact ⟨get _ _ hg.1,by rw [Nat.add_assoc]; exact get _ _ hg.2⟩
def idxN (p:Int × Int→Bool):List (Int × Int)→Int
 | []=>-1
 | x :: l=>if p x then 0 else if idxN p l < 0 then -1 else idxN p l+1
theorem yi8 (p:Int × Int→Bool):∀l:List (Int × Int),(decide (0≤idxN p l)=l.any p)∧-1≤idxN p l
 | []=>⟨rfl,Int.le_refl _⟩
 | x :: l=>by
   obtain ⟨h,h1⟩:=yi8 p l
   rw [idxN,List.any_cons]
   by_cases hx:p x=true
   ·rw [if_pos hx,hx]; exact ⟨rfl,by omega⟩
   ·rw [if_neg hx]
    have hx':p x=false:=by simpa using hx
    rw [hx',Bool.false_or,←h]
    by_cases h0:idxN p l < 0
    ·rw [if_pos h0,zzd (by omega:¬0≤idxN p l)]; exact ⟨rfl,by omega⟩
    ·rw [if_neg h0,zzZ (by omega:0≤idxN p l),zzZ (by omega:0≤idxN p l+1)]; exact ⟨rfl,by omega⟩
theorem idxN_at {p:Int × Int→Bool} {l:List (Int × Int)}:∀{k:Nat} (hk:k < l.length),(∀x∈l.take k,p x=false)→p l[k]=true→idxN p l=k:=by
 induction l with
 | nil=>intro k hk; simp at hk
 | cons x l ih=>
   intro k hk h1 h2
   cases k with
   | zero=>rw [idxN]; simp only [zC] at h2; rw [if_pos h2]; rfl
   | succ k=>
     have hk':k < l.length:=by simpa using hk
     have hx:p x=false:=h1 x (by simp)
     have:=ih hk' (fun y hy=>h1 y (by simp [hy])) (by simpa using h2)
     rw [idxN,hx,if_neg (by simp),this,if_neg (by omega)]
     omega
theorem yhe {p:Int × Int→Bool}:∀{l:List (Int × Int)},(∀x∈l,p x=false)→idxN p l= -1
 | [],_=>rfl
 | x :: l,h=>by
   rw [idxN,h x (by simp),if_neg (by simp),yhe (fun y hy=>h y (by simp [hy])),if_pos (by omega)]
theorem yg7 {p:Int × Int→Bool} {l:List (Int × Int)} {k:Nat} {y:Int × Int} (ht:l.take (k+1)=l.take k ++ [y]) (h:∀x∈l.take k,p x=false) (hy:p y=false):∀x∈l.take (k+1),p x=false:=by
 rw [ht]
 intro x hx
 rcases List.mem_append.1 hx with hx | hx
 ·exact h x hx
 ·obtain rfl:=List.mem_singleton.1 hx; exact hy
def dayP (x:Int × Int):Bool:=decide (x.2 < 1) || decide (7 < x.2)
theorem ykn (n d:Int) (w:World):Calls Tryz.prog 186 #[.agg #[.int .i64 n, .int .i64 d]] w fun e w'=>e= .returned (.bool (dayP (n,d)))∧Below w.heap.size w w':=by
 rw [dayP]
 have HB:Hid (Below w.heap.size w (w.alloc (.cells #[.int .i64 n, .int .i64 d] 72))):=yaa (Below.refl _ _) (zG _)
 by_cases h:d < 1
 ·have hd:decide ((n,d).2 < 1)=true:=zzZ h
  rw [hd]
  clear hd
  go_enter Tryz.func186,Tryz.ntmps186
  go_wp2
  go_ret
  exact ⟨rfl,HB.out⟩
 ·have hd:decide ((n,d).2 < 1)=false:=zzd h
  rw [hd]
  clear hd
  go_enter Tryz.func186,Tryz.ntmps186
  go_wp2
  go_ret
  exact ⟨rfl,HB.out⟩
theorem ykB (a:Option Addr) (cap:Nat) (l:List (Int × Int)) (w:World) (hl:l.length≤1000000000000) (hs:Sl w a (nths l)) :
  Calls Tryz.prog 191 #[.slice a l.length cap, .func (.func 186) #[] #[]] w fun e w'=>e= .returned (.int .i64 (idxN dayP l))∧Below w.heap.size w w':=by
 have Hs:=hid hs
 have hlI:(l.length:Int)≤1000000000000:=by omega
 clear hs hl
 go_enter Tryz.func191,Tryz.ntmps191
 go_wp2
 go_loopw [8] (fun i wr=>∃k:Nat,i= .int .i64 k∧k≤l.length∧Hid (∀x∈l.take k,dayP x=false)∧Hid (Below w.heap.size w wr)) (fun i _=>l.length - (intOf i).toNat)
 case atStart=>exact ⟨0,rfl,by omega,by show∀x,_; simp,Below.refl _ _⟩
 case round=>
  obtain ⟨k,rfl,hk,hI,hB⟩:=hrel
  by_cases hlt:k < l.length
  ·obtain ⟨b,off,rfl,hb,hc⟩:=Hs.out.atNth hlt
   have e1:=(hB.out.cell (p:=⟨b,off+k * 2,none⟩) hb).trans (hc k hlt).1
   have e2:=(hB.out.cell (p:=⟨b,off+k * 2+1,none⟩) hb).trans (hc k hlt).2
   have ht:=hid (yam l k hlt)
   have hat:=hid (fun h=>idxN_at (p:=dayP) hlt hI.out h)
   obtain ⟨y,hy⟩:∃y,l[k]=y:=⟨_,rfl⟩
   rw [hy] at e1 e2 ht hat
   clear hc hy
   obtain ⟨q,hq⟩:∃q,dayP y=q:=⟨_,rfl⟩
   have c2:=hid (ykn y.1 y.2 wr)
   rw [show dayP (y.1,y.2)=dayP y from rfl,hq] at c2
   have Hq:=hid hq
   clear hq
   cases q
   ·go_wp2_with fail
    refine c2.out.mono ?_
    rintro e w1 ⟨rfl,hB1⟩
    have hB2:=hid (hB.out.trans (hB1.mono hB.out.size))
    clear hB1
    go_wp2
    exact ⟨⟨k+1,by go_num,by omega,yg7 ht.out hI.out Hq.out,hB2⟩,by simp [intOf]; omega⟩
   ·go_wp2_with fail
    refine c2.out.mono ?_
    rintro e w1 ⟨rfl,hB1⟩
    have hB2:=hid (hB.out.trans (hB1.mono hB.out.size))
    clear hB1
    go_wp2
    go_ret
    exact ⟨by rw [hat.out Hq.out]; rfl,hB2.out⟩
  ·have hke:l.take k=l:=List.take_of_length_le (by omega)
   rw [hke] at hI
   have hr:=hid (yhe hI.out)
   clear hke
   go_wp2
   go_ret
   exact ⟨by rw [hr.out]; rfl,hB.out⟩
theorem yiA (a:Option Addr) (cap:Nat) (l:List (Int × Int)) (w:World) (hl:l.length≤1000000000000) (hs:Sl w a (nths l)) :
  Calls Tryz.prog 185 #[.slice a l.length cap, .func (.func 186) #[] #[]] w fun e w'=>e= .returned (.bool (l.any dayP))∧Below w.heap.size w w':=by
 have c1:=hid (ykB a cap l w hl hs)
 have hr:=hid (yi8 dayP l).1
 rw [←hr.out]
 clear hs hl
 go_enter Tryz.func185,Tryz.ntmps185
 go_wp2_with fail
 refine c1.out.mono ?_
 rintro e w1 ⟨rfl,hB⟩
 have HB:=hid hB
 clear hB
 go_wp2
 go_ret
 exact ⟨rfl,HB.out⟩
theorem ykD (a:Option Addr) (cap:Nat) (l:List Int) (z:Int) (w:World) (hl:l.length≤9223372036854775807) (hs:Sl w a (ints l)) :
  Calls Tryz.prog 190 #[.slice a l.length cap, .int .i64 z] w fun e w'=>e= .returned (.int .i64 (idxP (fun n=>n == z) l))∧w=w':=by
 have Hs:=hid hs
 have hlI:(l.length:Int)≤9223372036854775807:=by omega
 clear hs hl
 go_enter Tryz.func190,Tryz.ntmps190
 go_wp2
 go_loopw [8] (fun i wr=>∃k:Nat,i= .int .i64 k∧k≤l.length∧Hid (∀x∈l.take k,(fun n=>n == z) x=false)∧wr=w) (fun i _=>l.length - (intOf i).toNat)
 case atStart=>exact ⟨0,rfl,by omega,by show∀x,_; simp,rfl⟩
 case round=>
  obtain ⟨k,rfl,hk,hI,rfl⟩:=hrel
  by_cases hlt:k < l.length
  ·obtain ⟨b,off,rfl,hb,hc⟩:=Hs.out.atInt hlt
   have e1:=hc k hlt
   have ht:=hid (yam l k hlt)
   have hat:=hid (fun h=>idxP_at (p:=fun n=>n == z) hlt hI.out h)
   obtain ⟨y,hy⟩:∃y,l[k]=y:=⟨_,rfl⟩
   rw [hy] at e1 ht hat
   clear hc hy
   by_cases h:z=y
   ·have hz:(z == y)=true:=by simpa using h
    have hy':Hid ((fun n=>n == z) y=true):=by show (y == z)=true; simpa using h.symm
    clear h
    go_wp2
    go_ret
    exact ⟨by rw [hat.out hy'.out]; rfl,by trivial⟩
   ·have hz:(z == y)=false:=by simpa using h
    have hy':Hid ((fun n=>n == z) y=false):=by show (y == z)=false; simpa using fun e=>h (Eq.symm e)
    clear h
    go_wp2
    exact ⟨⟨k+1,by go_num,by omega,yb2 ht.out hI.out hy'.out,by trivial⟩,by simp [intOf]; omega⟩
  ·have hke:l.take k=l:=List.take_of_length_le (by omega)
   rw [hke] at hI
   have hr:=hid (yff hI.out)
   clear hke
   go_wp2
   go_ret
   exact ⟨by rw [hr.out]; rfl,by trivial⟩
theorem yiB (a:Option Addr) (cap:Nat) (l:List Int) (z:Int) (w:World) (hl:l.length≤9223372036854775807) (hs:Sl w a (ints l)) :
  Calls Tryz.prog 183 #[.slice a l.length cap, .int .i64 z] w fun e w'=>e= .returned (.bool (l.any (fun n=>n == z)))∧w=w':=by
 have c1:=hid (ykD a cap l z w hl hs)
 have hr:=hid (ygp (fun n=>n == z) l).1
 rw [←hr.out]
 clear hs hl
 go_enter Tryz.func183,Tryz.ntmps183
 go_wp2_with fail
 refine c1.out.mono ?_
 rintro e w1 ⟨rfl,rfl⟩
 go_wp2
 go_ret
 exact ⟨rfl,rfl⟩
end
section
open Go.RowKit
def yaS (lo hi:Int) (l:List Int):Int:=if 64 < l.length then 5 else if outB lo hi l=true then 4 else 0
theorem ygB (a:Option Addr) (cap:Nat) (l:List Int) (lo hi:Int) (w:World) (hl:l.length≤9223372036854775807) (hs:Sl w a (ints l)) :
  Calls Tryz.prog 121 #[.slice a l.length cap, .int .i64 lo, .int .i64 hi] w fun e w'=>e= .returned (.bool (outB lo hi l))∧w=w':=by
 have Hs:=hid hs
 have hlI:(l.length:Int)≤9223372036854775807:=by omega
 clear hs hl
 go_enter Tryz.func121,Tryz.ntmps121
 go_wp2
 go_loopw [7] (fun i wr=>∃k:Nat,i= .int .i64 k∧k≤l.length∧Hid (∀x∈l.take k,outP lo hi x=false)∧wr=w) (fun i _=>l.length - (intOf i).toNat)
 case atStart=>exact ⟨0,rfl,by omega,by show∀x,_; simp,rfl⟩
 case round=>
  obtain ⟨k,rfl,hk,hI,rfl⟩:=hrel
  by_cases hlt:k < l.length
  ·obtain ⟨b,off,rfl,hb,hc⟩:=Hs.out.atInt hlt
   have e1:=hc k hlt
   have ht:=hid (yam l k hlt)
   have hm:=hid (zzr hlt)
   obtain ⟨y,hy⟩:∃y,l[k]=y:=⟨_,rfl⟩
   rw [hy] at e1 ht hm
   clear hc hy
   by_cases h0:y < lo
   ·have hr:Hid (outB lo hi l=true):=List.any_eq_true.2 ⟨y,hm.out,by rw [outP,zzZ h0]; rfl⟩
    go_wp2
    go_ret
    exact ⟨by rw [hr.out]; rfl,by trivial⟩
   ·by_cases h1:hi < y
    ·have hr:Hid (outB lo hi l=true):=List.any_eq_true.2 ⟨y,hm.out,by rw [outP,zzZ h1,Bool.or_true]⟩
     go_wp2
     go_ret
     exact ⟨by rw [hr.out]; rfl,by trivial⟩
    ·have hq:Hid (outP lo hi y=false):=by show _ = _; rw [outP,zzd h0,zzd h1]; rfl
     go_wp2
     exact ⟨⟨k+1,by go_num,by omega,yb2 ht.out hI.out hq.out,by trivial⟩,by simp [intOf]; omega⟩
  ·have hke:l.take k=l:=List.take_of_length_le (by omega)
   rw [hke] at hI
   have hr:Hid (outB lo hi l=false):=by
    show _ = _
    rw [outB,←Bool.not_eq_true,List.any_eq_true]
    rintro ⟨x,hx,h⟩
    rw [hI.out x hx] at h
    cases h
   clear hke
   go_wp2
   go_ret
   exact ⟨by rw [hr.out]; rfl,by trivial⟩
theorem ydT (a:Option Addr) (cap:Nat) (l:List Int) (lo hi:Int) (w:World) (hl:l.length≤9223372036854775807) (hs:Sl w a (ints l)) :
  Calls Tryz.prog 72 #[.slice a l.length cap, .int .i64 lo, .int .i64 hi] w fun e w'=>e= .returned (.int .i64 (yaS lo hi l))∧w=w':=by
 have c1:=hid (ygB a cap l lo hi w hl hs)
 rw [yaS]
 obtain ⟨q,hq⟩:∃q,outB lo hi l=q:=⟨_,rfl⟩
 rw [hq] at c1⊢
 clear hq hs hl
 by_cases h:64 < l.length
 ·rw [if_pos h]
  have hI:(64:Int) < l.length:=by omega
  go_enter Tryz.func72,Tryz.ntmps72
  go_wp2
  go_ret
  exact ⟨rfl,rfl⟩
 ·rw [if_neg h]
  have hI:¬(64:Int) < l.length:=by omega
  clear h
  go_enter Tryz.func72,Tryz.ntmps72
  go_wp2_with fail
  refine c1.out.mono ?_
  rintro e w1 ⟨rfl,rfl⟩
  cases q
  ·go_wp2
   go_ret
   exact ⟨rfl,rfl⟩
  ·go_wp2
   go_ret
   exact ⟨rfl,rfl⟩
theorem ycl (a:Option Addr) (cap:Nat) (l:List Int) (lo hi:Int) (w:World) (hl:l.length≤9223372036854775807) (hs:Sl w a (ints l)) :
  Calls Tryz.prog 162 #[.slice a l.length cap, .int .i64 lo, .int .i64 hi] w fun e w'=>e= .returned (.int .i64 (yaS lo hi l))∧Below w.heap.size w w':=by
 have c1:=hid (ycv a cap l lo hi w hl hs)
 rw [yaS]
 obtain ⟨q,hq⟩:∃q,outB lo hi l=q:=⟨_,rfl⟩
 rw [hq] at c1⊢
 clear hq hs hl
 by_cases h:64 < l.length
 ·rw [if_pos h]
  have hI:(64:Int) < l.length:=by omega
  have HB:Hid (Below w.heap.size w w):=Below.refl _ _
  go_enter Tryz.func162,Tryz.ntmps162
  go_wp2
  go_ret
  exact ⟨rfl,HB.out⟩
 ·rw [if_neg h]
  have hI:¬(64:Int) < l.length:=by omega
  clear h
  go_enter Tryz.func162,Tryz.ntmps162
  go_wp2_with fail
  refine c1.out.mono ?_
  rintro e w1 ⟨rfl,hB⟩
  have HB:=hid hB
  clear hB
  cases q
  ·go_wp2
   go_ret
   exact ⟨rfl,HB.out⟩
  ·go_wp2
   go_ret
   exact ⟨rfl,HB.out⟩
/-! ### signs -/
def sgP (x y:Int):Bool:=(decide (y < 0) != decide (x < 0)) || ((y == 0) != (x == 0))
def sgB:List Int→Bool
 | []=>false
 | x :: l=>l.any (sgP x)
theorem cntP_pos {p:Int→Bool} {l:List Int}:(0 < l.countP p)↔∃x∈l,p x=true:=List.countP_pos_iff
theorem sg_mix (l:List Int):sgB l=mixB l:=by
 rw [zze,mixB]
 simp only [Bool.or_eq_true,zzX,zzY]
 have hs:∀a b:Nat,0 < a+b↔0 < a∨0 < b:=by omega
 rw [hs]
 unfold negC posC yfx
 simp only [cntP_pos,zzY]
 cases l with
 | nil=>simp [sgB]
 | cons x l=>
   rw [sgB,List.any_eq_true]
   constructor
   ·rintro ⟨y,hy,h⟩
    rw [sgP] at h
    simp only [Bool.or_eq_true,bne_iff_ne,ne_eq] at h
    have hx:x∈x :: l:=List.mem_cons_self
    have hy':y∈x :: l:=List.mem_cons_of_mem _ hy
    have hc:(x < 0∨x=0∨0 < x)∧(y < 0∨y=0∨0 < y):=by omega
    obtain ⟨h1 | h1 | h1,h2 | h2 | h2⟩:=hc
    ·exfalso; rcases h with h | h
     ·apply h; rw [zzZ h1,zzZ h2]
     ·apply h; rw [zze]; simp; omega
    ·exact .inl ⟨⟨x,hx,h1⟩, .inr ⟨y,hy',h2⟩⟩
    ·exact .inl ⟨⟨x,hx,h1⟩, .inl ⟨y,hy',h2⟩⟩
    ·exact .inl ⟨⟨y,hy',h2⟩, .inr ⟨x,hx,h1⟩⟩
    ·exfalso; rcases h with h | h
     ·apply h; rw [zzd (by omega:¬y < 0),zzd (by omega:¬x < 0)]
     ·apply h; rw [zze]; simp; omega
    ·exact .inr ⟨⟨y,hy',h2⟩,⟨x,hx,h1⟩⟩
    ·exact .inl ⟨⟨y,hy',h2⟩, .inl ⟨x,hx,h1⟩⟩
    ·exact .inr ⟨⟨x,hx,h1⟩,⟨y,hy',h2⟩⟩
    ·exfalso; rcases h with h | h
     ·apply h; rw [zzd (by omega:¬y < 0),zzd (by omega:¬x < 0)]
     ·apply h; rw [zze]; simp; omega
   ·intro h
    have key:∃y∈x :: l,sgP x y=true:=by
     have hne:∀y,(y < 0∧¬x < 0∨¬y < 0∧x < 0∨y=0∧¬x=0∨¬y=0∧x=0)→sgP x y=true:=by
      intro y hy
      rw [sgP,Bool.or_eq_true,bne_iff_ne,bne_iff_ne]
      rcases hy with ⟨h1,h2⟩ | ⟨h1,h2⟩ | ⟨h1,h2⟩ | ⟨h1,h2⟩
      ·left; rw [zzZ h1,zzd h2]; decide
      ·left; rw [zzd h1,zzZ h2]; decide
      ·right; intro e; rw [zze] at e; simp at e; omega
      ·right; intro e; rw [zze] at e; simp at e; omega
     rcases h with ⟨⟨n,hn,hn0⟩,⟨p,hp,hp0⟩ | ⟨z,hz,hz0⟩⟩ | ⟨⟨p,hp,hp0⟩,⟨z,hz,hz0⟩⟩
     ·by_cases hx:x < 0
      ·exact ⟨p,hp,hne p (by omega)⟩
      ·exact ⟨n,hn,hne n (by omega)⟩
     ·by_cases hx:x < 0
      ·exact ⟨z,hz,hne z (by omega)⟩
      ·exact ⟨n,hn,hne n (by omega)⟩
     ·by_cases hx:x=0
      ·exact ⟨p,hp,hne p (by omega)⟩
      ·exact ⟨z,hz,hne z (by omega)⟩
    obtain ⟨y,hy,h⟩:=key
    rcases List.mem_cons.1 hy with rfl | hy
    ·rw [sgP] at h; simp at h
    ·exact ⟨y,hy,h⟩
end
section
open Go.RowKit
theorem yiN (x:Int):sgP x x=false:=by rw [sgP]; simp
theorem yhR (l:List Int):l.any (sgP (l.headD 0))=mixB l:=by
 rw [←sg_mix]
 cases l with
 | nil=>rfl
 | cons x l=>rw [List.any_cons,List.headD_cons,yiN,Bool.false_or]; rfl
theorem yhw (a:Option Addr) (cap:Nat) (l:List Int) (w:World) (hl:l.length≤1000000000000) (hs:Sl w a (ints l)) :
  Calls Tryz.prog 122 #[.slice a l.length cap] w fun e w'=>e= .returned (.bool (mixB l))∧Below w.heap.size w w':=by
 have Hs:=hid hs
 have hlI:(l.length:Int)≤1000000000000:=by omega
 have Hm:=hid (yhR l)
 clear hs hl
 go_enter Tryz.func122,Tryz.ntmps122
 go_wp2
 go_loopw [3] (fun i wr=>∃k:Nat,i= .int .i64 k∧1≤k∧k≤l.length+1∧Hid (∀x∈l.take k,sgP (l.headD 0) x=false)∧Hid (Below w.heap.size w wr)) (fun i _=>l.length+1 - (intOf i).toNat)
 case atStart=>
  refine ⟨1,rfl,by omega,by omega,?_,Below.refl _ _⟩
  show∀x∈l.take 1,_
  cases l with
  | nil=>simp
  | cons y l=>intro x hx; simp at hx; subst hx; exact yiN _
 case round=>
  obtain ⟨k,rfl,hk1,hk,hI,hB⟩:=hrel
  by_cases hlt:k < l.length
  ·have h0:0 < l.length:=by omega
   obtain ⟨b,off,rfl,hb,hc⟩:=Hs.out.atInt hlt
   have e1:=(hB.out.cell (p:=⟨b,off+k,none⟩) hb).trans (hc k hlt)
   have e0:=(hB.out.cell (p:=⟨b,off,none⟩) hb).trans (hc 0 h0)
   have ht:=hid (yam l k hlt)
   have hm:=hid (zzr hlt)
   have hh:l.headD 0=l[0]:=by cases l with
    | nil=>simp at h0
    | cons y l=>rfl
   obtain ⟨y,hy⟩:∃y,l[k]=y:=⟨_,rfl⟩
   obtain ⟨x,hx⟩:∃x,l[0]=x:=⟨_,rfl⟩
   rw [hy] at e1 ht hm
   rw [hx] at e0 hh
   rw [hh] at hI Hm
   have Hh:=hid hh
   clear hc hy hx hh
   have hlI0:(0:Int) < l.length:=by omega
   obtain ⟨p1,h1⟩:∃q,decide (y < 0)=q:=⟨_,rfl⟩
   obtain ⟨p2,h2⟩:∃q,decide (x < 0)=q:=⟨_,rfl⟩
   obtain ⟨p3,h3⟩:∃q,(y == 0)=q:=⟨_,rfl⟩
   obtain ⟨p4,h4⟩:∃q,(x == 0)=q:=⟨_,rfl⟩
   have hsg:Hid (sgP x y= ((p1 != p2) || (p3 != p4))):=by show _ = _; rw [sgP,h1,h2,h3,h4]
   cases p1
   ·cases p2
    ·cases p3
     ·cases p4
      ·have hf:Hid (∀z∈l.take (k+1),sgP (l.headD 0) z=false):=by
        rw [Hh.out]
        exact yb2 ht.out hI.out (by rw [hsg.out]; rfl)
       go_wp2
       go_quiet (fail)
       go_wp2
       exact ⟨⟨k+1,by go_num,by omega,by omega,hf,yay hB.out _⟩,by simp [intOf]; omega⟩
      ·have hf:Hid (mixB l=true):=by
        show _ = _
        rw [←Hm.out,List.any_eq_true]
        exact ⟨y,hm.out,by rw [hsg.out]; rfl⟩
       go_wp2
       go_quiet (fail)
       go_wp2
       go_ret
       exact ⟨by rw [hf.out]; rfl,yay hB.out _⟩
     ·cases p4
      ·have hf:Hid (mixB l=true):=by
        show _ = _
        rw [←Hm.out,List.any_eq_true]
        exact ⟨y,hm.out,by rw [hsg.out]; rfl⟩
       go_wp2
       go_quiet (fail)
       go_wp2
       go_ret
       exact ⟨by rw [hf.out]; rfl,yay hB.out _⟩
      ·have hf:Hid (∀z∈l.take (k+1),sgP (l.headD 0) z=false):=by
        rw [Hh.out]
        exact yb2 ht.out hI.out (by rw [hsg.out]; rfl)
       go_wp2
       go_quiet (fail)
       go_wp2
       exact ⟨⟨k+1,by go_num,by omega,by omega,hf,yay hB.out _⟩,by simp [intOf]; omega⟩
    ·have hf:Hid (mixB l=true):=by
      show _ = _
      rw [←Hm.out,List.any_eq_true]
      exact ⟨y,hm.out,by rw [hsg.out]; rfl⟩
     go_wp2
     go_quiet (fail)
     go_wp2
     go_ret
     exact ⟨by rw [hf.out]; rfl,yay hB.out _⟩
   ·cases p2
    ·have hf:Hid (mixB l=true):=by
      show _ = _
      rw [←Hm.out,List.any_eq_true]
      exact ⟨y,hm.out,by rw [hsg.out]; rfl⟩
     go_wp2
     go_quiet (fail)
     go_wp2
     go_ret
     exact ⟨by rw [hf.out]; rfl,yay hB.out _⟩
    ·cases p3
     ·cases p4
      ·have hf:Hid (∀z∈l.take (k+1),sgP (l.headD 0) z=false):=by
        rw [Hh.out]
        exact yb2 ht.out hI.out (by rw [hsg.out]; rfl)
       go_wp2
       go_quiet (fail)
       go_wp2
       exact ⟨⟨k+1,by go_num,by omega,by omega,hf,yay hB.out _⟩,by simp [intOf]; omega⟩
      ·have hf:Hid (mixB l=true):=by
        show _ = _
        rw [←Hm.out,List.any_eq_true]
        exact ⟨y,hm.out,by rw [hsg.out]; rfl⟩
       go_wp2
       go_quiet (fail)
       go_wp2
       go_ret
       exact ⟨by rw [hf.out]; rfl,yay hB.out _⟩
     ·cases p4
      ·have hf:Hid (mixB l=true):=by
        show _ = _
        rw [←Hm.out,List.any_eq_true]
        exact ⟨y,hm.out,by rw [hsg.out]; rfl⟩
       go_wp2
       go_quiet (fail)
       go_wp2
       go_ret
       exact ⟨by rw [hf.out]; rfl,yay hB.out _⟩
      ·have hf:Hid (∀z∈l.take (k+1),sgP (l.headD 0) z=false):=by
        rw [Hh.out]
        exact yb2 ht.out hI.out (by rw [hsg.out]; rfl)
       go_wp2
       go_quiet (fail)
       go_wp2
       exact ⟨⟨k+1,by go_num,by omega,by omega,hf,yay hB.out _⟩,by simp [intOf]; omega⟩
  ·have hke:l.take k=l:=List.take_of_length_le (by omega)
   rw [hke] at hI
   have hr:Hid (mixB l=false):=by
    show _ = _
    rw [←Hm.out,←Bool.not_eq_true,List.any_eq_true]
    rintro ⟨x,hx,h⟩
    rw [hI.out x hx] at h
    cases h
   clear hke
   go_wp2
   go_ret
   exact ⟨by rw [hr.out]; rfl,hB.out⟩
end
end Go.Proofs.YtjahgimnfliooaaGreatDoor
