/-
  Discs: their words in a block; what the small functions of disc compute.
  What a disc's Put, and disc.Of, compute.
  What feriaref15's functions compute: lists of seconds.
  What a face is (plain).
  disc.least, with each of the two functions that it is handed.
-/
import Derived.Test.YtkpgfmonhfnhdaaGreatDoorQ15e503
import Derived.Test.YtkpgfmonhfnhdaaGreatDoorQd6e098
import Derived.Test.YtkpgfmonhfnhdaaGreatDoorQ594558
import Derived.Test.YtkpgfmonhfnhdaaGreatDoorQ74f80c
import Derived.Test.YtkpgfmonhfnhdaaGreatDoorQ446fa1
import Derived.Test.YtkpgfmonhfnhdaaGreatDoorQ30bd52
set_option maxRecDepth 100000
set_option maxHeartbeats 25600000
namespace Go.Proofs.YtkpgfmonhfnhdaaGreatDoor
set_option linter.unusedVariables false
section
open Go.RowKit
theorem rep_one {α:Type} (v:α): [v]=List.replicate 1 v:=rfl
theorem yiE {α:Type} (v:α) (n:Nat):v :: List.replicate n v=List.replicate (n+1) v:=rfl
theorem rep_app {α:Type} (v:α) (n m:Nat):(List.replicate n v).append (List.replicate m v)=List.replicate (n+m) v:=List.replicate_append_replicate
theorem zc107:Tryz.zeroCells131= (List.replicate 1350 (Value.int .u64 0)).toArray:=by
 simp only [Tryz.zeroCells131,rep_one,yiE,rep_app,Nat.reduceAdd]
theorem zcw:Tryz.zeroCells129= (List.replicate 1350 (Value.int .u64 0)).toArray:=by
 simp only [Tryz.zeroCells129,rep_one,yiE,rep_app,Nat.reduceAdd]
def DC (W:World) (b:Nat) (f:Nat→Nat):Prop:=∀i,i < 1350→W.cell? ⟨b,i,none⟩=some (.int .u64 (f i:Nat))
theorem DC.below {W W':World} {b B:Nat} {f:Nat→Nat} (h:DC W b f) (hb:Below B W W') (hB:b < B):DC W' b f:=fun i hi=>(hb.cell (p:=⟨b,i,none⟩) hB).trans (h i hi)
theorem DC.set {W:World} {b i:Nat} {f:Nat→Nat} {v:Nat} (h:DC W b f) (hi:i < 1350):DC (W.setCell ⟨b,i,none⟩ (.int .u64 v)) b (fun j=>if j=i then v else f j):=by
 intro j hj
 by_cases e:j=i
 ·subst e; simp [go_sem,h j hj]
 ·simp [go_sem,h j hj,e]
theorem DC.congr {W:World} {b:Nat} {f g:Nat→Nat} (h:DC W b f) (e:∀i,i < 1350→f i=g i):DC W b g:=fun i hi=>by rw [←e i hi]; exact h i hi
theorem yjb (W:World) (n:Nat) (v:Value) (t:TypeId) (i:Nat) (hi:i < n):(W.alloc (.cells (List.replicate n v).toArray t)).cell? ⟨W.heap.size,i,none⟩=some v:=by simp [go_sem,hi]
theorem dc_new (W:World):DC (W.alloc (.cells Tryz.zeroCells131 131)) W.heap.size (fun _=>0):=fun i hi=>by
 rw [zc107]
 exact yjb W 1350 _ _ i hi
def yb3 (n:Int):Bool:=decide (0≤n) && decide (n < 86400)
theorem ycF (k:Nat):yb3 (k:Int)=decide (k < 86400):=by rw [yb3,zze]; simp only [zzX,zzY]; omega
theorem ybO {n:Int} (h:yb3 n=true):∃k:Nat,n=k∧k < 86400:=by
 rw [yb3] at h
 simp only [zzX,zzY] at h
 exact ⟨n.toNat,by omega,by omega⟩
def hasD (f:Nat→Nat) (n:Int):Bool:=yb3 n && bitW f n.toNat
theorem yc2 (n:Int) (w:World):Calls Tryz.prog 67 #[.int .i64 n] w fun e w'=>e= .returned (.bool (yb3 n))∧w=w':=by
 unfold yb3
 by_cases h0:0≤n
 ·by_cases h1:n < 86400
  ·rw [zzZ h0,zzZ h1]
   go_enter Tryz.func67,Tryz.ntmps67
   go_wp2
   go_ret
   exact ⟨rfl,rfl⟩
  ·rw [zzZ h0,zzd h1]
   go_enter Tryz.func67,Tryz.ntmps67
   go_wp2
   go_ret
   exact ⟨rfl,rfl⟩
 ·rw [zzd h0,Bool.false_and]
  go_enter Tryz.func67,Tryz.ntmps67
  go_wp2
  go_ret
  exact ⟨rfl,rfl⟩
theorem yjo (b:Nat) (f:Nat→Nat) (n:Int) (w:World) (hc:DC w b f) (hf:∀i,i < 1350→f i < 18446744073709551616) :
  Calls Tryz.prog 86 #[.pointer (some ⟨b,0,none⟩), .int .i64 n] w fun e w'=>e= .returned (.bool (hasD f n))∧w=w':=by
 have c1:=hid (fun W=>yc2 n W)
 unfold hasD
 by_cases hb:yb3 n=true
 ·rw [hb] at c1⊢
  obtain ⟨k,rfl,hk⟩:=ybO hb
  have e1:=hc (k / 64) (by omega)
  have c2:=hid (fun W=>ydg (f (k / 64)) ((k % 64:Nat):Int) W (hf _ (by omega)))
  rw [yds,show ((k % 64:Nat):Int)= (k:Int) % 64 by simp] at c2
  have hlt:k / 64 < 1350:=by omega
  clear hb hc hk
  go_enter Tryz.func86,Tryz.ntmps86
  go_wp2_with fail
  refine (c1.out _).mono ?_
  rintro e w' ⟨rfl,rfl⟩
  go_wp2_with fail
  refine (c2.out _).mono ?_
  rintro e w' ⟨rfl,rfl⟩
  go_wp2
  go_ret
  exact ⟨by simp [bitW],rfl⟩
 ·have hb':yb3 n=false:=by simpa using hb
  rw [hb'] at c1⊢
  clear hb hb'
  go_enter Tryz.func86,Tryz.ntmps86
  go_wp2_with fail
  refine (c1.out _).mono ?_
  rintro e w' ⟨rfl,rfl⟩
  go_wp2
  go_ret
  exact ⟨rfl,rfl⟩
theorem DHas_nil (n:Int) (w:World):Calls Tryz.prog 86 #[.pointer none, .int .i64 n] w fun e w'=>e= .returned (.bool false)∧w=w':=by
 go_enter Tryz.func86,Tryz.ntmps86
 go_wp2
 go_ret
 exact ⟨rfl,rfl⟩
theorem Word_any (b:Nat) (f:Nat→Nat) (i:Nat) (w:World) (hc:DC w b f) (hi:i < 1350) :
  Calls Tryz.prog 130 #[.pointer (some ⟨b,0,none⟩), .int .i64 i] w fun e w'=>e= .returned (.int .u64 (f i:Nat))∧w=w':=by
 have e1:=hc i hi
 clear hc
 go_enter Tryz.func130,Tryz.ntmps130
 go_wp2
 go_ret
 exact ⟨rfl,rfl⟩
theorem Word_nil (i:Nat) (w:World):Calls Tryz.prog 130 #[.pointer none, .int .i64 i] w fun e w'=>e= .returned (.int .u64 (0:Nat))∧w=w':=by
 go_enter Tryz.func130,Tryz.ntmps130
 go_wp2
 go_ret
 exact ⟨rfl,rfl⟩
end
section
open Go.RowKit
def putS (x:(Nat→Nat) × Nat) (n:Int):(Nat→Nat) × Nat:=
 if yb3 n && !bitW x.1 n.toNat then (fun j=>if j=n.toNat / 64 then x.1 (n.toNat / 64) ||| 2 ^ (n.toNat % 64) else x.1 j,x.2+1) else x
def putL (f:Nat→Nat) (l:List Int):(Nat→Nat) × Nat:=l.foldl putS (f,0)
theorem putL_snoc (f:Nat→Nat) (l:List Int) (k:Nat) (h:k < l.length):putL f (l.take (k+1))=putS (putL f (l.take k)) l[k]:=by
 rw [putL,putL,yap l k h,List.foldl_append]; rfl
theorem Put_any (b:Nat) (f:Nat→Nat) (a:Option Addr) (cap:Nat) (l:List Int) (w:World) (hl:l.length≤9223372036854775807) (hs:Sl w a (ints l)) (hne:l≠ []→∀g off,a=some ⟨g,off,none⟩→g≠b)
  (hc:DC w b f) (hfz:∀i,w.frozen? ⟨b,i,none⟩=false) (hf:∀i,i < 1350→f i < 18446744073709551616) :
  Calls Tryz.prog 171 #[.pointer (some ⟨b,0,none⟩), .slice a l.length cap] w fun e w'=>e= .returned (.int .i64 ((putL f l).2:Nat))∧DC w' b (putL f l).1∧(∀i,w'.frozen? ⟨b,i,none⟩=false)∧
   Eff (fun x=>x=b) w w':=by
 have Hs:=hid hs
 have Hne:=hid hne
 have Hc:=hid hc
 have Hfz:=hid hfz
 have Hf:=hid hf
 have c1:=hid (fun n W=>yc2 n W)
 have hlI:(l.length:Int)≤9223372036854775807:=by omega
 clear hs hne hc hfz hf hl
 go_enter Tryz.func171,Tryz.ntmps171
 go_wp2
 go_loopw [5,12] (fun m i wr=>∃k:Nat,i= .int .i64 k∧m= .int .i64 ((putL f (l.take k)).2:Nat)∧k≤l.length∧Hid (DC wr b (putL f (l.take k)).1∧(∀i,wr.frozen? ⟨b,i,none⟩=false)∧(∀i,i < 1350→(putL f (l.take k)).1 i < 18446744073709551616)∧(putL f (l.take k)).2≤k)∧Hid (Eff (fun x=>x=b) w wr)) (fun _ i _=>l.length - (intOf i).toNat)
 case atStart=>exact ⟨0,rfl,rfl,by omega,⟨Hc.out,Hfz.out,Hf.out,zG _⟩,Eff.refl _ _⟩
 case round=>
  obtain ⟨k,rfl,rfl,hk,HJ,HE⟩:=hrel
  by_cases hlt:k < l.length
  ·obtain ⟨g,off,rfl,hb,hcl⟩:=Hs.out.atInt hlt
   have e1:=(HE.out.cell (p:=⟨g,off+k,none⟩) hb (Hne.out (fun e=>by rw [e] at hlt; simp at hlt) g off rfl)).trans (hcl k hlt)
   have hsn:=hid (putL_snoc f l k hlt)
   obtain ⟨x,hx⟩:∃x,l[k]=x:=⟨_,rfl⟩
   rw [hx] at e1 hsn
   obtain ⟨p,hp⟩:∃p,putL f (l.take k)=p:=⟨_,rfl⟩
   rw [hp] at HJ hsn⊢
   clear hcl hx hp
   by_cases hd:yb3 x=true
   ·have hm:=hid (c1.out x)
    rw [hd] at hm
    have hh:=hid (yjo b p.1 x wr HJ.out.1 HJ.out.2.2.1)
    obtain ⟨n,rfl,hn⟩:=ybO hd
    have hq:hasD p.1 (n:Int)=bitW p.1 n:=by rw [hasD,hd]; rfl
    rw [hq] at hh
    by_cases hb2:bitW p.1 n=true
    ·rw [hb2] at hh
     have he:Hid (putS p (n:Int)=p):=by show _ = _; rw [putS,Int.toNat_natCast,hb2]; simp
     clear hb2 hq hd
     have hnI:(n:Int) < 87000:=by omega
     clear hn
     go_wp2_with fail
     refine (hm.out _).mono ?_
     rintro e w' ⟨rfl,rfl⟩
     go_wp2_with fail
     refine hh.out.mono ?_
     rintro e w' ⟨rfl,rfl⟩
     go_wp2
     exact ⟨⟨k+1,by go_num,by rw [hsn.out,he.out],by omega,by rw [hsn.out,he.out]; exact ⟨HJ.out.1,HJ.out.2.1,HJ.out.2.2.1,by have:=HJ.out.2.2.2; omega⟩,HE.out⟩,by simp [intOf]; omega⟩
    ·have hb3:bitW p.1 n=false:=by simpa using hb2
     rw [hb3] at hh
     have he:Hid (putS p (n:Int)= (fun j=>if j=n / 64 then p.1 (n / 64) ||| 2 ^ (n % 64) else p.1 j,p.2+1)):=by show _ = _; rw [putS,Int.toNat_natCast,hd,hb3]; rfl
     have hi:n / 64 < 1350:=by omega
     have e2:=HJ.out.1 (n / 64) hi
     have e3:=HJ.out.2.1 (n / 64)
     have hnI:(n:Int) < 87000:=by omega
     have hcnt:(p.2:Int)+1≤9223372036854775807:=by have:=HJ.out.2.2.2; omega
     clear hb2 hb3 hq hd hn
     go_wp2_with fail
     refine (hm.out _).mono ?_
     rintro e w' ⟨rfl,rfl⟩
     go_wp2_with fail
     refine hh.out.mono ?_
     rintro e w' ⟨rfl,rfl⟩
     go_wp2_with fail
     go_region
     have hpw:n % 64 < 64:=Nat.mod_lt _ (by omega)
     have hor:=yaI (HJ.out.2.2.1 (n / 64) hi) (ybS hpw)
     rw [←ybt hpw] at hor
     rw [hor]
     have hlt2:=yeH (HJ.out.2.2.1 (n / 64) hi) (ybS hpw)
     obtain ⟨v,hv⟩:∃v,p.1 (n / 64) ||| 2 ^ (n % 64)=v:=⟨_,rfl⟩
     rw [hv] at hlt2 he⊢
     have done:DC (wr.setCell ⟨b,n / 64,none⟩ (.int .u64 v)).drew b (putS p (n:Int)).1∧(∀i,(wr.setCell ⟨b,n / 64,none⟩ (.int .u64 v)).drew.frozen? ⟨b,i,none⟩=false)∧(∀i,i < 1350→(putS p (n:Int)).1 i < 18446744073709551616)∧(putS p (n:Int)).2≤k+1:=by
      rw [he.out]
      refine ⟨HJ.out.1.set hi,fun i=>by simp [go_sem,HJ.out.2.1 i],fun i hi=>?_,by have:=HJ.out.2.2.2; simp only []; omega⟩
      simp only []
      split
      ·exact hlt2
      ·exact HJ.out.2.2.1 i hi
     have Done:=hid done
     have HE2:Hid (Eff (fun x=>x=b) w (wr.setCell ⟨b,n / 64,none⟩ (.int .u64 v)).drew):=by
      have h:=HE.out
      refine ⟨h.os,h.tape,h.output,?_,fun j hj hn=>?_⟩
      ·show w.heap.size≤(wr.setCell ⟨b,n / 64,none⟩ (.int .u64 v)).heap.size
       simpa [go_sem] using h.size
      ·exact (Below.heap_setCell _ _ _ _ (by simpa using hn)).trans (h.block j hj hn)
     have h2:(putS p (n:Int)).2=p.2+1:=by rw [he.out]
     have H2:=hid h2
     clear done hor hpw hv hlt2 h2
     go_wp2
     exact ⟨⟨k+1,by go_num,by rw [hsn.out,H2.out]; go_num,by omega,by rw [hsn.out]; exact Done.out,HE2.out⟩,by simp [intOf]; omega⟩
   ·have hd':yb3 x=false:=by simpa using hd
    have hm:=hid (c1.out x)
    rw [hd'] at hm
    have he:Hid (putS p x=p):=by show _ = _; rw [putS,hd']; rfl
    clear hd hd'
    go_wp2_with fail
    refine (hm.out _).mono ?_
    rintro e w' ⟨rfl,rfl⟩
    go_wp2
    exact ⟨⟨k+1,by go_num,by rw [hsn.out,he.out],by omega,by rw [hsn.out,he.out]; exact ⟨HJ.out.1,HJ.out.2.1,HJ.out.2.2.1,by have:=HJ.out.2.2.2; omega⟩,HE.out⟩,by simp [intOf]; omega⟩
  ·have hke:l.take k=l:=List.take_of_length_le (by omega)
   rw [hke] at HJ⊢
   clear hke
   go_wp2
   go_ret
   exact ⟨rfl,HJ.out.1,HJ.out.2.1,HE.out⟩
theorem putS_bit (x:(Nat→Nat) × Nat) (n:Int) (k:Nat) (hk:k < 86400):bitW (putS x n).1 k= (bitW x.1 k || decide ((k:Int)=n)):=by
 rw [putS]
 by_cases hd:yb3 n=true
 ·obtain ⟨j,rfl,hj⟩:=ybO hd
  rw [hd,Int.toNat_natCast]
  cases hb:bitW x.1 j
  ·simp only [Bool.not_false,Bool.and_self,if_true]
   rw [bitW,bitW]
   by_cases e:k / 64=j / 64
   ·have e2:decide (j % 64=k % 64)=decide ((k:Int)= (j:Int)):=by
     rw [zze,zzY,zzY]
     omega
    simp only [e,if_true,Nat.testBit_or,Nat.testBit_two_pow,e2]
   ·have h2:decide ((k:Int)= (j:Int))=false:=zzd (by omega)
    simp only [e,if_false,h2,Bool.or_false]
  ·simp only [Bool.not_true,Bool.and_false,Bool.false_eq_true,if_false]
   by_cases e:k=j
   ·subst e; rw [hb]; rfl
   ·rw [zzd (by omega),Bool.or_false]
 ·have hd':yb3 n=false:=by simpa using hd
  have hne:¬(k:Int)=n:=fun e=>by
   subst e
   rw [ycF,zzZ hk] at hd'
   cases hd'
  rw [hd',zzd hne]
  simp
theorem yg8 (k:Nat) (hk:k < 86400):∀(l:List Int) (x:(Nat→Nat) × Nat),bitW (l.foldl putS x).1 k= (bitW x.1 k || decide ((k:Int)∈l))
 | [],x=>by simp
 | n :: l,x=>by
   rw [List.foldl_cons,yg8 k hk l,putS_bit x n k hk,Bool.or_assoc]
   congr 1
   rw [zze]
   simp
theorem yiF (f:Nat→Nat) (l:List Int) (k:Nat) (hk:k < 86400):bitW (putL f l).1 k= (bitW f k || decide ((k:Int)∈l)):=yg8 k hk l (f,0)
theorem putS_lt (x:(Nat→Nat) × Nat) (n:Int) (hx:∀i,i < 1350→x.1 i < 18446744073709551616):∀i,i < 1350→(putS x n).1 i < 18446744073709551616:=by
 intro i hi
 rw [putS]
 split
 ·rename_i h
  simp only [zzX] at h
  obtain ⟨j,rfl,hj⟩:=ybO h.1
  rw [Int.toNat_natCast]
  simp only []
  split
  ·exact yeH (hx _ (by omega)) (ybS (Nat.mod_lt _ (by omega)))
  ·exact hx i hi
 ·exact hx i hi
theorem yi1:∀(l:List Int) (x:(Nat→Nat) × Nat),(∀i,i < 1350→x.1 i < 18446744073709551616)→∀i,i < 1350→(l.foldl putS x).1 i < 18446744073709551616
 | [],x,hx=>hx
 | n :: l,x,hx=>yi1 l _ (putS_lt x n hx)
theorem putL_lt (f:Nat→Nat) (l:List Int) (hf:∀i,i < 1350→f i < 18446744073709551616):∀i,i < 1350→(putL f l).1 i < 18446744073709551616:=yi1 l _ hf
theorem yaE (W:World) (c:Array Value) (t:TypeId) (i:Nat):(W.alloc (.cells c t)).frozen? ⟨W.heap.size,i,none⟩=false:=by simp [go_sem]
def DiscAt (W:World) (b:Nat) (q:Nat→Bool):Prop:=∃f:Nat→Nat,DC W b f∧(∀i,W.frozen? ⟨b,i,none⟩=false)∧(∀i,i < 1350→f i < 18446744073709551616)∧(∀k,k < 86400→bitW f k=q k)∧b < W.heap.size
theorem DiscAt.below {W W':World} {b B:Nat} {q:Nat→Bool} (h:DiscAt W b q) (hb:Below B W W') (hB:b < B):DiscAt W' b q:=by
 obtain ⟨f,h1,h2,h3,h4,h5⟩:=h
 exact ⟨f,h1.below hb hB,fun i=>(hb.frozen (p:=⟨b,i,none⟩) hB).trans (h2 i),h3,h4,zH h5 hb.size⟩
def memD (l:List Int) (k:Nat):Bool:=decide ((k:Int)∈l)
theorem yd4 (a:Option Addr) (cap:Nat) (l:List Int) (w:World) (hl:l.length≤9223372036854775807) (hs:Sl w a (ints l)) :
  Calls Tryz.prog 158 #[.slice a l.length cap] w fun e w'=>e= .returned (.pointer (some ⟨w.heap.size,0,none⟩))∧DiscAt w' w.heap.size (memD l)∧Below w.heap.size w w':=by
 obtain ⟨W1,hW1⟩:∃W1,w.alloc (.cells Tryz.zeroCells131 131)=W1:=⟨_,rfl⟩
 have q1:DC W1 w.heap.size (fun _=>0):=by rw [←hW1]; exact dc_new w
 have q2:∀i,W1.frozen? ⟨w.heap.size,i,none⟩=false:=fun i=>by rw [←hW1]; exact yaE w _ _ i
 have q3:Below w.heap.size w W1:=by rw [←hW1]; exact yaa (Below.refl _ _) (zG _)
 have q4:W1.heap.size=w.heap.size+1:=by rw [←hW1]; simp
 have c1:Hid (Calls Tryz.prog 171 #[.pointer (some ⟨w.heap.size,0,none⟩), .slice a l.length cap] W1 fun e w'=>(∃n:Nat,e= .returned (.int .i64 n))∧DiscAt w' w.heap.size (memD l)∧Eff (fun x=>x=w.heap.size) W1 w'):=by
  refine (Put_any w.heap.size (fun _=>0) a cap l W1 hl (hs.below q3) ?_ q1 q2 (fun _ _=>by omega)).mono fun e w' ⟨h1,h2,h3,h4⟩=>⟨⟨_,h1⟩,⟨_,h2,h3,putL_lt _ _ (fun _ _=>by omega),fun k hk=>?_,by have:=h4.size; omega⟩,h4⟩
  ·rintro hl g off rfl
   obtain ⟨g',off',e,hb,_⟩:=hs.atInt (k:=0) (List.length_pos_iff.mpr hl)
   cases e; omega
  ·rw [yiF _ _ k hk,bitW,Nat.zero_testBit,Bool.false_or]; rfl
 have HW1:=hid hW1
 have Q3:=hid q3
 clear hW1 q1 q2 q3 hs
 go_enter Tryz.func158,Tryz.ntmps158
 go_wp2_with fail
 rw [HW1.out]
 refine c1.out.mono ?_
 rintro e w2 ⟨⟨n,rfl⟩,hd,hE⟩
 have Hd:=hid hd
 have HE:=hid hE
 clear hd hE
 go_wp2
 go_ret
 exact ⟨rfl,Hd.out,Q3.out.trans (HE.out.below (by rintro b rfl; exact zG _) (by omega))⟩
end
section
open Go.RowKit
def MC (W:World) (b:Nat) (l:List Int):Prop:=∀j,j < 86400→W.cell? ⟨b,j,none⟩=some (.bool (memD l j))
theorem MC.below {W W':World} {b B:Nat} {l:List Int} (h:MC W b l) (hb:Below B W W') (hB:b < B):MC W' b l:=fun j hj=>(hb.cell (p:=⟨b,j,none⟩) hB).trans (h j hj)
def secL (q:Nat→Bool):List Int:=sel q 86400
end
section
open Go.RowKit
def hrL (X:List Int):List Int:=X.map fun s=>s / 3600
def mnL (X:List Int):List Int:=X.map fun s=>s / 60 % 60
def scL (X:List Int):List Int:=X.map fun s=>s % 60
theorem tm_snoc {X:List Int} {k:Nat} (hk:k < X.length) (h0:0≤X[k]) (h1:X[k] < 86400) :
  ofM (hrL (X.take (k+1)))=ofM (hrL (X.take k)) ||| 2 ^ (X[k] / 3600).toNat∧ofM (mnL (X.take (k+1)))=ofM (mnL (X.take k)) ||| 2 ^ (X[k] / 60 % 60).toNat∧ofM (scL (X.take (k+1)))=ofM (scL (X.take k)) ||| 2 ^ (X[k] % 60).toNat:=by
 rw [yap X k hk]
 refine ⟨?_,?_,?_⟩
 ·rw [yiJ _ _ (by omega),hrL,List.map_append,Int.toNat_of_nonneg (by omega)]; rfl
 ·rw [yiJ _ _ (by omega),mnL,List.map_append,Int.toNat_of_nonneg (by omega)]; rfl
 ·rw [yiJ _ _ (by omega),scL,List.map_append,Int.toNat_of_nonneg (by omega)]; rfl
def fcU (H M S:Nat) (L:List Int) (i:Nat):Nat:=
 if i=0 then S else if i=1 then M else if i=2 then H
 else if i < 7 then ofM (L.map fun D=>shF D (i - 1))
 else if i < 14 then wof (L.map fun D=>shF D 1 - 1970) (i - 7)
 else if i < 22 then ofM ((L.filter fun D=>decide (shF D 5= ((i - 14:Nat):Int))).map fun D=>shF D 6)
 else if i < 30 then ofM ((L.filter fun D=>decide (shF D 5= ((i - 22:Nat):Int))).map fun D=>shF D 7)
 else if i < 38 then ofM ((L.filter fun D=>decide (shF D 5= ((i - 30:Nat):Int))).map fun D=>shF D 8)
 else ofM ((L.filter fun D=>decide (shF D 5= ((i - 38:Nat):Int))).map fun D=>shF D 9)
def dyU (s:Nat→Int) (u:Nat→Nat) (i:Nat):Nat:=
 if i < 3 then u i else if i < 7 then u i ||| ofM [s (i - 1)]
 else if i < 14 then if (i - 7:Nat)= (s 1 - 1970).toNat / 64 then u i ||| 2 ^ ((s 1 - 1970).toNat % 64) else u i
 else if i < 22 then if ((i - 14:Nat):Int)=s 5 then u i ||| ofM [s 6] else u i
 else if i < 30 then if ((i - 22:Nat):Int)=s 5 then u i ||| ofM [s 7] else u i
 else if i < 38 then if ((i - 30:Nat):Int)=s 5 then u i ||| ofM [s 8] else u i
 else if ((i - 38:Nat):Int)=s 5 then u i ||| ofM [s 9] else u i
theorem mk_bor (p q:Nat→Bool):mk p ||| mk q=mk fun i=>p i || q i:=
 ydV (yeH (yao p) (yao q)) fun i hi=>by rw [Nat.testBit_or,yaw,yaw]; simp [hi]
theorem yiI (l:List Int) (x:Int):ofM (l ++ [x])=ofM l ||| ofM [x]:=by
 rw [ofM,ofM,ofM,mk_bor]
 exact yaC fun i _=>by simp [inB,Bool.decide_or]
theorem yei (L:List Int) (D:Int) (i k:Nat) (j:Nat):ofM (((L ++ [D]).filter fun D=>decide (shF D 5= (j:Int))).map fun D=>shF D k)=if (j:Int)=shF D 5 then ofM ((L.filter fun D=>decide (shF D 5= (j:Int))).map fun D=>shF D k) ||| ofM [shF D k] else ofM ((L.filter fun D=>decide (shF D 5= (j:Int))).map fun D=>shF D k):=by
 rw [List.filter_append,List.map_append]
 by_cases h:(j:Int)=shF D 5
 ·rw [if_pos h,List.filter_cons,if_pos (by rw [zzY]; exact h.symm),List.filter_nil,List.map_cons,List.map_nil,yiI]
 ·rw [if_neg h,List.filter_cons,if_neg (by rw [zzY]; exact fun e=>h e.symm),List.filter_nil,List.map_nil,List.append_nil]
theorem fcU_snoc (H M S:Nat) (L:List Int) {D:Int} (h0:1970≤shF D 1) (h1:shF D 1 < 2370) (i:Nat):fcU H M S (L ++ [D]) i=dyU (shF D) (fcU H M S L) i:=by
 simp only [fcU,dyU]
 by_cases a3:i < 3
 ·rw [if_pos a3]
  have:i=0∨i=1∨i=2:=by omega
  rcases this with rfl | rfl | rfl <;> rfl
 ·simp only [if_neg a3,if_neg (show¬i=0 by omega),if_neg (show¬i=1 by omega),if_neg (show¬i=2 by omega)]
  by_cases a7:i < 7
  ·simp only [if_pos a7]
   rw [List.map_append,List.map_cons,List.map_nil,yiI]
  simp only [if_neg a7]
  by_cases a14:i < 14
  ·simp only [if_pos a14]
   obtain ⟨n,hn⟩:∃n:Nat,shF D 1 - 1970= (n:Int):=⟨(shF D 1 - 1970).toNat,by omega⟩
   rw [List.map_append,List.map_cons,List.map_nil,hn,Int.toNat_natCast]
   by_cases e:i - 7=n / 64
   ·rw [if_pos e,e,wof_in _ _ (by omega)]
   ·rw [if_neg e,wof_other _ _ _ e]
  simp only [if_neg a14]
  by_cases a22:i < 22
  ·simp only [if_pos a22]; exact yei L D i 6 (i - 14)
  simp only [if_neg a22]
  by_cases a30:i < 30
  ·simp only [if_pos a30]; exact yei L D i 7 (i - 22)
  simp only [if_neg a30]
  by_cases a38:i < 38
  ·simp only [if_pos a38]; exact yei L D i 8 (i - 30)
  simp only [if_neg a38]
  exact yei L D i 9 (i - 38)
def bit3 (u:Nat→Nat) (s:Int):Prop:=(u 2).testBit (s / 3600).toNat=true∧(u 1).testBit (s / 60 % 60).toNat=true∧(u 0).testBit (s % 60).toNat=true
structure HmP (u:Nat→Nat) (P:Int→Prop):Prop where
 lt:∀i,i < 3→u i < 18446744073709551616
 inn:∀s,P s→bit3 u s
 rng:∀s,P s→0≤s∧s < 86400
 h:∀i,(u 2).testBit i=true→∃s,P s∧(s / 3600).toNat=i
 m:∀i,(u 1).testBit i=true→∃s,P s∧(s / 60 % 60).toNat=i
 s:∀i,(u 0).testBit i=true→∃s,P s∧(s % 60).toNat=i
theorem HmP.same {u:Nat→Nat} {P Q:Int→Prop} (h:HmP u P) (hi:∀s,P s→Q s) (ho:∀s,Q s→P s∨((0≤s∧s < 86400)∧bit3 u s)):HmP u Q:=
 ⟨h.lt,fun s hs=>(ho s hs).elim (h.inn s) (fun e=>e.2),fun s hs=>(ho s hs).elim (h.rng s) (fun e=>e.1),fun i e=>let ⟨s,h1,h2⟩:=h.h i e; ⟨s,hi s h1,h2⟩,fun i e=>let ⟨s,h1,h2⟩:=h.m i e; ⟨s,hi s h1,h2⟩,fun i e=>let ⟨s,h1,h2⟩:=h.s i e; ⟨s,hi s h1,h2⟩⟩
theorem HmP.as {u u':Nat→Nat} {P:Int→Prop} (h:HmP u P) (e:∀i,i < 3→u' i=u i):HmP u' P:=by
 have e0:=e 0 (by omega)
 have e1:=e 1 (by omega)
 have e2:=e 2 (by omega)
 exact ⟨fun i hi=>by rw [e i hi]; exact h.lt i hi,fun s hs=>by rw [bit3,e0,e1,e2]; exact h.inn s hs,h.rng,fun i=>by rw [e2]; exact h.h i,fun i=>by rw [e1]; exact h.m i,fun i=>by rw [e0]; exact h.s i⟩
theorem ych (l:List Int) (i:Nat):(ofM l).testBit i= (decide (i < 64) && decide ((i:Int)∈l)):=by rw [ofM,yaw,inB]
theorem HmP.or {u u':Nat→Nat} {P:Int→Prop} (h:HmP u P) {X:List Int} (hX:∀x∈X,0≤x∧x < 86400) (e2:u' 2=u 2 ||| ofM (hrL X)) (e1:u' 1=u 1 ||| ofM (mnL X)) (e0:u' 0=u 0 ||| ofM (scL X)):HmP u' (fun s=>P s∨s∈X):=by
 have key:∀s∈X,(ofM (hrL X)).testBit (s / 3600).toNat=true∧(ofM (mnL X)).testBit (s / 60 % 60).toNat=true∧(ofM (scL X)).testBit (s % 60).toNat=true:=fun s hs=>by
  have:=hX s hs
  refine ⟨?_,?_,?_⟩
  ·rw [ych,zzX,zzY,zzY,Int.toNat_of_nonneg (by omega)]
   exact ⟨by omega,List.mem_map.2 ⟨s,hs,rfl⟩⟩
  ·rw [ych,zzX,zzY,zzY,Int.toNat_of_nonneg (by omega)]
   exact ⟨by omega,List.mem_map.2 ⟨s,hs,rfl⟩⟩
  ·rw [ych,zzX,zzY,zzY,Int.toNat_of_nonneg (by omega)]
   exact ⟨by omega,List.mem_map.2 ⟨s,hs,rfl⟩⟩
 refine ⟨fun i hi=>?_,fun s hs=>?_,fun s hs=>hs.elim (h.rng s) (hX s),fun i hi=>?_,fun i hi=>?_,fun i hi=>?_⟩
 ·have:i=0∨i=1∨i=2:=by omega
  rcases this with rfl | rfl | rfl
  ·rw [e0]; exact yeH (h.lt 0 (by omega)) (yao _)
  ·rw [e1]; exact yeH (h.lt 1 (by omega)) (yao _)
  ·rw [e2]; exact yeH (h.lt 2 (by omega)) (yao _)
 ·rw [bit3,e0,e1,e2,Nat.testBit_or,Nat.testBit_or,Nat.testBit_or,Bool.or_eq_true,Bool.or_eq_true,Bool.or_eq_true]
  rcases hs with hs | hs
  ·obtain ⟨b2,b1,b0⟩:=h.inn s hs; exact ⟨.inl b2, .inl b1, .inl b0⟩
  ·obtain ⟨b2,b1,b0⟩:=key s hs; exact ⟨.inr b2, .inr b1, .inr b0⟩
 ·rw [e2,Nat.testBit_or,Bool.or_eq_true] at hi
  rcases hi with hi | hi
  ·obtain ⟨s,h1,h2⟩:=h.h i hi; exact ⟨s, .inl h1,h2⟩
  ·rw [ych,zzX,zzY,zzY,hrL,List.mem_map] at hi
   obtain ⟨-,s,hs,e⟩:=hi; exact ⟨s, .inr hs,by omega⟩
 ·rw [e1,Nat.testBit_or,Bool.or_eq_true] at hi
  rcases hi with hi | hi
  ·obtain ⟨s,h1,h2⟩:=h.m i hi; exact ⟨s, .inl h1,h2⟩
  ·rw [ych,zzX,zzY,zzY,mnL,List.mem_map] at hi
   obtain ⟨-,s,hs,e⟩:=hi; exact ⟨s, .inr hs,by omega⟩
 ·rw [e0,Nat.testBit_or,Bool.or_eq_true] at hi
  rcases hi with hi | hi
  ·obtain ⟨s,h1,h2⟩:=h.s i hi; exact ⟨s, .inl h1,h2⟩
  ·rw [ych,zzX,zzY,zzY,scL,List.mem_map] at hi
   obtain ⟨-,s,hs,e⟩:=hi; exact ⟨s, .inr hs,by omega⟩
theorem HmP.eq {u v:Nat→Nat} {P Q:Int→Prop} (h:HmP u P) (k:HmP v Q) (e:∀s,P s↔Q s) {i:Nat} (hi:i < 3):u i=v i:=by
 have:i=0∨i=1∨i=2:=by omega
 have key:∀{a b:Nat},(∀i,a.testBit i=true↔b.testBit i=true)→a=b:=fun hab=>Nat.eq_of_testBit_eq fun i=>zze.2 (hab i)
 rcases this with rfl | rfl | rfl
 ·refine key fun i=>⟨fun hi=>?_,fun hi=>?_⟩
  ·obtain ⟨s,h1,rfl⟩:=h.s i hi; exact (k.inn s ((e s).1 h1)).2.2
  ·obtain ⟨s,h1,rfl⟩:=k.s i hi; exact (h.inn s ((e s).2 h1)).2.2
 ·refine key fun i=>⟨fun hi=>?_,fun hi=>?_⟩
  ·obtain ⟨s,h1,rfl⟩:=h.m i hi; exact (k.inn s ((e s).1 h1)).2.1
  ·obtain ⟨s,h1,rfl⟩:=k.m i hi; exact (h.inn s ((e s).2 h1)).2.1
 ·refine key fun i=>⟨fun hi=>?_,fun hi=>?_⟩
  ·obtain ⟨s,h1,rfl⟩:=h.h i hi; exact (k.inn s ((e s).1 h1)).1
  ·obtain ⟨s,h1,rfl⟩:=k.h i hi; exact (h.inn s ((e s).2 h1)).1
def sqB (X:List Int):Bool:=decide ((yaS (ofM (hrL X)) (ofM (mnL X)) (ofM (scL X))).length=X.length)
def evB (ls:List (List Int)):Bool:=ls.all fun L=>decide (L=ls.headD [])
theorem evB_snoc (L0:List Int) (ls:List (List Int)) (L:List Int):evB ((L0 :: ls) ++ [L])= (evB (L0 :: ls) && decide (L=L0)):=by
 rw [evB,evB,List.cons_append,List.headD_cons,List.headD_cons,←List.cons_append,List.all_append]; simp
def sqA (ls:List (List Int)):Bool:=ls.all sqB
theorem ycQ (ls:List (List Int)) (L:List Int):sqA (ls ++ [L])= (sqA ls && sqB L):=by rw [sqA,sqA,List.all_append]; simp
end
section
open Go.RowKit
theorem bits_xor {a b:Nat} (ha:a < 18446744073709551616) (hb:b < 18446744073709551616):bits .xor .u64 (a:Int) (b:Int)= ((a ^^^ b:Nat):Int):=by
 show IntKind.u64.wrap ((BitVec.ofInt 64 (a:Int) ^^^ BitVec.ofInt 64 (b:Int)).toNat:Int)= _
 rw [BitVec.toNat_xor,yaN ha,yaN hb]
 exact ybe (Nat.xor_lt_two_pow (n:=64) ha hb)
def dv:Option Nat→Value
 | none=> .pointer none
 | some b=> .pointer (some ⟨b,0,none⟩)
def DW (W:World):Option Nat→(Nat→Nat)→Prop
 | none,f=>f=fun _=>0
 | some b,f=>DC W b f
theorem ydC (d:Option Nat) (f:Nat→Nat) (i:Nat) (w:World) (hc:DW w d f) (hi:i < 1350) :
  Calls Tryz.prog 130 #[dv d, .int .i64 i] w fun e w'=>e= .returned (.int .u64 (f i:Nat))∧w=w':=by
 match d,hc with
 | none,hc=>rw [show f=fun _=>0 from hc]; exact Word_nil i w
 | some b,hc=>exact Word_any b f i w hc hi
def yjM (x y:Nat):Nat:=mk (fun k=>x.testBit k && !y.testBit k)
theorem yig (x y:Nat) (w:World) (hx:x < 18446744073709551616) (hy:y < 18446744073709551616) :
  Calls Tryz.prog 88 #[.int .u64 x, .int .u64 y] w fun e w'=>e= .returned (.int .u64 (yjM x y:Nat))∧w=w':=by
 have h:=hid (ybs hx hy)
 go_enter Tryz.func88,Tryz.ntmps88
 go_wp2
 go_ret
 rw [h.out]
 exact ⟨rfl,rfl⟩
theorem yhv (x y:Nat) (w:World) (hx:x < 18446744073709551616) (hy:y < 18446744073709551616) :
  Calls Tryz.prog 150 #[.int .u64 x, .int .u64 y] w fun e w'=>e= .returned (.int .u64 (x ^^^ y:Nat))∧w=w':=by
 have h:=hid (bits_xor hx hy)
 go_enter Tryz.func150,Tryz.ntmps150
 go_wp2
 go_ret
 rw [h.out]
 exact ⟨rfl,rfl⟩
def FirstOf (p:Nat→Bool) (n:Int) (ok:Bool):Prop:=
 (ok=true∧∃k:Nat,n=k∧k < 86400∧p k=true∧∀j,j < k→p j=false)∨(ok=false∧n=0∧∀j,j < 86400→p j=false)
theorem FirstOf.unique {p:Nat→Bool} {n n':Int} {ok ok':Bool} (h:FirstOf p n ok) (h':FirstOf p n' ok'):n=n'∧ok=ok':=by
 rcases h with ⟨rfl,k,rfl,hk,h1,h2⟩ | ⟨rfl,rfl,h2⟩ <;> rcases h' with ⟨rfl,k',rfl,hk',h1',h2'⟩ | ⟨rfl,rfl,h2'⟩
 ·refine ⟨?_,rfl⟩
  rcases Nat.lt_trichotomy k k' with h | h | h
  ·rw [h2' k h] at h1; cases h1
  ·rw [h]
  ·rw [h2 k' h] at h1'; cases h1'
 ·rw [h2' k hk] at h1; cases h1
 ·rw [h2 k' hk'] at h1'; cases h1'
 ·exact ⟨rfl,rfl⟩
theorem ydS (h:Nat→Nat) (k:Nat) (hk:k < 1350) (hz:∀j,j < k→h j=0) (hb:h k < 18446744073709551616) (hl:ya6 (h k)=true):FirstOf (bitW h) ((k:Int) * 64+ybF (h k)) true:=by
 have h0:h k≠0:=by simpa [ya6] using hl
 obtain ⟨h1,h2,h3⟩:=yeh h0 hb
 refine .inl ⟨rfl,k * 64+lsb (h k),by rw [ybF,if_neg h0]; simp,by omega,?_,fun j hj=>?_⟩
 ·rw [bitW,show (k * 64+lsb (h k)) / 64=k by omega,show (k * 64+lsb (h k)) % 64=lsb (h k) by omega]; exact h2
 ·rw [bitW]
  by_cases e:j / 64=k
  ·rw [e]; exact h3 _ (by omega)
  ·rw [hz (j / 64) (by omega),Nat.zero_testBit]
theorem ydQ {m:Nat} (hm:m < 18446744073709551616):0≤ybF m∧ybF m < 64:=by
 rw [ybF]
 split
 ·omega
 ·rename_i h0
  have:=(yeh h0 hm).1
  omega
theorem ydT (h:Nat→Nat) (hz:∀j,j < 1350→h j=0):FirstOf (bitW h) 0 false:=by
 refine .inr ⟨rfl,rfl,fun j hj=>?_⟩
 rw [bitW,hz (j / 64) (by omega),Nat.zero_testBit]
theorem yfc (d e:Option Nat) (f g:Nat→Nat) (w:World) (hT:Tab w) (hd:DW w d f) (he:DW w e g) (hf:∀i,i < 1350→f i < 18446744073709551616) (hg:∀i,i < 1350→g i < 18446744073709551616) :
  Calls Tryz.prog 87 #[dv d,dv e, .func (.func 88) #[] #[]] w fun r w'=>(∃n ok,r= .returned (.tuple #[.int .i64 n, .bool ok])∧FirstOf (bitW (fun i=>yjM (f i) (g i))) n ok)∧w=w':=by
 have c1:=hid (fun i hi=>ydC d f i w hd hi)
 have c2:=hid (fun i hi=>ydC e g i w he hi)
 have c3:=hid (fun i hi=>yig (f i) (g i) w (hf i hi) (hg i hi))
 have c4:=hid (fun m hm=>ycc m w hm hT)
 obtain ⟨h,hh⟩:∃h:Nat→Nat,h=fun i=>yjM (f i) (g i):=⟨_,rfl⟩
 have hw:Hid (∀i,i < 1350→h i < 18446744073709551616):=fun i hi=>by rw [hh]; exact yao _
 have e3:Hid (∀i,i < 1350→Calls Tryz.prog 88 #[.int .u64 (f i:Nat), .int .u64 (g i:Nat)] w fun e w'=>e= .returned (.int .u64 (h i:Nat))∧w=w'):=fun i hi=>by rw [hh]; exact c3.out i hi
 rw [←hh]
 obtain ⟨dp,hdp⟩:∃v,dv d=v:=⟨_,rfl⟩
 obtain ⟨ep,hep⟩:∃v,dv e=v:=⟨_,rfl⟩
 rw [hdp] at c1⊢
 rw [hep] at c2⊢
 clear hdp hep hd he hf hg hT hh c3
 go_enter Tryz.func87,Tryz.ntmps87
 go_wp2
 go_loopw [11] (fun i wr=>∃k:Nat,i= .int .i64 k∧Hid (k≤1350)∧Hid (∀j,j < k→h j=0)∧wr=w) (fun i _=>1350 - (intOf i).toNat)
 case atStart=>exact ⟨0,rfl,Nat.zero_le _,fun j hj=>by omega,rfl⟩
 case round=>
  obtain ⟨k,rfl,hk,hz,rfl⟩:=hrel
  by_cases hlt:(k:Int) < 1350
  ·have hk2:k < 1350:=by omega
   have d1:=hid (c1.out k hk2)
   have d2:=hid (c2.out k hk2)
   have d3:=hid (e3.out k hk2)
   have d4:=hid (c4.out _ (hw.out k hk2))
   have hfw:=hid (ydS h k hk2 hz.out (hw.out k hk2))
   obtain ⟨b1,b2⟩:=ydQ (hw.out k hk2)
   have Hk2:=hid hk2
   have hb0:Hid (ya6 (h k)=false→h k=0):=fun h=>by simpa [ya6] using h
   obtain ⟨L,hL⟩:∃L,ybF (h k)=L:=⟨_,rfl⟩
   rw [hL] at d4 hfw b1 b2
   clear hk2 hL
   cases hB:ya6 (h k)
   ·rw [hB] at d4
    have hz2:Hid (∀j,j < k+1→h j=0):=fun j hj=>by
     by_cases e:j=k
     ·rw [e]; exact hb0.out hB
     ·exact hz.out j (by omega)
    clear hB
    go_wp2_with fail
    refine d1.out.mono ?_
    rintro e w' ⟨rfl,rfl⟩
    go_wp2_with fail
    refine d2.out.mono ?_
    rintro e w' ⟨rfl,rfl⟩
    go_wp2_with fail
    refine d3.out.mono ?_
    rintro e w' ⟨rfl,rfl⟩
    go_wp2_with fail
    refine d4.out.mono ?_
    rintro e w' ⟨rfl,rfl⟩
    go_wp2
    exact ⟨⟨k+1,by go_num,Hk2.out,hz2.out,by trivial⟩,by simp [intOf]; omega⟩
   ·rw [hB] at d4
    have hr:=hid (hfw.out hB)
    clear hB
    go_wp2_with fail
    refine d1.out.mono ?_
    rintro e w' ⟨rfl,rfl⟩
    go_wp2_with fail
    refine d2.out.mono ?_
    rintro e w' ⟨rfl,rfl⟩
    go_wp2_with fail
    refine d3.out.mono ?_
    rintro e w' ⟨rfl,rfl⟩
    go_wp2_with fail
    refine d4.out.mono ?_
    rintro e w' ⟨rfl,rfl⟩
    go_wp2
    go_ret2
    exact ⟨⟨_,_,rfl,hr.out⟩,rfl⟩
  ·have hz2:Hid (FirstOf (bitW h) 0 false):=ydT h (fun j hj=>hz.out j (by omega))
   go_wp2
   go_ret2
   exact ⟨⟨_, .inl ⟨rfl,hz2.out⟩⟩,rfl⟩
theorem yeQ (d e:Option Nat) (f g:Nat→Nat) (w:World) (hT:Tab w) (hd:DW w d f) (he:DW w e g) (hf:∀i,i < 1350→f i < 18446744073709551616) (hg:∀i,i < 1350→g i < 18446744073709551616) :
  Calls Tryz.prog 87 #[dv d,dv e, .func (.func 150) #[] #[]] w fun r w'=>(∃n ok,r= .returned (.tuple #[.int .i64 n, .bool ok])∧FirstOf (bitW (fun i=>f i ^^^ g i)) n ok)∧w=w':=by
 have c1:=hid (fun i hi=>ydC d f i w hd hi)
 have c2:=hid (fun i hi=>ydC e g i w he hi)
 have c3:=hid (fun i hi=>yhv (f i) (g i) w (hf i hi) (hg i hi))
 have c4:=hid (fun m hm=>ycc m w hm hT)
 obtain ⟨h,hh⟩:∃h:Nat→Nat,h=fun i=>f i ^^^ g i:=⟨_,rfl⟩
 have hw:Hid (∀i,i < 1350→h i < 18446744073709551616):=fun i hi=>by rw [hh]; exact Nat.xor_lt_two_pow (n:=64) (hf i hi) (hg i hi)
 have e3:Hid (∀i,i < 1350→Calls Tryz.prog 150 #[.int .u64 (f i:Nat), .int .u64 (g i:Nat)] w fun e w'=>e= .returned (.int .u64 (h i:Nat))∧w=w'):=fun i hi=>by rw [hh]; exact c3.out i hi
 rw [←hh]
 obtain ⟨dp,hdp⟩:∃v,dv d=v:=⟨_,rfl⟩
 obtain ⟨ep,hep⟩:∃v,dv e=v:=⟨_,rfl⟩
 rw [hdp] at c1⊢
 rw [hep] at c2⊢
 clear hdp hep hd he hf hg hT hh c3
 go_enter Tryz.func87,Tryz.ntmps87
 go_wp2
 go_loopw [11] (fun i wr=>∃k:Nat,i= .int .i64 k∧Hid (k≤1350)∧Hid (∀j,j < k→h j=0)∧wr=w) (fun i _=>1350 - (intOf i).toNat)
 case atStart=>exact ⟨0,rfl,Nat.zero_le _,fun j hj=>by omega,rfl⟩
 case round=>
  obtain ⟨k,rfl,hk,hz,rfl⟩:=hrel
  by_cases hlt:(k:Int) < 1350
  ·have hk2:k < 1350:=by omega
   have d1:=hid (c1.out k hk2)
   have d2:=hid (c2.out k hk2)
   have d3:=hid (e3.out k hk2)
   have d4:=hid (c4.out _ (hw.out k hk2))
   have hfw:=hid (ydS h k hk2 hz.out (hw.out k hk2))
   obtain ⟨b1,b2⟩:=ydQ (hw.out k hk2)
   have Hk2:=hid hk2
   have hb0:Hid (ya6 (h k)=false→h k=0):=fun h=>by simpa [ya6] using h
   obtain ⟨L,hL⟩:∃L,ybF (h k)=L:=⟨_,rfl⟩
   rw [hL] at d4 hfw b1 b2
   clear hk2 hL
   cases hB:ya6 (h k)
   ·rw [hB] at d4
    have hz2:Hid (∀j,j < k+1→h j=0):=fun j hj=>by
     by_cases e:j=k
     ·rw [e]; exact hb0.out hB
     ·exact hz.out j (by omega)
    clear hB
    go_wp2_with fail
    refine d1.out.mono ?_
    rintro e w' ⟨rfl,rfl⟩
    go_wp2_with fail
    refine d2.out.mono ?_
    rintro e w' ⟨rfl,rfl⟩
    go_wp2_with fail
    refine d3.out.mono ?_
    rintro e w' ⟨rfl,rfl⟩
    go_wp2_with fail
    refine d4.out.mono ?_
    rintro e w' ⟨rfl,rfl⟩
    go_wp2
    exact ⟨⟨k+1,by go_num,Hk2.out,hz2.out,by trivial⟩,by simp [intOf]; omega⟩
   ·rw [hB] at d4
    have hr:=hid (hfw.out hB)
    clear hB
    go_wp2_with fail
    refine d1.out.mono ?_
    rintro e w' ⟨rfl,rfl⟩
    go_wp2_with fail
    refine d2.out.mono ?_
    rintro e w' ⟨rfl,rfl⟩
    go_wp2_with fail
    refine d3.out.mono ?_
    rintro e w' ⟨rfl,rfl⟩
    go_wp2_with fail
    refine d4.out.mono ?_
    rintro e w' ⟨rfl,rfl⟩
    go_wp2
    go_ret2
    exact ⟨⟨_,_,rfl,hr.out⟩,rfl⟩
  ·have hz2:Hid (FirstOf (bitW h) 0 false):=ydT h (fun j hj=>hz.out j (by omega))
   go_wp2
   go_ret2
   exact ⟨⟨_, .inl ⟨rfl,hz2.out⟩⟩,rfl⟩
theorem FirstOf.congr {p q:Nat→Bool} {n:Int} {ok:Bool} (h:FirstOf p n ok) (e:∀k,k < 86400→p k=q k):FirstOf q n ok:=by
 rcases h with ⟨h1,k,h2,h3,h4,h5⟩ | ⟨h1,h2,h3⟩
 ·exact .inl ⟨h1,k,h2,h3,by rw [←e k h3]; exact h4,fun j hj=>by rw [←e j (by omega)]; exact h5 j hj⟩
 ·exact .inr ⟨h1,h2,fun j hj=>by rw [←e j hj]; exact h3 j hj⟩
def DiscV (W:World):Option Nat→(Nat→Bool)→Prop
 | none,q=>∀k,k < 86400→q k=false
 | some b,q=>DiscAt W b q
theorem DiscV.words {W:World} {d:Option Nat} {q:Nat→Bool} (h:DiscV W d q):∃f,DW W d f∧(∀i,i < 1350→f i < 18446744073709551616)∧∀k,k < 86400→bitW f k=q k:=by
 match d,h with
 | none,h=>exact ⟨fun _=>0,rfl,fun _ _=>by show 0 < _; omega,fun k hk=>by rw [bitW,Nat.zero_testBit]; exact (h k hk).symm⟩
 | some b,⟨f,h1,h2,h3,h4,h5⟩=>exact ⟨f,h1,h3,h4⟩
theorem lackW_bit (f g:Nat→Nat) (k:Nat):bitW (fun i=>yjM (f i) (g i)) k= (bitW f k && !bitW g k):=by
 rw [bitW,bitW,bitW,yjM,yaw,zzZ (Nat.mod_lt _ (by omega)),zzo]
theorem xorW_bit (f g:Nat→Nat) (k:Nat):bitW (fun i=>f i ^^^ g i) k= (bitW f k != bitW g k):=by
 rw [bitW,bitW,bitW,Nat.testBit_xor]
theorem ykv (d e:Option Nat) (p q:Nat→Bool) (w:World) (hT:Tab w) (hd:DiscV w d p) (he:DiscV w e q) :
  Calls Tryz.prog 40 #[dv d,dv e] w fun r w'=>(∃n ok,r= .returned (.tuple #[.int .i64 n, .bool ok])∧FirstOf (fun k=>p k && !q k) n ok)∧w=w':=by
 obtain ⟨f,f1,f2,f3⟩:=hd.words
 obtain ⟨g,g1,g2,g3⟩:=he.words
 have c1:=hid (yfc d e f g w hT f1 g1 f2 g2)
 have hb:Hid (∀k,k < 86400→bitW (fun i=>yjM (f i) (g i)) k= (p k && !q k)):=fun k hk=>by rw [lackW_bit,f3 k hk,g3 k hk]
 obtain ⟨dp,hdp⟩:∃v,dv d=v:=⟨_,rfl⟩
 obtain ⟨ep,hep⟩:∃v,dv e=v:=⟨_,rfl⟩
 rw [hdp] at c1⊢
 rw [hep] at c1⊢
 clear hdp hep hd he hT f1 f2 f3 g1 g2 g3
 go_enter Tryz.func40,Tryz.ntmps40
 go_wp2_with fail
 refine c1.out.mono ?_
 rintro r w' ⟨⟨n,ok,rfl,hF⟩,rfl⟩
 have HF:=hid hF
 clear hF
 go_wp2
 go_ret2
 exact ⟨⟨n,ok,rfl,HF.out.congr hb.out⟩,rfl⟩
theorem yil (d e:Option Nat) (p q:Nat→Bool) (w:World) (hT:Tab w) (hd:DiscV w d p) (he:DiscV w e q) :
  Calls Tryz.prog 106 #[dv d,dv e] w fun r w'=>(∃n ok,r= .returned (.tuple #[.int .i64 n, .bool ok])∧FirstOf (fun k=>p k != q k) n ok)∧w=w':=by
 obtain ⟨f,f1,f2,f3⟩:=hd.words
 obtain ⟨g,g1,g2,g3⟩:=he.words
 have c1:=hid (yeQ d e f g w hT f1 g1 f2 g2)
 have hb:Hid (∀k,k < 86400→bitW (fun i=>f i ^^^ g i) k= (p k != q k)):=fun k hk=>by rw [xorW_bit,f3 k hk,g3 k hk]
 obtain ⟨dp,hdp⟩:∃v,dv d=v:=⟨_,rfl⟩
 obtain ⟨ep,hep⟩:∃v,dv e=v:=⟨_,rfl⟩
 rw [hdp] at c1⊢
 rw [hep] at c1⊢
 clear hdp hep hd he hT f1 f2 f3 g1 g2 g3
 go_enter Tryz.func106,Tryz.ntmps106
 go_wp2_with fail
 refine c1.out.mono ?_
 rintro r w' ⟨⟨n,ok,rfl,hF⟩,rfl⟩
 have HF:=hid hF
 clear hF
 go_wp2
 go_ret2
 exact ⟨⟨n,ok,rfl,HF.out.congr hb.out⟩,rfl⟩
theorem ykx (d e:Option Nat) (p q:Nat→Bool) (w:World) (hT:Tab w) (hd:DiscV w d p) (he:DiscV w e q) :
  Calls Tryz.prog 59 #[dv d,dv e] w fun r w'=>(∃n ok,r= .returned (.bool !ok)∧FirstOf (fun k=>p k != q k) n ok)∧w=w':=by
 have c1:=hid (yil d e p q w hT hd he)
 obtain ⟨dp,hdp⟩:∃v,dv d=v:=⟨_,rfl⟩
 obtain ⟨ep,hep⟩:∃v,dv e=v:=⟨_,rfl⟩
 rw [hdp] at c1⊢
 rw [hep] at c1⊢
 clear hdp hep hd he hT
 go_enter Tryz.func59,Tryz.ntmps59
 go_wp2_with fail
 refine c1.out.mono ?_
 rintro r w' ⟨⟨n,ok,rfl,hF⟩,rfl⟩
 have HF:=hid hF
 clear hF
 go_wp2
 go_ret
 exact ⟨⟨n,ok,rfl,HF.out⟩,rfl⟩
end
end Go.Proofs.YtkpgfmonhfnhdaaGreatDoor
