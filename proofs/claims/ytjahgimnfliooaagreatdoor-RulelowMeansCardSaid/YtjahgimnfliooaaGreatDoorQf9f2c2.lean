/-
  disc.least, with each of the two functions that it is handed.
  A disc's Join and Keep: they are handed discs that may be nil.
  A disc's Next.
  What feriaref15's functions compute: lists of seconds.
  A disc's Len, and feriaref15.Both.
  The law of a range over a function whose yield takes any values, for a client that may ask what has turned.
  A call of a function value with two arguments.
  A set of blocks.
-/
import Derived.Test.YtjahgimnfliooaaGreatDoorQe56d57
import Derived.Test.YtjahgimnfliooaaGreatDoorQe6aba9
import Derived.Deep.MidRow
import Derived.Test.YtjahgimnfliooaaGreatDoorQc74b0e
import Derived.Test.YtjahgimnfliooaaGreatDoorQ4c06b4
import Derived.Test.YtjahgimnfliooaaGreatDoorQ903a1a
set_option maxRecDepth 100000
set_option maxHeartbeats 25600000
namespace Go.Proofs.YtjahgimnfliooaaGreatDoor
set_option linter.unusedVariables false
section
open Go.RowKit
def dv:Option Nat→Value
 | none=> .pointer none
 | some b=> .pointer (some ⟨b,0,none⟩)
def DW (W:World):Option Nat→(Nat→Nat)→Prop
 | none,f=>f=fun _=>0
 | some b,f=>DC W b f
def FirstOf (p:Nat→Bool) (n:Int) (ok:Bool):Prop:=
 (ok=true∧∃k:Nat,n=k∧k < 86400∧p k=true∧∀j,j < k→p j=false)∨(ok=false∧n=0∧∀j,j < 86400→p j=false)
theorem FirstOf.unique {p:Nat→Bool} {n n':Int} {ok ok':Bool} (h:FirstOf p n ok) (h':FirstOf p n' ok'):n=n'∧ok=ok':=by
 rcases h with ⟨rfl,k,rfl,hk,h1,h2⟩ | ⟨rfl,rfl,h2⟩ <;> rcases h' with ⟨rfl,k',rfl,hk',h1',h2'⟩ | ⟨rfl,rfl,h2'⟩
 ·refine ⟨?_,rfl⟩
  rcases Nat.lt_trichotomy k k' with h | h | h
  ·rw [h2' k h] at h1; cases h1
  ·rw [h]
  ·rw [h2 k' h] at h1'; cases h1'
 ·rw [h2' k hk] at h1; cases h1
 ·rw [h2 k' hk'] at h1'; cases h1'
 ·exact ⟨rfl,rfl⟩
theorem yj9 (h:Nat→Nat) (k:Nat) (hk:k < 1350) (hz:∀j,j < k→h j=0) (hb:h k < 18446744073709551616) (hl:ybK (h k)=true):FirstOf (bitW h) ((k:Int) * 64+yb3 (h k)) true:=by
 have h0:h k≠0:=by simpa [ybK] using hl
 obtain ⟨h1,h2,h3⟩:=yeC h0 hb
 refine .inl ⟨rfl,k * 64+lsb (h k),by rw [yb3,if_neg h0]; simp,by omega,?_,fun j hj=>?_⟩
 ·rw [bitW,show (k * 64+lsb (h k)) / 64=k by omega,show (k * 64+lsb (h k)) % 64=lsb (h k) by omega]; exact h2
 ·rw [bitW]
  by_cases e:j / 64=k
  ·rw [e]; exact h3 _ (by omega)
  ·rw [hz (j / 64) (by omega),Nat.zero_testBit]
theorem yjY {m:Nat} (hm:m < 18446744073709551616):0≤yb3 m∧yb3 m < 64:=by
 rw [yb3]
 split
 ·omega
 ·rename_i h0
  have:=(yeC h0 hm).1
  omega
theorem ykb (h:Nat→Nat) (hz:∀j,j < 1350→h j=0):FirstOf (bitW h) 0 false:=by
 refine .inr ⟨rfl,rfl,fun j hj=>?_⟩
 rw [bitW,hz (j / 64) (by omega),Nat.zero_testBit]
theorem FirstOf.congr {p q:Nat→Bool} {n:Int} {ok:Bool} (h:FirstOf p n ok) (e:∀k,k < 86400→p k=q k):FirstOf q n ok:=by
 rcases h with ⟨h1,k,h2,h3,h4,h5⟩ | ⟨h1,h2,h3⟩
 ·exact .inl ⟨h1,k,h2,h3,by rw [←e k h3]; exact h4,fun j hj=>by rw [←e j (by omega)]; exact h5 j hj⟩
 ·exact .inr ⟨h1,h2,fun j hj=>by rw [←e j hj]; exact h3 j hj⟩
def DiscV (W:World):Option Nat→(Nat→Bool)→Prop
 | none,q=>∀k,k < 86400→q k=false
 | some b,q=>DiscAt W b q
theorem DiscV.words {W:World} {d:Option Nat} {q:Nat→Bool} (h:DiscV W d q):∃f,DW W d f∧(∀i,i < 1350→f i < 18446744073709551616)∧∀k,k < 86400→bitW f k=q k:=by
 match d,h with
 | none,h=>exact ⟨fun _=>0,rfl,fun _ _=>by show 0 < _; omega,fun k hk=>by rw [bitW,Nat.zero_testBit]; exact (h k hk).symm⟩
 | some b,⟨f,h1,h2,h3,h4,h5⟩=>exact ⟨f,h1,h3,h4⟩
end
section
open Go.RowKit
def dagg (f:Nat→Nat):Value:= .agg ((List.range 1350).map (fun i=>Value.int .u64 (f i:Nat))).toArray
theorem ygb (cs:Array Value) (v:Value) (i:Nat) (h:i < 1350) (hc:cs[i]? =some v) (W:World):(Instr.index 187 (.agg cs) (.int .i64 i)).run Tryz.prog W= .ok v W:=by
 obtain ⟨i0,hi0,hz0,hz1,hz2⟩:=info_parts ygn
 simp [Instr.index,go_sem,part,sizeOf,typeInfo,hi0,hz1,h,hc]
theorem yfz (f:Nat→Nat) (i:Nat) (h:i < 1350) (W:World):(Instr.index 187 (dagg f) (.int .i64 i)).run Tryz.prog W= .ok (.int .u64 (f i:Nat)) W:=by
 refine ygb _ _ i h ?_ W
 rw [List.getElem?_toArray,List.getElem?_map,List.getElem?_range h]; rfl
theorem dc_range {W:World} {b:Nat} {f:Nat→Nat} (h:DC W b f):W.rangeAt b 0 ((List.range 1350).map (fun i=>Value.int .u64 (f i:Nat))):=fun j v hv=>by
 obtain ⟨hj,e⟩:=zzq.1 hv
 simp at hj e
 rw [zzn,h j hj,←e]
theorem infoDisc:(Tryz.prog.info? 187).map (·.size)=some 1350:=by kernel_rfl
theorem DC.eff {W W':World} {b:Nat} {O:Nat→Prop} {f:Nat→Nat} (h:DC W b f) (hE:Eff O W W') (hb:b < W.heap.size) (hn:¬O b):DC W' b f:=fun i hi=>(hE.cell (p:=⟨b,i,none⟩) hb hn).trans (h i hi)
theorem Eff.frozen {O:Nat→Prop} {W W':World} (h:Eff O W W') {p:Addr} (hp:p.block < W.heap.size) (hn:¬O p.block):W'.frozen? p=W.frozen? p:=zzM (w:=W) (h.block p.block hp hn)
theorem Eff.set {O:Nat→Prop} {W W':World} (h:Eff O W W') {b:Nat} (hb:O b) (i:Nat) (v:Value):Eff O W (W'.setCell ⟨b,i,none⟩ v):=
 ⟨h.os,h.tape,h.output,by simpa [go_sem] using h.size,fun k hk hn=>(Below.heap_setCell _ _ _ _ (fun e=>hn (by subst e; exact hb))).trans (h.block k hk hn)⟩
theorem Eff.drew {O:Nat→Prop} {W W':World} (h:Eff O W W'):Eff O W W'.drew:=⟨h.os,h.tape,h.output,h.size,h.block⟩
abbrev DIn:=Option Nat × (Nat→Nat)
def dvs (ds:List DIn):List Value:=ds.map fun d=>dv d.1
theorem Sl.atD {w:World} {a:Option Addr} {l:List DIn} (h:Sl w a (dvs l)) {k:Nat} (hk:k < l.length) :
  ∃b off,a=some ⟨b,off,none⟩∧b < w.heap.size∧∀j (h:j < l.length),w.cell? ⟨b,off+j,none⟩=some (dv l[j].1):=by
 obtain ⟨b,off,rfl,hlt,hc⟩:=Sl.at h (k:=k) (by rw [dvs,List.length_map]; exact hk)
 refine ⟨b,off,rfl,hlt,fun j hj=>?_⟩
 rw [hc j (by rw [dvs,List.length_map]; exact hj)]
 simp [dvs]
structure DOk (W:World) (b:Nat) (d:DIn):Prop where
 words:DW W d.1 d.2
 bd:∀i,i < 1350→d.2 i < 18446744073709551616
 apart:∀c,d.1=some c→c≠b∧c < W.heap.size
theorem DOk.eff {W W':World} {b:Nat} {d:DIn} (h:DOk W b d) (hE:Eff (fun x=>x=b) W W'):DOk W' b d:=by
 obtain ⟨h1,h2,h3⟩:=h
 refine ⟨?_,h2,fun c e=>⟨(h3 c e).1,zH (h3 c e).2 hE.size⟩⟩
 match d,h1,h3 with
 | (none,f),h1,h3=>exact h1
 | (some c,f),h1,h3=>exact DC.eff h1 hE (h3 c rfl).2 (h3 c rfl).1
def orL (f:Nat→Nat) (ds:List DIn):Nat→Nat:=ds.foldl (fun f d i=>f i ||| d.2 i) f
theorem orL_snoc (f:Nat→Nat) (l:List DIn) (k:Nat) (h:k < l.length):orL f (l.take (k+1))=fun i=>orL f (l.take k) i ||| l[k].2 i:=by
 rw [orL,yam l k h,List.foldl_append]; rfl
structure Upd (b:Nat) (f:Nat→Nat) (W W':World):Prop where
 words:DC W' b f
 free:∀i,W'.frozen? ⟨b,i,none⟩=false
 bd:∀i,i < 1350→f i < 18446744073709551616
 eff:Eff (fun x=>x=b) W W'
theorem Upd.congr {b:Nat} {f g:Nat→Nat} {W W':World} (h:Upd b f W W') (e:∀i,i < 1350→f i=g i):Upd b g W W':=
 ⟨h.words.congr e,h.free,fun i hi=>by rw [←e i hi]; exact h.bd i hi,h.eff⟩
theorem Upd.set {b:Nat} {f:Nat→Nat} {W W':World} (h:Upd b f W W') {i:Nat} (hi:i < 1350) {v:Nat} (hv:v < 18446744073709551616):Upd b (fun j=>if j=i then v else f j) W (W'.setCell ⟨b,i,none⟩ (.int .u64 v)):=
 ⟨h.words.set hi,fun j=>by simp [go_sem,h.free j],fun j hj=>by
  show (if j=i then v else f j) < _
  split
  ·exact hv
  ·exact h.bd j hj,h.eff.set rfl i _⟩
theorem Upd.drew {b:Nat} {f:Nat→Nat} {W W':World} (h:Upd b f W W'):Upd b f W W'.drew:=⟨h.words,h.free,h.bd,h.eff.drew⟩
theorem DJoin_any (b:Nat) (f:Nat→Nat) (a:Option Addr) (cap:Nat) (ds:List DIn) (w:World) (hl:ds.length≤9223372036854775807) (hs:Sl w a (dvs ds)) (hne:ds≠ []→∀g off,a=some ⟨g,off,none⟩→g≠b)
  (hd:∀d∈ds,DOk w b d) (hu:Upd b f w w) :
  Calls Tryz.prog 181 #[.pointer (some ⟨b,0,none⟩), .slice a ds.length cap] w fun e w'=>(∃v,e= .returned v)∧Upd b (orL f ds) w w':=by
 have Hs:=hid hs
 have Hne:=hid hne
 have Hd:=hid hd
 have Hu:=hid hu
 have hlI:(ds.length:Int)≤9223372036854775807:=by omega
 clear hs hne hd hu hl
 go_enter Tryz.func181,Tryz.ntmps181
 go_wp2
 go_loopw [12] (fun i wr=>∃k:Nat,i= .int .i64 k∧k≤ds.length∧Hid (Upd b (orL f (ds.take k)) w wr)) (fun i _=>ds.length - (intOf i).toNat)
 case atStart=>exact ⟨0,rfl,by omega,Hu.out⟩
 case round=>
  obtain ⟨k,rfl,hk,HJ⟩:=hrel
  by_cases hlt:k < ds.length
  ·obtain ⟨g,off,rfl,hb,hcl⟩:=Hs.out.atD hlt
   have e1:=(HJ.out.eff.cell (p:=⟨g,off+k,none⟩) hb (Hne.out (fun e=>by rw [e] at hlt; simp at hlt) g off rfl)).trans (hcl k hlt)
   have hsn:=hid (orL_snoc f ds k hlt)
   have hdk:=hid ((Hd.out ds[k] (zzr hlt)).eff HJ.out.eff)
   obtain ⟨p,hp⟩:∃p,orL f (ds.take k)=p:=⟨_,rfl⟩
   rw [hp] at HJ hsn
   obtain ⟨d,hde⟩:∃d,ds[k]=d:=⟨_,rfl⟩
   rw [hde] at e1 hsn hdk
   clear hcl hp hde
   obtain ⟨dc,g2⟩:=d
   cases dc with
   | none=>
     have hz:Hid (g2=fun _=>0):=hdk.out.words
     have HJ2:Hid (Upd b (orL f (ds.take (k+1))) w wr):=by
      show Upd _ _ _ _
      rw [hsn.out]
      exact HJ.out.congr (fun i _=>by simp only [hz.out,Nat.or_zero])
     have e1':wr.cell? ⟨g,off+k,none⟩=some (.pointer none):=e1
     clear e1 HJ hsn hdk
     go_wp2
     exact ⟨⟨k+1,by go_num,by omega,HJ2.out⟩,by simp [intOf]; omega⟩
   | some c=>
     have hW:DC wr c g2:=hdk.out.words
     have hbd:=hid hdk.out.bd
     have hrg:=hid (dc_range hW)
     have hix:=hid (fun i hi W=>yfz g2 i hi W)
     have e1':wr.cell? ⟨g,off+k,none⟩=some (.pointer (some ⟨c,0,none⟩)):=e1
     clear e1 hW hdk
     go_wp2_with (refine wpList_load_mid rfl 187 (.tmp 20) rfl c 0 rfl _ _ hrg.out Tryz.underlying187 rfl (by rw [List.length_map,List.length_range]; exact infoDisc) ?_)
     obtain ⟨V,hV⟩:∃V,dagg g2=V:=⟨_,rfl⟩
     rw [show Value.agg ((List.range 1350).map (fun i=>Value.int .u64 (g2 i:Nat))).toArray=V from hV]
     rw [hV] at hix
     clear hV e1' hrg
     go_wp2_with fail
     go_loopw [22] (fun i wq=>∃j:Nat,i= .int .i64 j∧j≤1350∧Hid (Upd b (fun i=>if i < j then p i ||| g2 i else p i) w wq)) (fun i _=>1350 - (intOf i).toNat)
     case atStart=>exact ⟨0,rfl,by omega,HJ.out.congr (fun i _=>by simp)⟩
     case round=>
      obtain ⟨j,rfl,hj,HI⟩:=hrel
      by_cases hlt2:j < 1350
      ·have hi2:=hix.out j hlt2
       have e2:wr.cell? ⟨b,j,none⟩=some (.int .u64 (p j:Nat)):=by have:=HI.out.words j hlt2; simpa using this
       have e3:=HI.out.free j
       have hpj:=HI.out.bd j hlt2
       simp only [Nat.lt_irrefl,if_false] at hpj
       have hor:=hid (ybI hpj (hbd.out j hlt2))
       have hlt3:=hid (yjO hpj (hbd.out j hlt2))
       have hjI:(j:Int) < 1350:=by omega
       clear hpj
       go_wp2_with fail
       go_region
       rw [hor.out]
       have HI2:Hid (Upd b (fun i=>if i < j+1 then p i ||| g2 i else p i) w (wr.setCell ⟨b,j,none⟩ (.int .u64 (p j ||| g2 j:Nat))).drew):=by
        refine ((HI.out.set hlt2 hlt3.out).congr (fun i _=>?_)).drew
        by_cases e:i=j
        ·subst e; simp
        ·have:(i < j+1)= (i < j):=by simp; omega
         simp [e,this]
       clear e2 e3 hi2
       go_wp2
       exact ⟨⟨j+1,by go_num,by omega,HI2.out⟩,by simp [intOf]; omega⟩
      ·obtain rfl:j=1350:=by omega
       have HJ2:Hid (Upd b (orL f (ds.take (k+1))) w wr):=by
        show Upd _ _ _ _
        rw [hsn.out]
        exact HI.out.congr (fun i hi=>by simp [hi])
       go_wp2
       exact ⟨⟨k+1,by go_num,by omega,HJ2.out⟩,by simp [intOf]; omega⟩
  ·have hke:ds.take k=ds:=List.take_of_length_le (by omega)
   rw [hke] at HJ
   clear hke
   go_wp2
   go_end0
   exact ⟨⟨_,rfl⟩,HJ.out⟩
theorem Eff.setCells {O:Nat→Prop} {W:World} {b:Nat} (hb:O b):∀(vs:List Value) (o:Nat) (W':World),Eff O W W'→Eff O W (W'.setCells b o vs)
 | [],_,_,h=>h
 | v :: vs,o,W',h=>by rw [World.setCells]; exact Eff.setCells hb vs (o+1) _ (h.set hb o v)
theorem Upd.there {b:Nat} {f:Nat→Nat} {W W':World} (h:Upd b f W W'):W'.there b 0 (List.replicate 1350 (Value.int .u64 0)).toArray.size:=fun j hj=>by
 rw [List.size_toArray,List.length_replicate] at hj
 rw [zzn]
 exact ⟨by rw [h.words j hj]; rfl,h.free j⟩
theorem Upd.zero {b:Nat} {f:Nat→Nat} {W W':World} (h:Upd b f W W'):Upd b (fun _=>0) W (W'.setCells b 0 (List.replicate 1350 (Value.int .u64 0))):=by
 refine ⟨fun i hi=>?_,fun i=>by rw [World.frozen?_setCells]; exact h.free i,fun _ _=>by omega,Eff.setCells (O:=fun x=>x=b) rfl _ _ _ h.eff⟩
 have:=World.cell?_setCells_in b (List.replicate 1350 (Value.int .u64 0)) 0 W' (fun j hj=>by rw [List.length_replicate] at hj; rw [zzn,h.words j hj]; rfl) i (by rw [List.length_replicate]; exact hi)
 rw [zzn,List.getElem_replicate] at this
 exact this
theorem Upd.all {b:Nat} {f:Nat→Nat} {W W':World} (h:Upd b f W W') (g:Nat→Nat):DC (W'.setCells b 0 ((List.range 1350).map (fun i=>Value.int .u64 (g i:Nat)))) b g∧Eff (fun x=>x=b) W (W'.setCells b 0 ((List.range 1350).map (fun i=>Value.int .u64 (g i:Nat)))):=by
 refine ⟨fun i hi=>?_,Eff.setCells (O:=fun x=>x=b) rfl _ _ _ h.eff⟩
 have:=World.cell?_setCells_in b ((List.range 1350).map (fun i=>Value.int .u64 (g i:Nat))) 0 W' (fun j hj=>by rw [List.length_map,List.length_range] at hj; rw [zzn,h.words j hj]; rfl) i (by rw [List.length_map,List.length_range]; exact hi)
 rw [zzn,List.getElem_map,List.getElem_range] at this
 exact this
end
section
open Go.RowKit
def ycB (f:Nat→Nat) (s j:Nat):Nat:=mk (fun t=>(f j).testBit t && decide (s≤64 * j+t))
theorem fromW_lt (f:Nat→Nat) (s j:Nat):ycB f s j < 18446744073709551616:=yaP _
theorem fromW_low (f:Nat→Nat) (s j:Nat) (h:j < s / 64):ycB f s j=0:=by
 rw [ycB,←yb1]
 exact ybf fun k hk=>by rw [zzd (by omega),Bool.and_false]
theorem yj6 (f:Nat→Nat) (s j:Nat) (h:s / 64 < j) (hf:f j < 18446744073709551616):ycB f s j=f j:=by
 refine (yhj hf fun k hk=>?_).symm
 rw [zzZ (by omega),Bool.and_true]
theorem fromW_bit (f:Nat→Nat) (s k:Nat):bitW (ycB f s) k= (bitW f k && decide (s≤k)):=by
 rw [bitW,ycB,ybh,bitW,zzZ (Nat.mod_lt _ (by omega)),zzo]
 have:64 * (k / 64)+k % 64=k:=Nat.div_add_mod k 64
 rw [this]
theorem fromW_at (f:Nat→Nat) (s:Nat) (hf:f (s / 64) < 18446744073709551616):ycB f s (s / 64)=f (s / 64) / 2 ^ (s % 64) * 2 ^ (s % 64):=by
 have h1:f (s / 64) / 2 ^ (s % 64) * 2 ^ (s % 64)≤f (s / 64):=Nat.div_mul_le_self _ _
 refine (yhj (by omega) fun k hk=>?_).symm
 rw [←Nat.shiftRight_eq_div_pow,←Nat.shiftLeft_eq,Nat.testBit_shiftLeft,Nat.testBit_shiftRight]
 by_cases h:s % 64≤k
 ·rw [show s % 64+(k - s % 64)=k by omega,zzZ (show k ≥ s % 64 from h),zzZ (show s≤64 * (s / 64)+k by omega),zzo,Bool.and_true]
 ·rw [zzd (show¬k ≥ s % 64 from h),zzd (show¬s≤64 * (s / 64)+k by omega),Bool.false_and,Bool.and_false]
theorem ykF (b:Nat) (q:Nat→Bool) (s:Nat) (w:World) (hs:s < 86400) (hT:Tab w) (hd:DiscAt w b q) :
  Calls Tryz.prog 75 #[.pointer (some ⟨b,0,none⟩), .int .i64 s] w fun r w'=>(∃n ok,r= .returned (.tuple #[.int .i64 n, .bool ok])∧FirstOf (fun k=>q k && decide (s≤k)) n ok)∧w=w':=by
 obtain ⟨f,f1,f2,f3,f4,f5⟩:=hd
 have c1:=hid (yeI (s:Int) w)
 rw [yhl,zzZ hs] at c1
 have c2:=hid (fun m hm=>ydV m w hm hT)
 have HC:=hid f1
 have Hf:=hid f3
 have hlt:=hid (fun j=>fromW_lt f s j)
 have hlow:=hid (fun j h=>fromW_low f s j h)
 have hhigh:=hid (fun j h hf=>yj6 f s j h hf)
 have hsh:Hid (IntKind.u64.wrap ((f (s / 64):Int) / 2 ^ (s % 64) * 2 ^ (s % 64))= ((ycB f s (s / 64):Nat):Int)):=by
  show _ = _
  have h1:f (s / 64) / 2 ^ (s % 64) * 2 ^ (s % 64)≤f (s / 64):=Nat.div_mul_le_self _ _
  have h2:=f3 (s / 64) (by omega)
  have e:((f (s / 64):Int) / 2 ^ (s % 64) * 2 ^ (s % 64))= ((f (s / 64) / 2 ^ (s % 64) * 2 ^ (s % 64):Nat):Int):=by simp
  rw [e,ybx (by omega),fromW_at f s h2]
 have hbit:Hid (∀k,k < 86400→bitW (ycB f s) k= (q k && decide (s≤k))):=fun k hk=>by rw [fromW_bit,f4 k hk]
 have hsI:(s:Int) < 87000:=by omega
 have hi:s / 64 < 1350:=by omega
 have e1:=f1 (s / 64) hi
 have hs0:(0:Int)≤s:=by omega
 have hmx:max (s:Int) 0=s:=by omega
 clear hs f1 f2 f3 f4 f5 hT
 go_enter Tryz.func75,Tryz.ntmps75
 go_wp2_with fail
 refine c1.out.mono ?_
 rintro e w' ⟨rfl,rfl⟩
 go_wp2_with fail
 rw [hsh.out]
 clear hsh e1
 go_loopw [6,7] (fun m i wr=>∃k:Nat,i= .int .i64 k∧m= .int .u64 (ycB f s k:Nat)∧Hid (s / 64≤k)∧k < 1350∧Hid (∀j,j < k→ycB f s j=0)∧wr=w) (fun _ i _=>1350 - (intOf i).toNat)
 case atStart=>exact ⟨s / 64,by simp,rfl,zG _,hi,hlow.out,rfl⟩
 case round=>
  obtain ⟨k,rfl,rfl,hsk,hk2,hz,rfl⟩:=hrel
  have d4:=hid (c2.out _ (hlt.out k))
  have hfw:=hid (yj9 (ycB f s) k hk2 hz.out (hlt.out k))
  obtain ⟨b1,b2⟩:=yjY (hlt.out k)
  have hb0:Hid (ybK (ycB f s k)=false→ycB f s k=0):=fun h=>by simpa [ybK] using h
  obtain ⟨L,hL⟩:∃L,yb3 (ycB f s k)=L:=⟨_,rfl⟩
  rw [hL] at d4 hfw b1 b2
  clear hL
  cases hB:ybK (ycB f s k)
  ·rw [hB] at d4
   have hz2:Hid (∀j,j < k+1→ycB f s j=0):=fun j hj=>by
    by_cases e:j=k
    ·rw [e]; exact hb0.out hB
    ·exact hz.out j (by omega)
   clear hB
   by_cases hlast:k+1=1350
   ·have hbq:Hid (((k:Int)+1 == 1350)=true):=by show _ = _; simp; omega
    have hz3:Hid (FirstOf (bitW (ycB f s)) 0 false):=ykb _ (fun j hj=>hz2.out j (by omega))
    have hbq':=hbq.out
    clear hlast
    go_wp2_with fail
    refine d4.out.mono ?_
    rintro e w' ⟨rfl,rfl⟩
    go_wp2
    go_ret2
    exact ⟨⟨_,_,rfl,hz3.out.congr hbit.out⟩,rfl⟩
   ·have hk3:k+1 < 1350:=by omega
    have hbq:((k:Int)+1 == 1350)=false:=by simp; omega
    have e5:=HC.out (k+1) hk3
    have e6:=hhigh.out (k+1) (by have:=hsk.out; omega) (Hf.out _ hk3)
    rw [←e6] at e5
    have hsk2:Hid (s / 64≤k+1):=Nat.le_succ_of_le hsk.out
    clear hlast e6
    go_wp2_with fail
    refine d4.out.mono ?_
    rintro e w' ⟨rfl,rfl⟩
    go_wp2
    exact ⟨⟨k+1,by go_num,rfl,hsk2.out,hk3,hz2.out,by trivial⟩,by simp [intOf]; omega⟩
  ·rw [hB] at d4
   have hr:=hid (hfw.out hB)
   clear hB
   go_wp2_with fail
   refine d4.out.mono ?_
   rintro e w' ⟨rfl,rfl⟩
   go_wp2
   go_ret2
   exact ⟨⟨_,_,rfl,hr.out.congr hbit.out⟩,rfl⟩
end
section
open Go.RowKit
def MC (W:World) (b:Nat) (l:List Int):Prop:=∀j,j < 86400→W.cell? ⟨b,j,none⟩=some (.bool (memD l j))
theorem MC.below {W W':World} {b B:Nat} {l:List Int} (h:MC W b l) (hb:Below B W W') (hB:b < B):MC W' b l:=fun j hj=>(hb.cell (p:=⟨b,j,none⟩) hB).trans (h j hj)
def secL (q:Nat→Bool):List Int:=sel q 86400
end
section
open Go.RowKit
theorem DLen_any (b:Nat) (f:Nat→Nat) (w:World) (hc:DC w b f) (hf:∀i,i < 1350→f i < 18446744073709551616) :
  Calls Tryz.prog 102 #[.pointer (some ⟨b,0,none⟩)] w fun e w'=>e= .returned (.int .i64 (lenW f 1350:Nat))∧w=w':=by
 have c2:=hid (fun i hi W=>Len_any (f i) W (hf i hi))
 obtain ⟨N,hN⟩:∃N,lenW f 1350=N:=⟨_,rfl⟩
 have hl:=hid (fun n=>lenW_le f n)
 have HC:=hid hc
 have HN:Hid (∀k,k=1350→lenW f k=N):=fun k hk=>by rw [hk]; exact hN
 rw [hN]
 clear hN hc hf
 go_enter Tryz.func102,Tryz.ntmps102
 go_wp2
 go_loopw [3,7] (fun m i wr=>∃(k:Nat) (x:Nat),i= .int .i64 k∧k≤1350∧m= .int .i64 x∧Hid (x=lenW f k)∧wr=w) (fun _ i _=>1350 - (intOf i).toNat)
 case atStart=>exact ⟨0,0,rfl,by omega,rfl,(rfl:0=lenW f 0),rfl⟩
 case round=>
  obtain ⟨k,x,rfl,hk,rfl,hx,rfl⟩:=hrel
  have h1:=hl.out k
  by_cases hlt:k < 1350
  ·have h2:=hl.out (k+1)
   have e1:=HC.out k hlt
   have hs1:=lenW_succ f k
   have C2:=hid (c2.out k hlt wr)
   obtain ⟨y,hy⟩:∃x,Lib.popAux 64 (f k)=x:=⟨_,rfl⟩
   rw [hy] at hs1 C2
   rw [hs1] at h2
   rw [←hx.out] at h1 h2
   have hs2:Hid (x+y=lenW f (k+1)):=by show _ = _; rw [hs1,hx.out]
   have hkI:(k:Int) < 1350:=by omega
   clear hy hs1
   go_wp2_with fail
   refine C2.out.mono ?_
   rintro e w' ⟨rfl,rfl⟩
   go_wp2
   exact ⟨⟨k+1,x+y,by go_num,by omega,by simp,hs2,trivial⟩,by simp [intOf]; omega⟩
  ·have hk7:Hid (x=N):=by show _ = _; rw [hx.out]; exact HN.out k (by omega)
   rw [←hx.out] at h1
   go_wp2
   go_ret
   exact ⟨by rw [hk7.out]; rfl,rfl⟩
end
section
open Go.RowKit
structure ClientV (P:Program) (y:Value) (xs:List (Array Value)) (J Jx:OwnP) (O0:Nat→Prop) (W0:World):Prop where
 form:∃f fi cap,y= .func f fi cap
 stab:ybD J
 stabx:ybD Jx
 lt:LtO J
 ltx:LtO Jx
 call:∀k O W,(hk:k < xs.length)→J k O W→Grow O0 O W0 W→CallV P y xs[k] W fun e W'=>∃O':Nat→Prop,(∀b,O b→O' b)∧(∀b,O' b→O b∨W.heap.size≤b)∧Eff O W W'∧
  ((e= .returned (.bool true)∧J (k+1) O' W')∨(e= .returned (.bool false)∧Jx (k+1) O' W'))
def ToldV (xs:List (Array Value)) (J Jx:OwnP) (O:Nat→Prop) (W:World) (W':World):Prop:=
 ∃O':Nat→Prop,(∀b,O b→O' b)∧(∀b,O' b→O b∨W.heap.size≤b)∧Eff O W W'∧(J xs.length O' W'∨∃k,1≤k∧k≤xs.length∧Jx k O' W')
theorem yg9 {P:Program} {n:Nat} {fn:FuncId} {tmps:Array Value} {ps:Array Tmp} {assign body:Code} {D l:Nat} {Dk:Option Nat} (xs:List (Array Value)) (hps:∀x∈xs,x.size=ps.size)
  {I:OwnP} {Ix:Code→OwnP} (hI:ybD I) (hIx:∀c,ybD (Ix c)) (hIl:LtO I) (hIxl:∀c,LtO (Ix c)) (A:Nat→(Nat→Prop)→Act→World→Prop) (hA:∀l o k O a' W,(∃r,W.heap[l]? =some (.loop r))→¬O l→A k O a' W→A k O a' (W.putObj l o))
  (Ow O0:Nat→Prop) (w W1:World) (hwl:w.heap.size≤l) (hconv:∀O O1 W,(∀b,O b↔O1 b∨b=l∨Dk=some b)→Grow O0 O W1 W→Grow Ow O1 w W)
  (hassign:∀k O W (K:Act→World→Prop) (hk:k < xs.length),I k O W→Grow Ow O w W→(∀a' O' W',Grow O O' W W'→A k O' a' W'→K a' W')→
    assign.wpIn (WF (some l)) n P (Exit.then K (fun _ _ _=>False)) {tmps:=(ps.zip xs[k]).foldl (fun t (p,v)=>t.setIfInBounds p v) tmps,defers:= []} W)
  (hbody:∀k O a' W,(hk:k < xs.length)→Grow Ow O w W→(∃r,W.heap[l]? =some (.loop r))→¬O l→A k O a' W→body.wpIn (WF (some l)) n P (yis I Ix k O W) a' W) :
  ClientV P (.func (.yield l) #[] #[]) xs (RJ (yag fn tmps ps assign body D .ready none) l Dk I) (fun k O W=>∃c,RJ (yag fn tmps ps assign body D .done (some c)) l Dk (Ix c) k O W) O0 W1 where
 form:=⟨_,_,_,rfl⟩
 stab:=RJ.stab hI
 stabx:=fun k O W W' ⟨c,h⟩ hs hO=>⟨c,RJ.stab (hIx c) k O W W' h hs hO⟩
 lt:=RJ.lt hIl
 ltx:=fun k O W ⟨c,h⟩=>RJ.lt (hIxl c) k O W h
 call:=by
  rintro k O W hk ⟨O1,hO,hnl,hD,hi,hl⟩ hG0
  have hG:=hconv O O1 W hO hG0
  have hlt:=yan hl
  have hy:=run_yield (P:=P) (args:=xs[k]) hl (hps _ (zzr hk))
  refine .inr ⟨l,_,_,_,_,rfl,hy,fun m=>ydl (r:=none) (m:=n) (roundIn_of_wpIn trivial ?_)⟩
  clear hy
  refine hassign k O1 W _ hk hi hG ?_
  intro a' O2 Wa hg2 ha
  have hla:=(hg2.eff.block l hlt hnl).trans hl
  have hDa:∀d,Dk=some d→Wa.heap[d]? =some (.deferred (some [])):=fun d hd=>(hg2.eff.block d (yan (hD d hd).2.2) (hD d hd).1).trans (hD d hd).2.2
  have hnew:∀b,b < W.heap.size→¬O1 b→¬O2 b:=fun b hb hn h=>by
   rcases hg2.new b h with h1 | h1
   ·exact hn h1
   ·omega
  have hnl2:=hnew l hlt hnl
  have hsz2:=hg2.eff.size
  refine ⟨_,run_beginRound hla rfl,?_⟩
  obtain ⟨Wb,hWb⟩:∃Wb,Wa.putObj l (.loop (yag fn tmps ps assign body D .busy none))=Wb:=⟨_,rfl⟩
  have hWs:Wb.heap.size=Wa.heap.size:=by rw [←hWb]; exact World.putObj_size
  have hWo:∀b,b≠l→Wb.heap[b]? =Wa.heap[b]?:=fun b hb=>by rw [←hWb]; exact World.putObj_heap_other hb
  have hWl:Wb.heap[l]? =some (.loop (yag fn tmps ps assign body D .busy none)):=by rw [←hWb]; exact World.putObj_heap_same (yan hla)
  have hEb:Eff O W Wb:=by rw [←hWb]; exact (hg2.eff.wide (fun b hb=>(hO b).mpr (.inl hb))).putObj (.inl ((hO l).mpr (.inr (.inl rfl)))) _
  have hGa:=hG.trans hg2
  have hb:=hbody k O2 a' Wb hk ⟨hGa.sub,hGa.new,by rw [←hWb]; exact hGa.eff.putObj (.inr hwl) _⟩ ⟨_,hWl⟩ hnl2 (by rw [←hWb]; exact hA _ _ _ _ _ _ ⟨_,hla⟩ hnl2 ha)
  rw [hWb]
  refine wpIn_mono hb ?_
  have fin:∀(jump:Option Code) (O3:Nat→Prop) (W3:World),Grow O2 O3 Wb W3→∀(X:OwnP),ybD X→X (k+1) O3 W3→∃O':Nat→Prop,(∀b,O b→O' b)∧(∀b,O' b→O b∨W.heap.size≤b)∧
    (Instr.endRound l jump).run P W3= .ok (.bool jump.isNone) (W3.putObj l (.loop (yag fn tmps ps assign body D (if jump.isNone then .ready else .done) jump)))∧Eff O W (W3.putObj l (.loop (yag fn tmps ps assign body D (if jump.isNone then .ready else .done) jump)))∧
    RJ (yag fn tmps ps assign body D (if jump.isNone then .ready else .done) jump) l Dk X (k+1) O' (W3.putObj l (.loop (yag fn tmps ps assign body D (if jump.isNone then .ready else .done) jump))):=fun jump O3 W3 hg3 X hX hx=>by
   have hl3:=(hg3.eff.block l (yan hWl) hnl2).trans hWl
   have hnew3:∀b,b < Wb.heap.size→¬O2 b→¬O3 b:=fun b hb hn h=>by
    rcases hg3.new b h with h1 | h1
    ·exact hn h1
    ·omega
   have hend:=run_endRound (P:=P) jump hl3
   refine ⟨fun b=>O3 b∨b=l∨Dk=some b,fun b hb=>?_,fun b hb=>?_,?_,?_,O3,fun b=>Iff.rfl,hnew3 l (yan hWl) hnl2,fun d hd=>?_,?_,?_⟩
   ·rcases (hO b).mp hb with h | h
    ·exact .inl (hg3.sub b (hg2.sub b h))
    ·exact .inr h
   ·rcases hb with h | h
    ·rcases hg3.new b h with h1 | h1
     ·rcases hg2.new b h1 with h2 | h2
      ·exact .inl ((hO b).mpr (.inl h2))
      ·exact .inr h2
     ·exact .inr (by omega)
    ·exact .inl ((hO b).mpr (.inr h))
   ·exact hend
   ·refine Eff.putObj (hEb.trans (hg3.eff) fun b hb=>?_) (.inl ((hO l).mpr (.inr (.inl rfl)))) _
    rcases hg2.new b hb with h2 | h2
    ·exact .inl ((hO b).mpr (.inl h2))
    ·exact .inr h2
   ·obtain ⟨d1,d2,d3⟩:=hD d hd
    have hd2:=hnew d (yan d3) d1
    have hdb:d < Wb.heap.size:=by have:=yan (hDa d hd); omega
    exact ⟨hnew3 d hdb hd2,d2,(World.putObj_heap_other d2).trans ((hg3.eff.block d hdb hd2).trans ((hWo d d2).trans (hDa d hd)))⟩
   ·exact hX _ _ _ _ hx (by rw [World.putObj_size]; exact zG _) (fun b hb=>World.putObj_heap_other (fun e=>hnew3 l (yan hWl) hnl2 (e ▸ hb)))
   ·exact World.putObj_heap_same (yan hl3)
  rintro e a3 W3 hp
  cases e with
  | normal=>
    obtain ⟨O3,hg3,hi3⟩:=hp
    obtain ⟨O',h1,h2,h3,h4,h5⟩:=fin none O3 W3 hg3 I hI hi3
    exact ⟨_,_,h3,O',h1,h2,h4, .inl ⟨rfl,h5⟩⟩
  | ret=>
    obtain ⟨O3,hg3,hi3⟩:=hp
    obtain ⟨O',h1,h2,h3,h4,h5⟩:=fin (some .ret) O3 W3 hg3 _ (hIx _) hi3
    exact ⟨_,_,h3,O',h1,h2,h4, .inr ⟨rfl,_,h5⟩⟩
  | exit id=>
    obtain ⟨O3,hg3,hi3⟩:=hp
    obtain ⟨O',h1,h2,h3,h4,h5⟩:=fin (some (.exit id)) O3 W3 hg3 _ (hIx _) hi3
    exact ⟨_,_,h3,O',h1,h2,h4, .inr ⟨rfl,_,h5⟩⟩
  | goto t=>
    obtain ⟨O3,hg3,hi3⟩:=hp
    obtain ⟨O',h1,h2,h3,h4,h5⟩:=fin (some (.goto t)) O3 W3 hg3 _ (hIx _) hi3
    exact ⟨_,_,h3,O',h1,h2,h4, .inr ⟨rfl,_,h5⟩⟩
  | panic ch=>exact hp.elim
  | outgrown=>exact hp.elim
def TellsV (P:Program) (gf:Nat) (lb:Array Value) (xs:List (Array Value)) (Ow:Nat→Prop) (w:World):Prop:=
 ∀(y:Value) (J Jx:OwnP) (O:Nat→Prop) (W:World),(∀b,O b→Ow b∨w.heap.size≤b)→Below w.heap.size w W→ClientV P y xs J Jx O W→J 0 O W→Calls P gf (#[y] ++ lb) W fun e W'=>(∃v,e= .returned v)∧ToldV xs J Jx O W W'
theorem ygY {P:Program} {n:Nat} {g:Operand} {ps:Array Tmp} {assign body:Code} {Q:Exit→Act→World→Prop} {a:Act} {w:World} {gf:Nat} {lb:Array Value}
  (hg:a.eval g= .func (.func gf) #[] lb) (eg:∀args w,(callFunc gf args).run P w= .ok (.enter gf args) w) (xs:List (Array Value)) (Ow:Nat→Prop) (hps:∀x∈xs,x.size=ps.size) (hseq:TellsV P gf lb xs Ow w)
  (I:OwnP) (Ix:Code→OwnP) (hI:ybD I) (hIx:∀c,ybD (Ix c)) (hIl:LtO I) (hIxl:∀c,LtO (Ix c)) (h0:I 0 Ow w) (A:Nat→(Nat→Prop)→Act→World→Prop) (hA:∀l o k O a' W,(∃r,W.heap[l]? =some (.loop r))→¬O l→A k O a' W→A k O a' (W.putObj l o))
  (hassign:∀l k O W (K:Act→World→Prop) (hk:k < xs.length),I k O W→Grow Ow O w W→(∀a' O' W',Grow O O' W W'→A k O' a' W'→K a' W')→
    assign.wpIn (WF (some l)) n P (Exit.then K (fun _ _ _=>False)) {tmps:=(ps.zip xs[k]).foldl (fun t (p,v)=>t.setIfInBounds p v) a.tmps,defers:= []} W)
  (hbody:∀l k O a' W,(hk:k < xs.length)→Grow Ow O w W→w.heap.size≤l→(∃r,W.heap[l]? =some (.loop r))→¬O l→A k O a' W→body.wpIn (WF (some l)) n P (yis I Ix k O W) a' W)
  (hdone:∀O' W',Grow Ow O' w W'→I xs.length O' W'→W'.heap[w.heap.size]? =some (.deferred (some []))→¬O' w.heap.size→Q .normal {a with defers:={target:= .collected w.heap.size,args:=#[]} :: a.defers} W')
  (hstop:∀c k O' W',1≤k→k≤xs.length→Grow Ow O' w W'→Ix c k O' W'→W'.heap[w.heap.size]? =some (.deferred (some []))→¬O' w.heap.size→
    c.wpIn (WF none) n P Q {a with defers:={target:= .collected w.heap.size,args:=#[]} :: a.defers} W') :
  (Code.rangeFunc g ps assign body).wpIn (WF none) n P Q a w:=by
 refine wpIn_rangeFunc ?_
 intro fn hfn
 obtain ⟨W1,hW1⟩:∃W1,(w.alloc (.deferred (some []))).alloc (.loop (yag fn a.tmps ps assign body w.heap.size .ready none))=W1:=⟨_,rfl⟩
 have hL1:W1.heap[w.heap.size+1]? =some (.loop (yag fn a.tmps ps assign body w.heap.size .ready none)):=by
  rw [←hW1]; have:=World.alloc_heap_new (w.alloc (.deferred (some []))) (.loop (yag fn a.tmps ps assign body w.heap.size .ready none)); rwa [zzN] at this
 have hB1:Below w.heap.size w W1:=by rw [←hW1]; exact ((Below.refl _ w).alloc (zG _) _).alloc (by simp) _
 have hK1:W1.heap[w.heap.size]? =some (.deferred (some [])):=by
  rw [←hW1]; exact (Below.heap_alloc _ _ _ (by simp)).trans (World.alloc_heap_new w _)
 have hlt:=hIl 0 Ow w h0
 have hJ:RJ (yag fn a.tmps ps assign body w.heap.size .ready none) (w.heap.size+1) (some w.heap.size) I 0 (fun b=>Ow b∨b=w.heap.size+1∨some w.heap.size=some b) W1:=
  ⟨Ow,fun b=>Iff.rfl,fun h=>by have:=hlt _ h; omega,fun d hd=>by cases hd; exact ⟨fun h=>by have:=hlt _ h; omega,by omega,hK1⟩,hI 0 Ow w W1 h0 hB1.size (fun b hb=>hB1.block b (hlt b hb)),hL1⟩
 have hlc:=yan hL1
 have hC:=yg9 (P:=P) (n:=n) (fn:=fn) (tmps:=a.tmps) (D:=w.heap.size) (l:=w.heap.size+1) (Dk:=some w.heap.size) xs hps hI hIx hIl hIxl A hA Ow (fun b=>Ow b∨b=w.heap.size+1∨some w.heap.size=some b) w W1 (by omega) (fun O O1 W hO hG=>⟨fun b hb=>by
   have hb2:=hlt b hb
   rcases (hO b).mp (hG.sub b (.inl hb)) with h | h | h
   ·exact h
   ·omega
   ·cases h; omega,fun b hb=>by
   rcases hG.new b ((hO b).mpr (.inl hb)) with (h | h | h) | h
   ·exact .inl h
   ·exact .inr (by omega)
   ·cases h; exact .inr (by omega)
   ·exact .inr (by have:=hB1.size; omega),(Eff.of_below (O:=Ow) hB1).trans hG.eff fun b hb=>by
   rcases hb with h | h | h
   ·exact .inl h
   ·exact .inr (by omega)
   ·cases h; exact .inr (by omega)⟩) (hassign (w.heap.size+1)) (fun k O a' W hk hG=>hbody (w.heap.size+1) k O a' W hk hG (by omega))
 have hcall:=hseq _ _ _ _ W1 (fun b hb=>by rcases hb with h | h | h; exact .inl h; exact .inr (by omega); exact .inr (by cases h; omega)) hB1 hC hJ
 refine ⟨w.heap.size+1,[{target:= .collected w.heap.size,args:=#[]}],W1,{target:= .fn (.func gf) lb,args:=#[.func (.yield (w.heap.size+1)) #[] #[]]},W1,gf,
  #[.func (.yield (w.heap.size+1)) #[] #[]] ++ lb,W1,?_,?_,fun _ _=>trivial,?_,(fun h=>nomatch h),?_⟩
 ·rw [←hW1]; exact run_enterLoop_outer _ _ _ _ _
 ·simp only [resolve,hg]; simp [go_sem]
 ·simp [invoke,go_sem,eg]
 ·refine wf_calls.mpr (hcall.mono ?_)
  have back:∀(X:OwnP) (k:Nat) (O':Nat→Prop) (W2:World) (st:LoopState) (pe:Option Code),ybD X→st≠ .busy→(∀b,Ow b→O' b)→(∀b,O' b→(Ow b∨b=w.heap.size+1∨some w.heap.size=some b)∨W1.heap.size≤b)→
    Eff (fun b=>Ow b∨b=w.heap.size+1∨some w.heap.size=some b) W1 W2→RJ (yag fn a.tmps ps assign body w.heap.size st pe) (w.heap.size+1) (some w.heap.size) X k O' W2→
    (Instr.endLoop (w.heap.size+1)).run P W2= .ok pe (W2.putObj (w.heap.size+1) (.loop (yag fn a.tmps ps assign body w.heap.size .exhausted pe)))∧∃O2,Grow Ow O2 w (W2.putObj (w.heap.size+1) (.loop (yag fn a.tmps ps assign body w.heap.size .exhausted pe)))∧X k O2 (W2.putObj (w.heap.size+1) (.loop (yag fn a.tmps ps assign body w.heap.size .exhausted pe)))∧
      (W2.putObj (w.heap.size+1) (.loop (yag fn a.tmps ps assign body w.heap.size .exhausted pe))).heap[w.heap.size]? =some (.deferred (some []))∧¬O2 w.heap.size:=by
   rintro X k O' W2 st pe hX hst hsub hnew hE ⟨O1,hO,hnl,hD,hi,hl⟩
   have hr:=run_endLoop (P:=P) hl hst
   refine ⟨hr,O1,⟨fun b hb=>?_,fun b hb=>?_,?_⟩,hX _ _ _ _ hi (by rw [World.putObj_size]; exact zG _) (fun b hb=>World.putObj_heap_other (fun e=>hnl (e ▸ hb))),(World.putObj_heap_other (by omega)).trans (hD _ rfl).2.2,(hD _ rfl).1⟩
   ·have hb2:=hlt b hb
    rcases (hO b).mp (hsub b hb) with h | h | h
    ·exact h
    ·omega
    ·cases h; omega
   ·rcases hnew b ((hO b).mpr (.inl hb)) with (h | h | h) | h
    ·exact .inl h
    ·exact .inr (by omega)
    ·cases h; exact .inr (by omega)
    ·exact .inr (by have:=hB1.size; omega)
   ·refine Eff.putObj ((Eff.of_below (O:=Ow) hB1).trans hE fun b hb=>?_) (.inr (by omega)) _
    rcases hb with h | h | h
    ·exact .inl h
    ·exact .inr (by omega)
    ·cases h; exact .inr (by omega)
  rintro e W2 ⟨⟨v,rfl⟩,O',hsub,hnew,hE,hend⟩
  rcases hend with hj | ⟨k,hk1,hk2,c,hj⟩
  ·obtain ⟨h1,O2,h2,h3,h4,h5⟩:=back I xs.length O' W2 .ready none hI (by simp) (fun b hb=>hsub b (.inl hb)) hnew hE hj
   exact ⟨none,_,h1,hdone O2 _ h2 h3 h4 h5⟩
  ·obtain ⟨h1,O2,h2,h3,h4,h5⟩:=back (Ix c) k O' W2 .done (some c) (hIx c) (by simp) (fun b hb=>hsub b (.inl hb)) hnew hE hj
   exact ⟨some c,_,h1,hstop c k O2 _ hk1 hk2 h2 h3 h4 h5⟩
theorem callv2 {r:Option Nat} {n:Nat} {P:Program} {ops:Array Oper} {rest:List Oper} {o:Oper} {a:Act} {Q:Exit→Act→World→Prop} {W:World} (s x z:Operand) (t t2:TypeId)
  (hgd:o.guard=none) (ho:o.op= .call {callee:= .value s,args:=#[x,z],argTypes:=#[t,t2]}) {y u v:Value} (hs:a.eval s=y) (hx:a.eval x=u) (hz:a.eval z=v) {R:Ending→World→Prop}
  (h:CallV P y #[u,v] W R) (hK:∀e W',R e W'→∃v,e= .returned v∧wpListIn (WF r) n P ops Q rest (a.put o.dst v) W') :
  wpListIn (WF r) n P ops Q (o :: rest) a W:=by
 refine wpListIn_plain hgd fun K hK'=>?_
 unfold Oper.wpIn
 refine ⟨fun _ _=>trivial,?_⟩
 rw [Oper.semAt_plain (WF r) _ _ (by rw [ho]; intro c hc; cases hc)]
 rcases h with ⟨f,cap,rfl,he,hc⟩ | ⟨l,fn,tmps,assign,body,rfl,hy,hc⟩
 ·simp [execOp,ho,resolve,invoke,hs,hx,hz,he,Deferred.ofValue]
  rw [Oper.uponIn_enter]
  refine ⟨fun h=>(by cases h),wf_calls.mpr ((show Calls P f (#[u,v] ++ cap) W R from hc).mono fun e w' hr=>?_)⟩
  obtain ⟨v,rfl,hw⟩:=hK e w' hr
  exact hK' _ _ hw
 ·simp [execOp,ho,resolve,invoke,hs,hx,hz,hy,Deferred.ofValue]
  rw [Oper.uponIn_round]
  refine ⟨fun h=>(by cases h),RoundIn.mono (hc _) fun e w' hr=>?_⟩
  obtain ⟨v,rfl,hw⟩:=hK e w' hr
  exact hK' _ _ hw
end
section
abbrev Blk:=Nat→Prop
end
end Go.Proofs.YtjahgimnfliooaaGreatDoor
