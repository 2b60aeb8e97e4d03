/-
  A disc's Join and Keep: they are handed discs that may be nil.
  cast.Face: its cells, and what a face is of days.
  The function that tod.All makes tells the seconds of its masks: three ranges over functions, one within the other.
-/
import Derived.Test.YtkpgfmonhfnhdaaGreatDoorQ967547
import Derived.Deep.MidRow
import Derived.Deep.CutRange
import Derived.Test.YtkpgfmonhfnhdaaGreatDoorQ1af996
import Derived.Test.YtkpgfmonhfnhdaaGreatDoorQ30bd52
import Derived.WalkMore
set_option maxRecDepth 100000
set_option maxHeartbeats 25600000
namespace Go.Proofs.YtkpgfmonhfnhdaaGreatDoor
set_option linter.unusedVariables false
section
open Go.RowKit
def dagg (f:Nat→Nat):Value:= .agg ((List.range 1350).map (fun i=>Value.int .u64 (f i:Nat))).toArray
theorem yfU (cs:Array Value) (v:Value) (i:Nat) (h:i < 1350) (hc:cs[i]? =some v) (W:World):(Instr.index 129 (.agg cs) (.int .i64 i)).run Tryz.prog W= .ok v W:=by
 obtain ⟨i0,hi0,hz0,hz1,hz2⟩:=info_parts yf9
 simp [Instr.index,go_sem,part,sizeOf,typeInfo,hi0,hz1,h,hc]
theorem yfb (f:Nat→Nat) (i:Nat) (h:i < 1350) (W:World):(Instr.index 129 (dagg f) (.int .i64 i)).run Tryz.prog W= .ok (.int .u64 (f i:Nat)) W:=by
 refine yfU _ _ i h ?_ W
 rw [List.getElem?_toArray,List.getElem?_map,List.getElem?_range h]; rfl
theorem yi6 {W:World} {b:Nat} {f:Nat→Nat} (h:DC W b f):W.rangeAt b 0 ((List.range 1350).map (fun i=>Value.int .u64 (f i:Nat))):=fun j v hv=>by
 obtain ⟨hj,e⟩:=zzq.1 hv
 simp at hj e
 rw [zzn,h j hj,←e]
theorem yga:(Tryz.prog.info? 129).map (·.size)=some 1350:=by kernel_rfl
theorem DC.eff {W W':World} {b:Nat} {O:Nat→Prop} {f:Nat→Nat} (h:DC W b f) (hE:Eff O W W') (hb:b < W.heap.size) (hn:¬O b):DC W' b f:=fun i hi=>(hE.cell (p:=⟨b,i,none⟩) hb hn).trans (h i hi)
theorem Eff.frozen {O:Nat→Prop} {W W':World} (h:Eff O W W') {p:Addr} (hp:p.block < W.heap.size) (hn:¬O p.block):W'.frozen? p=W.frozen? p:=zzM (w:=W) (h.block p.block hp hn)
theorem Eff.set {O:Nat→Prop} {W W':World} (h:Eff O W W') {b:Nat} (hb:O b) (i:Nat) (v:Value):Eff O W (W'.setCell ⟨b,i,none⟩ v):=
 ⟨h.os,h.tape,h.output,by simpa [go_sem] using h.size,fun k hk hn=>(Below.heap_setCell _ _ _ _ (fun e=>hn (by subst e; exact hb))).trans (h.block k hk hn)⟩
theorem Eff.drew {O:Nat→Prop} {W W':World} (h:Eff O W W'):Eff O W W'.drew:=⟨h.os,h.tape,h.output,h.size,h.block⟩
abbrev DIn:=Option Nat × (Nat→Nat)
def dvs (ds:List DIn):List Value:=ds.map fun d=>dv d.1
theorem Sl.atD {w:World} {a:Option Addr} {l:List DIn} (h:Sl w a (dvs l)) {k:Nat} (hk:k < l.length) :
  ∃b off,a=some ⟨b,off,none⟩∧b < w.heap.size∧∀j (h:j < l.length),w.cell? ⟨b,off+j,none⟩=some (dv l[j].1):=by
 obtain ⟨b,off,rfl,hlt,hc⟩:=Sl.at h (k:=k) (by rw [dvs,List.length_map]; exact hk)
 refine ⟨b,off,rfl,hlt,fun j hj=>?_⟩
 rw [hc j (by rw [dvs,List.length_map]; exact hj)]
 simp [dvs]
structure DOk (W:World) (b:Nat) (d:DIn):Prop where
 words:DW W d.1 d.2
 bd:∀i,i < 1350→d.2 i < 18446744073709551616
 apart:∀c,d.1=some c→c≠b∧c < W.heap.size
theorem DOk.eff {W W':World} {b:Nat} {d:DIn} (h:DOk W b d) (hE:Eff (fun x=>x=b) W W'):DOk W' b d:=by
 obtain ⟨h1,h2,h3⟩:=h
 refine ⟨?_,h2,fun c e=>⟨(h3 c e).1,zH (h3 c e).2 hE.size⟩⟩
 match d,h1,h3 with
 | (none,f),h1,h3=>exact h1
 | (some c,f),h1,h3=>exact DC.eff h1 hE (h3 c rfl).2 (h3 c rfl).1
def orL (f:Nat→Nat) (ds:List DIn):Nat→Nat:=ds.foldl (fun f d i=>f i ||| d.2 i) f
theorem orL_snoc (f:Nat→Nat) (l:List DIn) (k:Nat) (h:k < l.length):orL f (l.take (k+1))=fun i=>orL f (l.take k) i ||| l[k].2 i:=by
 rw [orL,yap l k h,List.foldl_append]; rfl
structure Upd (b:Nat) (f:Nat→Nat) (W W':World):Prop where
 words:DC W' b f
 free:∀i,W'.frozen? ⟨b,i,none⟩=false
 bd:∀i,i < 1350→f i < 18446744073709551616
 eff:Eff (fun x=>x=b) W W'
theorem Upd.congr {b:Nat} {f g:Nat→Nat} {W W':World} (h:Upd b f W W') (e:∀i,i < 1350→f i=g i):Upd b g W W':=
 ⟨h.words.congr e,h.free,fun i hi=>by rw [←e i hi]; exact h.bd i hi,h.eff⟩
theorem Upd.set {b:Nat} {f:Nat→Nat} {W W':World} (h:Upd b f W W') {i:Nat} (hi:i < 1350) {v:Nat} (hv:v < 18446744073709551616):Upd b (fun j=>if j=i then v else f j) W (W'.setCell ⟨b,i,none⟩ (.int .u64 v)):=
 ⟨h.words.set hi,fun j=>by simp [go_sem,h.free j],fun j hj=>by
  show (if j=i then v else f j) < _
  split
  ·exact hv
  ·exact h.bd j hj,h.eff.set rfl i _⟩
theorem Upd.drew {b:Nat} {f:Nat→Nat} {W W':World} (h:Upd b f W W'):Upd b f W W'.drew:=⟨h.words,h.free,h.bd,h.eff.drew⟩
theorem DJoin_any (b:Nat) (f:Nat→Nat) (a:Option Addr) (cap:Nat) (ds:List DIn) (w:World) (hl:ds.length≤9223372036854775807) (hs:Sl w a (dvs ds)) (hne:ds≠ []→∀g off,a=some ⟨g,off,none⟩→g≠b)
  (hd:∀d∈ds,DOk w b d) (hu:Upd b f w w) :
  Calls Tryz.prog 159 #[.pointer (some ⟨b,0,none⟩), .slice a ds.length cap] w fun e w'=>(∃v,e= .returned v)∧Upd b (orL f ds) w w':=by
 have Hs:=hid hs
 have Hne:=hid hne
 have Hd:=hid hd
 have Hu:=hid hu
 have hlI:(ds.length:Int)≤9223372036854775807:=by omega
 clear hs hne hd hu hl
 go_enter Tryz.func159,Tryz.ntmps159
 go_wp2
 go_loopw [12] (fun i wr=>∃k:Nat,i= .int .i64 k∧k≤ds.length∧Hid (Upd b (orL f (ds.take k)) w wr)) (fun i _=>ds.length - (intOf i).toNat)
 case atStart=>exact ⟨0,rfl,by omega,Hu.out⟩
 case round=>
  obtain ⟨k,rfl,hk,HJ⟩:=hrel
  by_cases hlt:k < ds.length
  ·obtain ⟨g,off,rfl,hb,hcl⟩:=Hs.out.atD hlt
   have e1:=(HJ.out.eff.cell (p:=⟨g,off+k,none⟩) hb (Hne.out (fun e=>by rw [e] at hlt; simp at hlt) g off rfl)).trans (hcl k hlt)
   have hsn:=hid (orL_snoc f ds k hlt)
   have hdk:=hid ((Hd.out ds[k] (zzr hlt)).eff HJ.out.eff)
   obtain ⟨p,hp⟩:∃p,orL f (ds.take k)=p:=⟨_,rfl⟩
   rw [hp] at HJ hsn
   obtain ⟨d,hde⟩:∃d,ds[k]=d:=⟨_,rfl⟩
   rw [hde] at e1 hsn hdk
   clear hcl hp hde
   obtain ⟨dc,g2⟩:=d
   cases dc with
   | none=>
     have hz:Hid (g2=fun _=>0):=hdk.out.words
     have HJ2:Hid (Upd b (orL f (ds.take (k+1))) w wr):=by
      show Upd _ _ _ _
      rw [hsn.out]
      exact HJ.out.congr (fun i _=>by simp only [hz.out,Nat.or_zero])
     have e1':wr.cell? ⟨g,off+k,none⟩=some (.pointer none):=e1
     clear e1 HJ hsn hdk
     go_wp2
     exact ⟨⟨k+1,by go_num,by omega,HJ2.out⟩,by simp [intOf]; omega⟩
   | some c=>
     have hW:DC wr c g2:=hdk.out.words
     have hbd:=hid hdk.out.bd
     have hrg:=hid (yi6 hW)
     have hix:=hid (fun i hi W=>yfb g2 i hi W)
     have e1':wr.cell? ⟨g,off+k,none⟩=some (.pointer (some ⟨c,0,none⟩)):=e1
     clear e1 hW hdk
     go_wp2_with (refine wpList_load_mid rfl 129 (.tmp 20) rfl c 0 rfl _ _ hrg.out Tryz.underlying129 rfl (by rw [List.length_map,List.length_range]; exact yga) ?_)
     obtain ⟨V,hV⟩:∃V,dagg g2=V:=⟨_,rfl⟩
     rw [show Value.agg ((List.range 1350).map (fun i=>Value.int .u64 (g2 i:Nat))).toArray=V from hV]
     rw [hV] at hix
     clear hV e1' hrg
     go_wp2_with fail
     go_loopw [22] (fun i wq=>∃j:Nat,i= .int .i64 j∧j≤1350∧Hid (Upd b (fun i=>if i < j then p i ||| g2 i else p i) w wq)) (fun i _=>1350 - (intOf i).toNat)
     case atStart=>exact ⟨0,rfl,by omega,HJ.out.congr (fun i _=>by simp)⟩
     case round=>
      obtain ⟨j,rfl,hj,HI⟩:=hrel
      by_cases hlt2:j < 1350
      ·have hi2:=hix.out j hlt2
       have e2:wr.cell? ⟨b,j,none⟩=some (.int .u64 (p j:Nat)):=by have:=HI.out.words j hlt2; simpa using this
       have e3:=HI.out.free j
       have hpj:=HI.out.bd j hlt2
       simp only [Nat.lt_irrefl,if_false] at hpj
       have hor:=hid (yaI hpj (hbd.out j hlt2))
       have hlt3:=hid (yeH hpj (hbd.out j hlt2))
       have hjI:(j:Int) < 1350:=by omega
       clear hpj
       go_wp2_with fail
       go_region
       rw [hor.out]
       have HI2:Hid (Upd b (fun i=>if i < j+1 then p i ||| g2 i else p i) w (wr.setCell ⟨b,j,none⟩ (.int .u64 (p j ||| g2 j:Nat))).drew):=by
        refine ((HI.out.set hlt2 hlt3.out).congr (fun i _=>?_)).drew
        by_cases e:i=j
        ·subst e; simp
        ·have:(i < j+1)= (i < j):=by simp; omega
         simp [e,this]
       clear e2 e3 hi2
       go_wp2
       exact ⟨⟨j+1,by go_num,by omega,HI2.out⟩,by simp [intOf]; omega⟩
      ·obtain rfl:j=1350:=by omega
       have HJ2:Hid (Upd b (orL f (ds.take (k+1))) w wr):=by
        show Upd _ _ _ _
        rw [hsn.out]
        exact HI.out.congr (fun i hi=>by simp [hi])
       go_wp2
       exact ⟨⟨k+1,by go_num,by omega,HJ2.out⟩,by simp [intOf]; omega⟩
  ·have hke:ds.take k=ds:=List.take_of_length_le (by omega)
   rw [hke] at HJ
   clear hke
   go_wp2
   go_end0
   exact ⟨⟨_,rfl⟩,HJ.out⟩
theorem Eff.setCells {O:Nat→Prop} {W:World} {b:Nat} (hb:O b):∀(vs:List Value) (o:Nat) (W':World),Eff O W W'→Eff O W (W'.setCells b o vs)
 | [],_,_,h=>h
 | v :: vs,o,W',h=>by rw [World.setCells]; exact Eff.setCells hb vs (o+1) _ (h.set hb o v)
theorem Upd.there {b:Nat} {f:Nat→Nat} {W W':World} (h:Upd b f W W'):W'.there b 0 (List.replicate 1350 (Value.int .u64 0)).toArray.size:=fun j hj=>by
 rw [List.size_toArray,List.length_replicate] at hj
 rw [zzn]
 exact ⟨by rw [h.words j hj]; rfl,h.free j⟩
theorem Upd.zero {b:Nat} {f:Nat→Nat} {W W':World} (h:Upd b f W W'):Upd b (fun _=>0) W (W'.setCells b 0 (List.replicate 1350 (Value.int .u64 0))):=by
 refine ⟨fun i hi=>?_,fun i=>by rw [World.frozen?_setCells]; exact h.free i,fun _ _=>by omega,Eff.setCells (O:=fun x=>x=b) rfl _ _ _ h.eff⟩
 have:=World.cell?_setCells_in b (List.replicate 1350 (Value.int .u64 0)) 0 W' (fun j hj=>by rw [List.length_replicate] at hj; rw [zzn,h.words j hj]; rfl) i (by rw [List.length_replicate]; exact hi)
 rw [zzn,List.getElem_replicate] at this
 exact this
theorem Upd.there' {b:Nat} {f:Nat→Nat} {W W':World} (h:Upd b f W W') (g:Nat→Nat):W'.there b 0 ((List.range 1350).map (fun i=>Value.int .u64 (g i:Nat))).toArray.size:=fun j hj=>by
 rw [List.size_toArray,List.length_map,List.length_range] at hj
 rw [zzn]
 exact ⟨by rw [h.words j hj]; rfl,h.free j⟩
theorem Upd.all {b:Nat} {f:Nat→Nat} {W W':World} (h:Upd b f W W') (g:Nat→Nat):DC (W'.setCells b 0 ((List.range 1350).map (fun i=>Value.int .u64 (g i:Nat)))) b g∧Eff (fun x=>x=b) W (W'.setCells b 0 ((List.range 1350).map (fun i=>Value.int .u64 (g i:Nat)))):=by
 refine ⟨fun i hi=>?_,Eff.setCells (O:=fun x=>x=b) rfl _ _ _ h.eff⟩
 have:=World.cell?_setCells_in b ((List.range 1350).map (fun i=>Value.int .u64 (g i:Nat))) 0 W' (fun j hj=>by rw [List.length_map,List.length_range] at hj; rw [zzn,h.words j hj]; rfl) i (by rw [List.length_map,List.length_range]; exact hi)
 rw [zzn,List.getElem_map,List.getElem_range] at this
 exact this
theorem dc_new' (W:World):DC (W.alloc (.cells Tryz.zeroCells129 129)) W.heap.size (fun _=>0):=fun i hi=>by
 rw [zcw]
 exact yjb W 1350 _ _ i hi
end
section
open Go.RowKit Go.Maps
attribute [local irreducible] secL
def fcv (u:Nat→Nat) (fi la n:Int) (ev sq:Bool):Value:= .agg #[.int .u64 (u 0:Nat), .int .u64 (u 1:Nat), .int .u64 (u 2:Nat), .int .u64 (u 3:Nat), .int .u64 (u 4:Nat), .int .u64 (u 5:Nat), .int .u64 (u 6:Nat), .int .u64 (u 7:Nat), .int .u64 (u 8:Nat), .int .u64 (u 9:Nat), .int .u64 (u 10:Nat), .int .u64 (u 11:Nat), .int .u64 (u 12:Nat), .int .u64 (u 13:Nat), .int .u64 (u 14:Nat), .int .u64 (u 15:Nat), .int .u64 (u 16:Nat), .int .u64 (u 17:Nat), .int .u64 (u 18:Nat), .int .u64 (u 19:Nat), .int .u64 (u 20:Nat), .int .u64 (u 21:Nat), .int .u64 (u 22:Nat), .int .u64 (u 23:Nat), .int .u64 (u 24:Nat), .int .u64 (u 25:Nat), .int .u64 (u 26:Nat), .int .u64 (u 27:Nat), .int .u64 (u 28:Nat), .int .u64 (u 29:Nat), .int .u64 (u 30:Nat), .int .u64 (u 31:Nat), .int .u64 (u 32:Nat), .int .u64 (u 33:Nat), .int .u64 (u 34:Nat), .int .u64 (u 35:Nat), .int .u64 (u 36:Nat), .int .u64 (u 37:Nat), .int .u64 (u 38:Nat), .int .u64 (u 39:Nat), .int .u64 (u 40:Nat), .int .u64 (u 41:Nat), .int .u64 (u 42:Nat), .int .u64 (u 43:Nat), .int .u64 (u 44:Nat), .int .u64 (u 45:Nat), .int .i64 fi, .int .i64 la, .int .i64 n, .bool ev, .bool sq]
def fcL (u:Nat→Nat) (fi la n:Int) (ev sq:Bool):List Value:=((List.range 46).map fun i=> .int .u64 (u i:Nat)) ++ [.int .i64 fi, .int .i64 la, .int .i64 n, .bool ev, .bool sq]
theorem fcv_L (u:Nat→Nat) (fi la n:Int) (ev sq:Bool):fcv u fi la n ev sq= .agg (fcL u fi la n ev sq).toArray:=rfl
theorem ycE (u:Nat→Nat) (fi la n:Int) (ev sq:Bool):(fcL u fi la n ev sq).length=51:=by simp [fcL]
theorem yiQ:(Tryz.prog.info? 28).map (·.size)=some 51:=by kernel_rfl
structure FcB (b:Nat) (u:Nat→Nat) (fi la n:Int) (ev sq:Bool) (W:World):Prop where
 c:∀i,i < 46→W.cell? ⟨b,i,none⟩=some (.int .u64 (u i:Nat))
 c46:W.cell? ⟨b,46,none⟩=some (.int .i64 fi)
 c47:W.cell? ⟨b,47,none⟩=some (.int .i64 la)
 c48:W.cell? ⟨b,48,none⟩=some (.int .i64 n)
 c49:W.cell? ⟨b,49,none⟩=some (.bool ev)
 c50:W.cell? ⟨b,50,none⟩=some (.bool sq)
 z:∀i,W.frozen? ⟨b,i,none⟩=false
 lt:b < W.heap.size
section
variable {b:Nat} {u:Nat→Nat} {fi la n:Int} {ev sq:Bool} {W:World}
theorem FcB.block {W':World} (h:FcB b u fi la n ev sq W) (hs:W.heap.size≤W'.heap.size) (hb:W'.heap[b]? =W.heap[b]?):FcB b u fi la n ev sq W':=
 have e:=fun i=>zzJ (w:=W) (w':=W') (a:=⟨b,i,none⟩) hb
 ⟨fun i hi=>(e i).trans (h.c i hi),(e 46).trans h.c46,(e 47).trans h.c47,(e 48).trans h.c48,(e 49).trans h.c49,(e 50).trans h.c50,fun i=>(zzM (w:=W) (a:=⟨b,i,none⟩) hb).trans (h.z i),zH h.lt hs⟩
theorem FcB.as {u':Nat→Nat} (h:FcB b u fi la n ev sq W) (e:∀i,i < 46→u' i=u i):FcB b u' fi la n ev sq W:=
 ⟨fun i hi=>by rw [h.c i hi,e i hi],h.c46,h.c47,h.c48,h.c49,h.c50,h.z,h.lt⟩
theorem yay {i j:Nat} (h:i≠j) (v:Value):(W.setCell ⟨b,j,none⟩ v).cell? ⟨b,i,none⟩=W.cell? ⟨b,i,none⟩:=
 zzL _ _ _ _ (fun e=>by injection e with _ e; exact h e.symm)
theorem FcB.set (h:FcB b u fi la n ev sq W) {k:Nat} (hk:k < 46) (v:Nat) {u':Nat→Nat} (e:∀i,i < 46→u' i=if i=k then v else u i):FcB b u' fi la n ev sq (W.setCell ⟨b,k,none⟩ (.int .u64 (v:Nat))):=
 ⟨fun i hi=>by
  rw [e i hi]
  by_cases e:i=k
  ·subst e; rw [if_pos rfl]; exact zzW _ _ _ (by rw [h.c i hi])
  ·rw [yay e,h.c i hi,if_neg e],(yay (by omega) _).trans h.c46,(yay (by omega) _).trans h.c47,(yay (by omega) _).trans h.c48,(yay (by omega) _).trans h.c49,(yay (by omega) _).trans h.c50,fun i=>by simpa [go_sem] using h.z i,by simpa using h.lt⟩
theorem FcB.set46 (h:FcB b u fi la n ev sq W) (x:Int):FcB b u x la n ev sq (W.setCell ⟨b,46,none⟩ (.int .i64 x)):=
 ⟨fun i hi=>(yay (by omega) _).trans (h.c i hi),zzW _ _ _ (by rw [h.c46]),(yay (by omega) _).trans h.c47,(yay (by omega) _).trans h.c48,(yay (by omega) _).trans h.c49,(yay (by omega) _).trans h.c50,fun i=>by simpa [go_sem] using h.z i,by simpa using h.lt⟩
theorem FcB.set47 (h:FcB b u fi la n ev sq W) (x:Int):FcB b u fi x n ev sq (W.setCell ⟨b,47,none⟩ (.int .i64 x)):=
 ⟨fun i hi=>(yay (by omega) _).trans (h.c i hi),(yay (by omega) _).trans h.c46,zzW _ _ _ (by rw [h.c47]),(yay (by omega) _).trans h.c48,(yay (by omega) _).trans h.c49,(yay (by omega) _).trans h.c50,fun i=>by simpa [go_sem] using h.z i,by simpa using h.lt⟩
theorem FcB.set48 (h:FcB b u fi la n ev sq W) (x:Int):FcB b u fi la x ev sq (W.setCell ⟨b,48,none⟩ (.int .i64 x)):=
 ⟨fun i hi=>(yay (by omega) _).trans (h.c i hi),(yay (by omega) _).trans h.c46,(yay (by omega) _).trans h.c47,zzW _ _ _ (by rw [h.c48]),(yay (by omega) _).trans h.c49,(yay (by omega) _).trans h.c50,fun i=>by simpa [go_sem] using h.z i,by simpa using h.lt⟩
theorem FcB.set49 (h:FcB b u fi la n ev sq W) (x:Bool):FcB b u fi la n x sq (W.setCell ⟨b,49,none⟩ (.bool x)):=
 ⟨fun i hi=>(yay (by omega) _).trans (h.c i hi),(yay (by omega) _).trans h.c46,(yay (by omega) _).trans h.c47,(yay (by omega) _).trans h.c48,zzW _ _ _ (by rw [h.c49]),(yay (by omega) _).trans h.c50,fun i=>by simpa [go_sem] using h.z i,by simpa using h.lt⟩
theorem FcB.set50 (h:FcB b u fi la n ev sq W) (x:Bool):FcB b u fi la n ev x (W.setCell ⟨b,50,none⟩ (.bool x)):=
 ⟨fun i hi=>(yay (by omega) _).trans (h.c i hi),(yay (by omega) _).trans h.c46,(yay (by omega) _).trans h.c47,(yay (by omega) _).trans h.c48,(yay (by omega) _).trans h.c49,zzW _ _ _ (by rw [h.c50]),fun i=>by simpa [go_sem] using h.z i,by simpa using h.lt⟩
theorem FcB.at (h:FcB b u fi la n ev sq W) {j:Nat} {v:Value} (hv:(fcL u fi la n ev sq)[j]? =some v):W.cell? ⟨b,j,none⟩=some v:=by
 obtain ⟨hj,e⟩:=zzq.1 hv
 rw [ycE] at hj
 by_cases h46:j < 46
 ·rw [h.c j h46,←e]
  simp only [fcL]
  rw [List.getElem_append_left (by simpa using h46)]; simp
 ·have h5:j=46∨j=47∨j=48∨j=49∨j=50:=by omega
  rcases h5 with rfl | rfl | rfl | rfl | rfl
  ·exact h.c46.trans hv
  ·exact h.c47.trans hv
  ·exact h.c48.trans hv
  ·exact h.c49.trans hv
  ·exact h.c50.trans hv
theorem FcB.range (h:FcB b u fi la n ev sq W):W.rangeAt b 0 (fcL u fi la n ev sq):=fun j v hv=>by rw [zzn]; exact h.at hv
end
def yhN (v:Value):Sem Value:=Instr.loadAt 28 v
theorem yeM (v:Value):Instr.loadAt 28 v=yhN v:=rfl
def ycO (v x:Value):Sem Unit:=Instr.storeAt 28 v x
theorem ydH (v x:Value):Instr.storeAt 28 v x=ycO v x:=rfl
section
variable {b:Nat} {u:Nat→Nat} {fi la n:Int} {ev sq:Bool} {W:World}
theorem FcB.ld (h:FcB b u fi la n ev sq W):(yhN (.pointer (some ⟨b,0,none⟩))).run Tryz.prog W= .ok (fcv u fi la n ev sq) W:=by
 unfold yhN
 simp only [Instr.loadAt,Instr.sureAddr,Sem.run_bind,Sem.run_pure,Result.andThen_ok,run_loadVar_mid W b 0 28 (fcL u fi la n ev sq) _ h.range Tryz.underlying28 rfl (by rw [ycE]; exact yiQ)]
 rfl
theorem FcB.there (h:FcB b u fi la n ev sq W) (u':Nat→Nat) (fi' la' n':Int) (ev' sq':Bool):W.there b 0 (fcL u' fi' la' n' ev' sq').toArray.size:=fun j hj=>by
 rw [List.size_toArray,ycE] at hj
 rw [zzn]
 have hl:j < (fcL u fi la n ev sq).length:=by rw [ycE]; exact hj
 exact ⟨by rw [h.at (zzp hl)]; rfl,h.z j⟩
theorem FcB.st (h:FcB b u fi la n ev sq W) (u':Nat→Nat) (fi' la' n':Int) (ev' sq':Bool):(ycO (.pointer (some ⟨b,0,none⟩)) (fcv u' fi' la' n' ev' sq')).run Tryz.prog W= .ok () (W.setCells b 0 (fcL u' fi' la' n' ev' sq')):=by
 unfold ycO
 rw [fcv_L,run_storeAt_mid W b 0 28 (fcL u' fi' la' n' ev' sq').toArray (h.there u' fi' la' n' ev' sq') (by rw [List.size_toArray,ycE]; exact yiQ) (by simp [fcL,Value.oneCell'])]
theorem FcB.put (h:FcB b u fi la n ev sq W) (u':Nat→Nat) (fi' la' n':Int) (ev' sq':Bool):FcB b u' fi' la' n' ev' sq' (W.setCells b 0 (fcL u' fi' la' n' ev' sq')):=by
 have hs:=(Eff.setCells (O:=fun x=>x=b) rfl (fcL u' fi' la' n' ev' sq') 0 W (Eff.refl _ W)).size
 have key:∀j v,(fcL u' fi' la' n' ev' sq')[j]? =some v→(W.setCells b 0 (fcL u' fi' la' n' ev' sq')).cell? ⟨b,j,none⟩=some v:=fun j v hv=>by
  obtain ⟨hj,e⟩:=zzq.1 hv
  have:=World.cell?_setCells_in b (fcL u' fi' la' n' ev' sq') 0 W (fun j hj=>by
   have hl:j < (fcL u fi la n ev sq).length:=by rw [ycE] at hj⊢; exact hj
   rw [zzn,h.at (zzp hl)]; rfl) j hj
  rw [zzn,e] at this
  exact this
 refine ⟨fun i hi=>key i _ ?_,key 46 _ rfl,key 47 _ rfl,key 48 _ rfl,key 49 _ rfl,key 50 _ rfl,fun i=>by rw [World.frozen?_setCells]; exact h.z i,zH h.lt hs⟩
 simp only [fcL]
 rw [List.getElem?_append_left (by simpa using hi)]; simp [hi]
theorem ygi (w:World) (t:TypeId):FcB w.heap.size (fun _=>0) 0 0 0 false false (w.alloc (.cells zl0 t)):=by
 have e:(zl0:Array Value)= (fcL (fun _=>0) 0 0 0 false false).toArray:=rfl
 have key:∀j v,(fcL (fun _=>0) 0 0 0 false false)[j]? =some v→(w.alloc (.cells zl0 t)).cell? ⟨w.heap.size,j,none⟩=some v:=fun j v hv=>by
  rw [e]
  have e2:(fcL (fun _=>0) 0 0 0 false false).toArray[j]? =some v:=by rw [List.getElem?_toArray]; exact hv
  rw [World.cell?,World.alloc_heap_new]
  simpa using e2
 refine ⟨fun i hi=>key i _ ?_,key 46 _ rfl,key 47 _ rfl,key 48 _ rfl,key 49 _ rfl,key 50 _ rfl,fun i=>yaE w _ t i,by simp⟩
 simp only [fcL]
 rw [List.getElem?_append_left (by simpa using hi)]; simp [hi]
end
end
section
open Go.RowKit
attribute [local go_sem] Oper.semAt_some
theorem yjB (h m:Int) (S:List Int) (k:Nat) (hk:k < S.length):(yco h m S)[k]? =some (3600 * h+60 * m+S[k]):=by
 simp [yco,zzp hk]
theorem yez (h:Int) (S:List Int) (k:Nat) (hk:k < S.length):∀(M:List Int) (j:Nat) (hj:j < M.length),(yav h M S)[j * S.length+k]? =some (3600 * h+60 * M[j]+S[k])
 | m :: M,0,_=>by
   have e:yav h (m :: M) S=yco h m S ++ yav h M S:=by simp [yav]
   rw [e,List.getElem?_append_left (by rw [ycS]; omega),Nat.zero_mul,zzn,yjB h m S k hk]; rfl
 | m :: M,j+1,hj=>by
   have e:yav h (m :: M) S=yco h m S ++ yav h M S:=by simp [yav]
   have e2:(j+1) * S.length+k=S.length+(j * S.length+k):=by rw [Nat.succ_mul]; omega
   rw [e,e2,List.getElem?_append_right (by rw [ycS]; omega),ycS,Nat.add_sub_cancel_left,yez h S k hk M j (by simpa using hj)]; rfl
theorem ygN (M S:List Int) (j k:Nat) (hj:j < M.length) (hk:k < S.length):∀(H:List Int) (i:Nat) (hi:i < H.length),(secs H M S)[i * (M.length * S.length)+j * S.length+k]? =some (3600 * H[i]+60 * M[j]+S[k])
 | h :: H,0,_=>by
   have e:secs (h :: H) M S=yav h M S ++ secs H M S:=by simp [secs]
   have hlt:j * S.length+k < M.length * S.length:=by
    have:(j+1) * S.length≤M.length * S.length:=Nat.mul_le_mul_right _ hj
    rw [Nat.succ_mul] at this; omega
   rw [e,Nat.zero_mul,zzn,List.getElem?_append_left (by rw [ycf]; exact hlt),yez h S k hk M j hj]; rfl
 | h :: H,i+1,hi=>by
   have e:secs (h :: H) M S=yav h M S ++ secs H M S:=by simp [secs]
   have e2:(i+1) * (M.length * S.length)+j * S.length+k=M.length * S.length+(i * (M.length * S.length)+j * S.length+k):=by rw [Nat.succ_mul]; omega
   rw [e,e2,List.getElem?_append_right (by rw [ycf]; omega),ycf,Nat.add_sub_cancel_left,ygN M S j k hj hk H i (by simpa using hi)]; rfl
theorem secs_get (H M S:List Int) (i j k:Nat) (hi:i < H.length) (hj:j < M.length) (hk:k < S.length) :
  ∃h:i * (M.length * S.length)+j * S.length+k < (secs H M S).length,(secs H M S)[i * (M.length * S.length)+j * S.length+k]=3600 * H[i]+60 * M[j]+S[k]:=by
 obtain ⟨h,e⟩:=zzq.1 (ygN M S j k hj hk H i hi)
 exact ⟨h,e⟩
theorem yau {W:World} {l:Nat} {o:Obj} {b i:Nat} {v:Value} (hr:∃r,W.heap[l]? =some (.loop r)) (h:W.cell? ⟨b,i,none⟩=some v):(W.putObj l o).cell? ⟨b,i,none⟩=some v:=by
 refine (zzJ (w:=W) (a:=⟨b,i,none⟩) (World.putObj_heap_other (fun e=>?_))).trans h
 obtain ⟨r,hr⟩:=hr
 simp only at e
 subst e
 rw [World.cell?] at h
 simp [hr] at h
theorem yel (m:Nat) (W:World) (hm:m < 18446744073709551616):Calls Tryz.prog 149 #[.slice (some ⟨W.heap.size,0,none⟩) 1 1] (W.alloc (.cells #[.int .u64 m] 24)) fun e w'=>
  e= .returned (.func (.func 169) #[] #[.pointer (some ⟨W.heap.size+1,0,none⟩)])∧w'.cell? ⟨W.heap.size+1,0,none⟩=some (.int .u64 m)∧Below W.heap.size W w'∧W.heap.size+1 < w'.heap.size:=by
 have h:=MAll_any (some ⟨W.heap.size,0,none⟩) 1 [m] (W.alloc (.cells #[.int .u64 m] 24)) (by simp) (.inr ⟨W.heap.size,0,rfl,by simp,fun j hj=>by simp [u64s] at hj⊢; subst hj; simp [go_sem]⟩) (by simpa using hm)
 rw [andM_one hm,zzN] at h
 exact h.mono fun e w' ⟨h1,h2,h3,h4⟩=>⟨h1,h2,(yaa (Below.refl _ _) (zG _)).trans (h3.mono (by omega)),h4⟩
theorem Grow.of_below {O:Nat→Prop} {W W':World} (h:Below W.heap.size W W'):Grow O O W W':=⟨fun _ h=>h,fun _ h=> .inl h,Eff.of_below h⟩
theorem ybm {I:OwnP} (hI:ybd I) (hl:LtO I) {k:Nat} {O:Nat→Prop} {W W':World} (h:I k O W) (hb:Below W.heap.size W W'):I k O W':=hI k O W W' h hb.size (fun b hb2=>hb.block b (hl k O W h b hb2))
theorem ybg {I:OwnP} (hI:ybd I) {k:Nat} {O:Nat→Prop} {W:World} (h:I k O W) {l:Nat} (hn:¬O l) (o:Obj):I k O (W.putObj l o):=
 hI k O W _ h (by rw [World.putObj_size]; exact zG _) (fun b hb=>World.putObj_heap_other (fun e=>hn (e ▸ hb)))
theorem yh5 (a b c bh bm bs:Nat) (y:Value) (J Jx:OwnP) (O:Nat→Prop) (W:World) (ha:a < 18446744073709551616) (hb:b < 18446744073709551616) (hc:c < 18446744073709551616)
  (hC:Client2 Tryz.prog y (secs (sel a.testBit 64) (sel b.testBit 64) (sel c.testBit 64)) J Jx O W) (hJ:J 0 O W)
  (hbh:bh < W.heap.size) (hbm:bm < W.heap.size) (hbs:bs < W.heap.size) (hnh:¬O bh) (hnm:¬O bm) (hns:¬O bs)
  (hch:W.cell? ⟨bh,0,none⟩=some (.int .u64 a)) (hcm:W.cell? ⟨bm,0,none⟩=some (.int .u64 b)) (hcs:W.cell? ⟨bs,0,none⟩=some (.int .u64 c)) (hT:Tab W) (hTO:¬O 0) :
  Calls Tryz.prog 179 #[y, .pointer (some ⟨bh,0,none⟩), .pointer (some ⟨bm,0,none⟩), .pointer (some ⟨bs,0,none⟩)] W fun e W'=>(∃v,e= .returned v)∧Told (secs (sel a.testBit 64) (sel b.testBit 64) (sel c.testBit 64)) J Jx O W W':=by
 obtain ⟨yf,yi,yc,rfl⟩:=hC.form
 have HC:=hid hC
 have HT:=hid hT
 have hT0:=hT.1
 have HN:=hid (And.intro hnm (And.intro hns hTO))
 obtain ⟨W1,hW1⟩:∃W1,W.alloc (.cells #[.func yf yi yc] 100)=W1:=⟨_,rfl⟩
 have q3:W1.heap.size=W.heap.size+1:=by rw [←hW1]; simp
 have q4:Below W.heap.size W W1:=by rw [←hW1]; exact yaa (Below.refl _ _) (zG _)
 have q5:W1.cell? ⟨W.heap.size,0,none⟩=some (.func yf yi yc):=by rw [←hW1]; simp [go_sem]
 have hMA:=yel a W1 ha
 rw [q3] at hMA
 have HM:=hid hMA
 have HW1:=hid hW1
 have ey:=hid q5
 have hch1:=(q4.cell (p:=⟨bh,0,none⟩) hbh).trans hch
 have Q4:=hid q4
 have Hm:=hid hcm
 have Hs:=hid hcs
 have HJ:=hid hJ
 have hlt:=hC.lt 0 O W hJ
 have Hlt:=hid hlt
 have lH:=yc8 a.testBit 64
 have lM:=yc8 b.testBit 64
 have lS:=yc8 c.testBit 64
 have bH:=hid (fun k hk=>ygM (p:=a.testBit) k hk)
 have bM:=hid (fun k hk=>ygM (p:=b.testBit) k hk)
 have bS:=hid (fun k hk=>ygM (p:=c.testBit) k hk)
 have tells1:=hid (fun b' Ow w (h1:b' < w.heap.size) h2 h3 h4 h5=>yci a b' Ow w ha h1 h2 h3 h4 h5)
 have tells2:=hid (fun b' Ow w (h1:b' < w.heap.size) h2 h3 h4 h5=>yci b b' Ow w hb h1 h2 h3 h4 h5)
 have tells3:=hid (fun b' Ow w (h1:b' < w.heap.size) h2 h3 h4 h5=>yci c b' Ow w hc h1 h2 h3 h4 h5)
 obtain ⟨H,eH⟩:∃l,sel a.testBit 64=l:=⟨_,rfl⟩
 obtain ⟨M,eM⟩:∃l,sel b.testBit 64=l:=⟨_,rfl⟩
 obtain ⟨S,eS⟩:∃l,sel c.testBit 64=l:=⟨_,rfl⟩
 rw [eH] at lH bH tells1 HC⊢
 rw [eM] at lM bM tells2 HC⊢
 rw [eS] at lS bS tells3 HC⊢
 clear eH eM eS hMA hC hT hnh hnm hns hTO q4 q5 hch hcm hcs hW1 hJ hlt
 refine (wf_calls (r:=none) (n:=1)).mp ?_
 refine callsIn_of_wp_marks Tryz.func179 rfl trivial ?_ rfl
 simp only [Tryz.ntmps179,List.size_toArray,List.length_cons,List.length_nil,Nat.reduceAdd,Nat.reduceSub,Array.replicate_succ,Array.replicate_zero,List.push_toArray,List.append_toArray,List.nil_append,List.cons_append]
 gi_wp2_with fail
 refine ybl ?_
 rw [HW1.out]
 gi_wp2_with fail
 refine wpIn_label ?_
 gi_wp2_with fail
 refine (wf_calls.mpr HM.out).mono ?_
 rintro e w1 ⟨rfl,hm1,hm2,hm3⟩
 have hB1:Below W.heap.size W w1:=Q4.out.trans (hm2.mono (by omega))
 have HB1:=hid hB1
 have HG1:Hid (Grow O O W w1):=Grow.of_below hB1
 have ey1:=hid ((hm2.cell (p:=⟨W.heap.size,0,none⟩) (by simp only []; omega)).trans ey.out)
 have HJ1:Hid (J 0 O w1):=ybm HC.out.stab HC.out.lt HJ.out hB1
 have tl1:=hid (tells1.out (W.heap.size+2) O w1 hm3 (fun h=>by have:=Hlt.out _ h; omega) hm1 (HT.out.later hB1) HN.out.2.2)
 clear hm1 hm2 hB1
 gi_wp2_with fail
 refine yaZ (gf:=169) (lb:=#[.pointer (some ⟨W.heap.size+2,0,none⟩)]) rfl ycj H O rfl tl1.out
  (fun i O W=>J (i * (M.length * S.length)) O W) (fun c i O W=>c= .exit 0∧∃q,1≤q∧q≤(secs H M S).length∧Jx q O W)
  (fun k O W W' h hs hO=>HC.out.stab _ O W W' h hs hO) (fun c k O W W' h hs hO=>⟨h.1,by obtain ⟨q,h1,h2,h3⟩:=h.2; exact ⟨q,h1,h2,HC.out.stabx _ O W W' h3 hs hO⟩⟩)
  (fun k O W h=>HC.out.lt _ O W h) (fun c k O W h=>by obtain ⟨_,q,h1,h2,h3⟩:=h; exact HC.out.ltx _ O W h3) (by simpa using HJ1.out)
  (fun i O a' W'=>J (i * (M.length * S.length)) O W'∧∃bx h,H[i]? =some h∧W'.cell? ⟨bx,0,none⟩=some (.int .i64 h)∧¬O bx∧bx < W'.heap.size∧
    a' = {tmps:=#[.func yf yi yc, .pointer (some ⟨bh,0,none⟩), .pointer (some ⟨bm,0,none⟩), .pointer (some ⟨bs,0,none⟩), .pointer (some ⟨W.heap.size,0,none⟩), .pointer (some ⟨bx,0,none⟩),undef,undef, .int .u64 a, .slice (some ⟨W.heap.size+1,0,none⟩) 1 1, .func (.func 169) #[] #[.pointer (some ⟨W.heap.size+1+1,0,none⟩)], .int .i64 h,undef,undef,undef,undef,undef,undef,undef,undef,undef,undef,undef,undef,undef,undef,undef,undef,undef,undef],defers:= []})
  (fun l o k O a' W' hr hn h=>⟨ybg HC.out.stab h.1 hn o,by obtain ⟨bx,h,h0,h1,h2,h3,h4⟩:=h.2; exact ⟨bx,h,h0,yau hr h1,h2,by rw [World.putObj_size]; exact h3,h4⟩⟩) ?assign ?body ?done ?stop
 case assign=>
  intro l i O2 W2 K hi hJ2 hG2 hK
  have hlt2:=HC.out.lt _ _ _ hJ2
  gi_wp2
  have hbel:Below W2.heap.size W2 (W2.alloc (.cells #[.int .i64 H[i]] 3)):=yaa (Below.refl _ _) (zG _)
  exact hK _ O2 _ (Grow.of_below hbel) ⟨ybm HC.out.stab HC.out.lt hJ2 hbel,W2.heap.size,H[i],zzp hi,by simp [go_sem],fun h=>by have:=hlt2 _ h; omega,by simp,rfl⟩
 case done=>
  intro O2 W2 hG2 hJ2 hD hnD
  have hG:=HG1.out.trans hG2
  have hJ3:J (secs H M S).length O2 W2:=by rw [yiA]; exact hJ2
  gi_wp2
  rw [Exit.noGoto_normal]
  refine ⟨by simp, .inl ⟨_,_,rfl,run_takeDeferred hD,?_⟩⟩
  exact ⟨_,results_none rfl _ _ _,⟨_,rfl⟩,O2,hG.sub,hG.new,hG.eff.putObj (.inr (by have:=HB1.out.size; omega)) _, .inl (ybg HC.out.stab hJ3 hnD _)⟩
 case stop=>
  rintro c i O2 W2 hi1 hi2 hG2 ⟨rfl,q,hq1,hq2,hJ2⟩ hD hnD
  have hG:=HG1.out.trans hG2
  gi_wp2
  rw [Exit.noGoto_normal]
  refine ⟨by simp, .inl ⟨_,_,rfl,run_takeDeferred hD,?_⟩⟩
  exact ⟨_,results_none rfl _ _ _,⟨_,rfl⟩,O2,hG.sub,hG.new,hG.eff.putObj (.inr (by have:=HB1.out.size; omega)) _, .inr ⟨q,hq1,hq2,ybg HC.out.stabx hJ2 hnD _⟩⟩
 case body=>
  rintro l i O2 a' W2 hi hG2 hl hrec hnl ⟨hJ2,bx,h,eh,ch,nh,lh,rfl⟩
  have hyl:W.heap.size < w1.heap.size:=by omega
  have nO:¬O W.heap.size:=fun h=>by have:=Hlt.out _ h; omega
  have ey2:=(hG2.cell hyl nO 0).trans ey1.out
  have em2:=(hG2.cell (by omega) HN.out.1 0).trans ((HB1.out.cell (p:=⟨bm,0,none⟩) hbm).trans Hm.out)
  have es2:=(hG2.cell (by omega) HN.out.2.1 0).trans ((HB1.out.cell (p:=⟨bs,0,none⟩) hbs).trans Hs.out)
  have hT2:=(HT.out.later HB1.out).eff hG2.eff HN.out.2.2
  have NO2:=hid (And.intro (hG2.not hyl nO) (And.intro (hG2.not (b:=bs) (by omega) HN.out.2.1) (hG2.not (b:=0) (by have:=(HT.out.later HB1.out).1; omega) HN.out.2.2)))
  have hsz2:=hG2.eff.size
  have hlt2:=HC.out.lt _ _ _ hJ2
  have GG2:Hid (Grow O O2 W W2):=HG1.out.trans hG2
  have HM2:=hid (yel b W2 hb)
  have HJ2:=hid hJ2
  clear HM HG1 tells1 tl1 hG2 hJ2
  gi_wp2_with fail
  refine (wf_calls.mpr HM2.out).mono ?_
  rintro e w3 ⟨rfl,hn1,hn2,hn3⟩
  have hrec3:∃r,w3.heap[l]? =some (.loop r):=by obtain ⟨r,hr⟩:=hrec; exact ⟨r,(hn2.block l (yai hr)).trans hr⟩
  have HG3:Hid (Grow O2 O2 W2 w3):=Grow.of_below hn2
  have tl2:=hid (tells2.out (W2.heap.size+1) O2 w3 hn3 (fun h=>by have:=hlt2 _ h; omega) hn1 (hT2.later hn2) NO2.out.2.2)
  have HJ3:Hid (J (i * (M.length * S.length)) O2 w3):=ybm HC.out.stab HC.out.lt HJ2.out hn2
  have ey3:=hid ((hn2.cell (p:=⟨W.heap.size,0,none⟩) (by simp only []; omega)).trans ey2)
  have es3:=hid ((hn2.cell (p:=⟨bs,0,none⟩) (by simp only []; omega)).trans es2)
  have ch3:=hid ((hn2.cell (p:=⟨bx,0,none⟩) lh).trans ch)
  have HT3:=hid (hT2.later hn2)
  have hsz3:=hn2.size
  clear hn1 hn2 ey2 em2 es2 ch hT2 HM2
  gi_wp2_with fail
  refine yd9 (gf:=169) (lb:=#[.pointer (some ⟨W2.heap.size+1,0,none⟩)]) hrec3 rfl ycj M O2 rfl tl2.out
   (fun j O W=>J (i * (M.length * S.length)+j * S.length) O W) (fun c j O W=>c= .exit 0∧∃q,1≤q∧q≤(secs H M S).length∧Jx q O W)
   (fun k O W W' h hs hO=>HC.out.stab _ O W W' h hs hO) (fun c k O W W' h hs hO=>⟨h.1,by obtain ⟨q,h1,h2,h3⟩:=h.2; exact ⟨q,h1,h2,HC.out.stabx _ O W W' h3 hs hO⟩⟩)
   (fun k O W h=>HC.out.lt _ O W h) (fun c k O W h=>by obtain ⟨_,q,h1,h2,h3⟩:=h; exact HC.out.ltx _ O W h3) (by simpa using HJ3.out)
   (fun j O a' W'=>J (i * (M.length * S.length)+j * S.length) O W'∧∃bz m,M[j]? =some m∧W'.cell? ⟨bz,0,none⟩=some (.int .i64 m)∧¬O bz∧bz < W'.heap.size∧
     a' = {tmps:=#[.func yf yi yc, .pointer (some ⟨bh,0,none⟩), .pointer (some ⟨bm,0,none⟩), .pointer (some ⟨bs,0,none⟩), .pointer (some ⟨W.heap.size,0,none⟩), .pointer (some ⟨bx,0,none⟩), .pointer (some ⟨bz,0,none⟩),undef, .int .u64 a, .slice (some ⟨W.heap.size+1,0,none⟩) 1 1, .func (.func 169) #[] #[.pointer (some ⟨W.heap.size+1+1,0,none⟩)], .int .i64 h, .int .u64 b, .slice (some ⟨W2.heap.size,0,none⟩) 1 1, .func (.func 169) #[] #[.pointer (some ⟨W2.heap.size+1,0,none⟩)], .int .i64 m,undef,undef,undef,undef,undef,undef,undef,undef,undef,undef,undef,undef,undef,undef],defers:= []})
   (fun l o k O a' W' hr hn h=>⟨ybg HC.out.stab h.1 hn o,by obtain ⟨bx,h,h0,h1,h2,h3,h4⟩:=h.2; exact ⟨bx,h,h0,yau hr h1,h2,by rw [World.putObj_size]; exact h3,h4⟩⟩) ?assign2 ?body2 ?done2 ?stop2
  case assign2=>
   intro l j O4 W4 K hj hJ4 hG4 hK
   have hlt4:=HC.out.lt _ _ _ hJ4
   gi_wp2
   have hbel:Below W4.heap.size W4 (W4.alloc (.cells #[.int .i64 M[j]] 3)):=yaa (Below.refl _ _) (zG _)
   exact hK _ O4 _ (Grow.of_below hbel) ⟨ybm HC.out.stab HC.out.lt hJ4 hbel,W4.heap.size,M[j],zzp hj,by simp [go_sem],fun h=>by have:=hlt4 _ h; omega,by simp,rfl⟩
  case done2=>
   intro O4 W4 hG4 hJ4
   gi_wp2
   exact ⟨O4,HG3.out.trans hG4,by show J ((i+1) * (M.length * S.length)) O4 W4; rw [show (i+1) * (M.length * S.length)=i * (M.length * S.length)+M.length * S.length from Nat.succ_mul _ _]; exact hJ4⟩
  case stop2=>
   rintro c j O4 W4 hj1 hj2 hG4 ⟨rfl,q,hq1,hq2,hJ4⟩
   gi_wp2
   exact ⟨O4,HG3.out.trans hG4,rfl,q,hq1,hq2,hJ4⟩
  case body2=>
   rintro l2 j O4 a' W4 hj hG4 hl2 hrec4 hnl2 ⟨hJ4,bz,m,em,cm,nm,lm,rfl⟩
   have ey4:=(hG4.cell (by omega) NO2.out.1 0).trans ey3.out
   have es4:=(hG4.cell (by omega) NO2.out.2.1 0).trans es3.out
   have ch4:=(hG4.cell (b:=bx) (by omega) nh 0).trans ch3.out
   have hT4:=HT3.out.eff hG4.eff NO2.out.2.2
   have NO4:=hid (And.intro (hG4.not (b:=W.heap.size) (by omega) NO2.out.1) (And.intro (hG4.not (b:=bx) (by omega) nh) (hG4.not (b:=0) (by have:=HT3.out.1; omega) NO2.out.2.2)))
   have hsz4:=hG4.eff.size
   have hlt4:=HC.out.lt _ _ _ hJ4
   have GG4:Hid (Grow O O4 W W4):=GG2.out.trans (HG3.out.trans hG4)
   have HM4:=hid (yel c W4 hc)
   have HJ4:=hid hJ4
   clear tells2 tl2 hG4 hJ4
   gi_wp2_with fail
   refine (wf_calls.mpr HM4.out).mono ?_
   rintro e w5 ⟨rfl,hn1,hn2,hn3⟩
   have hrec5:∃r,w5.heap[l2]? =some (.loop r):=by obtain ⟨r,hr⟩:=hrec4; exact ⟨r,(hn2.block l2 (yai hr)).trans hr⟩
   have HG5:Hid (Grow O4 O4 W4 w5):=Grow.of_below hn2
   have tl3:=hid (tells3.out (W4.heap.size+1) O4 w5 hn3 (fun h=>by have:=hlt4 _ h; omega) hn1 (hT4.later hn2) NO4.out.2.2)
   have HJ5:Hid (J (i * (M.length * S.length)+j * S.length) O4 w5):=ybm HC.out.stab HC.out.lt HJ4.out hn2
   have ey5:=hid ((hn2.cell (p:=⟨W.heap.size,0,none⟩) (by simp only []; omega)).trans ey4)
   have ch5:=hid ((hn2.cell (p:=⟨bx,0,none⟩) (by simp only []; omega)).trans ch4)
   have cm5:=hid ((hn2.cell (p:=⟨bz,0,none⟩) lm).trans cm)
   have hsz5:=hn2.size
   clear hn1 hn2 ey4 es4 ch4 cm hT4 HM4
   gi_wp2_with fail
   refine yd9 (gf:=169) (lb:=#[.pointer (some ⟨W4.heap.size+1,0,none⟩)]) hrec5 rfl ycj S O4 rfl tl3.out
    (fun k O W=>J (i * (M.length * S.length)+j * S.length+k) O W) (fun c k O W=>c= .exit 0∧∃q,1≤q∧q≤(secs H M S).length∧Jx q O W)
    (fun k O W W' h hs hO=>HC.out.stab _ O W W' h hs hO) (fun c k O W W' h hs hO=>⟨h.1,by obtain ⟨q,h1,h2,h3⟩:=h.2; exact ⟨q,h1,h2,HC.out.stabx _ O W W' h3 hs hO⟩⟩)
    (fun k O W h=>HC.out.lt _ O W h) (fun c k O W h=>by obtain ⟨_,q,h1,h2,h3⟩:=h; exact HC.out.ltx _ O W h3) (by simpa using HJ5.out)
    (fun k O a' W'=>J (i * (M.length * S.length)+j * S.length+k) O W'∧∃s,S[k]? =some s∧
      a' = {tmps:=#[.func yf yi yc, .pointer (some ⟨bh,0,none⟩), .pointer (some ⟨bm,0,none⟩), .pointer (some ⟨bs,0,none⟩), .pointer (some ⟨W.heap.size,0,none⟩), .pointer (some ⟨bx,0,none⟩), .pointer (some ⟨bz,0,none⟩), .int .i64 s, .int .u64 a, .slice (some ⟨W.heap.size+1,0,none⟩) 1 1, .func (.func 169) #[] #[.pointer (some ⟨W.heap.size+1+1,0,none⟩)], .int .i64 h, .int .u64 b, .slice (some ⟨W2.heap.size,0,none⟩) 1 1, .func (.func 169) #[] #[.pointer (some ⟨W2.heap.size+1,0,none⟩)], .int .i64 m, .int .u64 c, .slice (some ⟨W4.heap.size,0,none⟩) 1 1, .func (.func 169) #[] #[.pointer (some ⟨W4.heap.size+1,0,none⟩)], .int .i64 s,undef,undef,undef,undef,undef,undef,undef,undef,undef,undef],defers:= []})
    (fun l o k O a' W' hr hn h=>⟨ybg HC.out.stab h.1 hn o,h.2⟩) ?assign3 ?body3 ?done3 ?stop3
   case assign3=>
    intro l k O6 W6 K hk hJ6 hG6 hK
    gi_wp2
    exact hK _ O6 _ (Grow.refl _ _) ⟨hJ6,S[k],zzp hk,rfl⟩
   case done3=>
    intro O6 W6 hG6 hJ6
    gi_wp2
    exact ⟨O6,HG5.out.trans hG6,by show J (i * (M.length * S.length)+(j+1) * S.length) O6 W6; rw [show i * (M.length * S.length)+(j+1) * S.length=i * (M.length * S.length)+j * S.length+S.length by rw [Nat.succ_mul]; omega]; exact hJ6⟩
   case stop3=>
    rintro c k O6 W6 hk1 hk2 hG6 ⟨rfl,q,hq1,hq2,hJ6⟩
    gi_wp2
    exact ⟨O6,HG5.out.trans hG6,rfl,q,hq1,hq2,hJ6⟩
   case body3=>
    rintro l3 k O6 a' W6 hk hG6 hl3 hrec6 hnl3 ⟨hJ6,s,es,rfl⟩
    have ey6:=(hG6.cell (b:=W.heap.size) (by omega) NO4.out.1 0).trans ey5.out
    have ch6:=(hG6.cell (b:=bx) (by omega) NO4.out.2.1 0).trans ch5.out
    have cm6:=(hG6.cell (b:=bz) (by omega) nm 0).trans cm5.out
    obtain ⟨hidx,hval⟩:=secs_get H M S i j k hi hj hk
    have hcall:=HC.out.call _ O6 W6 hidx hJ6 (GG4.out.trans (HG5.out.trans hG6))
    obtain ⟨_,eh'⟩:=zzq.1 eh
    obtain ⟨_,em'⟩:=zzq.1 em
    obtain ⟨_,es'⟩:=zzq.1 es
    have bh1:=bH.out i hi
    have bm1:=bM.out j hj
    have bs1:=bS.out k hk
    rw [eh'] at bh1
    rw [em'] at bm1
    rw [es'] at bs1
    rw [hval,eh',em',es',show 3600 * h+60 * m+s=h * 3600+m * 60+s by omega] at hcall
    have Hcall:=hid hcall
    have Hidx:=hid hidx
    obtain ⟨x1,x2⟩:=bh1
    obtain ⟨x3,x4⟩:=bm1
    obtain ⟨x5,x6⟩:=bs1
    clear hcall hidx hval eh' em' es' hJ6 hG6 tells3 tl3
    gi_wp2_with (refine callv (.tmp 20) (.tmp 27) _ rfl rfl rfl rfl Hcall.out ?_)
    rintro e W7 O7 h1 h2 h3 hend
    rcases hend with ⟨rfl,hJ7⟩ | ⟨rfl,hJ7⟩
    ·have HJ7:Hid (Grow O6 O7 W6 W7∧J (i * (M.length * S.length)+j * S.length+(k+1)) O7 W7):=⟨⟨h1,h2,h3⟩,hJ7⟩
     clear h1 h2 h3 hJ7
     refine ⟨_,rfl,?_⟩
     gi_wp2
     exact ⟨O7,HJ7.out.1,HJ7.out.2⟩
    ·have HJ7:Hid (Grow O6 O7 W6 W7∧∃q,1≤q∧q≤(secs H M S).length∧Jx q O7 W7):=⟨⟨h1,h2,h3⟩,_,by omega,Nat.succ_le_of_lt Hidx.out,hJ7⟩
     clear h1 h2 h3 hJ7
     refine ⟨_,rfl,?_⟩
     gi_wp2
     exact ⟨O7,HJ7.out.1,rfl,HJ7.out.2⟩
end
end Go.Proofs.YtkpgfmonhfnhdaaGreatDoor
