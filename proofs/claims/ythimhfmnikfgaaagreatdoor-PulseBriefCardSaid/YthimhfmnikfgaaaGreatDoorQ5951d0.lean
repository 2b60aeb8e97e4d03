/-
  A disc's Join and Keep: they are handed discs that may be nil.
  The function that mask.All makes tells the numbers of its mask, rising, as long as more are wanted.
-/
import Derived.Test.YthimhfmnikfgaaaGreatDoorQ1247ae
import Derived.Deep.MidRow
import Derived.TacticsInMore
import Derived.LoopNIn
import Derived.LoopIn
namespace Go.Proofs.YthimhfmnikfgaaaGreatDoor
set_option linter.unusedVariables false
section
open Go.RowKit
def dagg (f:Nat→Nat):Value:= .agg ((List.range 1350).map (fun i=>Value.int .u64 (f i:Nat))).toArray
theorem run_index_arr (cs:Array Value) (v:Value) (i:Nat) (h:i < 1350) (hc:cs[i]? =some v) (W:World):(Instr.index 203 (.agg cs) (.int .i64 i)).run Tryz.prog W= .ok v W:=by
 obtain ⟨i0,hi0,hz0,hz1,hz2⟩:=info_parts infoU64
 simp [Instr.index,go_sem,part,sizeOf,typeInfo,hi0,hz1,h,hc]
theorem run_index_dagg (f:Nat→Nat) (i:Nat) (h:i < 1350) (W:World):(Instr.index 203 (dagg f) (.int .i64 i)).run Tryz.prog W= .ok (.int .u64 (f i:Nat)) W:=by
 refine run_index_arr _ _ i h ?_ W
 rw [List.getElem?_toArray,List.getElem?_map,List.getElem?_range h]; rfl
theorem dc_range {W:World} {b:Nat} {f:Nat→Nat} (h:DC W b f):W.rangeAt b 0 ((List.range 1350).map (fun i=>Value.int .u64 (f i:Nat))):=fun j v hv=>by
 obtain ⟨hj,e⟩:=List.getElem?_eq_some_iff.1 hv
 simp at hj e
 rw [Nat.zero_add,h j hj,←e]
theorem infoDisc:(Tryz.prog.info? 203).map (·.size)=some 1350:=by kernel_rfl
theorem DC.eff {W W':World} {b:Nat} {O:Nat→Prop} {f:Nat→Nat} (h:DC W b f) (hE:Eff O W W') (hb:b < W.heap.size) (hn:¬O b):DC W' b f:=fun i hi=>(hE.cell (p:=⟨b,i,none⟩) hb hn).trans (h i hi)
theorem Eff.frozen {O:Nat→Prop} {W W':World} (h:Eff O W W') {p:Addr} (hp:p.block < W.heap.size) (hn:¬O p.block):W'.frozen? p=W.frozen? p:=World.frozen?_of_block (w:=W) (h.block p.block hp hn)
theorem Eff.set {O:Nat→Prop} {W W':World} (h:Eff O W W') {b:Nat} (hb:O b) (i:Nat) (v:Value):Eff O W (W'.setCell ⟨b,i,none⟩ v):=
 ⟨h.os,h.tape,h.output,by simpa [go_sem] using h.size,fun k hk hn=>(Below.heap_setCell _ _ _ _ (fun e=>hn (by subst e; exact hb))).trans (h.block k hk hn)⟩
theorem Eff.drew {O:Nat→Prop} {W W':World} (h:Eff O W W'):Eff O W W'.drew:=⟨h.os,h.tape,h.output,h.size,h.block⟩
abbrev DIn:=Option Nat × (Nat→Nat)
def dvs (ds:List DIn):List Value:=ds.map fun d=>dv d.1
theorem Sl.atD {w:World} {a:Option Addr} {l:List DIn} (h:Sl w a (dvs l)) {k:Nat} (hk:k < l.length) :
  ∃b off,a=some ⟨b,off,none⟩∧b < w.heap.size∧∀j (h:j < l.length),w.cell? ⟨b,off+j,none⟩=some (dv l[j].1):=by
 obtain ⟨b,off,rfl,hlt,hc⟩:=Sl.at h (k:=k) (by rw [dvs,List.length_map]; exact hk)
 refine ⟨b,off,rfl,hlt,fun j hj=>?_⟩
 rw [hc j (by rw [dvs,List.length_map]; exact hj)]
 simp [dvs]
structure DOk (W:World) (b:Nat) (d:DIn):Prop where
 words:DW W d.1 d.2
 bd:∀i,i < 1350→d.2 i < 18446744073709551616
 apart:∀c,d.1=some c→c≠b∧c < W.heap.size
theorem DOk.eff {W W':World} {b:Nat} {d:DIn} (h:DOk W b d) (hE:Eff (fun x=>x=b) W W'):DOk W' b d:=by
 obtain ⟨h1,h2,h3⟩:=h
 refine ⟨?_,h2,fun c e=>⟨(h3 c e).1,zH (h3 c e).2 hE.size⟩⟩
 match d,h1,h3 with
 | (none,f),h1,h3=>exact h1
 | (some c,f),h1,h3=>exact DC.eff h1 hE (h3 c rfl).2 (h3 c rfl).1
def orL (f:Nat→Nat) (ds:List DIn):Nat→Nat:=ds.foldl (fun f d i=>f i ||| d.2 i) f
theorem orL_snoc (f:Nat→Nat) (l:List DIn) (k:Nat) (h:k < l.length):orL f (l.take (k+1))=fun i=>orL f (l.take k) i ||| l[k].2 i:=by
 rw [orL,take_snoc l k h,List.foldl_append]; rfl
structure Upd (b:Nat) (f:Nat→Nat) (W W':World):Prop where
 words:DC W' b f
 free:∀i,W'.frozen? ⟨b,i,none⟩=false
 bd:∀i,i < 1350→f i < 18446744073709551616
 eff:Eff (fun x=>x=b) W W'
theorem Upd.congr {b:Nat} {f g:Nat→Nat} {W W':World} (h:Upd b f W W') (e:∀i,i < 1350→f i=g i):Upd b g W W':=
 ⟨h.words.congr e,h.free,fun i hi=>by rw [←e i hi]; exact h.bd i hi,h.eff⟩
theorem Upd.set {b:Nat} {f:Nat→Nat} {W W':World} (h:Upd b f W W') {i:Nat} (hi:i < 1350) {v:Nat} (hv:v < 18446744073709551616):Upd b (fun j=>if j=i then v else f j) W (W'.setCell ⟨b,i,none⟩ (.int .u64 v)):=
 ⟨h.words.set hi,fun j=>by simp [go_sem,h.free j],fun j hj=>by
  show (if j=i then v else f j) < _
  split
  ·exact hv
  ·exact h.bd j hj,h.eff.set rfl i _⟩
theorem Upd.drew {b:Nat} {f:Nat→Nat} {W W':World} (h:Upd b f W W'):Upd b f W W'.drew:=⟨h.words,h.free,h.bd,h.eff.drew⟩
set_option maxRecDepth 100000 in
set_option maxHeartbeats 3200000 in
theorem DJoin_any (b:Nat) (f:Nat→Nat) (a:Option Addr) (cap:Nat) (ds:List DIn) (w:World) (hl:ds.length≤9223372036854775807) (hs:Sl w a (dvs ds)) (hne:ds≠ []→∀g off,a=some ⟨g,off,none⟩→g≠b)
  (hd:∀d∈ds,DOk w b d) (hu:Upd b f w w) :
  Calls Tryz.prog 199 #[.pointer (some ⟨b,0,none⟩), .slice a ds.length cap] w fun e w'=>(∃v,e= .returned v)∧Upd b (orL f ds) w w':=by
 have Hs:=hid hs
 have Hne:=hid hne
 have Hd:=hid hd
 have Hu:=hid hu
 have hlI:(ds.length:Int)≤9223372036854775807:=by omega
 clear hs hne hd hu hl
 go_enter Tryz.func199,Tryz.ntmps199
 go_wp2
 go_loopw [12] (fun i wr=>∃k:Nat,i= .int .i64 k∧k≤ds.length∧Hid (Upd b (orL f (ds.take k)) w wr)) (fun i _=>ds.length - (intOf i).toNat)
 case atStart=>exact ⟨0,rfl,by omega,Hu.out⟩
 case round=>
  obtain ⟨k,rfl,hk,HJ⟩:=hrel
  by_cases hlt:k < ds.length
  ·obtain ⟨g,off,rfl,hb,hcl⟩:=Hs.out.atD hlt
   have e1:=(HJ.out.eff.cell (p:=⟨g,off+k,none⟩) hb (Hne.out (fun e=>by rw [e] at hlt; simp at hlt) g off rfl)).trans (hcl k hlt)
   have hsn:=hid (orL_snoc f ds k hlt)
   have hdk:=hid ((Hd.out ds[k] (List.getElem_mem hlt)).eff HJ.out.eff)
   obtain ⟨p,hp⟩:∃p,orL f (ds.take k)=p:=⟨_,rfl⟩
   rw [hp] at HJ hsn
   obtain ⟨d,hde⟩:∃d,ds[k]=d:=⟨_,rfl⟩
   rw [hde] at e1 hsn hdk
   clear hcl hp hde
   obtain ⟨dc,g2⟩:=d
   cases dc with
   | none=>
     have hz:Hid (g2=fun _=>0):=hdk.out.words
     have HJ2:Hid (Upd b (orL f (ds.take (k+1))) w wr):=by
      show Upd _ _ _ _
      rw [hsn.out]
      exact HJ.out.congr (fun i _=>by simp only [hz.out,Nat.or_zero])
     have e1':wr.cell? ⟨g,off+k,none⟩=some (.pointer none):=e1
     clear e1 HJ hsn hdk
     go_wp2
     exact ⟨⟨k+1,by go_num,by omega,HJ2.out⟩,by simp [intOf]; omega⟩
   | some c=>
     have hW:DC wr c g2:=hdk.out.words
     have hbd:=hid hdk.out.bd
     have hrg:=hid (dc_range hW)
     have hix:=hid (fun i hi W=>run_index_dagg g2 i hi W)
     have e1':wr.cell? ⟨g,off+k,none⟩=some (.pointer (some ⟨c,0,none⟩)):=e1
     clear e1 hW hdk
     go_wp2_with (refine wpList_load_mid rfl 203 (.tmp 20) rfl c 0 rfl _ _ hrg.out Tryz.underlying203 rfl (by rw [List.length_map,List.length_range]; exact infoDisc) ?_)
     obtain ⟨V,hV⟩:∃V,dagg g2=V:=⟨_,rfl⟩
     rw [show Value.agg ((List.range 1350).map (fun i=>Value.int .u64 (g2 i:Nat))).toArray=V from hV]
     rw [hV] at hix
     clear hV e1' hrg
     go_wp2_with fail
     go_loopw [22] (fun i wq=>∃j:Nat,i= .int .i64 j∧j≤1350∧Hid (Upd b (fun i=>if i < j then p i ||| g2 i else p i) w wq)) (fun i _=>1350 - (intOf i).toNat)
     case atStart=>exact ⟨0,rfl,by omega,HJ.out.congr (fun i _=>by simp)⟩
     case round=>
      obtain ⟨j,rfl,hj,HI⟩:=hrel
      by_cases hlt2:j < 1350
      ·have hi2:=hix.out j hlt2
       have e2:wr.cell? ⟨b,j,none⟩=some (.int .u64 (p j:Nat)):=by have:=HI.out.words j hlt2; simpa using this
       have e3:=HI.out.free j
       have hpj:=HI.out.bd j hlt2
       simp only [Nat.lt_irrefl,if_false] at hpj
       have hor:=hid (bits_or hpj (hbd.out j hlt2))
       have hlt3:=hid (or_lt hpj (hbd.out j hlt2))
       have hjI:(j:Int) < 1350:=by omega
       clear hpj
       go_wp2_with fail
       go_region
       rw [hor.out]
       have HI2:Hid (Upd b (fun i=>if i < j+1 then p i ||| g2 i else p i) w (wr.setCell ⟨b,j,none⟩ (.int .u64 (p j ||| g2 j:Nat))).drew):=by
        refine ((HI.out.set hlt2 hlt3.out).congr (fun i _=>?_)).drew
        by_cases e:i=j
        ·subst e; simp
        ·have:(i < j+1)= (i < j):=by simp; omega
         simp [e,this]
       clear e2 e3 hi2
       go_wp2
       exact ⟨⟨j+1,by go_num,by omega,HI2.out⟩,by simp [intOf]; omega⟩
      ·obtain rfl:j=1350:=by omega
       have HJ2:Hid (Upd b (orL f (ds.take (k+1))) w wr):=by
        show Upd _ _ _ _
        rw [hsn.out]
        exact HI.out.congr (fun i hi=>by simp [hi])
       go_wp2
       exact ⟨⟨k+1,by go_num,by omega,HJ2.out⟩,by simp [intOf]; omega⟩
  ·have hke:ds.take k=ds:=List.take_of_length_le (by omega)
   rw [hke] at HJ
   clear hke
   go_wp2
   go_end0
   exact ⟨⟨_,rfl⟩,HJ.out⟩
theorem Eff.setCells {O:Nat→Prop} {W:World} {b:Nat} (hb:O b):∀(vs:List Value) (o:Nat) (W':World),Eff O W W'→Eff O W (W'.setCells b o vs)
 | [],_,_,h=>h
 | v :: vs,o,W',h=>by rw [World.setCells]; exact Eff.setCells hb vs (o+1) _ (h.set hb o v)
theorem Upd.there {b:Nat} {f:Nat→Nat} {W W':World} (h:Upd b f W W'):W'.there b 0 (List.replicate 1350 (Value.int .u64 0)).toArray.size:=fun j hj=>by
 rw [List.size_toArray,List.length_replicate] at hj
 rw [Nat.zero_add]
 exact ⟨by rw [h.words j hj]; rfl,h.free j⟩
theorem Upd.zero {b:Nat} {f:Nat→Nat} {W W':World} (h:Upd b f W W'):Upd b (fun _=>0) W (W'.setCells b 0 (List.replicate 1350 (Value.int .u64 0))):=by
 refine ⟨fun i hi=>?_,fun i=>by rw [World.frozen?_setCells]; exact h.free i,fun _ _=>by omega,Eff.setCells (O:=fun x=>x=b) rfl _ _ _ h.eff⟩
 have:=World.cell?_setCells_in b (List.replicate 1350 (Value.int .u64 0)) 0 W' (fun j hj=>by rw [List.length_replicate] at hj; rw [Nat.zero_add,h.words j hj]; rfl) i (by rw [List.length_replicate]; exact hi)
 rw [Nat.zero_add,List.getElem_replicate] at this
 exact this
theorem Upd.there' {b:Nat} {f:Nat→Nat} {W W':World} (h:Upd b f W W') (g:Nat→Nat):W'.there b 0 ((List.range 1350).map (fun i=>Value.int .u64 (g i:Nat))).toArray.size:=fun j hj=>by
 rw [List.size_toArray,List.length_map,List.length_range] at hj
 rw [Nat.zero_add]
 exact ⟨by rw [h.words j hj]; rfl,h.free j⟩
theorem Upd.all {b:Nat} {f:Nat→Nat} {W W':World} (h:Upd b f W W') (g:Nat→Nat):DC (W'.setCells b 0 ((List.range 1350).map (fun i=>Value.int .u64 (g i:Nat)))) b g∧Eff (fun x=>x=b) W (W'.setCells b 0 ((List.range 1350).map (fun i=>Value.int .u64 (g i:Nat)))):=by
 refine ⟨fun i hi=>?_,Eff.setCells (O:=fun x=>x=b) rfl _ _ _ h.eff⟩
 have:=World.cell?_setCells_in b ((List.range 1350).map (fun i=>Value.int .u64 (g i:Nat))) 0 W' (fun j hj=>by rw [List.length_map,List.length_range] at hj; rw [Nat.zero_add,h.words j hj]; rfl) i (by rw [List.length_map,List.length_range]; exact hi)
 rw [Nat.zero_add,List.getElem_map,List.getElem_range] at this
 exact this
theorem dc_new' (W:World):DC (W.alloc (.cells Tryz.zeroCells203 203)) W.heap.size (fun _=>0):=fun i hi=>by
 rw [zcw]
 exact cell_rep W 1350 _ _ i hi
end
section
open Go.RowKit
theorem sel_rising (p:Nat→Bool):∀n,(sel p n).Pairwise (·< ·)
 | 0=>by simp [sel_zero]
 | n+1=>by
   by_cases h:p n=true
   ·rw [sel_yes h,List.pairwise_append]
    refine ⟨sel_rising p n,by simp,fun x hx y hy=>?_⟩
    obtain ⟨k,hk,_,rfl⟩:=sel_mem.mp hx
    obtain rfl:y= (n:Int):=by simpa using hy
    omega
   ·rw [sel_no (by simpa using h)]; exact sel_rising p n
theorem wantF_skip (n:Int) (r:List Int):∀l:List Int,(∀x∈l,¬n < x)→wantF n (l ++ r)=wantF n r
 | [],_=>rfl
 | x :: xs,h=>by rw [List.cons_append,wantF,if_neg (h x (by simp)),wantF_skip n r xs (fun z hz=>h z (by simp [hz]))]
theorem wantF_next {l:List Int} (h:l.Pairwise (·< ·)) (k:Nat) (hk:k < l.length):wantF l[k] l=if hn:k+1 < l.length then l[k+1] else -1:=by
 have h1:wantF l[k] l=wantF l[k] (l.drop (k+1)):=by
  have gen:∀x,(∀y∈l.take (k+1),¬x < y)→wantF x l=wantF x (l.drop (k+1)):=fun x hx=>by
   have:=wantF_skip x (l.drop (k+1)) (l.take (k+1)) hx
   rwa [List.take_append_drop] at this
  refine gen _ (fun x hx=>?_)
  obtain ⟨j,hj,rfl⟩:=List.mem_take_iff_getElem.mp hx
  have hj':j≤k:=by omega
  rcases Nat.lt_or_ge j k with hjk | hjk
  ·have:=List.pairwise_iff_getElem.mp h j k (by omega) hk hjk; omega
  ·obtain rfl:j=k:=by omega
   omega
 rw [h1]
 by_cases hn:k+1 < l.length
 ·rw [dif_pos hn,List.drop_eq_getElem_cons hn,wantF,if_pos (List.pairwise_iff_getElem.mp h k (k+1) hk hn (by omega))]
 ·rw [dif_neg hn,List.drop_of_length_le (by omega)]; rfl
theorem sel_nonneg {p:Nat→Bool} {n:Nat} (k:Nat) (hk:k < (sel p n).length):0≤(sel p n)[k]:=by
 obtain ⟨j,_,_,e⟩:=sel_mem.mp (List.getElem_mem hk)
 omega
theorem next_at {m:Nat} (hm:m < 18446744073709551616) (k:Nat) (hk:k < (sel m.testBit 64).length) :
  leastB (aboveM m (sel m.testBit 64)[k])=decide (k+1 < (sel m.testBit 64).length)∧leastI (aboveM m (sel m.testBit 64)[k])= (sel m.testBit 64).getD (k+1) 0:=by
 have hw:=wantF_next (sel_rising m.testBit 64) k hk
 by_cases ha:aboveM m (sel m.testBit 64)[k]=0
 ·rw [want_no _ hm ha] at hw
  have hn:¬k+1 < (sel m.testBit 64).length:=fun hn=>by
   rw [dif_pos hn] at hw
   have:=sel_nonneg (k+1) hn
   omega
  rw [ha]
  refine ⟨by simp [leastB,hn],?_⟩
  rw [List.getD_eq_getElem?_getD,List.getElem?_eq_none (by omega)]; rfl
 ·rw [want_yes _ hm ha] at hw
  have hn:k+1 < (sel m.testBit 64).length:=Decidable.byContradiction fun hn=>by
   rw [dif_neg hn] at hw; omega
  rw [dif_pos hn] at hw
  refine ⟨by simp [leastB,hn,ha],?_⟩
  rw [leastI,if_neg ha,hw,List.getD_eq_getElem?_getD,List.getElem?_eq_getElem hn]; rfl
theorem least_at {m:Nat} (hm:m < 18446744073709551616):leastB m=decide (0 < (sel m.testBit 64).length)∧leastI m= (sel m.testBit 64).getD 0 0:=by
 by_cases h0:m=0
 ·rw [first_no h0]; simp [leastB,leastI,h0]
 ·obtain ⟨bs,hb⟩:=first_yes hm h0
  rw [hb]; simp [leastB,leastI,h0]
attribute [local go_sem] Oper.semAt_some
theorem Tab.eff {O:Nat→Prop} {W W':World} (h:Tab W) (hE:Eff O W W') (hn:¬O 0):Tab W':=
 ⟨zH h.1 hE.size,fun i hi=>(hE.cell (p:=⟨0,i,none⟩) h.1 hn).trans (h.2 i hi)⟩
def twOf:Value→Nat
 | .bool true=>1
 | _=>0
theorem sel_bd {p:Nat→Bool} (k:Nat) (hk:k < (sel p 64).length):0≤(sel p 64)[k]∧(sel p 64)[k]≤63:=by
 obtain ⟨j,hj,_,e⟩:=sel_mem.mp (List.getElem_mem hk)
 omega
theorem sel_less {p:Nat→Bool} (k:Nat) (hj:k < (sel p 64).length) (hk:k+1 < (sel p 64).length):(sel p 64)[k] < (sel p 64)[k+1]:=
 List.pairwise_iff_getElem.mp (sel_rising p 64) k (k+1) (by omega) hk (by omega)
end
end Go.Proofs.YthimhfmnikfgaaaGreatDoor
