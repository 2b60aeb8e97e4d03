/-
  A disc's Prev.
  seek.Prev and seek.Last.
  pulse.Of: a set's pulse in each unit.
  pulse.Seconds: what divides all differences of seconds.
  ferialaw23.lives: the chapter's examples.
  ferialaw17.May: the document's answer for sets.
  feriaref13.Has.
-/
import Derived.Test.YthimhfmnikfgaaaGreatDoorQ5be90c
import Derived.Shelf.Strconv.Itoa0
import Derived.Test.YthimhfmnikfgaaaGreatDoorQ1247ae
import Derived.Test.YthimhfmnikfgaaaGreatDoorQ81bc78
import Derived.Test.YthimhfmnikfgaaaGreatDoorQ4bf0e9
import Derived.Test.YthimhfmnikfgaaaGreatDoorQ288525
import Derived.Deep.CutRange
import Derived.BigRegion
import Derived.Test.YthimhfmnikfgaaaGreatDoorQ6013e0
import Derived.Test.YthimhfmnikfgaaaGreatDoorQ97b6a9
import Derived.Test.YthimhfmnikfgaaaGreatDoorQ2c5ed6
namespace Go.Proofs.YthimhfmnikfgaaaGreatDoor
set_option linter.unusedVariables false
section
open Go.RowKit
def LastOf (p:Nat→Bool) (n:Int) (ok:Bool):Prop:=
 (ok=true∧∃k:Nat,n=k∧k < 86400∧p k=true∧∀j,k < j→j < 86400→p j=false)∨(ok=false∧n=0∧∀j,j < 86400→p j=false)
theorem LastOf.congr {p q:Nat→Bool} {n:Int} {ok:Bool} (h:LastOf p n ok) (e:∀k,k < 86400→p k=q k):LastOf q n ok:=by
 rcases h with ⟨rfl,k,rfl,hk,h1,h2⟩ | ⟨rfl,rfl,h2⟩
 ·exact .inl ⟨rfl,k,rfl,hk,by rw [←e k hk]; exact h1,fun j hj h=>by rw [←e j h]; exact h2 j hj h⟩
 ·exact .inr ⟨rfl,rfl,fun j h=>by rw [←e j h]; exact h2 j h⟩
end
section
open Go.RowKit Go.Maps
attribute [local go_sem] Oper.semAt_some
def PvT (h0 h1 h2 h3 h4 h5 h6 h7 h8 h9:Value) (ds:List Deferred) (a:Act):Prop:=∃u:Nat→Value,a= {tmps:=#[h0,h1,h2,h3,h4,h5,h6,h7,h8,h9,u 0,u 1,u 2,u 3,u 4,u 5,u 6,u 7,u 8,u 9,u 10,u 11,u 12,u 13,u 14,u 15,u 16,u 17,u 18,u 19,u 20,u 21,u 22,u 23,u 24,u 25,u 26,u 27,u 28,u 29,u 30,u 31,u 32,u 33,u 34,u 35,u 36,u 37,u 38],defers:=ds}
theorem PvT.of {h0 h1 h2 h3 h4 h5 h6 h7 h8 h9 u10 u11 u12 u13 u14 u15 u16 u17 u18 u19 u20 u21 u22 u23 u24 u25 u26 u27 u28 u29 u30 u31 u32 u33 u34 u35 u36 u37 u38 u39 u40 u41 u42 u43 u44 u45 u46 u47 u48:Value} {ds:List Deferred}:PvT h0 h1 h2 h3 h4 h5 h6 h7 h8 h9 ds {tmps:=#[h0,h1,h2,h3,h4,h5,h6,h7,h8,h9,u10,u11,u12,u13,u14,u15,u16,u17,u18,u19,u20,u21,u22,u23,u24,u25,u26,u27,u28,u29,u30,u31,u32,u33,u34,u35,u36,u37,u38,u39,u40,u41,u42,u43,u44,u45,u46,u47,u48],defers:=ds}:=
 ⟨fun i=>(#[u10,u11,u12,u13,u14,u15,u16,u17,u18,u19,u20,u21,u22,u23,u24,u25,u26,u27,u28,u29,u30,u31,u32,u33,u34,u35,u36,u37,u38,u39,u40,u41,u42,u43,u44,u45,u46,u47,u48]:Array Value).getD i undef,rfl⟩
end
section
open Go.RowKit Go.Maps
attribute [local irreducible] secL
attribute [local go_sem ↓] loadAt_cl storeAt_cl loadAt_7i storeAt_7i loadAt_7b storeAt_7b
attribute [local go_sem] run_storeClS
def unT (u:Nat) (t:Int):Int:=unN (t / 86400) (t % 86400).toNat u
def PuU (l:List Cl) (u:Nat) (x:Int):Prop:=∃t,instB l t=true∧x=unT u t
theorem UD_full (cs:List Cl) (u:Nat) (x:Int):UD cs (dayS cs (daysL 0 146096)).length u x↔PuU cs u x:=by
 constructor
 ·rintro ⟨i,D,j,-,-,hj,hq,rfl⟩
  refine ⟨86400 * D+j,hq,?_⟩
  rw [unT,show (86400 * D+(j:Int)) / 86400=D by omega,show ((86400 * D+(j:Int)) % 86400).toNat=j by omega]
 ·rintro ⟨t,ht,rfl⟩
  have hw:=inst_win ht
  have e:86400 * (t / 86400)+(((t % 86400).toNat:Nat):Int)=t:=by omega
  have hq:dayQ cs (t / 86400) (t % 86400).toNat=true:=by rw [dayQ_inst,e]; exact ht
  have hm:t / 86400∈dayS cs (daysL 0 146096):=by
   rw [dayS,List.mem_filter,daysL_mem]
   refine ⟨by omega,?_⟩
   rw [anyQ,List.any_eq_true]
   exact ⟨_,List.mem_range.2 (by omega),hq⟩
  obtain ⟨i,hi,he⟩:=List.getElem_of_mem hm
  exact ⟨i,t / 86400,(t % 86400).toNat,hi,by rw [List.getElem?_eq_getElem hi,he],by omega,hq,rfl⟩
theorem PuU.rng {l:List Cl} {u:Nat} {x:Int} (h:PuU l u x):0≤x∧x≤12622780799:=((UD_full l u x).2 h).rng
theorem PuU.snoc (l:List Cl) (c:Cl) (u:Nat) (x:Int):PuU (l ++ [c]) u x↔PuU l u x∨PuU [c] u x:=by
 constructor
 ·rintro ⟨t,h,rfl⟩
  rw [instB,List.any_append,Bool.or_eq_true] at h
  exact h.imp (fun h=>⟨t,h,rfl⟩) (fun h=>⟨t,h,rfl⟩)
 ·rintro (⟨t,h,rfl⟩ | ⟨t,h,rfl⟩)
  ·exact ⟨t,by rw [instB,List.any_append,Bool.or_eq_true]; exact .inl h,rfl⟩
  ·exact ⟨t,by rw [instB,List.any_append,Bool.or_eq_true]; exact .inr h,rfl⟩
def PQ (l:List Cl) (B:Nat→Bt):Prop:=∀u,u < 7→BeatQ (PuU l u) (B u)
theorem PQ.zero:PQ [] (fun _=>(false,0,0)):=fun u _=>BeatP.congr BeatP.empty fun x=>⟨fun h=>h.elim,fun ⟨t,h,_⟩=>by cases h⟩
theorem PQ.bd {l:List Cl} {B:Nat→Bt} (h:PQ l B) {u:Nat} (hu:u < 7):M62 (B u).2.1∧M62 (B u).2.2:=by
 have:=BeatP.bd (M:=12622780799) (h u hu) (by omega) fun x hx=>hx.rng
 simp only [M62]; omega
theorem PQ.next {l:List Cl} {c:Cl} {B X:Nat→Bt} (h:PQ l B) (k:BQ [c] (dayS [c] (daysL 0 146096)).length X):PQ (l ++ [c]) (fun u=>joinB (B u) (X u)):=fun u hu=>
 BeatP.congr ((h u hu).join (k u hu)) fun x=>by rw [PuU.snoc,UD_full]
def idx7S (v i:Value):Sem Value:=Instr.index 79 v i
theorem index_7b (v i:Value):Instr.index 79 v i=idx7S v i:=rfl
attribute [local go_sem ↓] index_7b
theorem index7 (N:Nat→Bt) (v:Nat) (hv:v < 7) (W:World):(idx7S (bv7 N) (.int .i64 (v:Nat))).run Tryz.prog W= .ok (.agg #[.bool (N v).1, .int .i64 (N v).2.1, .int .i64 (N v).2.2]) W:=by
 have e:∀a0 a1 a2 a3 a4 a5 a6 a7 a8 b0 b1 b2 b3 b4 b5 b6 b7 b8 c0 c1 c2:Value,∀W:World,(idx7S (.agg #[a0,a1,a2,a3,a4,a5,a6,a7,a8,b0,b1,b2,b3,b4,b5,b6,b7,b8,c0,c1,c2]) (.int .i64 0)).run Tryz.prog W= .ok (.agg #[a0,a1,a2]) W∧(idx7S (.agg #[a0,a1,a2,a3,a4,a5,a6,a7,a8,b0,b1,b2,b3,b4,b5,b6,b7,b8,c0,c1,c2]) (.int .i64 1)).run Tryz.prog W= .ok (.agg #[a3,a4,a5]) W∧(idx7S (.agg #[a0,a1,a2,a3,a4,a5,a6,a7,a8,b0,b1,b2,b3,b4,b5,b6,b7,b8,c0,c1,c2]) (.int .i64 2)).run Tryz.prog W= .ok (.agg #[a6,a7,a8]) W∧(idx7S (.agg #[a0,a1,a2,a3,a4,a5,a6,a7,a8,b0,b1,b2,b3,b4,b5,b6,b7,b8,c0,c1,c2]) (.int .i64 3)).run Tryz.prog W= .ok (.agg #[b0,b1,b2]) W∧(idx7S (.agg #[a0,a1,a2,a3,a4,a5,a6,a7,a8,b0,b1,b2,b3,b4,b5,b6,b7,b8,c0,c1,c2]) (.int .i64 4)).run Tryz.prog W= .ok (.agg #[b3,b4,b5]) W∧(idx7S (.agg #[a0,a1,a2,a3,a4,a5,a6,a7,a8,b0,b1,b2,b3,b4,b5,b6,b7,b8,c0,c1,c2]) (.int .i64 5)).run Tryz.prog W= .ok (.agg #[b6,b7,b8]) W∧(idx7S (.agg #[a0,a1,a2,a3,a4,a5,a6,a7,a8,b0,b1,b2,b3,b4,b5,b6,b7,b8,c0,c1,c2]) (.int .i64 6)).run Tryz.prog W= .ok (.agg #[c0,c1,c2]) W:=fun _ _ _ _ _ _ _ _ _ _ _ _ _ _ _ _ _ _ _ _ _ _=>⟨by kernel_rfl,by kernel_rfl,by kernel_rfl,by kernel_rfl,by kernel_rfl,by kernel_rfl,by kernel_rfl⟩
 have h7:v=0∨v=1∨v=2∨v=3∨v=4∨v=5∨v=6:=by omega
 rcases h7 with h | h | h | h | h | h | h <;> subst h
 ·exact (e _ _ _ _ _ _ _ _ _ _ _ _ _ _ _ _ _ _ _ _ _ W).1
 ·exact (e _ _ _ _ _ _ _ _ _ _ _ _ _ _ _ _ _ _ _ _ _ W).2.1
 ·exact (e _ _ _ _ _ _ _ _ _ _ _ _ _ _ _ _ _ _ _ _ _ W).2.2.1
 ·exact (e _ _ _ _ _ _ _ _ _ _ _ _ _ _ _ _ _ _ _ _ _ W).2.2.2.1
 ·exact (e _ _ _ _ _ _ _ _ _ _ _ _ _ _ _ _ _ _ _ _ _ W).2.2.2.2.1
 ·exact (e _ _ _ _ _ _ _ _ _ _ _ _ _ _ _ _ _ _ _ _ _ W).2.2.2.2.2.1
 ·exact (e _ _ _ _ _ _ _ _ _ _ _ _ _ _ _ _ _ _ _ _ _ W).2.2.2.2.2.2
def PofR (l:List Cl) (e:Ending):Prop:=∃g:Nat→Int,e= .returned (.tuple #[arr7 g, .int .i64 (faultL l)])∧(faultL l≠0→∀u,g u=0)∧(faultL l=0→∀u,u < 7→∃y f,BeatP (PuU l u) y f (g u))
theorem may_all {l:List Cl} (h:faultL l=0):∀c∈l,mayC c=true:=by
 have h1:=may_fault l
 rw [h,decide_eq_true rfl,mayL,Bool.and_eq_true,List.all_eq_true] at h1
 exact h1.2
def otF (B:Nat→Bt) (n:Nat) (i:Nat):Int:=if i < n then (B i).2.2 else 0
theorem Ar7.set {b:Nat} {f:Nat→Int} {W:World} (h:Ar7 b f W) {u:Nat} (hu:u < 7) (v:Int):Ar7 b (fun i=>if i=u then v else f i) (W.setCell ⟨b,u,none⟩ (.int .i64 v)):=
 ⟨fun i hi=>by
  by_cases e:i=u
  ·subst e; have:=h.c i hi; simp [go_sem,this]
  ·rw [World.cell?_setCell_other _ _ _ _ (fun e2=>by injection e2 with _ e3; exact e e3.symm),h.c i hi,if_neg e],fun i=>by simpa [go_sem] using h.z i,by simpa using h.lt⟩
set_option maxRecDepth 100000 in
set_option maxHeartbeats 6400000 in
theorem POf_any (a:Option Addr) (cap:Nat) (l:List Cl) (w:World) (hl:l.length≤9223372036854775807) (hlc:l.length≤cap) (hs:Sl w a (cls l)) (hno:a=none→cap=0) (hok:∀c∈l,c.Ok) (hT:Tab w) :
  Calls Tryz.prog 8 #[.slice a l.length cap] w fun e w'=>PofR l e∧Below w.heap.size w w':=by
 obtain ⟨W1,hW1⟩:∃W1,(w.alloc (.cells #[.int .i64 0, .int .i64 0, .int .i64 0, .int .i64 0, .int .i64 0, .int .i64 0, .int .i64 0] 24)).alloc (.cells #[.int .i64 0, .int .i64 0, .int .i64 0, .int .i64 0, .int .i64 0, .int .i64 0, .int .i64 0] 24)=W1:=⟨_,rfl⟩
 have hB1:Below w.heap.size w W1:=by rw [←hW1]; exact below_new (below_new (Below.refl _ _) (zG _)) (by simp)
 have s1:W1.heap.size=w.heap.size+1+1:=by rw [←hW1]; simp
 have hA0:Ar7 w.heap.size (fun _=>0) W1:=by
  have e:=ar7_new w 24
  rw [←hW1]; exact e.block (by simp) (Below.heap_alloc _ _ _ (by simp))
 have hA1:Ar7 (w.heap.size+1) (fun _=>0) W1:=by
  have e:=ar7_new (w.alloc (.cells #[.int .i64 0, .int .i64 0, .int .i64 0, .int .i64 0, .int .i64 0, .int .i64 0, .int .i64 0] 24)) 24
  rw [World.size_alloc] at e
  rw [←hW1]; exact e
 have cO:=hid (IOf_any a cap l W1 hl hlc (hs.below hB1) hno hok)
 have cA:=hid (fun (c:Cl) (hc:c.Ok) (hm:mayC c=true) W (hB:Below w.heap.size w W)=>PAlone_any c W hc hm (hT.later hB))
 have Hok:=hid hok
 have HB1:=hid hB1
 have HW1:=hid hW1
 have S1:=hid s1
 have HA0:=hid hA0
 have HA1:=hid hA1
 clear hW1 hB1 s1 hA0 hA1 hs hno hok hT
 go_enter Tryz.func8,Tryz.ntmps8
 go_upto_region 2 with fail
 rw [HW1.out]
 go_wp2_with fail
 refine cO.out.mono ?_
 rintro e w2 ⟨⟨v,rfl,hv⟩,hB2⟩
 have HB2:=hid (HB1.out.trans (hB2.mono HB1.out.size))
 have A02:=hid (HA0.out.block hB2.size (hB2.block _ HA0.out.lt))
 have A12:=hid (HA1.out.block hB2.size (hB2.block _ HA1.out.lt))
 by_cases hf:faultL l=0
 rotate_left
 ·obtain ⟨X,hX⟩:∃X,faultL l=X:=⟨_,rfl⟩
  have HR:Hid (PofR l (.returned (.tuple #[arr7 (fun _=>0), .int .i64 (faultL l)]))):=⟨_,rfl,fun _ _=>rfl,fun h=>absurd h hf⟩
  rw [hX] at hf HR⊢
  have hX0:(X == 0)=false:=by simpa using hf
  have hX1:(X != 0)=true:=by simpa using hf
  have hld:=A12.out.ld
  have hst:=A02.out.st (fun _=>0)
  have HP:=hid (A02.out.put (fun _=>0))
  have HE:Hid (Eff (fun x=>x=w.heap.size) w2 (w2.setCells w.heap.size 0 (L7 (fun _=>0)))):=Eff.setCells (O:=fun x=>x=w.heap.size) rfl (L7 (fun _=>0)) 0 w2 (Eff.refl _ w2)
  clear hX hf hB2 hv cO cA
  go_wp2
  exact bodyPost_ret (results_cell_mid2 (p:=2) (t:=3) rfl _ _ w.heap.size 0 _ _ rfl HP.out.range Tryz.underlying24 rfl (by rw [L7_len]; exact info7i)) rfl ⟨HR.out,HB2.out.trans (HE.out.below (by rintro b rfl; exact zG _) HB2.out.size)⟩
 ·have e9:outL l=l:=by rw [outL,if_pos hf]
  rw [e9] at hv
  obtain ⟨a1,cap1,rfl,hsl,-⟩:=owns_form hv
  have HS:=hid hsl
  have Hm:=hid (may_all hf)
  have Hf:=hid hf
  rw [hf]
  have hl8:l.length≤8:=by
   have h1:=may_fault l
   rw [hf,decide_eq_true rfl,mayL,Bool.and_eq_true,decide_eq_true_eq] at h1
   exact h1.1
  obtain ⟨w3,hw3⟩:∃W,w2.alloc (.cells #[.bool false, .int .i64 0, .int .i64 0, .bool false, .int .i64 0, .int .i64 0, .bool false, .int .i64 0, .int .i64 0, .bool false, .int .i64 0, .int .i64 0, .bool false, .int .i64 0, .int .i64 0, .bool false, .int .i64 0, .int .i64 0, .bool false, .int .i64 0, .int .i64 0] 79)=W:=⟨_,rfl⟩
  have hB3:Below w2.heap.size w2 w3:=by rw [←hw3]; exact below_new (Below.refl _ _) (zG _)
  have hA3:BtS w2.heap.size 7 (fun _=>(false,0,0)) w3:=by rw [←hw3]; exact btS_new w2 79 7
  have s3:w3.heap.size=w2.heap.size+1:=by rw [←hw3]; simp
  have HB3:=hid (HB2.out.trans (hB3.mono HB2.out.size))
  have A03:=hid (A02.out.block hB3.size (hB3.block _ A02.out.lt))
  have A13:=hid (A12.out.block hB3.size (hB3.block _ A12.out.lt))
  have HS3:=hid (fun (k:Nat) (hk:k < l.length)=>(show∃b off,a1=some ⟨b,off,none⟩∧b < w2.heap.size∧w3.rangeAt b (off+k * 30) (clList l[k]) from by
   obtain ⟨b,off,h1,h2,h3⟩:=HS.out.atCl hk
   exact ⟨b,off,h1,h2,range_below h3 hB3 h2⟩))
  obtain ⟨ba,hba⟩:∃x,w2.heap.size=x:=⟨_,rfl⟩
  rw [hba] at hA3 s3 HS3
  have HA3:=hid hA3
  have S3:=hid s3
  have Hba:=hid hba
  have L2:Hid (w.heap.size+1 < ba):=by show _ < _; rw [←hba]; exact A12.out.lt
  clear hB2 hv hsl hB3 hA3 s3 cO e9
  go_upto_region 6 with fail
  clear hw3 hba HS
  go_wp2_with fail
  go_loopw [25] (fun iv wr=>∃k:Nat,iv= .int .i64 k∧k≤l.length∧Hid (∃B,BtS ba 7 B wr∧PQ (l.take k) B∧Eff (fun x=>x=ba) w3 wr)) (fun iv _=>l.length - (intOf iv).toNat)
  case atStart=>exact ⟨0,rfl,Nat.zero_le _,_,HA3.out,PQ.zero,Eff.refl _ _⟩
  case round=>
   obtain ⟨k,rfl,hk,HI⟩:=hrel
   obtain ⟨B,hB,hQ,hE⟩:=HI.out
   have HBr:Hid (Below w.heap.size w wr):=HB3.out.trans (hE.below (fun b hb=>by have:=L2.out; omega) HB3.out.size)
   by_cases hlt:k < l.length
   ·have hltI:(k:Int) < l.length:=by omega
    obtain ⟨b,off,rfl,hbk,hr⟩:=HS3.out k hlt
    have hcm:=Hm.out _ (List.getElem_mem hlt)
    have hco:=Hok.out _ (List.getElem_mem hlt)
    have hnx:=fun X (hb:BQ [l[k]'hlt] (dayS [l[k]'hlt] (daysL 0 146096)).length X)=>(hQ.next (c:=l[k]'hlt) (X:=X) hb)
    rw [←take_snoc l k hlt] at hnx
    obtain ⟨c,hc⟩:∃c,l[k]=c:=⟨_,rfl⟩
    rw [hc] at hr hcm hco hnx
    have hr':wr.rangeAt b (off+k * 30) (clList c):=fun j v hv=>(hE.cell (p:=⟨b,off+k * 30+j,none⟩) (by have:=S3.out; simp only []; omega) (by simp only []; omega)).trans (hr j v hv)
    have le:=ld_at hr'
    have hth2:(wr.alloc (.cells zL.toArray 35)).there wr.heap.size 0 30:=there_new wr _ _
    have hn2:=below_new (o:= .cells zL.toArray 35) (Below.refl wr.heap.size wr) (zG _)
    have hC1:ClB (putCl (wr.alloc (.cells zL.toArray 35)) wr.heap.size (clList c)) wr.heap.size c:=putCl_range _ rfl hth2
    have le1:=hC1.ld
    have hb1:Below wr.heap.size wr (putCl (wr.alloc (.cells zL.toArray 35)) wr.heap.size (clList c)):=putCl_below hn2 (zG _) _
    obtain ⟨w4,hw4⟩:∃W,putCl (wr.alloc (.cells zL.toArray 35)) wr.heap.size (clList c)=W:=⟨_,rfl⟩
    rw [hw4] at hb1 le1
    have Hw4:=hid hw4
    have HB4:=hid hb1
    have cA4:=hid (cA.out c hco hcm w4 (HBr.out.trans (hb1.mono HBr.out.size)))
    have HN:=hid hnx
    have HQ:=hid hQ
    have HB:=hid hB
    have HE:=hid hE
    clear hr hr' hn2 hC1 hw4 hb1 hc hcm hco hnx hQ hB hE hk cA HS3 hbk
    go_upto_region 9 with fail
    rw [Hw4.out]
    clear le hth2
    go_wp2_with fail
    refine cA4.out.mono ?_
    rintro e w5 ⟨⟨X,rfl,hX⟩,hB5⟩
    have HBr5:=hid (HB4.out.trans (hB5.mono HB4.out.size))
    have HB5:=hid (HB.out.block HBr5.out.size (HBr5.out.block _ HB.out.lt))
    have HE5:=hid (HE.out.trans (Eff.of_below (O:=fun x=>x=ba) HBr5.out) (fun _ h=> .inl h))
    have HN5:=hid (HN.out X hX)
    have Hbx:=hid (fun u (hu:u < 7)=>hX.bd hu)
    have Hbb:=hid (fun u (hu:u < 7)=>HQ.out.bd hu)
    clear hB5 hX le1 cA4 HN HQ
    go_wp2_with fail
    go_loopw [31] (fun iv wr2=>∃u:Nat,iv= .int .i64 u∧u≤7∧Hid (BtS ba 7 (fun i=>if i < u then joinB (B i) (X i) else B i) wr2∧Eff (fun x=>x=ba) w3 wr2)) (fun iv _=>7 - (intOf iv).toNat)
    case atStart=>exact ⟨0,rfl,by omega,HB5.out.congr (fun i _=>by rw [if_neg (by omega)]),HE5.out⟩
    case round=>
     obtain ⟨u,rfl,hu7,HJ⟩:=hrel
     by_cases hlu:u < 7
     ·have hui:(u:Int) < 7:=by omega
      have hu0:(0:Int)≤(u:Int):=by omega
      have hix:=index7 X u hlu wr
      have hbt:=HJ.out.1.at' u hlu
      rw [if_neg (by omega)] at hbt
      have hxb:=Hbx.out u hlu
      have hbb:=Hbb.out u hlu
      have hst:Hid (∀W2 W',Below wr.heap.size wr W2→Bt1 ba (u * 3) (joinB (B u) (X u)) W'→OnlyB ba (u * 3) W2 W'→BtS ba 7 (fun i=>if i < u+1 then joinB (B i) (X i) else B i) W'∧Eff (fun x=>x=ba) w3 W'):=fun W2 W' e2 h1 h2=>
       ⟨((HJ.out.1.block e2.size (e2.block _ HJ.out.1.lt)).step h1 h2).congr (fun i hi=>by
         by_cases e:i=u
         ·subst e; rw [if_pos (by omega),if_pos rfl]
         ·rw [if_neg e]
          by_cases e2:i < u
          ·rw [if_pos (by omega),if_pos e2]
          ·rw [if_neg (by omega),if_neg e2]),(HJ.out.2.trans (Eff.of_below (O:=fun x=>x=ba) e2) (fun _ h=> .inl h)).trans h2.eff (fun _ h=> .inl h)⟩
      obtain ⟨y,f,g,hye⟩:∃y f g,X u= (y,f,g):=⟨_,_,_,rfl⟩
      rw [hye] at hix hst hxb
      simp only at hix hxb
      have cJ:=hid (fun W' (hb:Bt1 ba (u * 3) (B u) W')=>BJoin_any (y,f,g) hb hbb.1 hbb.2 hxb.1 hxb.2)
      unfold btv at cJ
      simp only at cJ
      have HBt:=hid hbt
      clear hbt hye hxb hbb
      go_upto_region 12 with fail
      obtain ⟨w11,hw11⟩:∃W,wr.alloc (.cells #[.bool y, .int .i64 f, .int .i64 g] 78)=W:=⟨_,rfl⟩
      have hB11:Below wr.heap.size wr w11:=by rw [←hw11]; exact below_new (Below.refl _ _) (zG _)
      have hx:w11.cell? ⟨wr.heap.size,0,none⟩=some (.bool y)∧w11.cell? ⟨wr.heap.size,1,none⟩=some (.int .i64 f)∧w11.cell? ⟨wr.heap.size,2,none⟩=some (.int .i64 g):=by
       rw [←hw11]; exact ⟨by simp [go_sem],by simp [go_sem],by simp [go_sem]⟩
      have lb:wr.heap.size < w11.heap.size:=by rw [←hw11]; simp
      obtain ⟨b12,hb12⟩:∃x,wr.heap.size=x:=⟨_,rfl⟩
      have hne:ba≠b12:=by have:=HBt.out.lt; omega
      rw [hw11,hb12]
      rw [hb12] at hx lb
      have HB11:=hid hB11
      have Lb:=hid lb
      have Hne:=hid hne
      have HX:=hid hx
      clear hw11 hb12 hB11 lb hne hix hx
      refine wp_region_held_drew (S:=fun W=>Hid (W.cell? ⟨b12,0,none⟩=some (.bool y)∧W.cell? ⟨b12,1,none⟩=some (.int .i64 f)∧W.cell? ⟨b12,2,none⟩=some (.int .i64 g))) (by kernel_rfl) (hid HX.out) (fun hHeld=>?_)
      refine zT 0 (v:=?_) ?_ ?_
      rotate_left
      ·intro w' hSw; obtain ⟨f0,f1,f2⟩:=hSw.out; clear hSw; go_simp; (try with_reducible rfl)
      try simp only [zP]
      refine zT 1 (v:=?_) ?_ ?_
      rotate_left
      ·intro w' hSw; obtain ⟨f0,f1,f2⟩:=hSw.out; clear hSw; go_simp; (try with_reducible rfl)
      try simp only [zP]
      refine zT 2 (v:=?_) ?_ ?_
      rotate_left
      ·intro w' hSw; obtain ⟨f0,f1,f2⟩:=hSw.out; clear hSw; go_simp; (try with_reducible rfl)
      try simp only [zP]
      refine wpAnyH_ready (rs:= [3]) (by kernel_rfl) (by simp) ?_
      refine AllReadyH.cons rfl (fun K hK=>?_) AllReadyH.nil
      go_simp
      refine (cJ.out _ (HBt.out.below HB11.out.drew)).mono ?_
      rintro e w13 ⟨⟨vv,rfl⟩,hT13,hO13⟩
      have HN13:=hid (hst.out w11.drew w13 HB11.out.drew hT13 hO13)
      have k13:∀j,w13.cell? ⟨b12,j,none⟩=w11.cell? ⟨b12,j,none⟩:=fun j=>hO13.eff.cell (p:=⟨b12,j,none⟩) Lb.out (fun e=>Hne.out (Eq.symm e))
      (try go_wp2_with fail)
      refine hK.out _ _ (hid ⟨(k13 0).trans HX.out.1,(k13 1).trans HX.out.2.1,(k13 2).trans HX.out.2.2⟩) (fun hHeld=>?_)
      clear hK K hT13 hO13 cJ hst k13
      try simp only [zP]
      refine wpAnyH_done (by kernel_rfl) ?_ _
      clear hHeld
      go_wp2
      exact ⟨⟨u+1,by go_num,by omega,HN13.out⟩,by simp [intOf]; omega⟩
     ·obtain rfl:u=7:=by omega
      have HR:Hid (∃B,BtS ba 7 B wr∧PQ (l.take (k+1)) B∧Eff (fun x=>x=ba) w3 wr):=⟨_,HJ.out.1.congr (C:=fun i=>joinB (B i) (X i)) (fun i hi=>by rw [if_pos hi]),HN5.out,HJ.out.2⟩
      clear hu7 hlu
      go_wp2
      exact ⟨⟨k+1,by go_num,by omega,HR.out⟩,by simp [intOf]; omega⟩
   ·obtain rfl:k=l.length:=by omega
    have hltI:¬(l.length:Int) < l.length:=by omega
    have hld:=hB.ld7
    rw [List.take_length] at hQ
    have HQ:=hid hQ
    have A14:=hid (A13.out.block hE.size (hE.block _ A13.out.lt (by have:=L2.out; omega)))
    have A04:=hid (A03.out.block hE.size (hE.block _ A03.out.lt (by have:=L2.out; omega)))
    obtain ⟨w6,hw6⟩:∃w6,wr=w6:=⟨_,rfl⟩
    rw [hw6] at hld A14 A04 HBr⊢
    clear hB hQ hE hk hlt cA HS3 HI hw6
    go_wp2_with fail
    go_loopw [42] (fun iv wr3=>∃u:Nat,iv= .int .i64 u∧u≤7∧Hid (Ar7 (w.heap.size+1) (otF B u) wr3∧Eff (fun x=>x=w.heap.size+1) w6 wr3)) (fun iv _=>7 - (intOf iv).toNat)
    case atStart=>
     refine ⟨0,rfl,by omega,?_,Eff.refl _ _⟩
     have e:otF B 0=fun _=>0:=funext fun i=>by rw [otF,if_neg (by omega)]
     rw [e]; exact A14.out
    case round=>
     obtain ⟨u,rfl,hu7,HJ⟩:=hrel
     by_cases hlu:u < 7
     ·have hui:(u:Int) < 7:=by omega
      have hu0:(0:Int)≤(u:Int):=by omega
      have hix:=index7 B u hlu wr
      have hn:Hid (∀W2,Below wr.heap.size wr W2→Ar7 (w.heap.size+1) (otF B (u+1)) (W2.setCell ⟨w.heap.size+1,u,none⟩ (.int .i64 (B u).2.2))∧Eff (fun x=>x=w.heap.size+1) w6 (W2.setCell ⟨w.heap.size+1,u,none⟩ (.int .i64 (B u).2.2))):=fun W2 e2=>by
       have h1:=(HJ.out.1.block e2.size (e2.block _ HJ.out.1.lt)).set hlu (B u).2.2
       have e:(fun i=>if i=u then (B u).2.2 else otF B u i)=otF B (u+1):=funext fun i=>by
        rw [otF,otF]
        by_cases e:i=u
        ·subst e; rw [if_pos rfl,if_pos (by omega)]
        ·rw [if_neg e]
         by_cases e2:i < u
         ·rw [if_pos e2,if_pos (by omega)]
         ·rw [if_neg e2,if_neg (by omega)]
       rw [e] at h1
       exact ⟨h1,(HJ.out.2.trans (Eff.of_below (O:=fun x=>x=w.heap.size+1) e2) (fun _ h=> .inl h)).set rfl _ _⟩
      obtain ⟨y,f,g,hye⟩:∃y f g,B u= (y,f,g):=⟨_,_,_,rfl⟩
      rw [hye] at hix hn
      simp only at hix hn
      have hlo:=HJ.out.1.lt
      have hcz:=HJ.out.1.c u hlu
      have hzz:=HJ.out.1.z u
      clear hye
      go_upto_region 18 with fail
      obtain ⟨w11,hw11⟩:∃W,wr.alloc (.cells #[.bool y, .int .i64 f, .int .i64 g] 78)=W:=⟨_,rfl⟩
      have hB11:Below wr.heap.size wr w11:=by rw [←hw11]; exact below_new (Below.refl _ _) (zG _)
      have x2:w11.cell? ⟨wr.heap.size,2,none⟩=some (.int .i64 g):=by rw [←hw11]; simp [go_sem]
      have hcz1:=(hB11.cell (p:=⟨w.heap.size+1,u,none⟩) hlo).trans hcz
      have hzz1:=(hB11.frozen (p:=⟨w.heap.size+1,u,none⟩) hlo).trans hzz
      have HN11:=hid (hn.out w11 hB11)
      rw [hw11]
      clear hw11 hB11 hcz hzz hn hix hlo
      go_wp2
      exact ⟨⟨u+1,by go_num,by omega,HN11.out⟩,by simp [intOf]; omega⟩
     ·obtain rfl:u=7:=by omega
      have hA:=HJ.out.1
      have hld:=hA.ld
      have h0:=A04.out.block HJ.out.2.size (HJ.out.2.block _ A04.out.lt (by omega))
      have hst:=h0.st (otF B 7)
      have HP:=hid (h0.put (otF B 7))
      have HE:Hid (Eff (fun x=>x=w.heap.size) wr (wr.setCells w.heap.size 0 (L7 (otF B 7)))):=Eff.setCells (O:=fun x=>x=w.heap.size) rfl (L7 (otF B 7)) 0 wr (Eff.refl _ wr)
      have HR:Hid (PofR l (.returned (.tuple #[arr7 (otF B 7), .int .i64 0]))):=⟨_,by rw [Hf.out],fun h=>absurd Hf.out h,fun _ u hu=>⟨_,_,by rw [otF,if_pos hu]; exact HQ.out u hu⟩⟩
      have HB9:Hid (Below w.heap.size w wr):=HBr.out.trans (HJ.out.2.below (fun b hb=>by omega) HBr.out.size)
      clear hA h0 hu7 hlu
      go_wp2
      exact bodyPost_ret (results_cell_mid2 (p:=2) (t:=3) rfl _ _ w.heap.size 0 _ _ rfl HP.out.range Tryz.underlying24 rfl (by rw [L7_len]; exact info7i)) rfl ⟨HR.out,HB9.out.trans (HE.out.below (by rintro b rfl; exact zG _) HB9.out.size)⟩
end
section
open Go.RowKit Go.Maps
attribute [local go_sem] Oper.semAt_some
def ScI (b:Nat) (xs:List Int):OwnP:=fun k O W=>Bt1 b 0 (nrB (xs.take k) 0) W∧O b∧∀c,O c→c < W.heap.size
theorem Bt1.block {b o:Nat} {x:Bt} {W W':World} (h:Bt1 b o x W) (hs:W.heap.size≤W'.heap.size) (hb:W'.heap[b]? =W.heap[b]?):Bt1 b o x W':=
 ⟨(World.cell?_of_block (w:=W) (a:=⟨b,o,none⟩) hb).trans h.y,(World.cell?_of_block (w:=W) (a:=⟨b,o+1,none⟩) hb).trans h.f,(World.cell?_of_block (w:=W) (a:=⟨b,o+2,none⟩) hb).trans h.g,fun i=>(World.frozen?_of_block (w:=W) (a:=⟨b,i,none⟩) hb).trans (h.z i),zH h.lt hs⟩
theorem scI_stab (b:Nat) (xs:List Int):StabO (ScI b xs):=fun k O W W' ⟨h1,h2,h3⟩ hs hO=>⟨h1.block hs (hO b h2),h2,fun c hc=>zH (h3 c hc) hs⟩
set_option maxRecDepth 100000 in
set_option maxHeartbeats 3200000 in
theorem PSeconds_any (a:Option Addr) (cap:Nat) (l:List Int) (w:World) (hl:l.length≤9223372036854775807) (hs:Sl w a (ints l)) (hT:Tab w) :
  Calls Tryz.prog 38 #[.slice a l.length cap] w fun e w'=>e= .returned (.int .i64 (nrB (secL (memD l)) 0).2.2)∧Below w.heap.size w w':=by
 obtain ⟨W1,hW1⟩:∃W1,w.alloc (.cells #[.bool false, .int .i64 0, .int .i64 0] 78)=W1:=⟨_,rfl⟩
 have hB1:Below w.heap.size w W1:=by rw [←hW1]; exact below_new (Below.refl _ _) (zG _)
 have s1:W1.heap.size=w.heap.size+1:=by rw [←hW1]; simp
 have hA1:Bt1 w.heap.size 0 (nrB [] 0) W1:=by
  rw [←hW1]
  exact ⟨by simp [go_sem,nrB],by simp [go_sem,nrB],by simp [go_sem,nrB],fun i=>frozen_fresh w _ _ i,by simp⟩
 have cD:=hid (DOf_any a cap l W1 hl (hs.below hB1))
 have HT:=hid hT
 have HB1:=hid hB1
 have HW1:=hid hW1
 have S1:=hid s1
 have HA1:=hid hA1
 obtain ⟨q,hq⟩:∃q,memD l=q:=⟨_,rfl⟩
 rw [hq] at cD
 rw [hq]
 have hmem:Hid (∀x∈secL q,0≤x∧x < 86400):=nsec_rng q
 have cL:=hid (fun (d:Nat) W1 (h:DiscAt W1 d q)=>DcAllO_any (some d) q W1 h)
 obtain ⟨X,hX⟩:∃X,secL q=X:=⟨_,rfl⟩
 rw [hX] at hmem cL
 rw [hX]
 clear hW1 hB1 s1 hA1 hT hX hq hs hl
 refine (wf_calls (r:=none) (n:=1)).mp ?_
 refine callsIn_of_wp_marks Tryz.func38 rfl trivial ?_ rfl
 simp only [Tryz.ntmps38,List.size_toArray,List.length_cons,List.length_nil,Nat.reduceAdd,Nat.reduceSub,Array.replicate_succ,Array.replicate_zero,List.push_toArray,List.append_toArray,List.nil_append,List.cons_append]
 gi_wp2_with fail
 rw [HW1.out]
 refine (wf_calls.mpr cD.out).mono ?_
 rintro e w2 ⟨rfl,hd2,hB2⟩
 obtain ⟨d,hd⟩:∃d,W1.heap.size=d:=⟨_,rfl⟩
 rw [hd] at hd2
 rw [hd]
 have HB02:=hid (HB1.out.trans (hB2.mono HB1.out.size))
 have HA2:=hid (HA1.out.block hB2.size (hB2.block _ HA1.out.lt))
 have cA:=hid (cL.out d w2 hd2)
 clear hB2 cD cL hd2 hd
 gi_wp2_with fail
 refine (wf_calls.mpr cA.out).mono ?_
 rintro e w3 ⟨rfl,ht,hB3,hl3⟩
 obtain ⟨t,t1,t2,t3⟩:=ht.out
 have hB03:Below w.heap.size w w3:=HB02.out.trans (hB3.mono HB02.out.size)
 have hA3:Bt1 w.heap.size 0 (nrB [] 0) w3:=HA2.out.block hB3.size (hB3.block _ HA2.out.lt)
 have tl:Tells2 Tryz.prog 151 #[.pointer (some ⟨w2.heap.size,0,none⟩)] X (fun b=>b=w.heap.size) w3:=by
  intro y J Jx O W hO hB hC hJ
  rw [←t3] at hC⊢
  have hnO:¬O w2.heap.size:=fun h=>by
   rcases hO _ h with h | h
   ·have:=HA2.out.lt; omega
   ·omega
  exact DiscIter_any t w2.heap.size y J Jx O W t2 hC hJ (zH hl3 hB.size) hnO (t1.below hB hl3) (HT.out.later (hB03.trans (hB.mono hB03.size))) (fun h=>by
   have h0:=HT.out.1
   rcases hO _ h with h | h
   ·omega
   ·have:=hB03.size; omega)
 have TL:=hid tl
 have HB03:=hid hB03
 have HB13:=hid hB3
 have HA3:=hid hA3
 clear tl hB03 hA3 ht t1 t3 hB3 cA
 gi_wp2_with fail
 refine range_outer2 (gf:=151) (lb:=#[.pointer (some ⟨w2.heap.size,0,none⟩)]) rfl dall_enters X (fun b=>b=w.heap.size) rfl TL.out
  (ScI w.heap.size X) (fun _ _ _ _=>False) (scI_stab _ _) (fun _ _ _ _ _ h _ _=>h.elim) (fun k O W h=>h.2.2) (fun _ _ _ _ h=>h.elim) ⟨HA3.out,rfl,fun c hc=>by rw [hc]; exact HA3.out.lt⟩
  (fun k O a' W=>ScI w.heap.size X k O W∧∀hk:k < X.length,a' = {tmps:=#[.slice a l.length cap,undef, .int .i64 0, .pointer (some ⟨w.heap.size,0,none⟩), .int .i64 X[k], .slice a l.length cap, .pointer (some ⟨d,0,none⟩), .func (.func 151) #[] #[.pointer (some ⟨w2.heap.size,0,none⟩)], .int .i64 X[k],undef,undef,undef,undef],defers:= []})
  (fun l o k O a' W' hr hn h=>⟨stab_put (scI_stab _ _) h.1 hn o,h.2⟩) ?assign ?body ?done ?stop
 case assign=>
  intro l k O W K hk hI hG hK
  gi_wp2
  exact hK _ O W (Grow.refl _ _) ⟨hI,fun _=>rfl⟩
 case stop=>
  rintro c k O' W' h1 h2 hG h
  exact h.elim
 case body=>
  rintro l k O a' W hk hG hl hrec hnl ⟨⟨hA,hO,hlt⟩,ha⟩
  rw [ha hk]
  have hx:=hmem.out _ (List.getElem_mem hk)
  have hsn:=nrB_snoc hk 0
  have hbd:=nrB_bd hmem.out 0 k (Nat.le_of_lt hk)
  obtain ⟨x,hxe⟩:∃x,X[k]=x:=⟨_,rfl⟩
  rw [hxe] at hx hsn
  rw [hxe]
  rw [show szI 0=1 from rfl,Int.ediv_one] at hsn
  have cT:=hid (BTake_any x hA hbd.1 hbd.2 ⟨hx.1,by omega⟩)
  rw [←hsn] at cT
  have HO:=hid hO
  have Hlt:=hid hlt
  clear hxe ha hO hlt hA hk hG hrec hnl hl hsn hbd hx
  gi_wp2_with fail
  refine (wf_calls.mpr cT.out).mono ?_
  rintro e w8 ⟨⟨v,rfl⟩,hT8,hO8⟩
  have hE8:Eff O W w8:=hO8.eff.wide (fun b hb=>by subst hb; exact HO.out)
  have HF:=hid (And.intro hT8 hE8)
  clear hT8 hO8 hE8 cT
  gi_wp2
  exact ⟨O,⟨fun _ h=>h,fun _ h=> .inl h,HF.out.2⟩,HF.out.1,HO.out,fun c hc=>zH (Hlt.out c hc) HF.out.2.size⟩
 case done=>
  rintro O' W' hG ⟨hA,hO,hlt⟩ hD hnD
  rw [List.take_length] at hA
  have HB9:Hid (Below w.heap.size w W'):=HB03.out.trans (hG.eff.below (by rintro b rfl; omega) HB03.out.size)
  have HD:=hid hD
  have hg:=hA.g
  clear hG hA hO hlt hD hnD
  gi_wp2
  refine ⟨by simp, .inl ⟨_,_,rfl,run_takeDeferred HD.out,?_⟩⟩
  exact ⟨_,results_tmp rfl _ _ _,rfl,below_putObj HB9.out HB03.out.size _⟩
end
section
open Go.RowKit Go.Maps
attribute [local go_sem ↓] loadAt_7i storeAt_7i
theorem full_inst {t:Int} (h0:0≤t) (h1:t < 12622780800):instB [fullCl] t=true:=by
 rw [instB,List.any_cons,List.any_nil,Bool.or_false]
 exact full_has (by rw [winB,decide_eq_true_eq]; omega)
theorem full_gap {u:Nat} (hu:u < 7):∃s t:Int,0≤s∧s < 12622780800∧0≤t∧t < 12622780800∧unT u t - unT u s=1:=by
 have h7:u=0∨u=1∨u=2∨u=3∨u=4∨u=5∨u=6:=by omega
 rcases h7 with rfl | rfl | rfl | rfl | rfl | rfl | rfl
 ·exact ⟨0,1,by omega,by omega,by omega,by omega,by decide +kernel⟩
 ·exact ⟨0,60,by omega,by omega,by omega,by omega,by decide +kernel⟩
 ·exact ⟨0,3600,by omega,by omega,by omega,by omega,by decide +kernel⟩
 ·exact ⟨0,86400,by omega,by omega,by omega,by omega,by decide +kernel⟩
 ·exact ⟨0,345600,by omega,by omega,by omega,by omega,by decide +kernel⟩
 ·exact ⟨0,2678400,by omega,by omega,by omega,by omega,by decide +kernel⟩
 ·exact ⟨0,31536000,by omega,by omega,by omega,by omega,by decide +kernel⟩
theorem full_pulse {u:Nat} (hu:u < 7) {y:Bool} {f g:Int} (h:BeatP (PuU [fullCl] u) y f g):g=1:=by
 obtain ⟨s,t,s0,s1,t0,t1,e⟩:=full_gap hu
 have h1:=(h.dvd g).1 (Int.dvd_refl g) _ _ ⟨t,full_inst t0 t1,rfl⟩ ⟨s,full_inst s0 s1,rfl⟩
 rw [e] at h1
 have h0:=h.ge
 have:=Int.le_of_dvd (by omega) h1
 rcases Int.lt_or_eq_of_le h0 with h2 | h2
 ·omega
 ·rw [←h2,Int.zero_dvd] at h1; omega
attribute [local irreducible] secL
theorem ten_beat:(nrB (secL (memD [0,30,50])) 0).2.2=10:=by
 have h:=nrB_q (secL (memD [0,30,50])) 0 _ (zG _)
 rw [List.take_length] at h
 have hS:∀v,(∃x∈secL (memD [0,30,50]),v=x / szI 0)↔v=0∨v=30∨v=50:=fun v=>by
  constructor
  ·rintro ⟨x,hx,rfl⟩
   obtain ⟨j,hj,hq,rfl⟩:=secL_has.1 hx
   rw [show szI 0=1 from rfl,Int.ediv_one]
   simp [memD] at hq
   omega
  ·intro hv
   rcases hv with rfl | rfl | rfl
   ·exact ⟨0,secL_has.2 ⟨0,by omega,by simp [memD],rfl⟩,by rw [show szI 0=1 from rfl,Int.ediv_one]⟩
   ·exact ⟨30,secL_has.2 ⟨30,by omega,by simp [memD],rfl⟩,by rw [show szI 0=1 from rfl,Int.ediv_one]⟩
   ·exact ⟨50,secL_has.2 ⟨50,by omega,by simp [memD],rfl⟩,by rw [show szI 0=1 from rfl,Int.ediv_one]⟩
 have k:BeatP (fun v=>v=0∨v=30∨v=50) _ _ _:=h.congr hS
 obtain ⟨G,hG⟩:∃G,(nrB (secL (memD [0,30,50])) 0).2.2=G:=⟨_,rfl⟩
 rw [hG] at k⊢
 have p:=(k.dvd G).1 (Int.dvd_refl G)
 have p1:G ∣ 30:=by have:=p 30 0 (by simp) (by simp); simpa using this
 have p2:G ∣ 20:=by have:=p 50 30 (by simp) (by simp); simpa using this
 have p3:G ∣ 10:=by have:=Int.dvd_sub p1 p2; simpa using this
 have q:(10:Int) ∣ G:=(k.dvd 10).2 fun x y hx hy=>by
  rcases hx with rfl | rfl | rfl <;> rcases hy with rfl | rfl | rfl <;> decide
 have h0:=k.ge
 exact Int.dvd_antisymm h0 (by omega) p3 q
def eql7S (u v:Value):Sem Value:=binOp .eql 24 u v
theorem eql_7i (u v:Value):binOp .eql 24 u v=eql7S u v:=rfl
attribute [local go_sem ↓] eql_7i
theorem run_eqg7 (W:World):(eqGuard .eql 24 (.tmp 11) (.tmp 12) (.agg #[.int .i64 1, .int .i64 1, .int .i64 1, .int .i64 1, .int .i64 1, .int .i64 1, .int .i64 1]) (.agg #[.int .i64 1, .int .i64 1, .int .i64 1, .int .i64 1, .int .i64 1, .int .i64 1, .int .i64 1])).run Tryz.prog W= .ok () W:=by kernel_rfl
theorem run_eql7 (W:World):(eql7S (.agg #[.int .i64 1, .int .i64 1, .int .i64 1, .int .i64 1, .int .i64 1, .int .i64 1, .int .i64 1]) (.agg #[.int .i64 1, .int .i64 1, .int .i64 1, .int .i64 1, .int .i64 1, .int .i64 1, .int .i64 1])).run Tryz.prog W= .ok (.bool true) W:=by kernel_rfl
attribute [local go_sem] run_eqg7 run_eql7
set_option maxRecDepth 100000 in
set_option maxHeartbeats 3200000 in
theorem Lives23_any (w:World) (hT:Tab w):Calls Tryz.prog 9 #[] w fun e w'=>e= .returned (.bool true)∧Below w.heap.size w w':=by
 have cW:=hid (IWhole_any w)
 have cP:=hid (fun (g:Nat) W (hB:Below w.heap.size w W) (h:Sl W (some ⟨g,0,none⟩) (cls [fullCl]))=>POf_any (some ⟨g,0,none⟩) 1 [fullCl] W (by simp) (by simp) h (fun h=>by cases h) (fun c hc=>by rw [List.mem_singleton] at hc; subst hc; exact full_ok) (hT.later hB))
 have cS:=hid (fun W (hB:Below w.heap.size w W)=>by
  have e:=PSeconds_any (some ⟨W.heap.size,0,none⟩) 3 [0,30,50] (W.alloc (.cells #[.int .i64 0, .int .i64 30, .int .i64 50] 3)) (by simp) (sl_range (cs:= [.int .i64 0, .int .i64 30, .int .i64 50]) (range_new W _ _) (by simp)) (hT.later (below_new hB hB.size))
  rw [ten_beat] at e
  exact e)
 clear hT
 go_enter Tryz.func9,Tryz.ntmps9
 go_wp2_with fail
 refine cW.out.mono ?_
 rintro e w1 ⟨⟨g,rfl,hO⟩,hB1⟩
 obtain ⟨a1,cap1,e1,hsl,-⟩:=owns_form hO
 injection e1 with e1 e2 e3
 subst e1
 have HB1:=hid hB1
 have cP1:=hid (cP.out g w1 hB1 hsl)
 clear hB1 hO hsl cW cP e2 e3
 go_wp2_with fail
 refine cP1.out.mono ?_
 rintro e w2 ⟨⟨G,rfl,-,hg⟩,hB2⟩
 have HB2:=hid (HB1.out.trans (hB2.mono HB1.out.size))
 have hG:arr7 G= .agg #[.int .i64 1, .int .i64 1, .int .i64 1, .int .i64 1, .int .i64 1, .int .i64 1, .int .i64 1]:=by
  have h1:∀u,u < 7→G u=1:=fun u hu=>by
   obtain ⟨y,f,h⟩:=hg fault_full u hu
   exact full_pulse hu h
  rw [arr7,L7]
  simp [List.range,List.range.loop,h1]
 rw [fault_full,hG]
 have e8:Ar7 w2.heap.size (fun _=>0) (w2.alloc (.cells #[.int .i64 0, .int .i64 0, .int .i64 0, .int .i64 0, .int .i64 0, .int .i64 0, .int .i64 0] 24)):=ar7_new w2 24
 have hst8:=e8.st G
 have H8:=e8.put G
 have HB8:Hid (Below w2.heap.size w2 ((w2.alloc (.cells #[.int .i64 0, .int .i64 0, .int .i64 0, .int .i64 0, .int .i64 0, .int .i64 0, .int .i64 0] 24)).setCells w2.heap.size 0 (L7 G))):=(below_new (Below.refl _ _) (zG _)).trans ((Eff.setCells (O:=fun x=>x=w2.heap.size) rfl (L7 G) 0 _ (Eff.refl _ _)).below (by rintro b rfl; exact zG _) (by simp))
 obtain ⟨w3,hw3⟩:∃w3,(w2.alloc (.cells #[.int .i64 0, .int .i64 0, .int .i64 0, .int .i64 0, .int .i64 0, .int .i64 0, .int .i64 0] 24)).setCells w2.heap.size 0 (L7 G)=w3:=⟨_,rfl⟩
 rw [hw3] at H8 HB8 hst8
 rw [hG] at hst8
 have hld:=H8.ld
 rw [hG] at hld
 have HB3:=hid (HB2.out.trans (HB8.out.mono HB2.out.size))
 have cS3:=hid (cS.out w3 HB3.out)
 clear hB2 hg hG e8 hw3 H8 cS cP1
 go_wp2_with fail
 refine cS3.out.mono ?_
 rintro e w4 ⟨rfl,hB4⟩
 have HB4:=hid (HB3.out.trans ((below_new (Below.refl _ _) (zG _)).trans (hB4.mono (by simp)) |>.mono HB3.out.size))
 clear hB4 cS3
 go_wp2
 go_ret
 exact ⟨rfl,HB4.out⟩
end
section
open Go.RowKit
attribute [local go_sem ↓] loadAt_cl
set_option maxRecDepth 100000 in
set_option maxHeartbeats 3200000 in
theorem RMay17_any (a:Option Addr) (cap:Nat) (l:List Cl) (w:World) (hl:l.length≤1000) (hs:Sl w a (cls l)) (hok:∀c∈l,c.Ok) :
  Calls Tryz.prog 11 #[.slice a l.length cap] w fun e w'=>e= .returned (.bool (mayL l))∧Below w.heap.size w w':=by
 have Hs:=hid hs
 have Hok:=hid hok
 clear hs hok
 go_enter Tryz.func11,Tryz.ntmps11
 go_wp2_with fail
 go_loopw [3] (fun i wr=>∃k:Nat,i= .int .i64 k∧k≤l.length∧k≤9∧Hid ((l.take k).all mayC=true)∧Hid (Below w.heap.size w wr)) (fun i _=>l.length - (intOf i).toNat)
 case atStart=>exact ⟨0,rfl,by omega,by omega,by show _ = _; rfl,Below.refl _ _⟩
 case round=>
  obtain ⟨k,rfl,hk,hk9,hall,HB⟩:=hrel
  by_cases hlt:k < l.length
  ·by_cases h9:k < 9
   ·have hltI:(k:Int) < l.length:=by omega
    have h9I:(k:Int) < 9:=by omega
    obtain ⟨b,off,rfl,hbk,hr⟩:=Hs.out.atCl hlt
    have hr':=range_below hr HB.out hbk
    have hcOk:=hid (Hok.out _ (List.getElem_mem hlt))
    have ts:=hid (take_snoc l k hlt)
    have hmem:=hid (List.getElem_mem hlt)
    obtain ⟨c,hc⟩:∃c,l[k]=c:=⟨_,rfl⟩
    rw [hc] at hr' hcOk ts hmem
    have le:=ld_at hr'
    have cM:=hid (fun W=>RMayCl_any c W hcOk.out)
    cases hm:mayC c
    ·rw [hm] at cM
     have hno:Hid (mayL l=false):=by
      show _ = _
      rw [mayL,show l.all mayC=false by rw [List.all_eq_false]; exact ⟨c,hmem.out,by rw [hm]; simp⟩,Bool.and_false]
     clear hr hr' hc hm
     go_wp2_with fail
     refine (cM.out _).mono ?_
     rintro e w1 ⟨rfl,hB1⟩
     have HB1:=hid (HB.out.trans (hB1.mono HB.out.size))
     clear hB1 le
     go_wp2
     go_ret
     rw [hno.out]
     exact ⟨rfl,HB1.out⟩
    ·rw [hm] at cM
     have hyes:Hid ((l.take (k+1)).all mayC=true):=by show _ = _; rw [ts.out,List.all_append,hall.out,List.all_cons,hm]; rfl
     clear hr hr' hc hm
     go_wp2_with fail
     refine (cM.out _).mono ?_
     rintro e w1 ⟨rfl,hB1⟩
     have HB1:=hid (HB.out.trans (hB1.mono HB.out.size))
     clear hB1 le
     go_wp2
     exact ⟨⟨k+1,by go_num,by omega,by omega,hyes,HB1⟩,by simp [intOf]; omega⟩
   ·have hltI:(k:Int) < l.length:=by omega
    have h9I:¬(k:Int) < 9:=by omega
    have hno:Hid (mayL l=false):=by show _ = _; rw [mayL,decide_eq_false (by omega)]; rfl
    have h8J:decide ((l.length:Int)≤8)=false:=decide_eq_false (by omega)
    have h8I:¬(l.length:Int)≤8:=by omega
    go_wp2
    go_ret
    rw [hno.out]
    exact ⟨rfl,HB.out⟩
  ·have hltI:¬(k:Int) < l.length:=by omega
   have hke:l.take k=l:=List.take_of_length_le (by omega)
   rw [hke] at hall
   clear hke
   by_cases h8:l.length≤8
   ·have hno:Hid (mayL l=true):=by show _ = _; rw [mayL,decide_eq_true h8,hall.out]; rfl
    have h8I:(l.length:Int)≤8:=by omega
    clear hall
    go_wp2
    go_ret
    rw [hno.out]
    exact ⟨rfl,HB.out⟩
   ·have hno:Hid (mayL l=false):=by show _ = _; rw [mayL,decide_eq_false h8]; rfl
    have h8I:¬(l.length:Int)≤8:=by omega
    clear hall
    go_wp2
    go_ret
    rw [hno.out]
    exact ⟨rfl,HB.out⟩
end
section
open Go.RowKit
attribute [local go_sem ↓] loadAt_cl
abbrev HaS (w:World) (c:Cl) (W:World):Prop:=
 (loadClS (.pointer (some ⟨w.heap.size,0,none⟩))).run Tryz.prog W= .ok (clv c) W∧
 (W.cell? ⟨w.heap.size,25,none⟩=some (.int .i64 c.unit)∧W.cell? ⟨w.heap.size,26,none⟩=some (.int .i64 c.step)∧W.cell? ⟨w.heap.size,27,none⟩=some (.int .i64 c.anchor)∧W.cell? ⟨w.heap.size,28,none⟩=some (.int .i64 c.fr)∧W.cell? ⟨w.heap.size,29,none⟩=some (.int .i64 c.un))∧
 ClB W w.heap.size c∧Below w.heap.size w W∧w.heap.size < W.heap.size
theorem HaS.of {w W:World} {c:Cl} (h:ClB W w.heap.size c) (hb:Below w.heap.size w W) (hs:w.heap.size < W.heap.size):HaS w c W:=⟨h.ld,h.tail,h,hb,hs⟩
end
end Go.Proofs.YthimhfmnikfgaaaGreatDoor
