/-
  The weekdays of a rule: the mask and the Ord, and the document's.
  feriaref32.week: is a day one of a rule's weekdays?
  feriaref32.Date: has a day the months, days and weekdays of a rule?
  rule.Days, where no day is counted from the month's end.
-/
import Derived.Test.YtjahgimnfliooaaGreatDoorQ7b95a3
import Derived.Deep.CutRange
import Derived.Test.YtjahgimnfliooaaGreatDoorQ117f73
set_option maxRecDepth 100000
set_option maxHeartbeats 25600000
namespace Go.Proofs.YtjahgimnfliooaaGreatDoor
set_option linter.unusedVariables false
section
open Go.RowKit
theorem yiT (x:Int) (h0:0≤x) (h1:x < 64):∀(l:List (Int × Int)) (m:Nat),(l.foldl (fun m n=>m ||| ofM [n.2]) m).testBit x.toNat= (m.testBit x.toNat || l.any fun n=>decide (n.2=x))
 | [],m=>by simp
 | n :: l,m=>by
   rw [List.foldl_cons,yiT x h0 h1 l]
   have e:(ofM [n.2]).testBit x.toNat=decide (n.2=x):=by
    have:=yca (l:= [n.2]) h0 h1
    rw [hasB,zzZ h0,zzo] at this
    rw [this]; simp [eq_comm]
   rw [Nat.testBit_or,e,List.any_cons,Bool.or_assoc]
theorem wkM_has {l:List (Int × Int)} {x:Int} (h0:0≤x) (h1:x < 64):hasB (wkM l) x=l.any fun n=>decide (n.2=x):=by
 rw [hasB,zzZ h0,zzo,wkM,yiT x h0 h1,Nat.zero_testBit,Bool.false_or]
theorem yiU (j:Nat) (x:Int) (h0:0≤x) (h1:x < 64):∀(l:List (Int × Int)) (m:Nat),(l.foldl (fun m n=>if n.2= (j:Int) then m ||| ofM [max n.1 (-n.1)] else m) m).testBit x.toNat= (m.testBit x.toNat || l.any fun n=>decide (n.2= (j:Int)) && decide (max n.1 (-n.1)=x))
 | [],m=>by simp
 | n :: l,m=>by
   rw [List.foldl_cons,yiU j x h0 h1 l,List.any_cons]
   by_cases hj:n.2= (j:Int)
   ·have e:(ofM [max n.1 (-n.1)]).testBit x.toNat=decide (max n.1 (-n.1)=x):=by
     have:=yca (l:= [max n.1 (-n.1)]) h0 h1
     rw [hasB,zzZ h0,zzo] at this
     rw [this]; simp [eq_comm]
    rw [if_pos hj,Nat.testBit_or,e,zzZ hj,zzo,Bool.or_assoc]
   ·rw [if_neg hj,zzd hj,Bool.false_and,Bool.false_or]
theorem yhX {l:List (Int × Int)} {j:Nat} {x:Int} (h0:0≤x) (h1:x < 64):hasB (wkD l j) x=l.any fun n=>decide (n.2= (j:Int)) && decide (max n.1 (-n.1)=x):=by
 rw [hasB,zzZ h0,zzo,wkD,yiU j x h0 h1,Nat.zero_testBit,Bool.false_or]
def atW (r:Ru) (s:Nat→Int) (n:Int):Int:=if 0 < n then (if r.fq=6∧r.l5.length=0 then s 8 else s 6) else if n < 0 then (if r.fq=6∧r.l5.length=0 then -s 9 else -s 7) else 0
def weekB (r:Ru) (s:Nat→Int):Bool:=if r.l7.length=0 then decide (r.fq≠4) || decide (s 5=wdI (r.st / 86400)) else r.l7.any fun x=>decide (x.2=s 5) && decide (x.1=atW r s x.1)
def woI (r:Ru):Int:=if yae r=0∧outB 0 0 (nsL r)=true then yan r else 0
def woB (r:Ru):Bool:=if yae r=0∧outB 0 0 (nsL r)=true then ycJ r else false
def woD (r:Ru) (j:Nat):Nat:=if yae r=0∧outB 0 0 (nsL r)=true then wkD r.l7 j else 0
theorem weekO_ord (r:Ru):yez r=ordv (woI r) (woB r) (woD r):=by
 unfold yez woI woB woD
 by_cases h:yae r=0∧outB 0 0 (nsL r)=true
 ·simp only [if_pos h]
 ·simp only [if_neg h]; rfl
theorem yeO {l:List Int} (hm:mixB l=false):(∀x∈l,x < 0)∨(∀x∈l,x=0)∨(∀x∈l,0 < x):=by
 rw [←yh2] at hm
 have key:∀x∈l,sgP (l.headD 0) x=false:=fun x hx=>by
  rw [←Bool.not_eq_true]; intro e
  have:l.any (sgP (l.headD 0))=true:=List.any_eq_true.2 ⟨x,hx,e⟩
  rw [hm] at this; cases this
 have two:∀x∈l,(x < 0↔l.headD 0 < 0)∧(x=0↔l.headD 0=0):=fun x hx=>by
  have:=key x hx
  rw [sgP,Bool.or_eq_false_iff,bne_eq_false_iff_eq,bne_eq_false_iff_eq] at this
  refine ⟨decide_eq_decide.1 this.1,?_⟩
  have h2:=this.2
  rw [zze] at h2
  simpa using h2
 rcases Int.lt_trichotomy (l.headD 0) 0 with h | h | h
 ·exact .inl fun x hx=>(two x hx).1.2 h
 ·exact .inr (.inl fun x hx=>(two x hx).2.2 h)
 ·refine .inr (.inr fun x hx=>?_)
  have:=two x hx
  have a:¬x < 0:=fun e=>by have:=this.1.1 e; omega
  have b:¬x=0:=fun e=>by have:=this.2.1 e; omega
  omega
theorem yhn:∀n:Nat,n < 8→1≤n→(fullCl.m 6).testBit n=true:=by decide +kernel
theorem yfV {α:Type} {l:List α} {p q:α→Bool} (h:∀x∈l,p x=q x):l.any p=l.any q:=by
 rw [zze,List.any_eq_true,List.any_eq_true]
 constructor
 ·rintro ⟨x,hx,e⟩; exact ⟨x,hx,by rw [←h x hx]; exact e⟩
 ·rintro ⟨x,hx,e⟩; exact ⟨x,hx,by rw [h x hx]; exact e⟩
theorem week_law {r:Ru} {s:Nat→Int} (hc:yae r=0) (h5:1≤s 5∧s 5≤7) (h6:1≤s 6∧s 6 < 64) (h7:1≤s 7∧s 7 < 64) (h8:1≤s 8∧s 8 < 64) (h9:1≤s 9∧s 9 < 64) :
  (hasB (ybD r) (s 5) && nthB (woI r) (woB r) (woD r) s)=weekB r s:=by
 obtain ⟨-,hx,hm,-,-⟩:=ydC (yaC hc).e7
 rw [ybD,if_pos hc,weekB]
 by_cases hn:r.l7= []
 ·have hout:outB 0 0 (nsL r)=false:=by rw [nsL,hn]; rfl
  have hno:¬(yae r=0∧outB 0 0 (nsL r)=true):=fun e=>by rw [hout] at e; cases e.2
  rw [if_pos hn,if_pos (show r.l7.length=0 by rw [hn]; rfl),nthB,woI,if_neg hno,if_pos rfl,Bool.and_true]
  by_cases h4:r.fq=4
  ·rw [if_pos h4,yca (by omega) (by omega),zzd (fun e=>e h4:¬r.fq≠4),Bool.false_or]
   simp
  ·rw [if_neg h4,ybW yhn h5.1 (by omega),zzZ (show r.fq≠4 from h4),Bool.true_or]
 ·have hl:¬r.l7.length=0:=fun e=>hn (List.eq_nil_of_length_eq_zero e)
  rw [if_neg hn,if_neg hl]
  cases ho:outB 0 0 (nsL r)
  ·have hno:¬(yae r=0∧outB 0 0 (nsL r)=true):=fun e=>by rw [ho] at e; cases e.2
   rw [if_neg (by simp),wkM_has (by omega) (by omega),nthB,woI,if_neg hno,if_pos rfl,Bool.and_true]
   apply yfV
   intro x hxm
   have h0:x.1=0:=by
    have:¬outB 0 0 (nsL r)=true:=by rw [ho]; simp
    rw [outB,List.any_eq_true] at this
    have:¬outP 0 0 x.1=true:=fun e=>this ⟨x.1,List.mem_map_of_mem hxm,e⟩
    simp only [outP,Bool.or_eq_true,zzY] at this
    omega
   rw [h0,show atW r s 0=0 by simp [atW],zzZ (rfl:(0:Int)=0),Bool.and_true]
  ·have hyes:yae r=0∧outB 0 0 (nsL r)=true:=⟨hc,ho⟩
   have hne:yan r≠0:=by unfold yan; split <;> simp
   have hD:∀x,0≤x→x < 64→hasB (woD r (s 5).toNat) x=r.l7.any fun n=>decide (n.2=s 5) && decide (max n.1 (-n.1)=x):=fun x a b=>by
    rw [woD,if_pos hyes,yhX a b,Int.toNat_of_nonneg (by omega)]
   have hr:1≤nthN (yan r) (ycJ r) s∧nthN (yan r) (ycJ r) s < 64:=by
    unfold nthN; split <;> split <;> omega
   rw [if_pos rfl,ybW yhn h5.1 (by omega),zzo,nthB,woI,if_pos hyes,if_neg hne,woB,if_pos hyes,hD _ (by omega) hr.2]
   apply yfV
   intro x hxm
   have hmem:x.1∈nsL r:=List.mem_map_of_mem hxm
   have hhead:nsL r≠ []:=fun e=>by rw [e] at hmem; cases hmem
   congr 1
   rw [decide_eq_decide]
   have hhm:(nsL r).headD 0∈nsL r:=by
    cases h:nsL r with
    | nil=>exact absurd h hhead
    | cons a l=>simp
   rcases yeO hm with hs | hs | hs
   ·have hb:ycJ r=true:=by rw [ycJ]; exact zzZ (hs _ hhm)
    have hx1:=hs _ hmem
    rw [hb,atW,if_neg (by omega),if_pos hx1]
    unfold nthN yan
    by_cases hf:r.fq=6∧r.l5.length=0
    ·rw [if_pos hf,if_pos hf]; simp only [if_neg (by decide:¬(2:Int)=1),if_true]; omega
    ·rw [if_neg hf,if_neg hf]; simp only [if_true]; omega
   ·exfalso
    have:outB 0 0 (nsL r)=false:=by
     rw [←Bool.not_eq_true]
     intro e
     rw [outB,List.any_eq_true] at e
     obtain ⟨y,hy,hp⟩:=e
     have:=hs y hy
     simp only [outP,Bool.or_eq_true,zzY] at hp
     omega
    rw [ho] at this; cases this
   ·have hb:ycJ r=false:=by rw [ycJ]; exact zzd (by have:=hs _ hhm; omega)
    have hx1:=hs _ hmem
    rw [hb,atW,if_pos hx1]
    unfold nthN yan
    by_cases hf:r.fq=6∧r.l5.length=0
    ·rw [if_pos hf,if_pos hf]; simp only [if_neg (by decide:¬(2:Int)=1)]; simp; omega
    ·rw [if_neg hf,if_neg hf]; simp; omega
end
section
open Go.RowKit
structure RkF (w:World) (r:Ru) (s:Nat→Int) (W:World):Prop where
 rb:RuB W w.heap.size r
 sh:ShS W (w.heap.size+1) s
 be:Below w.heap.size w W
 l:w.heap.size+1 < W.heap.size
theorem RkF.keep {w W W':World} {r:Ru} {s:Nat→Int} (h:RkF w r s W) (hb:Below W.heap.size W W'):RkF w r s W':=by
 have hs:=hb.size
 have hl:=h.l
 exact ⟨h.rb.below hb (by omega),h.sh.below hb hl,h.be.trans (hb.mono (by omega)),by omega⟩
end
section
open Go.RowKit
def dateR (r:Ru) (s:Nat→Int):Bool:=monthB r (s 2) && (dayVB r (s 3) (s 4) && weekB r s)
end
section
open Go.RowKit
attribute [local go_sem ↓] ya2
attribute [local go_sem] yaI
abbrev DvS (w:World) (r:Ru) (b5 b8:Nat) (y mo d h m s:Int) (F:Cl) (W:World):Prop:=
 RuC W w.heap.size r∧Six W b5 (.int .i64 y) (.int .i64 mo) (.int .i64 d) (.int .i64 h) (.int .i64 m) (.int .i64 s)∧(W.cell? ⟨b8,4,none⟩=some (.int .u64 (F.m 4:Nat))∧W.cell? ⟨b8,5,none⟩=some (.int .u64 (F.m 5:Nat)))∧TmF w r b5 b8 y mo d h m s F W
theorem TmF.dvs {w W:World} {r:Ru} {b5 b8:Nat} {y mo d h m s:Int} {F:Cl} (k:TmF w r b5 b8 y mo d h m s F W):DvS w r b5 b8 y mo d h m s F W:=⟨k.rb.all,k.six,⟨k.cl.at 4 rfl,k.cl.at 5 rfl⟩,k⟩
theorem DvS.keep {w W W':World} {r:Ru} {b5 b8:Nat} {y mo d h m s:Int} {F:Cl} (k:DvS w r b5 b8 y mo d h m s F W) (hb:Below W.heap.size W W'):DvS w r b5 b8 y mo d h m s F W':=(k.2.2.2.keep hb).dvs
theorem DaysV_no (r:Ru) (w:World) (hr:RuS w r) (hm:r.Sm 1000000) (hc:¬yae r=0):Calls Tryz.prog 24 #[ruv r] w fun e w'=>e= .returned (.tuple #[.int .u64 (domV r:Nat), .int .u64 (endV r:Nat)])∧Below w.heap.size w w':=by
 have hB0:Below w.heap.size w (w.alloc (.cells (yak r).toArray 25)):=yaa (Below.refl _ _) (zG _)
 have cB:=hid (ybm r _ (hr.below hB0) hm)
 have HB0:=hid hB0
 rw [show domV r=0 by rw [domV,if_neg hc],show endV r=0 by rw [endV,if_neg hc]]
 have hb:(yae r == 0)=false:=by simpa using hc
 rw [hb] at cB
 obtain ⟨y,mo,d,h,m,s,hst⟩:=ybE r.st
 rw [hst] at cB
 clear hc hb hst hr hm hB0
 go_enter Tryz.func24,Tryz.ntmps24
 go_wp2_with fail
 refine cB.out.mono ?_
 rintro e w1 ⟨rfl,hB1⟩
 have HB1:=hid ((HB0.out.trans (hB1.mono (by simp only [zzN]; omega))).trans ((yaa (o:= .cells #[.int .i64 y, .int .i64 mo, .int .i64 d, .int .i64 h, .int .i64 m, .int .i64 s] 66) (Below.refl w1.heap.size w1) (zG _)).mono (by have:=hB1.size; simp only [zzN] at this; omega)))
 clear hB1
 go_wp2
 go_ret2
 exact ⟨rfl,HB1.out⟩
end
end Go.Proofs.YtjahgimnfliooaaGreatDoor
