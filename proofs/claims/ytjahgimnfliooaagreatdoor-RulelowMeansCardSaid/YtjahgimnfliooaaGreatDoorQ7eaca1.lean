/-
  What a disc's calls do to the seconds that it has: one second put in, one disc joined, its length, its next second, its telling.
  tod.All: its function tells the seconds of masks; which these are.
  A clause that is handed in: its thirty cells.
  Two numbers, and a list of clauses, that are handed in.
  The function of clause.Days, as long as its blocks stand.
  A clause in a list of clauses.
  math/bits.Mul64, num.size, num.Times, num.Mod, num.Gcd.
  moment.Join, span.Day; unit.Phase.
  What lap.Laps' texts use: a state, four cells of a block, boxes.
  lap.plain: the disc of all seconds of a state, whatever their phase.
-/
import Derived.Test.YtjahgimnfliooaaGreatDoorQf9f2c2
import Derived.Test.YtjahgimnfliooaaGreatDoorQc74b0e
import Derived.Test.YtjahgimnfliooaaGreatDoorQe6aba9
import Derived.Test.YtjahgimnfliooaaGreatDoorQ155bda
import Derived.Test.YtjahgimnfliooaaGreatDoorQb17bbc
import Derived.Test.YtjahgimnfliooaaGreatDoorQe56d57
import Derived.Deep.Heap
import Derived.Lib.Mul64
import Derived.BigQuiet
import Derived.Test.YtjahgimnfliooaaGreatDoorQe977ed
import Derived.Deep.RegionHeld3
set_option maxRecDepth 100000
set_option maxHeartbeats 25600000
namespace Go.Proofs.YtjahgimnfliooaaGreatDoor
set_option linter.unusedVariables false
section
open Go.RowKit
theorem DiscAt.lt {W:World} {b:Nat} {q:Nat→Bool} (h:DiscAt W b q):b < W.heap.size:=by obtain ⟨f,_,_,_,_,h⟩:=h; exact h
theorem DiscAt.block {W W':World} {b:Nat} {q:Nat→Bool} (h:DiscAt W b q) (hs:W.heap.size≤W'.heap.size) (hb:W'.heap[b]? =W.heap[b]?):DiscAt W' b q:=by
 obtain ⟨f,h1,h2,h3,h4,h5⟩:=h
 exact ⟨f,fun i hi=>(zzJ (w:=W) (a:=⟨b,i,none⟩) hb).trans (h1 i hi),fun i=>(zzM (w:=W) (a:=⟨b,i,none⟩) hb).trans (h2 i),h3,h4,zH h5 hs⟩
theorem DiscAt.eff {W W':World} {b:Nat} {q:Nat→Bool} {O:Blk} (h:DiscAt W b q) (hE:Eff O W W') (hn:¬O b):DiscAt W' b q:=h.block hE.size (hE.block b h.lt hn)
theorem DiscAt.congr {W:World} {b:Nat} {q q':Nat→Bool} (h:DiscAt W b q) (e:∀k,k < 86400→q k=q' k):DiscAt W b q':=by
 obtain ⟨f,h1,h2,h3,h4,h5⟩:=h
 exact ⟨f,h1,h2,h3,fun k hk=>(h4 k hk).trans (e k hk),h5⟩
theorem DiscAt.unique {W:World} {b:Nat} {q q':Nat→Bool} (h:DiscAt W b q) (h':DiscAt W b q') (k:Nat) (hk:k < 86400):q k=q' k:=by
 obtain ⟨f,h1,h2,h3,h4,h5⟩:=h
 obtain ⟨f',g1,g2,g3,g4,g5⟩:=h'
 rw [←h4 k hk,←g4 k hk,bitW,bitW]
 have e:=(h1 (k / 64) (by omega)).symm.trans (g1 (k / 64) (by omega))
 simp only [Option.some.injEq,Value.int.injEq,true_and] at e
 have e2:f (k / 64)=f' (k / 64):=by omega
 rw [e2]
theorem ydW (b:Nat) (q:Nat→Bool) (s:Int) (w:World) (hd:DiscAt w b q) :
  Calls Tryz.prog 188 #[.pointer (some ⟨b,0,none⟩), .slice (some ⟨w.heap.size,0,none⟩) 1 1] (w.alloc (.cells #[.int .i64 s] 3)) fun e w'=>(∃v,e= .returned v)∧DiscAt w' b (fun k=>q k || decide ((k:Int)=s))∧Eff (fun x=>x=b) w w':=by
 obtain ⟨W1,hW1⟩:∃W1,w.alloc (.cells #[.int .i64 s] 3)=W1:=⟨_,rfl⟩
 have hb:Below w.heap.size w W1:=by rw [←hW1]; exact yaa (Below.refl _ _) (zG _)
 have hsl:Sl W1 (some ⟨w.heap.size,0,none⟩) (ints [s]):=by
  refine .inr ⟨w.heap.size,0,rfl,by rw [←hW1]; simp,fun j hj=>?_⟩
  have:j=0:=by simp [ints] at hj; omega
  subst this
  rw [←hW1]; simp [go_sem,ints]
 rw [hW1]
 have hlt:=hd.lt
 obtain ⟨f,h1,h2,h3,h4,h5⟩:=hd.below hb hlt
 refine (Put_any b f (some ⟨w.heap.size,0,none⟩) 1 [s] W1 (by simp) hsl (fun _ g off e=>by cases e; omega) h1 h2 h3).mono fun e w' ⟨g1,g2,g3,g4⟩=>⟨⟨_,g1⟩,⟨_,g2,g3,putL_lt _ _ h3,fun k hk=>?_,by have:=g4.size; omega⟩,(Eff.of_below (O:=fun x=>x=b) hb).trans g4 (fun x hx=> .inl hx)⟩
 rw [yiT _ _ k hk,h4 k hk]; simp
def DiscO (W:World):Option Nat→(Nat→Bool)→Prop
 | none,q=>∀k,k < 86400→q k=false
 | some b,q=>DiscAt W b q
def dptr:Option Nat→Value
 | none=> .pointer none
 | some b=> .pointer (some ⟨b,0,none⟩)
theorem DiscO.v {W:World} {d:Option Nat} {q:Nat→Bool} (h:DiscO W d q):DiscV W d q∧dv d=dptr d:=by
 cases d with
 | none=>exact ⟨h,rfl⟩
 | some b=>obtain ⟨f,h1,h2,h3,h4,h5⟩:=h; exact ⟨⟨f,h1,h2,h3,h4,h5⟩,rfl⟩
theorem DiscO.congr {W:World} {d:Option Nat} {q q':Nat→Bool} (h:DiscO W d q) (e:∀k,k < 86400→q k=q' k):DiscO W d q':=by
 cases d with
 | none=>exact fun k hk=>(e k hk).symm.trans (h k hk)
 | some b=>exact DiscAt.congr h e
theorem ykI (b c:Nat) (q r:Nat→Bool) (w:World) (hd:DiscAt w b q) (hc:DiscAt w c r) (hne:c≠b) :
  Calls Tryz.prog 181 #[.pointer (some ⟨b,0,none⟩), .slice (some ⟨w.heap.size,0,none⟩) 1 1] (w.alloc (.cells #[.pointer (some ⟨c,0,none⟩)] 105)) fun e w'=>(∃v,e= .returned v)∧DiscAt w' b (fun k=>q k || r k)∧Eff (fun x=>x=b) w w':=by
 obtain ⟨W1,hW1⟩:∃W1,w.alloc (.cells #[.pointer (some ⟨c,0,none⟩)] 105)=W1:=⟨_,rfl⟩
 have hb:Below w.heap.size w W1:=by rw [←hW1]; exact yaa (Below.refl _ _) (zG _)
 have hbl:=hd.lt
 have hcl:=hc.lt
 obtain ⟨f,h1,h2,h3,h4,h5⟩:=hd.below hb hbl
 obtain ⟨g,g1,g2,g3,g4,g5⟩:=hc.below hb hcl
 have hsl:Sl W1 (some ⟨w.heap.size,0,none⟩) (dvs [(some c,g)]):=by
  refine .inr ⟨w.heap.size,0,rfl,by rw [←hW1]; simp,fun j hj=>?_⟩
  have:j=0:=by simp [dvs] at hj; omega
  subst this
  rw [←hW1]; simp [go_sem,dvs,dv]
 rw [hW1]
 refine (DJoin_any b f (some ⟨w.heap.size,0,none⟩) 1 [(some c,g)] W1 (by simp) hsl (fun _ x off e=>by cases e; omega) (fun d hd=>?_) ⟨h1,h2,h3,Eff.refl _ _⟩).mono fun e w' ⟨k1,k2⟩=>⟨k1,⟨_,k2.words,k2.free,k2.bd,fun k hk=>?_,by have:=k2.eff.size; omega⟩,(Eff.of_below (O:=fun x=>x=b) hb).trans k2.eff (fun x hx=> .inl hx)⟩
 ·rw [List.mem_singleton] at hd; subst hd
  exact ⟨g1,g3,fun x e=>by cases e; exact ⟨hne,g5⟩⟩
 ·show bitW (orL f [(some c,g)]) k= (q k || r k)
  rw [←h4 k hk,←g4 k hk]; simp [orL,bitW,Nat.testBit_or]
theorem sel_lenW (f:Nat→Nat) (q:Nat→Bool) (h:∀k,k < 86400→bitW f k=q k):lenW f 1350= (secL q).length:=by
 rw [←ygL,ygK,secL]
 exact congrArg List.length (ygR h)
theorem DLenO_any (d:Option Nat) (q:Nat→Bool) (w:World) (h:DiscO w d q):Calls Tryz.prog 102 #[dptr d] w fun e w'=>e= .returned (.int .i64 ((secL q).length:Nat))∧w=w':=by
 cases d with
 | none=>
   have e:(secL q).length=0:=by rw [secL,yf8 h]; rfl
   rw [e]
   show Calls Tryz.prog 102 #[.pointer none] w _
   go_enter Tryz.func102,Tryz.ntmps102
   go_wp2
   go_ret
   exact ⟨rfl,rfl⟩
 | some b=>
   obtain ⟨f,h1,h2,h3,h4,h5⟩:=h
   rw [←sel_lenW f q h4]
   exact DLen_any b f w h1 h3
theorem yfY (d:Option Nat) (q:Nat→Bool) (s:Int) (w:World) (h1:0≤s) (hs1:s≤9223372036854775807) (hT:Tab w) (h:DiscO w d q) :
  Calls Tryz.prog 75 #[dptr d, .int .i64 s] w fun r w'=>(∃n ok,r= .returned (.tuple #[.int .i64 n, .bool ok])∧FirstOf (fun k=>q k && decide (s≤k)) n ok)∧w=w':=by
 cases d with
 | none=>
   show Calls Tryz.prog 75 #[.pointer none, .int .i64 s] w _
   have hno:Hid (FirstOf (fun k=>q k && decide (s≤k)) 0 false):= .inr ⟨rfl,rfl,fun k hk=>by show (q k && _)=false; rw [h k hk]; rfl⟩
   have hmx:max s 0=s:=by omega
   clear h hT hs1
   go_enter Tryz.func75,Tryz.ntmps75
   go_wp2
   go_ret2
   exact ⟨⟨_,_,rfl,hno.out⟩,rfl⟩
 | some b=>
   by_cases h0:86400≤s
   ·show Calls Tryz.prog 75 #[.pointer (some ⟨b,0,none⟩), .int .i64 s] w _
    have hno:Hid (FirstOf (fun k=>q k && decide (s≤k)) 0 false):= .inr ⟨rfl,rfl,fun k hk=>by show (q k && _)=false; rw [zzd (by omega),Bool.and_false]⟩
    have c1:=hid (yeI s w)
    have hd:ydf s=false:=by rw [ydf,zzd (show¬s < 86400 by omega),Bool.and_false]
    rw [hd] at c1
    have hmx:max s 0=s:=by omega
    have hs2:0 < s:=by omega
    clear h hT hs1 hd
    go_enter Tryz.func75,Tryz.ntmps75
    go_wp2_with fail
    refine c1.out.mono ?_
    rintro e w' ⟨rfl,rfl⟩
    go_wp2
    go_ret2
    exact ⟨⟨_,_,rfl,hno.out⟩,rfl⟩
   ·obtain ⟨k,rfl⟩:∃k:Nat,s=k:=⟨s.toNat,by omega⟩
    refine (ykF b q k w (by omega) hT h).mono fun e w' ⟨⟨n,ok,he,hf⟩,hw⟩=>⟨⟨n,ok,he,hf.congr fun j hj=>?_⟩,hw⟩
    simp
end
section
open Go.RowKit
theorem yeG (hs ms ss:Nat) (w:World) (hh:hs < 18446744073709551616) (hm:ms < 18446744073709551616) (hss:ss < 18446744073709551616) :
  Calls Tryz.prog 194 #[.int .u64 hs, .int .u64 ms, .int .u64 ss] w fun e w'=>e= .returned (.func (.func 196) #[] #[.pointer (some ⟨w.heap.size,0,none⟩), .pointer (some ⟨w.heap.size+1,0,none⟩), .pointer (some ⟨w.heap.size+2,0,none⟩)])∧
   w'.cell? ⟨w.heap.size,0,none⟩=some (.int .u64 (cutM hs 23))∧w'.cell? ⟨w.heap.size+1,0,none⟩=some (.int .u64 (cutM ms 59))∧w'.cell? ⟨w.heap.size+2,0,none⟩=some (.int .u64 (cutM ss 59))∧
   Below w.heap.size w w'∧w'.heap.size=w.heap.size+3:=by
 have c1:=hid (fun W=>Held_any hs ms ss W hh hm hss)
 go_enter Tryz.func194,Tryz.ntmps194
 go_wp2_with fail
 refine (c1.out _).mono ?_
 rintro e w' ⟨rfl,rfl⟩
 go_wp2
 go_ret
 refine ⟨rfl,by simp [go_sem],by simp [go_sem],by simp [go_sem],?_,by simp [go_sem]⟩
 exact yaa (yaa (yaa (Below.refl _ _) (zG _)) (by simp)) (by simp; omega)
theorem ycW (args:Array Value) (w:World):(callFunc 196 args).run Tryz.prog w= .ok (.enter 196 args) w:=by simp [go_sem]
theorem ycV (hs ms ss bh bm bs:Nat) (Ow:Nat→Prop) (w:World) (hh:hs < 18446744073709551616) (hm:ms < 18446744073709551616) (hss:ss < 18446744073709551616)
  (lh:bh < w.heap.size) (lm:bm < w.heap.size) (ls:bs < w.heap.size) (nh:¬Ow bh) (nm:¬Ow bm) (ns:¬Ow bs)
  (ch:w.cell? ⟨bh,0,none⟩=some (.int .u64 (cutM hs 23))) (cm:w.cell? ⟨bm,0,none⟩=some (.int .u64 (cutM ms 59))) (cs:w.cell? ⟨bs,0,none⟩=some (.int .u64 (cutM ss 59))) (hT:Tab w) (hTO:¬Ow 0) :
  yjn Tryz.prog 196 #[.pointer (some ⟨bh,0,none⟩), .pointer (some ⟨bm,0,none⟩), .pointer (some ⟨bs,0,none⟩)] (ybt hs ms ss) Ow w:=by
 intro y J Jx O W hO hB hC hJ
 have no:∀b,b < w.heap.size→¬Ow b→¬O b:=fun b hb hn h=>by
  rcases hO b h with h1 | h1
  ·exact hn h1
  ·omega
 exact yil (cutM hs 23) (cutM ms 59) (cutM ss 59) bh bm bs y J Jx O W (yie 23 hh) (yie 59 hm) (yie 59 hss) hC hJ (zH lh hB.size) (zH lm hB.size) (zH ls hB.size)
  (no _ lh nh) (no _ lm nm) (no _ ls ns) ((hB.cell (p:=⟨bh,0,none⟩) lh).trans ch) ((hB.cell (p:=⟨bm,0,none⟩) lm).trans cm) ((hB.cell (p:=⟨bs,0,none⟩) ls).trans cs) (hT.later hB) (no _ hT.1 hTO)
theorem ygr {m:Nat} {t n:Int} (hm:m < 18446744073709551616) (h0:0≤n) (h1:n≤t) (h2:t < 64):n∈sel (cutM m t).testBit 64↔hasB m n=true:=by
 obtain ⟨k,rfl⟩:∃k:Nat,n=k:=⟨n.toNat,by omega⟩
 rw [hasB_spec hm,yh7,yh7]
 constructor
 ·rintro ⟨j,hj,hb,e⟩
  obtain rfl:k=j:=by omega
  rw [yfl,zzX] at hb
  exact ⟨k,hj,hb.1,rfl⟩
 ·rintro ⟨j,hj,hb,e⟩
  obtain rfl:k=j:=by omega
  exact ⟨k,hj,by rw [yfl,hb,zzZ hj,zzZ h1]; rfl,rfl⟩
theorem yc0 {hs ms ss:Nat} (hh:hs < 18446744073709551616) (hm:ms < 18446744073709551616) (hss:ss < 18446744073709551616) {k:Int} (h0:0≤k) (h1:k < 86400):k∈ybt hs ms ss↔ybl k hs ms ss=true:=by
 have hd:dayB k=true:=by simp only [dayB,zzY]; omega
 rw [ybt,mem_secs,ybl,hd,zzo,zzX,zzX]
 rw [←ygr (t:=23) hh (by omega) (by omega) (by omega),←ygr (t:=59) hm (by omega) (by omega) (by omega),←ygr (t:=59) hss (by omega) (by omega) (by omega)]
 constructor
 ·rintro ⟨h,m,s,g1,g2,g3,rfl⟩
  have b1:=ycc hs 23 g1
  have b2:=ycc ms 59 g2
  have b3:=ycc ss 59 g3
  refine ⟨?_,?_,?_⟩
  ·rw [show (3600 * h+60 * m+s) / 3600=h by omega]; exact g1
  ·rw [show (3600 * h+60 * m+s) / 60 % 60=m by omega]; exact g2
  ·rw [show (3600 * h+60 * m+s) % 60=s by omega]; exact g3
 ·rintro ⟨g1,g2,g3⟩
  exact ⟨_,_,_,g1,g2,g3,by omega⟩
end
section
open Go.ChangeShapes Go.WideShapes Go.ChangeAt Go.RowKit
theorem yiX {k:Leaf} {ks:List Leaf}:∀{cs:List Value},oks (k :: ks) cs→∃v vs,cs=v :: vs∧k.ok v∧oks ks vs
 | [],h=>h.elim
 | v :: vs,h=>⟨v,vs,rfl,h.1,h.2⟩
theorem oks_nil:∀{cs:List Value},oks [] cs→cs= []
 | [],_=>rfl
 | _ :: _,h=>h.elim
theorem ok_i {v:Value} (h:Leaf.ok (.int .i64) v):∃n,v= .int .i64 n∧i64B n:=by
 obtain ⟨n,e,h⟩:=h
 exact ⟨n,e,wf_i64 h⟩
end
section
open Go.ChangeShapes Go.WideShapes Go.ChangeAt Go.RowKit
theorem oks_two {k k':IntKind} {cs:List Value} (h:oks [.int k, .int k'] cs):∃x y:Int,cs= [.int k x, .int k' y]∧(Lit.int k x).wf=true∧(Lit.int k' y).wf=true:=by
 obtain ⟨_,_,rfl,⟨x,rfl,g1⟩,h1⟩:=yiX h
 obtain ⟨_,_,rfl,⟨y,rfl,g2⟩,h2⟩:=yiX h1
 obtain rfl:=oks_nil h2
 exact ⟨x,y,rfl,g1,g2⟩
def cls (l:List Cl):List Value:=l.flatMap yac
theorem yfR (l:List Cl):(cls l).length=l.length * 30:=by
 induction l with
 | nil=>rfl
 | cons c l ih=>
   rw [show cls (c :: l)=yac c ++ cls l by simp [cls],List.length_append,ih]
   simp only [List.length_cons,List.length_nil]
   omega
end
section
open Go.RowKit
def DCS (W:World) (lo hi:Nat) (c:Cl) (x1 x2:Nat):Prop:=
 ∀(n:Int) (W':World),0≤n→n < 146097→hi≤W'.heap.size→(∀b,lo≤b→b < hi→W'.heap[b]? =W.heap[b]?)→
  Calls Tryz.prog 137 #[shN n, .pointer (some ⟨x1,0,none⟩), .pointer (some ⟨x2,0,none⟩)] W' fun e w'=>e= .returned (.bool (dayC c n))∧Below W'.heap.size W' w'
theorem UDV.blocks {W W':World} {lo:Nat} {u s a:Int} {fv:Value} (h:UDV W lo u s a fv) (hs:W.heap.size≤W'.heap.size) (hb:∀b,lo≤b→b < W.heap.size→W'.heap[b]? =W.heap[b]?):UDV W' lo u s a fv:=by
 rcases h with h | h | ⟨h1,h2,h3,b3,b7,b4,h4,h5,h6,h7,h8⟩
 ·exact .inl h
 ·exact .inr (.inl h)
 ·refine .inr (.inr ⟨h1,h2,h3,b3,b7,b4,h4,h5.keep hs (fun b hb'=>?_),h6,h7,h8⟩)
  rcases hb' with rfl | rfl | rfl
  ·exact hb _ h6 h5.l3
  ·exact hb _ h7 h5.l7
  ·exact hb _ h8 h5.l4
theorem CDV.dcs {W:World} {lo:Nat} {c:Cl} {fv:Value} (h:CDV W lo c fv) (hm:mayC c=true) (hc:c.Ok) :
  ∃x1 x2:Nat,fv= .func (.func 137) #[] #[.pointer (some ⟨x1,0,none⟩), .pointer (some ⟨x2,0,none⟩)]∧DCS W lo W.heap.size c x1 x2:=by
 rcases h with ⟨h,-⟩ | ⟨-,b1,b2,v,rfl,hcl,l1,hv,l2,o1,o2,hu⟩
 ·rw [hm] at h; cases h
 ·refine ⟨b1,b2,rfl,fun n W' h0 h1 hs hb=>?_⟩
  rw [dayC,hm,zzo]
  have e1:ClB W' b1 c:=fun j x hx=>(zzJ (w:=W) (a:=⟨b1,0+j,none⟩) (hb b1 o1 l1)).trans (hcl j x hx)
  have e2:W'.cell? ⟨b2,0,none⟩=some v:=(zzJ (w:=W) (a:=⟨b2,0,none⟩) (hb b2 o2 l2)).trans hv
  exact CD2_any c n b1 b2 lo v W' hc (ycI hm).1 h0 h1 e1 (by omega) e2 (by omega) (hu.blocks hs hb)
theorem DCS.call {W W':World} {lo hi:Nat} {c:Cl} {x1 x2:Nat} (h:DCS W lo hi c x1 x2) (hs:hi≤W'.heap.size) (hb:∀b,lo≤b→b < hi→W'.heap[b]? =W.heap[b]?):DCS W' lo hi c x1 x2:=
 fun n X h0 h1 hX hbX=>h n X h0 h1 hX (fun b h2 h3=>(hbX b h2 h3).trans (hb b h2 h3))
theorem DCS.below {W W':World} {lo hi:Nat} {c:Cl} {x1 x2:Nat} (h:DCS W lo hi c x1 x2) (hs:hi≤W.heap.size) (hb:Below W.heap.size W W'):DCS W' lo hi c x1 x2:=
 h.call (zI hs hb.size) (fun b _ h2=>hb.block b (by omega))
theorem DCS.set {W:World} {lo hi b o:Nat} {v:Value} {c:Cl} {x1 x2:Nat} (h:DCS W lo hi c x1 x2) (hs:hi≤W.heap.size) (hb:b < lo∨hi≤b):DCS (W.setCell ⟨b,o,none⟩ v) lo hi c x1 x2:=
 h.call (by rw [World.size_setCell]; exact hs) (fun k h1 h2=>by
  exact Go.Deep.blk_setCell_other W ⟨b,o,none⟩ v k (by show¬k=b; omega))
end
section
open Go.RowKit
theorem cls_get (l:List Cl):∀(k:Nat) (hk:k < l.length) (i:Nat) (hi:i < 30),(cls l)[k * 30+i]? = (yac l[k])[i]?:=by
 induction l with
 | nil=>intro k hk; simp at hk
 | cons c l ih=>
   intro k hk i hi
   rw [show cls (c :: l)=yac c ++ cls l by simp [cls]]
   cases k with
   | zero=>
     rw [Nat.zero_mul,zzn,List.getElem?_append_left (by exact hi)]
     rfl
   | succ k=>
     rw [List.getElem?_append_right (by show 30≤_; omega),show (k+1) * 30+i - (yac c).length=k * 30+i by show (k+1) * 30+i - 30= _; omega,ih k (by simp at hk; omega) i hi]
     rfl
theorem Sl.atCl {w:World} {a:Option Addr} {l:List Cl} (h:Sl w a (cls l)) {k:Nat} (hk:k < l.length) :
  ∃b off,a=some ⟨b,off,none⟩∧b < w.heap.size∧w.rangeAt b (off+k * 30) (yac l[k]):=by
 obtain ⟨b,off,rfl,hlt,hc⟩:=Sl.at h (k:=k * 30) (by rw [yfR]; omega)
 refine ⟨b,off,rfl,hlt,fun j v hv=>?_⟩
 have hj:j < 30:=(zzq.1 hv).1
 rw [←cls_get l k hk j hj] at hv
 obtain ⟨h1,h2⟩:=zzq.1 hv
 rw [Nat.add_assoc,hc _ h1,h2]
theorem yjZ {W:World} {b o:Nat} {c:Cl} (h:W.rangeAt b o (yac c)):(ybi (.pointer (some ⟨b,o,none⟩))).run Tryz.prog W= .ok (clv c) W:=
 run_loadAt_mid W b o 34 (yac c) _ h Tryz.underlying34 rfl ydh
theorem ybS {W W':World} {b o B:Nat} {cs:List Value} (h:W.rangeAt b o cs) (hb:Below B W W') (hB:b < B):W'.rangeAt b o cs:=fun j v hv=>(hb.cell (p:=⟨b,o+j,none⟩) hB).trans (h j v hv)
theorem yaN (b:Nat):∀(vs:List Value) (o:Nat) (W:World),(W.setCells b o vs).heap.size=W.heap.size
 | [],_,_=>rfl
 | v :: vs,o,W=>by rw [World.setCells,yaN b vs (o+1),World.size_setCell]
theorem yby (W:World) (b:Nat) (cs:List Value):yas W b cs=W.setCells b 0 cs:=rfl
end
section
open Go.RowKit
theorem ygE (a b:Int) (w:World) (ha:i64B a) (hb:1≤b) (hb2:i64B b):Calls Tryz.prog 118 #[.int .i64 a, .int .i64 b] w fun e w'=>e= .returned (.int .i64 (a % b))∧w=w':=by
 obtain ⟨h0,h1⟩:=ha
 obtain ⟨h2,h3⟩:=hb2
 have hbn:¬b=0:=by omega
 have hm:a % b=if a.tmod b < 0 then a.tmod b+b else a.tmod b:=by
  rw [Int.tmod_eq_emod]
  have h4:=Int.emod_nonneg a (show b≠0 by omega)
  have h5:=Int.emod_lt_of_pos a (show 0 < b by omega)
  split <;> split <;> omega
 have h4:=Int.emod_nonneg a (show b≠0 by omega)
 have h5:=Int.emod_lt_of_pos a (show 0 < b by omega)
 rw [hm] at h4 h5⊢
 clear hm
 obtain ⟨r,hr⟩:∃r,a.tmod b=r:=⟨_,rfl⟩
 have Hr:=hid hr
 by_cases hr0:r < 0
 ·rw [hr,if_pos hr0] at h4 h5⊢
  have hw:=hid (w64 (r+b) (by omega))
  clear h4 h5
  go_enter Tryz.func118,Tryz.ntmps118
  go_wp2
  go_ret
  exact ⟨by rw [hw.out]; rfl,rfl⟩
 ·rw [hr,if_neg hr0] at h4 h5⊢
  clear h4 h5
  go_enter Tryz.func118,Tryz.ntmps118
  go_wp2
  go_ret
  exact ⟨rfl,rfl⟩
end
section
open Go.RowKit
theorem yjs (n s:Int) (w:World) (h0:0≤n) (h1:n < 146097) (h2:0≤s) (h3:s < 86400):Calls Tryz.prog 178 #[.int .i64 n, .int .i64 s] w fun e w'=>e= .returned (.tuple #[.int .i64 (n * 86400+s), .bool true])∧w=w':=by
 have hm:=IntWalk.i64_in (n * 86400) (by omega)
 have ha:=IntWalk.i64_in (n * 86400+s) (by omega)
 go_enter Tryz.func178,Tryz.ntmps178
 go_wp2
 go_ret2
 exact ⟨rfl,rfl⟩
theorem SDay_any (n:Int) (w:World) (h0:0≤n) (h1:n < 146097):Calls Tryz.prog 177 #[.int .i64 n] w fun e w'=>e= .returned (spv (86400 * n) (86400 * n+86399))∧Below w.heap.size w w':=by
 have c1:=hid (fun W=>yjs n 0 W h0 h1 (by omega) (by omega))
 rw [show n * 86400+0=86400 * n by omega] at c1
 obtain ⟨d,hd⟩:∃d,86400 * n=d:=⟨_,rfl⟩
 rw [hd] at c1⊢
 have hd0:0≤d:=by omega
 have hd1:d < 12622780800:=by omega
 clear hd h0 h1
 go_enter Tryz.func177,Tryz.ntmps177
 go_wp2_with fail
 refine (c1.out _).mono ?_
 rintro e w' ⟨rfl,rfl⟩
 go_wp2
 exact bodyPost_ret (yad rfl _ _ w.heap.size 0 _ _ rfl (yau w _ _) Tryz.underlying84 rfl yfd) rfl ⟨ret_sp rfl (by omega),yaa (Below.refl _ _) (zG _)⟩
theorem yjx {u t:Int} (hu:unB u=true) (ht:winB t=true):yaZ u t=true:=by rw [yaZ,hu,ht]; rfl
theorem Phase_any (u s a n:Int) (w:World) (hu:unB u=true) (ha:winB a=true) (hs:1≤s) (hs2:i64B s) (h0:0≤n) (h1:n < 146097) (hz:0 < yav u) :
  Calls Tryz.prog 149 #[.int .i64 u, .int .i64 s, .int .i64 a, .int .i64 n] w fun e w'=>e= .returned (.int .i64 ((yaM u a - 86400 * n / yav u) % s))∧Below w.heap.size w w':=by
 have c1:=hid (fun W=>yc9 u a W)
 rw [(yjx hu ha)] at c1
 have c2:=hid (fun W=>yjs n 0 W h0 h1 (by omega) (by omega))
 rw [show n * 86400+0=86400 * n by omega] at c2
 have c3:=hid (fun W=>ydR u W)
 obtain ⟨d,hd⟩:∃d,86400 * n=d:=⟨_,rfl⟩
 rw [hd] at c2⊢
 have hb:=ydz u a
 obtain ⟨x,hx⟩:∃x,yaM u a=x:=⟨_,rfl⟩
 rw [hx] at c1 hb⊢
 have hd0:0≤d:=by omega
 have hd1:d < 12622780800:=by omega
 have hz3:yav u=1∨yav u=60∨yav u=3600:=by
  unfold yav at hz⊢
  split
  ·exact .inl rfl
  ·split
   ·exact .inr (.inl rfl)
   ·split
    ·exact .inr (.inr rfl)
    ·rename_i a1 a2 a3; rw [if_neg a1,if_neg a2,if_neg a3] at hz; omega
 clear hx hd hu ha h0 h1 hz
 rcases hz3 with hz | hz | hz
 all_goals
  rw [hz] at c3⊢
  clear hz
 ·have c4:=hid (fun W=>ygE (x - d) s W ⟨by omega,by omega⟩ hs hs2)
  rw [show d / 1=d by omega]
  have hw:=IntWalk.i64_in (x - d) (by omega)
  go_enter Tryz.func149,Tryz.ntmps149
  go_wp2_with fail
  refine (c1.out _).mono ?_
  rintro e w1 ⟨rfl,hB1⟩
  have HB1:=hid hB1
  clear hB1
  go_wp2_with fail
  refine (c2.out _).mono ?_
  rintro e w' ⟨rfl,rfl⟩
  go_wp2_with fail
  refine (c3.out _).mono ?_
  rintro e w2 ⟨rfl,hB2⟩
  have HB2:Hid (Below w.heap.size w w2):=HB1.out.trans (hB2.mono HB1.out.size)
  clear hB2
  go_wp2_with fail
  with_reducible refine (c4.out _).mono ?_
  rintro e w' ⟨rfl,rfl⟩
  go_wp2
  go_ret
  exact ⟨rfl,HB2.out⟩
 ·have c4:=hid (fun W=>ygE (x - d / 60) s W ⟨by omega,by omega⟩ hs hs2)
  have hw:=IntWalk.i64_in (x - d / 60) (by omega)
  go_enter Tryz.func149,Tryz.ntmps149
  go_wp2_with fail
  refine (c1.out _).mono ?_
  rintro e w1 ⟨rfl,hB1⟩
  have HB1:=hid hB1
  clear hB1
  go_wp2_with fail
  refine (c2.out _).mono ?_
  rintro e w' ⟨rfl,rfl⟩
  go_wp2_with fail
  refine (c3.out _).mono ?_
  rintro e w2 ⟨rfl,hB2⟩
  have HB2:Hid (Below w.heap.size w w2):=HB1.out.trans (hB2.mono HB1.out.size)
  clear hB2
  go_wp2_with fail
  with_reducible refine (c4.out _).mono ?_
  rintro e w' ⟨rfl,rfl⟩
  go_wp2
  go_ret
  exact ⟨rfl,HB2.out⟩
 ·have c4:=hid (fun W=>ygE (x - d / 3600) s W ⟨by omega,by omega⟩ hs hs2)
  have hw:=IntWalk.i64_in (x - d / 3600) (by omega)
  go_enter Tryz.func149,Tryz.ntmps149
  go_wp2_with fail
  refine (c1.out _).mono ?_
  rintro e w1 ⟨rfl,hB1⟩
  have HB1:=hid hB1
  clear hB1
  go_wp2_with fail
  refine (c2.out _).mono ?_
  rintro e w' ⟨rfl,rfl⟩
  go_wp2_with fail
  refine (c3.out _).mono ?_
  rintro e w2 ⟨rfl,hB2⟩
  have HB2:Hid (Below w.heap.size w w2):=HB1.out.trans (hB2.mono HB1.out.size)
  clear hB2
  go_wp2_with fail
  with_reducible refine (c4.out _).mono ?_
  rintro e w' ⟨rfl,rfl⟩
  go_wp2
  go_ret
  exact ⟨rfl,HB2.out⟩
theorem yae {W:World} {p q:Addr} {v:Value}:(W.setCell p v).frozen? q=W.frozen? q:=by
 have:=World.frozen?_setCells p.block [v] p.off W
 simp [go_sem]
end
section
open Go.RowKit
abbrev CtS (w:World) (W:World):Prop:=Below w.heap.size w W∧w.heap.size < W.heap.size
theorem CtS.keep {w W W':World} (h:CtS w W) (hb:Below W.heap.size W W'):CtS w W':=⟨h.1.trans (hb.mono (Nat.le_of_lt h.2)),zH h.2 hb.size⟩
end
section
open Go.RowKit
attribute [local go_sem ↓] yaC
abbrev stv (b:Bool) (f u p:Int):Value:= .agg #[.bool b, .int .i64 f, .int .i64 u, .int .i64 p]
def ycH (c:Cl) (n:Int):Int:=if 1 < c.step∧0 < yav c.unit then (yaM c.unit c.anchor - 86400 * n / yav c.unit) % c.step else 0
theorem ycO:(Tryz.prog.info? 203).map (·.size)=some 4:=by kernel_rfl
abbrev Four (W:World) (b:Nat) (v0 v1 v2 v3:Value):Prop:=
 (W.cell? ⟨b,0,none⟩=some v0∧W.cell? ⟨b,1,none⟩=some v1∧W.cell? ⟨b,2,none⟩=some v2∧W.cell? ⟨b,3,none⟩=some v3)∧(W.frozen? ⟨b,0,none⟩=false∧W.frozen? ⟨b,1,none⟩=false∧W.frozen? ⟨b,2,none⟩=false∧W.frozen? ⟨b,3,none⟩=false)
theorem Four.below {W W':World} {b B:Nat} {v0 v1 v2 v3:Value} (h:Four W b v0 v1 v2 v3) (hb:Below B W W') (hB:b < B):Four W' b v0 v1 v2 v3:=by
 obtain ⟨⟨a0,a1,a2,a3⟩,f0,f1,f2,f3⟩:=h
 exact ⟨⟨(hb.cell (p:=⟨b,0,none⟩) hB).trans a0,(hb.cell (p:=⟨b,1,none⟩) hB).trans a1,(hb.cell (p:=⟨b,2,none⟩) hB).trans a2,(hb.cell (p:=⟨b,3,none⟩) hB).trans a3⟩,
  (hb.frozen (p:=⟨b,0,none⟩) hB).trans f0,(hb.frozen (p:=⟨b,1,none⟩) hB).trans f1,(hb.frozen (p:=⟨b,2,none⟩) hB).trans f2,(hb.frozen (p:=⟨b,3,none⟩) hB).trans f3⟩
theorem ybN (w:World) (v0 v1 v2 v3:Value) (t:TypeId):Four (w.alloc (.cells #[v0,v1,v2,v3] t)) w.heap.size v0 v1 v2 v3:=by
 refine ⟨⟨?_,?_,?_,?_⟩,?_,?_,?_,?_⟩ <;> simp [go_sem]
theorem Four.set1 {W:World} {b:Nat} {v0 v1 v2 v3:Value} (h:Four W b v0 v1 v2 v3) (x y:Value):Four ((W.setCell ⟨b,1,none⟩ x).setCell ⟨b,2,none⟩ y) b v0 x y v3:=by
 obtain ⟨⟨a0,a1,a2,a3⟩,f0,f1,f2,f3⟩:=h
 have ne:∀i j:Nat,i≠j→(⟨b,i,none⟩:Addr)≠⟨b,j,none⟩:=fun i j hij e=>by injection e with _ e _; exact hij e
 refine ⟨⟨?_,?_,?_,?_⟩,by rw [yae,yae]; exact f0,by rw [yae,yae]; exact f1,by rw [yae,yae]; exact f2,by rw [yae,yae]; exact f3⟩
 ·rw [zzL _ _ _ _ (ne 2 0 (by omega)),zzL _ _ _ _ (ne 1 0 (by omega))]; exact a0
 ·rw [zzL _ _ _ _ (ne 2 1 (by omega))]; exact zzW _ _ _ a1
 ·exact zzW _ _ _ (by rw [zzL _ _ _ _ (ne 1 2 (by omega))]; exact a2)
 ·rw [zzL _ _ _ _ (ne 2 3 (by omega)),zzL _ _ _ _ (ne 1 3 (by omega))]; exact a3
theorem Four.put {W:World} {b:Nat} {v0 v1 v2 v3:Value} (h:Four W b v0 v1 v2 v3) (x0 x1 x2 x3:Value):((((W.setCell ⟨b,0,none⟩ x0).setCell ⟨b,1,none⟩ x1).setCell ⟨b,2,none⟩ x2).setCell ⟨b,3,none⟩ x3).rangeAt b 0 [x0,x1,x2,x3]:=by
 obtain ⟨⟨a0,a1,a2,a3⟩,f0,f1,f2,f3⟩:=h
 exact World.rangeAt_setCells_same W b 0 [x0,x1,x2,x3] (fun j hj=>by
  have hj4:j=0∨j=1∨j=2∨j=3:=by have:j < 4:=hj; omega
  rcases hj4 with rfl | rfl | rfl | rfl
  ·exact ⟨by show (W.cell? ⟨b,0,none⟩).isSome=true; rw [a0]; rfl,f0⟩
  ·exact ⟨by show (W.cell? ⟨b,1,none⟩).isSome=true; rw [a1]; rfl,f1⟩
  ·exact ⟨by show (W.cell? ⟨b,2,none⟩).isSome=true; rw [a2]; rfl,f2⟩
  ·exact ⟨by show (W.cell? ⟨b,3,none⟩).isSome=true; rw [a3]; rfl,f3⟩)
end
section
open Go.RowKit
attribute [local go_sem ↓] yaC
attribute [local go_sem] ydk
abbrev LaS (w:World) (c:Cl) (W:World):Prop:=
 (ybi (.pointer (some ⟨w.heap.size,0,none⟩))).run Tryz.prog W= .ok (clv c) W∧ClB W w.heap.size c∧Below w.heap.size w W∧w.heap.size < W.heap.size
theorem LaS.of {w W:World} {c:Cl} (h:ClB W w.heap.size c) (hb:Below w.heap.size w W) (hs:w.heap.size < W.heap.size):LaS w c W:=⟨h.ld,h,hb,hs⟩
theorem LaS.keep {w W W':World} {c:Cl} (h:LaS w c W) (hb:Below W.heap.size W W'):LaS w c W':=
 LaS.of (h.2.1.below hb h.2.2.2) (h.2.2.1.trans (hb.mono (Nat.le_of_lt h.2.2.2))) (zH h.2.2.2 hb.size)
theorem LaS.set {w W:World} {c:Cl} {b o:Nat} {v:Value} (h:LaS w c W) (hb:w.heap.size < b):LaS w c (W.setCell ⟨b,o,none⟩ v):=
 LaS.of (fun j x hx=>by
  rw [zzL _ _ _ _ (by intro e; injection e with e _ _; omega)]
  exact h.2.1 j x hx) (yab h.2.2.1 (Nat.le_of_lt hb)) (by rw [World.size_setCell]; exact h.2.2.2)
structure B1 (w W:World) (b:Nat) (v:Value):Prop where
 c:W.cell? ⟨b,0,none⟩=some v
 f:W.frozen? ⟨b,0,none⟩=false
 l:b < W.heap.size
 g:w.heap.size < b
structure B2 (w W:World) (b:Nat) (v u:Value):Prop where
 c:W.cell? ⟨b,0,none⟩=some v∧W.cell? ⟨b,1,none⟩=some u
 f:W.frozen? ⟨b,0,none⟩=false∧W.frozen? ⟨b,1,none⟩=false
 l:b < W.heap.size
 g:w.heap.size < b
theorem B1.below {w W W':World} {b:Nat} {v:Value} (h:B1 w W b v) (hb:Below W.heap.size W W'):B1 w W' b v:=
 ⟨(hb.cell (p:=⟨b,0,none⟩) h.l).trans h.c,(hb.frozen (p:=⟨b,0,none⟩) h.l).trans h.f,zH h.l hb.size,h.g⟩
theorem B2.below {w W W':World} {b:Nat} {v u:Value} (h:B2 w W b v u) (hb:Below W.heap.size W W'):B2 w W' b v u:=
 ⟨⟨(hb.cell (p:=⟨b,0,none⟩) h.l).trans h.c.1,(hb.cell (p:=⟨b,1,none⟩) h.l).trans h.c.2⟩,⟨(hb.frozen (p:=⟨b,0,none⟩) h.l).trans h.f.1,(hb.frozen (p:=⟨b,1,none⟩) h.l).trans h.f.2⟩,zH h.l hb.size,h.g⟩
theorem ydO {w W:World} (v:Value) (t:TypeId) (h:w.heap.size < W.heap.size):B1 w (W.alloc (.cells #[v] t)) W.heap.size v:=⟨by simp [go_sem],by simp [go_sem],by simp,h⟩
theorem ydN {w W:World} (v u:Value) (t:TypeId) (h:w.heap.size < W.heap.size):B2 w (W.alloc (.cells #[v,u] t)) W.heap.size v u:=⟨⟨by simp [go_sem],by simp [go_sem]⟩,⟨by simp [go_sem],by simp [go_sem]⟩,by simp,h⟩
end
section
open Go.RowKit
attribute [local go_sem] Oper.semAt_some
def LpI (bd:Nat) (p:Int→Bool) (l:List Int):OwnP:=fun k O W=>(∀b,O b↔b=bd)∧DiscAt W bd (memD ((l.take k).filter p))
theorem yi3 (bd:Nat) (p:Int→Bool) (l:List Int):ybD (LpI bd p l):=fun k O W W' h hs hO=>⟨h.1,h.2.block hs (hO bd ((h.1 bd).mpr rfl))⟩
theorem lpI_lt (bd:Nat) (p:Int→Bool) (l:List Int):LtO (LpI bd p l):=fun k O W h b hb=>by rw [(h.1 b).mp hb]; exact h.2.lt
theorem DiscAt.more {W W':World} {bd:Nat} {p:Int→Bool} {l:List Int} {k:Nat} {x:Int} (hx:l[k]? =some x) (hp:p x=true) (h:DiscAt W' bd (fun j=>memD ((l.take k).filter p) j || decide ((j:Int)=x))) :
  DiscAt W' bd (memD ((l.take (k+1)).filter p)):=by
 obtain ⟨hk,rfl⟩:=zzq.1 hx
 refine h.congr fun j hj=>?_
 rw [yam l k hk,List.filter_append,memD,memD,zze,Bool.or_eq_true,zzY,zzY,zzY,List.mem_append]
 simp [hp]
theorem DiscAt.same {W:World} {bd:Nat} {p:Int→Bool} {l:List Int} {k:Nat} {x:Int} (hx:l[k]? =some x) (hp:p x=false) (h:DiscAt W bd (memD ((l.take k).filter p))) :
  DiscAt W bd (memD ((l.take (k+1)).filter p)):=by
 obtain ⟨hk,rfl⟩:=zzq.1 hx
 have e:(l.take (k+1)).filter p= (l.take k).filter p:=by rw [yam l k hk,List.filter_append]; simp [hp]
 rw [e]; exact h
theorem ykc {l:List Int} {f u:Int} {k:Nat} {x:Int} (hr:l.Pairwise (·< ·)) (hx:l[k]? =some x) (hu:u < x):(l.take k).filter (betB f u)=l.filter (betB f u):=by
 obtain ⟨hk,rfl⟩:=zzq.1 hx
 have e:l.filter (betB f u)= (l.take k).filter (betB f u) ++ (l.drop k).filter (betB f u):=by rw [←List.filter_append,List.take_append_drop]
 have e2:(l.drop k).filter (betB f u)= []:=by
  rw [List.filter_eq_nil_iff]
  intro y hy
  rw [List.drop_eq_getElem_cons hk] at hy
  have hge:l[k]≤y:=by
   rcases List.mem_cons.1 hy with h | h
   ·omega
   ·have hp:(l[k] :: l.drop (k+1)).Pairwise (·< ·):=by rw [←List.drop_eq_getElem_cons hk]; exact hr.sublist (List.drop_sublist _ _)
    have:=(List.pairwise_cons.1 hp).1 y h
    omega
  rw [betB]; simp; omega
 rw [e,e2,List.append_nil]
def ybA (c:Cl) (f u:Int) (k:Nat):Bool:=ybl k (c.m 2) (c.m 1) (c.m 0) && betB f u k
theorem plain_mem (c:Cl) (f u:Int) (hc:c.Ok) (k:Nat) (hk:k < 86400):memD ((ybt (c.m 2) (c.m 1) (c.m 0)).filter (betB f u)) k=ybA c f u k:=by
 rw [memD,ybA,zze,zzY,List.mem_filter,zzX,yc0 (hc.m 2 (by omega)) (hc.m 1 (by omega)) (hc.m 0 (by omega)) (by omega) (by omega)]
theorem ykz (c:Cl) (a:Bool) (f u p:Int) (w:World) (hc:c.Ok) (hT:Tab w) :
  Calls Tryz.prog 193 #[clv c,stv a f u p] w fun e w'=>∃b,e= .returned (.pointer (some ⟨b,0,none⟩))∧w.heap.size≤b∧DiscAt w' b (ybA c f u)∧Below w.heap.size w w':=by
 have c1:=hid (fun W=>yek none 0 [] W (by simp) (Sl.nil _ _))
 have c2:=hid (fun W=>yeG (c.m 2) (c.m 1) (c.m 0) W (hc.m 2 (by omega)) (hc.m 1 (by omega)) (hc.m 0 (by omega)))
 have cP:=hid (fun b q s W h=>ydW b q s W h)
 have tells:=hid (fun bh bm bs Ow w=>ycV (c.m 2) (c.m 1) (c.m 0) bh bm bs Ow w (hc.m 2 (by omega)) (hc.m 1 (by omega)) (hc.m 0 (by omega)))
 have hfin:=hid (plain_mem c f u hc)
 have hris:=hid (yf9 (c.m 2) (c.m 1) (c.m 0))
 obtain ⟨L,hL⟩:∃L,ybt (c.m 2) (c.m 1) (c.m 0)=L:=⟨_,rfl⟩
 rw [hL] at tells hfin hris
 have HT:=hid hT
 obtain ⟨W1,hW1⟩:∃W1,(w.alloc (.cells (yac c).toArray 34)).alloc (.cells #[.bool a, .int .i64 f, .int .i64 u, .int .i64 p] 203)=W1:=⟨_,rfl⟩
 have q1:W1.heap.size=w.heap.size+2:=by rw [←hW1]; simp
 have q2:Below w.heap.size w W1:=by rw [←hW1]; exact yaa (yaa (Below.refl _ _) (zG _)) (by simp)
 have q3:ClB W1 w.heap.size c:=by rw [←hW1]; exact ydM w c _ _
 have q4:Four W1 (w.heap.size+1) (.bool a) (.int .i64 f) (.int .i64 u) (.int .i64 p):=by
  rw [←hW1]
  have h:=ybN (w.alloc (.cells (yac c).toArray 34)) (.bool a) (.int .i64 f) (.int .i64 u) (.int .i64 p) 203
  rw [zzN] at h
  exact h
 have HW1:=hid hW1
 have Q2:=hid q2
 have Q3:=hid q3
 have Q4:=hid q4
 clear hW1 q2 q3 q4 hL hT hc
 refine (wf_calls (r:=none) (n:=1)).mp ?_
 refine callsIn_of_wp_marks Tryz.func193 rfl trivial ?_ rfl
 simp only [Tryz.ntmps193,List.size_toArray,List.length_cons,List.length_nil,Nat.reduceAdd,Nat.reduceSub,Array.replicate_succ,Array.replicate_zero,List.push_toArray,List.append_toArray,List.nil_append,List.cons_append]
 gi_wp2_with fail
 refine ydX ?_
 rw [HW1.out]
 gi_wp2_with fail
 refine (wf_calls.mpr (c1.out W1)).mono ?_
 rintro e w2 ⟨rfl,hD,hB2⟩
 rw [q1]
 obtain ⟨W3,hW3⟩:∃W,w2.alloc (.cells #[.pointer (some ⟨w.heap.size+2,0,none⟩)] 105)=W:=⟨_,rfl⟩
 have s2:w.heap.size+2 < w2.heap.size:=by rw [q1] at hD; exact hD.lt
 have b3:Below w2.heap.size w2 W3:=by rw [←hW3]; exact yaa (Below.refl _ _) (zG _)
 have s3:W3.heap.size=w2.heap.size+1:=by rw [←hW3]; simp
 have B13:Below W1.heap.size W1 W3:=hB2.trans (b3.mono hB2.size)
 have HB3:Hid (Below w.heap.size w W3):=Q2.out.trans (B13.mono Q2.out.size)
 have HD3:Hid (DiscAt W3 (w.heap.size+2) (memD [])):=by rw [q1] at hD; exact hD.below b3 s2
 have C3:=hid (Q3.out.below B13 (by omega))
 have F3:=hid (Q4.out.below B13 (by omega))
 have e5:=hid (show W3.cell? ⟨w2.heap.size,0,none⟩=some (.pointer (some ⟨w.heap.size+2,0,none⟩)) by rw [←hW3]; simp [go_sem])
 have m:=C3.out.masks
 rw [←hW3] at m
 obtain ⟨m0,m1,m2,-⟩:=m
 have HW3:=hid hW3
 clear hW3 hD hB2 b3 B13
 gi_wp2_with fail
 refine wpIn_label ?_
 gi_wp2_with fail
 rw [HW3.out]
 clear m0 m1 m2
 refine (wf_calls.mpr (c2.out W3)).mono ?_
 rintro e w4 ⟨rfl,k1,k2,k3,hB4,s4⟩
 have HB4:Hid (Below w.heap.size w w4):=HB3.out.trans (hB4.mono HB3.out.size)
 have I4:Hid (LpI (w.heap.size+2) (betB f u) L 0 (fun b=>b=w.heap.size+2) w4):=⟨fun b=>Iff.rfl,HD3.out.below hB4 (by omega)⟩
 have F4:=hid (F3.out.below hB4 (by omega))
 have e54:=hid ((hB4.cell (p:=⟨w2.heap.size,0,none⟩) (by simp only []; omega)).trans e5.out)
 rw [s3] at k1 k2 k3
 have tl:=hid (tells.out (w2.heap.size+1) (w2.heap.size+1+1) (w2.heap.size+1+2) (fun b=>b=w.heap.size+2) w4 (by omega) (by omega) (by omega) (by omega) (by omega) (by omega) k1 k2 k3 (HT.out.later HB4.out) (by have:=HT.out.1; show¬0= _; omega))
 clear k1 k2 k3 hB4
 gi_wp2_with fail
 have lw4:w2.heap.size < w4.heap.size:=by omega
 have lw5:w.heap.size+1 < w4.heap.size:=by omega
 refine ybz (gf:=196) (lb:=#[.pointer (some ⟨w2.heap.size+1,0,none⟩), .pointer (some ⟨w2.heap.size+1+1,0,none⟩), .pointer (some ⟨w2.heap.size+1+2,0,none⟩)]) rfl ycW L _ rfl tl.out
  (LpI (w.heap.size+2) (betB f u) L) (fun c k O W=>c= .exit 0∧(∀b,O b↔b=w.heap.size+2)∧DiscAt W (w.heap.size+2) (memD (L.filter (betB f u)))) (yi3 _ _ _)
  (fun c k O W W' h hs hO=>⟨h.1,h.2.1,h.2.2.block hs (hO _ ((h.2.1 _).mpr rfl))⟩) (lpI_lt _ _ _) (fun c k O W h b hb=>by rw [(h.2.1 b).mp hb]; exact h.2.2.lt) I4.out
  (fun k O a' W=>LpI (w.heap.size+2) (betB f u) L k O W∧∃x,L[k]? =some x∧∃(u7 u8 u9 u10 u11 u12 u13 u14 u15 u16 u17 u18 u19 u20 u21 u22 u23 u24 u25 u26 u27 u28 u29 u30:Value),a' = {tmps:=#[clv c,stv a f u p, .pointer (some ⟨w.heap.size,0,none⟩), .pointer (some ⟨w.heap.size+1,0,none⟩), .pointer none, .pointer (some ⟨w2.heap.size,0,none⟩), .int .i64 x,u7,u8,u9,u10,u11,u12,u13,u14,u15,u16,u17,u18,u19,u20,u21,u22,u23,u24,u25,u26,u27,u28,u29,u30],defers:= []})
  (fun l o k O a' W' hr hn h=>⟨ybM (yi3 _ _ _) h.1 hn o,h.2⟩) ?assign ?body ?done ?stop
 case assign=>
  intro l k O6 W6 K hk hI hG6 hK
  gi_wp2
  exact hK _ O6 _ (Grow.refl _ _) ⟨hI,_,zzp hk,_,_,_,_,_,_,_,_,_,_,_,_,_,_,_,_,_,_,_,_,_,_,_,_,rfl⟩
 case stop=>
  rintro c' k O9 w9 hk1 hk2 hG9 ⟨rfl,hO9,hd9⟩ hD hnD
  have HG9:=hid hG9
  have Hd9:=hid hd9
  have e59:=(hG9.cell lw4 (by omega) 0).trans e54.out
  have HD:=hid hD
  clear hG9 hd9 hD
  gi_wp2
  rw [Exit.noGoto_ret]
  refine ⟨by simp, .inl ⟨_,_,rfl,run_takeDeferred HD.out,?_⟩⟩
  exact ⟨_,results_tmp rfl _ _ _,_,rfl,by omega,(Hd9.out.congr hfin.out).block (by rw [World.putObj_size]; exact zG _) (World.putObj_heap_other (by omega)),yb4 (HB4.out.trans (HG9.out.eff.below (by rintro b rfl; omega) HB4.out.size)) HB4.out.size _⟩
 case done=>
  rintro O9 w9 hG9 ⟨hO9,hd9⟩ hD hnD
  rw [List.take_length] at hd9
  have HG9:=hid hG9
  have Hd9:=hid hd9
  have e59:=(hG9.cell lw4 (by omega) 0).trans e54.out
  have HD:=hid hD
  clear hG9 hd9 hD
  gi_wp2
  rw [Exit.noGoto_ret]
  refine ⟨by simp, .inl ⟨_,_,rfl,run_takeDeferred HD.out,?_⟩⟩
  exact ⟨_,results_tmp rfl _ _ _,_,rfl,by omega,(Hd9.out.congr hfin.out).block (by rw [World.putObj_size]; exact zG _) (World.putObj_heap_other (by omega)),yb4 (HB4.out.trans (HG9.out.eff.below (by rintro b rfl; omega) HB4.out.size)) HB4.out.size _⟩
 case body=>
  rintro l k O6 a' W6 hk hG6 hl6 hrec6 hnl6 ⟨⟨hO6,hd6⟩,x,ex,u7,u8,u9,u10,u11,u12,u13,u14,u15,u16,u17,u18,u19,u20,u21,u22,u23,u24,u25,u26,u27,u28,u29,u30,rfl⟩
  have e56:=(hG6.cell lw4 (by omega) 0).trans e54.out
  obtain ⟨⟨-,f1,f2,-⟩,-⟩:=F4.out
  have g1:=(hG6.cell lw5 (by omega) 1).trans f1
  have g2:=(hG6.cell lw5 (by omega) 2).trans f2
  have Hd6:=hid hd6
  have HO6:=hid hO6
  have Hex:=hid ex
  clear f1 f2 hd6 hO6 ex hG6
  by_cases h1:x < f
  ·have hp:Hid (betB f u x=false):=by show _ = _; rw [betB,zzd (by omega)]; rfl
   gi_wp2
   exact ⟨O6,Grow.refl _ _,HO6.out,Hd6.out.same Hex.out hp.out⟩
  ·by_cases h2:u < x
   ·have hcut:Hid ((L.take k).filter (betB f u)=L.filter (betB f u)):=ykc hris.out Hex.out h2
    gi_wp2
    exact ⟨O6,Grow.refl _ _,rfl,HO6.out,by rw [←hcut.out]; exact Hd6.out⟩
   ·have hp:Hid (betB f u x=true):=by show _ = _; rw [betB,zzZ (by omega),zzZ (by omega)]; rfl
    gi_wp2_with fail
    refine (wf_calls.mpr (cP.out _ _ x _ Hd6.out)).mono ?_
    rintro e w7 ⟨⟨v,rfl⟩,hd7,hE7⟩
    have Hd7:=hid hd7
    have HE7:=hid hE7
    clear hd7 hE7
    gi_wp2
    exact ⟨O6,⟨fun _ h=>h,fun _ h=> .inl h,HE7.out.wide fun b hb=>(HO6.out b).mpr hb⟩,HO6.out,DiscAt.more (W:=W6) Hex.out hp.out Hd7.out⟩
end
end Go.Proofs.YtjahgimnfliooaaGreatDoor
