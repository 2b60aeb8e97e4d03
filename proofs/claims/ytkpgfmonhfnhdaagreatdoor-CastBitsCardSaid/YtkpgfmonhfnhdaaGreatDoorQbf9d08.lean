/-
  What a disc's calls do to the seconds that it has: one second put in, one disc joined, its length, its next second, its telling.
  tod.All: its function tells the seconds of masks; which these are.
  span.Held, span.In, clause.Span and feriaref09.Held.
  What wide.All, wide.Bounds and feriaref04.List compute.
  What feriaref04.Of computes: the set of a list.
-/
import Derived.Test.YtkpgfmonhfnhdaaGreatDoorQc548e5
import Derived.Test.YtkpgfmonhfnhdaaGreatDoorQ76d87d
import Derived.Test.YtkpgfmonhfnhdaaGreatDoorQ74f80c
import Derived.Test.YtkpgfmonhfnhdaaGreatDoorQ446fa1
set_option maxRecDepth 100000
set_option maxHeartbeats 25600000
namespace Go.Proofs.YtkpgfmonhfnhdaaGreatDoor
set_option linter.unusedVariables false
section
open Go.RowKit
theorem DiscAt.lt {W:World} {b:Nat} {q:Nat→Bool} (h:DiscAt W b q):b < W.heap.size:=by obtain ⟨f,_,_,_,_,h⟩:=h; exact h
theorem DiscAt.block {W W':World} {b:Nat} {q:Nat→Bool} (h:DiscAt W b q) (hs:W.heap.size≤W'.heap.size) (hb:W'.heap[b]? =W.heap[b]?):DiscAt W' b q:=by
 obtain ⟨f,h1,h2,h3,h4,h5⟩:=h
 exact ⟨f,fun i hi=>(zzJ (w:=W) (a:=⟨b,i,none⟩) hb).trans (h1 i hi),fun i=>(zzM (w:=W) (a:=⟨b,i,none⟩) hb).trans (h2 i),h3,h4,zH h5 hs⟩
theorem DiscAt.eff {W W':World} {b:Nat} {q:Nat→Bool} {O:Blk} (h:DiscAt W b q) (hE:Eff O W W') (hn:¬O b):DiscAt W' b q:=h.block hE.size (hE.block b h.lt hn)
theorem DiscAt.congr {W:World} {b:Nat} {q q':Nat→Bool} (h:DiscAt W b q) (e:∀k,k < 86400→q k=q' k):DiscAt W b q':=by
 obtain ⟨f,h1,h2,h3,h4,h5⟩:=h
 exact ⟨f,h1,h2,h3,fun k hk=>(h4 k hk).trans (e k hk),h5⟩
theorem DiscAt.unique {W:World} {b:Nat} {q q':Nat→Bool} (h:DiscAt W b q) (h':DiscAt W b q') (k:Nat) (hk:k < 86400):q k=q' k:=by
 obtain ⟨f,h1,h2,h3,h4,h5⟩:=h
 obtain ⟨f',g1,g2,g3,g4,g5⟩:=h'
 rw [←h4 k hk,←g4 k hk,bitW,bitW]
 have e:=(h1 (k / 64) (by omega)).symm.trans (g1 (k / 64) (by omega))
 simp only [Option.some.injEq,Value.int.injEq,true_and] at e
 have e2:f (k / 64)=f' (k / 64):=by omega
 rw [e2]
theorem ydF (b:Nat) (q:Nat→Bool) (s:Int) (w:World) (hd:DiscAt w b q) :
  Calls Tryz.prog 171 #[.pointer (some ⟨b,0,none⟩), .slice (some ⟨w.heap.size,0,none⟩) 1 1] (w.alloc (.cells #[.int .i64 s] 3)) fun e w'=>(∃v,e= .returned v)∧DiscAt w' b (fun k=>q k || decide ((k:Int)=s))∧Eff (fun x=>x=b) w w':=by
 obtain ⟨W1,hW1⟩:∃W1,w.alloc (.cells #[.int .i64 s] 3)=W1:=⟨_,rfl⟩
 have hb:Below w.heap.size w W1:=by rw [←hW1]; exact yaa (Below.refl _ _) (zG _)
 have hsl:Sl W1 (some ⟨w.heap.size,0,none⟩) (ints [s]):=by
  refine .inr ⟨w.heap.size,0,rfl,by rw [←hW1]; simp,fun j hj=>?_⟩
  have:j=0:=by simp [ints] at hj; omega
  subst this
  rw [←hW1]; simp [go_sem,ints]
 rw [hW1]
 have hlt:=hd.lt
 obtain ⟨f,h1,h2,h3,h4,h5⟩:=hd.below hb hlt
 refine (Put_any b f (some ⟨w.heap.size,0,none⟩) 1 [s] W1 (by simp) hsl (fun _ g off e=>by cases e; omega) h1 h2 h3).mono fun e w' ⟨g1,g2,g3,g4⟩=>⟨⟨_,g1⟩,⟨_,g2,g3,putL_lt _ _ h3,fun k hk=>?_,by have:=g4.size; omega⟩,(Eff.of_below (O:=fun x=>x=b) hb).trans g4 (fun x hx=> .inl hx)⟩
 rw [yiF _ _ k hk,h4 k hk]; simp
def DiscO (W:World):Option Nat→(Nat→Bool)→Prop
 | none,q=>∀k,k < 86400→q k=false
 | some b,q=>DiscAt W b q
def dptr:Option Nat→Value
 | none=> .pointer none
 | some b=> .pointer (some ⟨b,0,none⟩)
theorem DiscO.v {W:World} {d:Option Nat} {q:Nat→Bool} (h:DiscO W d q):DiscV W d q∧dv d=dptr d:=by
 cases d with
 | none=>exact ⟨h,rfl⟩
 | some b=>obtain ⟨f,h1,h2,h3,h4,h5⟩:=h; exact ⟨⟨f,h1,h2,h3,h4,h5⟩,rfl⟩
theorem DiscO.congr {W:World} {d:Option Nat} {q q':Nat→Bool} (h:DiscO W d q) (e:∀k,k < 86400→q k=q' k):DiscO W d q':=by
 cases d with
 | none=>exact fun k hk=>(e k hk).symm.trans (h k hk)
 | some b=>exact DiscAt.congr h e
theorem ykw (b c:Nat) (q r:Nat→Bool) (w:World) (hd:DiscAt w b q) (hc:DiscAt w c r) (hne:c≠b) :
  Calls Tryz.prog 159 #[.pointer (some ⟨b,0,none⟩), .slice (some ⟨w.heap.size,0,none⟩) 1 1] (w.alloc (.cells #[.pointer (some ⟨c,0,none⟩)] 72)) fun e w'=>(∃v,e= .returned v)∧DiscAt w' b (fun k=>q k || r k)∧Eff (fun x=>x=b) w w':=by
 obtain ⟨W1,hW1⟩:∃W1,w.alloc (.cells #[.pointer (some ⟨c,0,none⟩)] 72)=W1:=⟨_,rfl⟩
 have hb:Below w.heap.size w W1:=by rw [←hW1]; exact yaa (Below.refl _ _) (zG _)
 have hbl:=hd.lt
 have hcl:=hc.lt
 obtain ⟨f,h1,h2,h3,h4,h5⟩:=hd.below hb hbl
 obtain ⟨g,g1,g2,g3,g4,g5⟩:=hc.below hb hcl
 have hsl:Sl W1 (some ⟨w.heap.size,0,none⟩) (dvs [(some c,g)]):=by
  refine .inr ⟨w.heap.size,0,rfl,by rw [←hW1]; simp,fun j hj=>?_⟩
  have:j=0:=by simp [dvs] at hj; omega
  subst this
  rw [←hW1]; simp [go_sem,dvs,dv]
 rw [hW1]
 refine (DJoin_any b f (some ⟨w.heap.size,0,none⟩) 1 [(some c,g)] W1 (by simp) hsl (fun _ x off e=>by cases e; omega) (fun d hd=>?_) ⟨h1,h2,h3,Eff.refl _ _⟩).mono fun e w' ⟨k1,k2⟩=>⟨k1,⟨_,k2.words,k2.free,k2.bd,fun k hk=>?_,by have:=k2.eff.size; omega⟩,(Eff.of_below (O:=fun x=>x=b) hb).trans k2.eff (fun x hx=> .inl hx)⟩
 ·rw [List.mem_singleton] at hd; subst hd
  exact ⟨g1,g3,fun x e=>by cases e; exact ⟨hne,g5⟩⟩
 ·show bitW (orL f [(some c,g)]) k= (q k || r k)
  rw [←h4 k hk,←g4 k hk]; simp [orL,bitW,Nat.testBit_or]
theorem sel_lenW (f:Nat→Nat) (q:Nat→Bool) (h:∀k,k < 86400→bitW f k=q k):lenW f 1350= (secL q).length:=by
 rw [←ygD,yem,secL]
 exact congrArg List.length (yex h)
theorem DLenO_any (d:Option Nat) (q:Nat→Bool) (w:World) (h:DiscO w d q):Calls Tryz.prog 61 #[dptr d] w fun e w'=>e= .returned (.int .i64 ((secL q).length:Nat))∧w=w':=by
 cases d with
 | none=>
   have e:(secL q).length=0:=by rw [secL,yfS h]; rfl
   rw [e]
   show Calls Tryz.prog 61 #[.pointer none] w _
   go_enter Tryz.func61,Tryz.ntmps61
   go_wp2
   go_ret
   exact ⟨rfl,rfl⟩
 | some b=>
   obtain ⟨f,h1,h2,h3,h4,h5⟩:=h
   rw [←sel_lenW f q h4]
   exact DLen_any b f w h1 h3
theorem DHasO_any (d:Option Nat) (q:Nat→Bool) (n:Int) (w:World) (h:DiscO w d q):Calls Tryz.prog 86 #[dptr d, .int .i64 n] w fun e w'=>e= .returned (.bool (yb3 n && q n.toNat))∧w=w':=by
 cases d with
 | none=>
   have e:(yb3 n && q n.toNat)=false:=by
    cases hd:yb3 n
    ·rfl
    ·obtain ⟨k,rfl,hk⟩:=ybO hd
     rw [Int.toNat_natCast,h k hk]; rfl
   rw [e]; exact DHas_nil n w
 | some b=>
   obtain ⟨f,h1,h2,h3,h4,h5⟩:=h
   have e:(yb3 n && q n.toNat)=hasD f n:=by
    rw [hasD]
    cases hd:yb3 n
    ·rfl
    ·obtain ⟨k,rfl,hk⟩:=ybO hd
     rw [Int.toNat_natCast,h4 k hk]
   rw [e]; exact yjo b f n w h1 h3
theorem yfH (d:Option Nat) (q:Nat→Bool) (s:Int) (w:World) (h1:0≤s) (hs1:s≤9223372036854775807) (hT:Tab w) (h:DiscO w d q) :
  Calls Tryz.prog 26 #[dptr d, .int .i64 s] w fun r w'=>(∃n ok,r= .returned (.tuple #[.int .i64 n, .bool ok])∧FirstOf (fun k=>q k && decide (s≤k)) n ok)∧w=w':=by
 cases d with
 | none=>
   show Calls Tryz.prog 26 #[.pointer none, .int .i64 s] w _
   have hno:Hid (FirstOf (fun k=>q k && decide (s≤k)) 0 false):= .inr ⟨rfl,rfl,fun k hk=>by show (q k && _)=false; rw [h k hk]; rfl⟩
   have hmx:max s 0=s:=by omega
   clear h hT hs1
   go_enter Tryz.func26,Tryz.ntmps26
   go_wp2
   go_ret2
   exact ⟨⟨_,_,rfl,hno.out⟩,rfl⟩
 | some b=>
   by_cases h0:86400≤s
   ·show Calls Tryz.prog 26 #[.pointer (some ⟨b,0,none⟩), .int .i64 s] w _
    have hno:Hid (FirstOf (fun k=>q k && decide (s≤k)) 0 false):= .inr ⟨rfl,rfl,fun k hk=>by show (q k && _)=false; rw [zzd (by omega),Bool.and_false]⟩
    have c1:=hid (yc2 s w)
    have hd:yb3 s=false:=by rw [yb3,zzd (show¬s < 86400 by omega),Bool.and_false]
    rw [hd] at c1
    have hmx:max s 0=s:=by omega
    have hs2:0 < s:=by omega
    clear h hT hs1 hd
    go_enter Tryz.func26,Tryz.ntmps26
    go_wp2_with fail
    refine c1.out.mono ?_
    rintro e w' ⟨rfl,rfl⟩
    go_wp2
    go_ret2
    exact ⟨⟨_,_,rfl,hno.out⟩,rfl⟩
   ·obtain ⟨k,rfl⟩:∃k:Nat,s=k:=⟨s.toNat,by omega⟩
    refine (yfG b q k w (by omega) hT h).mono fun e w' ⟨⟨n,ok,he,hf⟩,hw⟩=>⟨⟨n,ok,he,hf.congr fun j hj=>?_⟩,hw⟩
    simp
end
section
open Go.RowKit
theorem yek (hs ms ss:Nat) (w:World) (hh:hs < 18446744073709551616) (hm:ms < 18446744073709551616) (hss:ss < 18446744073709551616) :
  Calls Tryz.prog 178 #[.int .u64 hs, .int .u64 ms, .int .u64 ss] w fun e w'=>e= .returned (.func (.func 179) #[] #[.pointer (some ⟨w.heap.size,0,none⟩), .pointer (some ⟨w.heap.size+1,0,none⟩), .pointer (some ⟨w.heap.size+2,0,none⟩)])∧
   w'.cell? ⟨w.heap.size,0,none⟩=some (.int .u64 (cutM hs 23))∧w'.cell? ⟨w.heap.size+1,0,none⟩=some (.int .u64 (cutM ms 59))∧w'.cell? ⟨w.heap.size+2,0,none⟩=some (.int .u64 (cutM ss 59))∧
   Below w.heap.size w w'∧w'.heap.size=w.heap.size+3:=by
 have c1:=hid (fun W=>yjm hs ms ss W hh hm hss)
 go_enter Tryz.func178,Tryz.ntmps178
 go_wp2_with fail
 refine (c1.out _).mono ?_
 rintro e w' ⟨rfl,rfl⟩
 go_wp2
 go_ret
 refine ⟨rfl,by simp [go_sem],by simp [go_sem],by simp [go_sem],?_,by simp [go_sem]⟩
 exact yaa (yaa (yaa (Below.refl _ _) (zG _)) (by simp)) (by simp; omega)
theorem ycN (args:Array Value) (w:World):(callFunc 179 args).run Tryz.prog w= .ok (.enter 179 args) w:=by simp [go_sem]
theorem ycM (hs ms ss bh bm bs:Nat) (Ow:Nat→Prop) (w:World) (hh:hs < 18446744073709551616) (hm:ms < 18446744073709551616) (hss:ss < 18446744073709551616)
  (lh:bh < w.heap.size) (lm:bm < w.heap.size) (ls:bs < w.heap.size) (nh:¬Ow bh) (nm:¬Ow bm) (ns:¬Ow bs)
  (ch:w.cell? ⟨bh,0,none⟩=some (.int .u64 (cutM hs 23))) (cm:w.cell? ⟨bm,0,none⟩=some (.int .u64 (cutM ms 59))) (cs:w.cell? ⟨bs,0,none⟩=some (.int .u64 (cutM ss 59))) (hT:Tab w) (hTO:¬Ow 0) :
  yhn Tryz.prog 179 #[.pointer (some ⟨bh,0,none⟩), .pointer (some ⟨bm,0,none⟩), .pointer (some ⟨bs,0,none⟩)] (yaS hs ms ss) Ow w:=by
 intro y J Jx O W hO hB hC hJ
 have no:∀b,b < w.heap.size→¬Ow b→¬O b:=fun b hb hn h=>by
  rcases hO b h with h1 | h1
  ·exact hn h1
  ·omega
 exact yh5 (cutM hs 23) (cutM ms 59) (cutM ss 59) bh bm bs y J Jx O W (ydW 23 hh) (ydW 59 hm) (ydW 59 hss) hC hJ (zH lh hB.size) (zH lm hB.size) (zH ls hB.size)
  (no _ lh nh) (no _ lm nm) (no _ ls ns) ((hB.cell (p:=⟨bh,0,none⟩) lh).trans ch) ((hB.cell (p:=⟨bm,0,none⟩) lm).trans cm) ((hB.cell (p:=⟨bs,0,none⟩) ls).trans cs) (hT.later hB) (no _ hT.1 hTO)
theorem yge {m:Nat} {t n:Int} (hm:m < 18446744073709551616) (h0:0≤n) (h1:n≤t) (h2:t < 64):n∈sel (cutM m t).testBit 64↔hasB m n=true:=by
 obtain ⟨k,rfl⟩:∃k:Nat,n=k:=⟨n.toNat,by omega⟩
 rw [hasB_spec hm,yhK,yhK]
 constructor
 ·rintro ⟨j,hj,hb,e⟩
  obtain rfl:k=j:=by omega
  rw [yeY,zzX] at hb
  exact ⟨k,hj,hb.1,rfl⟩
 ·rintro ⟨j,hj,hb,e⟩
  obtain rfl:k=j:=by omega
  exact ⟨k,hj,by rw [yeY,hb,zzZ hj,zzZ h1]; rfl,rfl⟩
theorem yb7 {hs ms ss:Nat} (hh:hs < 18446744073709551616) (hm:ms < 18446744073709551616) (hss:ss < 18446744073709551616) {k:Int} (h0:0≤k) (h1:k < 86400):k∈yaS hs ms ss↔yaW k hs ms ss=true:=by
 have hd:dayB k=true:=by simp only [dayB,zzY]; omega
 rw [yaS,mem_secs,yaW,hd,zzo,zzX,zzX]
 rw [←yge (t:=23) hh (by omega) (by omega) (by omega),←yge (t:=59) hm (by omega) (by omega) (by omega),←yge (t:=59) hss (by omega) (by omega) (by omega)]
 constructor
 ·rintro ⟨h,m,s,g1,g2,g3,rfl⟩
  have b1:=yba hs 23 g1
  have b2:=yba ms 59 g2
  have b3:=yba ss 59 g3
  refine ⟨?_,?_,?_⟩
  ·rw [show (3600 * h+60 * m+s) / 3600=h by omega]; exact g1
  ·rw [show (3600 * h+60 * m+s) / 60 % 60=m by omega]; exact g2
  ·rw [show (3600 * h+60 * m+s) % 60=s by omega]; exact g3
 ·rintro ⟨g1,g2,g3⟩
  exact ⟨_,_,_,g1,g2,g3,by omega⟩
end
section
open Go.RowKit
def yal (f u:Int):Bool:=decide (max f 0≤min u 12622780799)
def yak (f u:Int):Int:=if yal f u then max f 0 else 0
def yaj (f u:Int):Int:=if yal f u then min u 12622780799 else -1
abbrev spv (f u:Int):Value:= .agg #[.int .i64 f, .int .i64 u]
theorem yaP (f u:Int):(yak f u=max f 0∧yaj f u=min u 12622780799∧max f 0≤min u 12622780799)∨(yak f u=0∧yaj f u= -1∧¬max f 0≤min u 12622780799):=by
 unfold yak yaj yal
 by_cases h:max f 0≤min u 12622780799
 ·left; rw [zzZ h]; exact ⟨rfl,rfl,h⟩
 ·right; rw [zzd h]; exact ⟨rfl,rfl,h⟩
theorem yeT:(Tryz.prog.info? 147).map (·.size)=some 2:=by kernel_rfl
theorem yho (w:World):Calls Tryz.prog 152 #[] w fun e w'=>e= .returned (spv 0 (-1))∧Below w.heap.size w w':=by
 go_enter Tryz.func152,Tryz.ntmps152
 go_wp2
 refine bodyPost_ret (yae rfl _ _ w.heap.size 0 _ _ rfl (yaG w _ _) Tryz.underlying147 rfl yeT) rfl ⟨rfl,yaa (Below.refl _ _) (zG _)⟩
theorem ycT (w:World) (x:Obj) (l:List Value) (t:TypeId):((w.alloc x).alloc (.cells l.toArray t)).rangeAt (w.heap.size+1) 0 l:=by
 have h:=yaG (w.alloc x) l t
 rwa [zzN] at h
theorem ycy {W:World} {b:Nat} {x y u0 u1:Value} (h0:W.cell? ⟨b,0,none⟩=some u0) (h1:W.cell? ⟨b,1,none⟩=some u1):((W.setCell ⟨b,0,none⟩ x).setCell ⟨b,1,none⟩ y).rangeAt b 0 [x,y]:=fun j v hv=>by
 have hne:(⟨b,1,none⟩:Addr)≠⟨b,0,none⟩:=by intro e; injection e with _ e _; cases e
 match j with
 | 0=>
   have e:x=v:=by simpa using hv
   rw [←e,zzL _ _ _ _ hne]
   exact zzW _ _ _ h0
 | 1=>
   have e:y=v:=by simpa using hv
   rw [←e]
   exact zzW _ _ _ (by rw [zzL _ _ _ _ hne.symm]; exact h1)
 | n+2=>simp at hv
theorem ret_sp {a b c d:Int} (h:a=c) (k:b=d):Ending.returned (spv a b)= .returned (spv c d):=by rw [h,k]
theorem ycK (f u:Int) (w:World):Calls Tryz.prog 141 #[spv f u] w fun e w'=>e= .returned (spv (yak f u) (yaj f u))∧Below w.heap.size w w':=by
 have c0:=hid (fun W=>yho W)
 have h1:f < 0∨f=0∨0 < f:=by omega
 have h2:u < 12622780799∨u=12622780799∨12622780799 < u:=by omega
 rcases yaP f u with ⟨e1,e2,h3⟩ | ⟨e1,e2,h3⟩
 ·rw [e1,e2]
  clear e1 e2
  rcases h1 with h1 | rfl | h1 <;> rcases h2 with h2 | rfl | h2
  all_goals
   go_enter Tryz.func141,Tryz.ntmps141
   go_wp2
   exact bodyPost_ret (yae rfl _ _ (w.heap.size+1) 0 _ _ rfl (ycT w _ _ _) Tryz.underlying147 rfl yeT) rfl ⟨ret_sp (by omega) (by omega),yaa (yaa (Below.refl _ _) (zG _)) (by simp)⟩
 ·rw [e1,e2]
  clear e1 e2
  rcases h1 with h1 | rfl | h1 <;> rcases h2 with h2 | rfl | h2
  all_goals try (exfalso; omega)
  all_goals
   first
    | (have h4:u < 0:=(by omega); clear h3)
    | (have h4:u < f:=(by omega); clear h3)
    | (have h4:12622780799 < f:=(by omega); clear h3)
   go_enter Tryz.func141,Tryz.ntmps141
   go_wp2_with fail
   refine (c0.out _).mono ?_
   rintro e w1 ⟨rfl,hB1⟩
   have c1:=(hB1.cell (p:=⟨w.heap.size+1,0,none⟩) (by simp)).trans (show _ =some (.int .i64 0) by simp [go_sem])
   have c2:=(hB1.cell (p:=⟨w.heap.size+1,1,none⟩) (by simp)).trans (show _ =some (.int .i64 0) by simp [go_sem])
   have f1:=(hB1.frozen (p:=⟨w.heap.size+1,0,none⟩) (by simp)).trans (show _ =false by simp [go_sem])
   have f2:=(hB1.frozen (p:=⟨w.heap.size+1,1,none⟩) (by simp)).trans (show _ =false by simp [go_sem])
   have HB1:Hid (Below w.heap.size w w1):=(yaa (yaa (Below.refl _ _) (zG _)) (by simp)).trans (hB1.mono (by simp only [zzN]; omega))
   clear hB1
   go_wp2
   exact bodyPost_ret (yae rfl _ _ (w.heap.size+1) 0 _ _ rfl (ycy c1 c2) Tryz.underlying147 rfl yeT) rfl ⟨rfl,yab (yab HB1.out (by omega)) (by omega)⟩
end
section
open Go.RowKit
attribute [local go_sem] Oper.semAt_some
theorem WList_any (s:Nat→Nat) (w:World) (hs:∀i,i < 7→s i < 18446744073709551616) :
  Calls Tryz.prog 48 #[wv s] w fun e w'=>∃v,e= .returned v∧w'.ownsRow w.heap.size 3 1 v (wsel s).length (ints (wsel s))∧Below w.heap.size w w':=by
 have c1:=hid (fun n W=>ye1 s n W hs)
 have hB0:Below w.heap.size w (w.alloc (.cells #[.int .u64 (s 0:Nat), .int .u64 (s 1:Nat), .int .u64 (s 2:Nat), .int .u64 (s 3:Nat), .int .u64 (s 4:Nat), .int .u64 (s 5:Nat), .int .u64 (s 6:Nat)] 25)):=yaa (Below.refl _ _) (zG _)
 have HS0:Hid (BoxS w s (w.alloc (.cells #[.int .u64 (s 0:Nat), .int .u64 (s 1:Nat), .int .u64 (s 2:Nat), .int .u64 (s 3:Nat), .int .u64 (s 4:Nat), .int .u64 (s 5:Nat), .int .u64 (s 6:Nat)] 25))):=by
  obtain ⟨r0,r1,r2,r3,r4,r5,r6⟩:=(ybN w s 25).all
  exact ⟨r0,r1,r2,r3,r4,r5,r6,hB0,by simp [go_sem]⟩
 clear hB0 hs
 go_enter Tryz.func48,Tryz.ntmps48
 go_wp2
 go_loopw [3,4] (fun v i wr=>∃(n m cap:Nat) (a:Option Addr),i= .int .i64 n∧Hid (n≤400)∧v= .slice a m cap∧Hid (m= (sel (bitW s) n).length∧m≤n)∧Hid (wr.ownsRow (w.heap.size+1) 3 1 (.slice a m cap) m (ints (sel (bitW s) n)))∧Hid (BoxS w s wr)) (fun _ i _=>(400 - intOf i).toNat)
 case atStart=>exact ⟨0,0,0,none,rfl,by show (0:Nat)≤400; omega,rfl,⟨rfl,zG _⟩,World.ownsRow_nil _ _ _ _,HS0.out⟩
 case round=>
  obtain ⟨n,m,cap,a,rfl,hn,rfl,hme,hown,hbx⟩:=hrel
  obtain ⟨z0,z1,z2,z3,z4,z5,z6,hB,hlt0⟩:=hbx.out
  have HB:=hid hB
  clear hB
  by_cases hlt:(n:Int) < 400
  ·have H2:Hid (Calls Tryz.prog 17 #[wv s, .int .i64 n] wr fun e w'=>e= .returned (.bool (bitW s n))∧Below wr.heap.size wr w'):=by
    have:=c1.out n wr
    have e:hasW s (n:Int)=bitW s n:=by simp [hasW,mayB]; omega
    rw [e] at this; exact this
   by_cases hb:bitW s n=true
   ·have Hy:=hid (ycw hb)
    rw [hb] at H2
    clear hb
    go_wp2_with fail
    refine H2.out.mono ?_
    rintro e w1 ⟨rfl,hb1⟩
    have hown1:=ybr hown.out hb1 (zG _)
    have hbx1:=hid (hbx.out.keep hb1)
    have hm:m≤400:=by have:=hme.out.2; have:=hn.out; omega
    have Hb1:=hid hb1
    have hs1:=hb1.size
    clear hb1 z0 z1 z2 z3 z4 z5 z6
    go_wp2_with (at_builtin; refine app1 eInt (.tmp 12) (.tmp 14) rfl rfl rfl rfl rfl hown1 rfl (by omega) (by omega) (by omega) ?_)
    intro a' cap' w' hown2 hg2 hb2 hf2
    rw [←ints_one,←yhR,←Hy.out] at hown2
    have hbx2:Hid (BoxS w s w'):=by
     obtain ⟨h0,h1,h2,h3,h4,h5,h6,h7,h8⟩:=hbx1.out
     exact ⟨(hb2.cell (p:=⟨w.heap.size,0,none⟩) (by simp)).trans h0,(hb2.cell (p:=⟨w.heap.size,1,none⟩) (by simp)).trans h1,(hb2.cell (p:=⟨w.heap.size,2,none⟩) (by simp)).trans h2,(hb2.cell (p:=⟨w.heap.size,3,none⟩) (by simp)).trans h3,
      (hb2.cell (p:=⟨w.heap.size,4,none⟩) (by simp)).trans h4,(hb2.cell (p:=⟨w.heap.size,5,none⟩) (by simp)).trans h5,(hb2.cell (p:=⟨w.heap.size,6,none⟩) (by simp)).trans h6,h7.trans (hb2.mono (by omega)),zH h8 hb2.size⟩
    have Hown2:=hid hown2
    clear hown2 hg2 hb2 hf2 hown1
    go_wp2
    exact ⟨⟨n+1,m+1,cap',a',by go_num,by show n+1≤400; omega,rfl,⟨by rw [Hy.out,List.length_append,←hme.out.1]; rfl,by have:=hme.out.2; omega⟩,Hown2,hbx2⟩,by simp [intOf]; omega⟩
   ·have hb':bitW s n=false:=by simpa using hb
    have Hy:=hid (yew hb')
    rw [hb'] at H2
    clear hb hb'
    go_wp2_with fail
    refine H2.out.mono ?_
    rintro e w1 ⟨rfl,hb1⟩
    have hown1:=hid (ybr hown.out hb1 (zG _))
    have hbx1:=hid (hbx.out.keep hb1)
    clear hb1 z0 z1 z2 z3 z4 z5 z6
    go_wp2
    exact ⟨⟨n+1,m,cap,a,by go_num,by show n+1≤400; omega,rfl,⟨by rw [Hy.out]; exact hme.out.1,by have:=hme.out.2; omega⟩,by rw [Hy.out]; exact hown1,hbx1⟩,by simp [intOf]; omega⟩
  ·have hnn:n=400:=by have:=hn.out; omega
   have hown':=hown.out
   have hm':=hme.out.1
   rw [hnn] at hown' hm'
   have Hown:=hid hown'
   have Hm:=hid hm'
   clear hnn hown' hm'
   go_wp2
   go_ret
   exact ⟨_,rfl,by have:=Hm.out; rw [show (wsel s).length=m from Hm.out.symm]; exact yeF Hown.out (by omega),HB.out⟩
end
section
open Go.RowKit
def inL (l:List Int) (j:Nat):Bool:=decide ((j:Int)∈l) && decide (j < 400)
theorem inL_in (l:List Int) (n j:Nat) (h:n < 400):inL (l ++ [(n:Int)]) j=if j=n then true else inL l j:=by
 rw [inL,inL,zze]
 split
 ·simp; omega
 ·rename_i h
  simp only [zzX,zzY,List.mem_append,List.mem_singleton]
  constructor
  ·rintro ⟨h1 | h1,h2⟩
   ·exact ⟨h1,h2⟩
   ·omega
  ·rintro ⟨h1,h2⟩; exact ⟨.inl h1,h2⟩
theorem inL_out (l:List Int) (x:Int) (h:mayB x=false) (j:Nat):inL (l ++ [x]) j=inL l j:=by
 simp only [mayB,Bool.and_eq_false_iff,decide_eq_false_iff_not] at h
 rw [inL,inL,zze]
 simp only [zzX,zzY,List.mem_append,List.mem_singleton]
 constructor
 ·rintro ⟨h1 | h1,h2⟩
  ·exact ⟨h1,h2⟩
  ·omega
 ·rintro ⟨h1,h2⟩; exact ⟨.inl h1,h2⟩
def InC (W:World) (b:Nat) (l:List Int):Prop:=∀j,j < 448→W.cell? ⟨b,j,none⟩=some (.bool (inL l j))
theorem zc120:Tryz.zeroCells101=Array.replicate 448 (.bool false):=by kernel_rfl
theorem inC_new (w:World):InC (w.alloc (.cells Tryz.zeroCells101 101)) w.heap.size []:=fun j hj=>by
 rw [zc120]
 simp [go_sem,hj,inL]
theorem InC.below {W W':World} {b B:Nat} {l:List Int} (h:InC W b l) (hb:Below B W W') (hB:b < B):InC W' b l:=fun j hj=>(hb.cell (p:=⟨b,j,none⟩) hB).trans (h j hj)
def wpre (l:List Int) (i n:Nat) (j:Nat):Nat:=if j=i then upM (inWB l i) n else if j < i then wof l j else 0
theorem ygt (a:Option Addr) (cap:Nat) (l:List Int) (w:World) (hl:l.length≤9223372036854775807) (hs:Sl w a (ints l)) :
  Calls Tryz.prog 18 #[.slice a l.length cap] w fun e w'=>e= .returned (wv (wof l))∧Below w.heap.size w w':=by
 have Hs:=hid hs
 clear hs
 obtain ⟨W0,hW0⟩:∃W0,(w.alloc (.cells #[.int .u64 0, .int .u64 0, .int .u64 0, .int .u64 0, .int .u64 0, .int .u64 0, .int .u64 0] 25)).alloc (.cells Tryz.zeroCells101 101)=W0:=⟨_,rfl⟩
 have q1:W0.heap.size=w.heap.size+2:=by rw [←hW0]; simp
 have q2:Below w.heap.size w W0:=by rw [←hW0]; exact yaa (yaa (Below.refl _ _) (zG _)) (by simp)
 have q3:InC W0 (w.heap.size+1) []:=by
  rw [←hW0]
  have:=inC_new (w.alloc (.cells #[.int .u64 0, .int .u64 0, .int .u64 0, .int .u64 0, .int .u64 0, .int .u64 0, .int .u64 0] 25))
  rwa [zzN] at this
 have q4:WFree W0 (w.heap.size+1):=fun i=>by rw [←hW0,zc120]; simp [go_sem]
 have q5:WCells W0 w.heap.size (fun _=>0):=by
  rw [←hW0]
  refine WCells.below (W:=w.alloc (.cells #[.int .u64 0, .int .u64 0, .int .u64 0, .int .u64 0, .int .u64 0, .int .u64 0, .int .u64 0] 25)) (fun i hi=>?_) (yaa (Below.refl _ _) (zG _)) (by simp)
  rcases ye9 hi with rfl | rfl | rfl | rfl | rfl | rfl | rfl <;> simp [go_sem]
 have q6:WFree W0 w.heap.size:=by
  rw [←hW0]
  refine WFree.below (W:=w.alloc (.cells #[.int .u64 0, .int .u64 0, .int .u64 0, .int .u64 0, .int .u64 0, .int .u64 0, .int .u64 0] 25)) (fun i=>by simp [go_sem]) (yaa (Below.refl _ _) (zG _)) (by simp)
 have HW0:=hid hW0
 have HQ:=hid (And.intro q2 (And.intro q3 (And.intro q4 (And.intro q5 q6))))
 clear hW0 q2 q3 q4 q5 q6
 go_enter Tryz.func18,Tryz.ntmps18
 go_wp2_with fail
 rw [HW0.out]
 go_loopw [4] (fun i wr=>∃k:Nat,i= .int .i64 k∧k≤l.length∧wr.heap.size=w.heap.size+2∧Hid (InC wr (w.heap.size+1) (l.take k)∧WFree wr (w.heap.size+1)∧WCells wr w.heap.size (fun _=>0)∧WFree wr w.heap.size∧Below w.heap.size w wr)) (fun i _=>l.length - (intOf i).toNat)
 case atStart=>exact ⟨0,rfl,by omega,q1,HQ.out.2.1,HQ.out.2.2.1,HQ.out.2.2.2.1,HQ.out.2.2.2.2,HQ.out.1⟩
 case round=>
  obtain ⟨k,rfl,hk,hsz,HI⟩:=hrel
  by_cases hlt:k < l.length
  ·obtain ⟨b,off,rfl,hb,hc⟩:=Hs.out.atInt hlt
   have e1:=(HI.out.2.2.2.2.cell (p:=⟨b,off+k,none⟩) hb).trans (hc k hlt)
   have ht:=hid (yap l k hlt)
   obtain ⟨x,hx⟩:∃x,l[k]=x:=⟨_,rfl⟩
   rw [hx] at e1 ht
   clear hc hx
   by_cases hm:mayB x=true
   ·rw [mayB] at hm
    simp at hm
    obtain ⟨n,rfl⟩:∃n:Nat,x=n:=⟨x.toNat,by omega⟩
    have hn:n < 400:=by omega
    have hnI:(n:Int) < 400:=by omega
    have hn448:n < 448:=by omega
    have e2:=HI.out.1 n hn448
    have e3:=HI.out.2.1 n
    have done:InC (wr.setCell ⟨w.heap.size+1,n,none⟩ (.bool true)) (w.heap.size+1) (l.take (k+1))∧WFree (wr.setCell ⟨w.heap.size+1,n,none⟩ (.bool true)) (w.heap.size+1)∧WCells (wr.setCell ⟨w.heap.size+1,n,none⟩ (.bool true)) w.heap.size (fun _=>0)∧
      WFree (wr.setCell ⟨w.heap.size+1,n,none⟩ (.bool true)) w.heap.size∧Below w.heap.size w (wr.setCell ⟨w.heap.size+1,n,none⟩ (.bool true)):=by
     obtain ⟨d1,d2,d3,d4,d5⟩:=HI.out
     refine ⟨fun j hj=>?_,d2.set _ _,fun j hj=>(zzJ (w:=wr) (a:=⟨w.heap.size,j,none⟩) (Below.heap_setCell _ _ _ _ (by simp))).trans (d3 j hj),d4.set _ _,yab d5 (by omega)⟩
     rw [ht.out,inL_in _ _ _ hn]
     by_cases e:j=n
     ·subst e; simp [go_sem,d1 j hj]
     ·simp [go_sem,d1 j hj,e]
    have Done:=hid done
    clear done hm hn hn448
    go_wp2
    obtain ⟨d1,d2,d3,d4,d5⟩:=Done.out
    exact ⟨⟨k+1,by go_num,by omega,by simpa [go_sem] using hsz,d1,d2,d3,d4,d5⟩,by simp [intOf]; omega⟩
   ·have hm':mayB x=false:=by simpa using hm
    have he:=hid (fun j=>inL_out (l.take k) x hm' j)
    have hI':Hid (InC wr (w.heap.size+1) (l.take (k+1))):=fun j hj=>by rw [ht.out,he.out]; exact HI.out.1 j hj
    by_cases h0:0≤x
    ·have h1:¬x < 400:=by simp [mayB] at hm'; omega
     clear hm hm'
     go_wp2
     exact ⟨⟨k+1,by go_num,by omega,hsz,hI'.out,HI.out.2⟩,by simp [intOf]; omega⟩
    ·clear hm hm'
     go_wp2
     exact ⟨⟨k+1,by go_num,by omega,hsz,hI'.out,HI.out.2⟩,by simp [intOf]; omega⟩
  ·have hke:l.take k=l:=List.take_of_length_le (by omega)
   have hin:Hid (InC wr (w.heap.size+1) l):=by rw [←hke]; exact HI.out.1
   obtain ⟨W2,hW2⟩:∃W2,wr.alloc (.cells #[.int .u64 0, .int .u64 0, .int .u64 0, .int .u64 0, .int .u64 0, .int .u64 0, .int .u64 0] 25)=W2:=⟨_,rfl⟩
   have b2:Below wr.heap.size wr W2:=by rw [←hW2]; exact yaa (Below.refl _ _) (zG _)
   have p1:Hid (InC W2 (w.heap.size+1) l):=hin.out.below b2 (by omega)
   have p2:Hid (WCells W2 w.heap.size (fun _=>0)):=HI.out.2.2.1.below b2 (by omega)
   have p3:Hid (WFree W2 w.heap.size):=HI.out.2.2.2.1.below b2 (by omega)
   have p4:Hid (WCells W2 (w.heap.size+2) (fun _=>0)):=by
    show WCells _ _ _
    rw [←hW2,←hsz]
    intro i hi
    rcases ye9 hi with rfl | rfl | rfl | rfl | rfl | rfl | rfl <;> simp [go_sem]
   have p5:Hid (WFree W2 (w.heap.size+2)):=fun i=>by rw [←hW2,←hsz]; simp [go_sem]
   have p6:Hid (Below w.heap.size w W2):=HI.out.2.2.2.2.trans (b2.mono (by omega))
   have HW2:=hid hW2
   clear hke hin b2 hW2
   go_wp2_with fail
   rw [HW2.out]
   go_loopw [6,7] (fun i _ wq=>∃n:Nat,i= .int .i64 n∧n≤7∧Hid (WCells wq (w.heap.size+2) (fun j=>if j < n then wof l j else 0)∧WFree wq (w.heap.size+2)∧InC wq (w.heap.size+1) l∧WCells wq w.heap.size (fun _=>0)∧WFree wq w.heap.size∧Below w.heap.size w wq)) (fun i _ _=>7 - (intOf i).toNat)
   case atStart=>exact ⟨0,rfl,by omega,p4.out.congr (fun j hj=>by simp),p5.out,p1.out,p2.out,p3.out,p6.out⟩
   case round=>
    obtain ⟨n,rfl,hn,HJ⟩:=hrel
    by_cases hn7:n < 7
    ·go_wp2_with fail
     go_loopw [7] (fun v wq=>∃m:Nat,m≤64∧v= .int .i64 ((m:Int) - 1)∧Hid (WCells wq (w.heap.size+2) (wpre l n m)∧WFree wq (w.heap.size+2)∧InC wq (w.heap.size+1) l∧WCells wq w.heap.size (fun _=>0)∧WFree wq w.heap.size∧Below w.heap.size w wq)) (fun v _=>(intOf v+1).toNat)
     case atStart=>exact ⟨64,by omega,by simp,HJ.out.1.congr (fun j hj=>by unfold wpre; rw [upM_64]; split <;> (try split) <;> first | rfl | omega),HJ.out.2⟩
     case round=>
      clear HJ
      obtain ⟨m,hm,rfl,HJ⟩:=hrel
      cases m with
      | zero=>
        have h0:Hid (∀W,WCells W (w.heap.size+2) (wpre l n 0)→WCells W (w.heap.size+2) (fun j=>if j < n+1 then wof l j else 0)):=fun W h=>h.congr (fun j hj=>by
         unfold wpre
         rw [upM_0]
         by_cases e:j=n
         ·subst e; simp [wof]
         ·have:(j < n+1)= (j < n):=by simp; omega
          simp [e,this])
        go_wp2
        exact ⟨⟨n+1,by go_num,by omega,h0.out _ HJ.out.1,HJ.out.2⟩,by simp [intOf]; omega⟩
      | succ m=>
        have hm64:m < 64:=by omega
        have hst:=hid (yfM (inWB l n) m hm64)
        have hh:=yir (inWB l n) m
        have e1:((m+1:Nat):Int) - 1= (m:Int):=by omega
        rw [e1]
        have c1:wr.cell? ⟨w.heap.size+2,n,none⟩=some (.int .u64 (upM (inWB l n) (m+1):Nat)):=by have:=HJ.out.1 n hn7; simpa [wpre] using this
        have c2:=HJ.out.2.1 n
        have c3:=HJ.out.2.2.1 (64 * n+m) (by omega)
        have hbit:inL l (64 * n+m)=inWB l n m:=rfl
        rw [hbit] at c3
        obtain ⟨M,hM⟩:∃M,upM (inWB l n) (m+1)=M:=⟨_,rfl⟩
        rw [hM] at hst hh c1
        have hM2:2 * M < 18446744073709551616:=by omega
        have hup:=upM_lt (inWB l n) m
        have done:∀(v:Nat) (W':World),v=upM (inWB l n) m→WCells W' (w.heap.size+2) (fun j=>if j=n then v else wpre l n (m+1) j)→WCells W' (w.heap.size+2) (wpre l n m):=fun v W' hv h=>h.congr (fun j hj=>by
         by_cases e:j=n
         ·subst e; simp [wpre,hv]
         ·simp [wpre,e])
        have Done:=hid done
        have s0:Hid (∀(W:World) (g:Nat→Nat) (v:Nat),WCells W (w.heap.size+2) g∧WFree W (w.heap.size+2)∧InC W (w.heap.size+1) l∧WCells W w.heap.size (fun _=>0)∧WFree W w.heap.size∧Below w.heap.size w W→
          WCells (W.setCell ⟨w.heap.size+2,n,none⟩ (.int .u64 v)) (w.heap.size+2) (fun j=>if j=n then v else g j)∧WFree (W.setCell ⟨w.heap.size+2,n,none⟩ (.int .u64 v)) (w.heap.size+2)∧InC (W.setCell ⟨w.heap.size+2,n,none⟩ (.int .u64 v)) (w.heap.size+1) l∧
          WCells (W.setCell ⟨w.heap.size+2,n,none⟩ (.int .u64 v)) w.heap.size (fun _=>0)∧WFree (W.setCell ⟨w.heap.size+2,n,none⟩ (.int .u64 v)) w.heap.size∧Below w.heap.size w (W.setCell ⟨w.heap.size+2,n,none⟩ (.int .u64 v))):=fun W g v ⟨d1,d2,d3,d4,d5,d6⟩=>
         ⟨d1.set hn7,d2.set _ _,fun j hj=>(zzJ (w:=W) (a:=⟨w.heap.size+1,j,none⟩) (Below.heap_setCell _ _ _ _ (by simp))).trans (d3 j hj),fun j hj=>(zzJ (w:=W) (a:=⟨w.heap.size,j,none⟩) (Below.heap_setCell _ _ _ _ (by simp))).trans (d4 j hj),d5.set _ _,yab d6 (by omega)⟩
        have e2:Hid ((2 * (M:Int))= ((2 * M:Nat):Int)):=by show _ = _; simp
        have e3:Hid ((2 * (M:Int)+1)= ((2 * M+1:Nat):Int)):=by show _ = _; simp
        obtain ⟨bt,hbt⟩:∃b,inWB l n m=b:=⟨_,rfl⟩
        rw [hbt] at c3 hst
        clear done hM hbit hbt e1
        cases bt
        ·have hv:Hid (2 * M=upM (inWB l n) m):=by show _ = _; rw [hst.out]; simp
         go_wp2
         rw [e2.out]
         obtain ⟨d1,d2⟩:=s0.out wr _ (2 * M) HJ.out
         exact ⟨⟨m,by omega,rfl,Done.out _ _ hv.out d1,d2⟩,by simp [intOf]⟩
        ·have hv:Hid (2 * M+1=upM (inWB l n) m):=by show _ = _; rw [hst.out]; simp
         rw [hst.out] at hup
         simp only [if_true] at hup
         go_wp2
         rw [e3.out,e2.out]
         obtain ⟨d1,d2⟩:=s0.out _ _ (2 * M+1) (s0.out wr _ (2 * M) HJ.out)
         exact ⟨⟨m,by omega,rfl,Done.out _ _ hv.out (d1.congr (fun j hj=>by by_cases e:j=n <;> simp [e])),d2⟩,by simp [intOf]⟩
    ·obtain rfl:n=7:=by omega
     have hc':WCells wr (w.heap.size+2) (wof l):=HJ.out.1.congr (fun j hj=>by simp [hj])
     obtain ⟨_,d1,d2,d3,d4,d5⟩:=HJ.out
     obtain ⟨r0,r1,r2,r3,r4,r5,r6⟩:=hc'.all
     obtain ⟨z0,z1,z2,z3,z4,z5,z6⟩:=d3.all
     have f0:=d4 0
     have f1:=d4 1
     have f2:=d4 2
     have f3:=d4 3
     have f4:=d4 4
     have f5:=d4 5
     have f6:=d4 6
     have D5:=hid d5
     clear hc' d1 d2 d3 d4 d5 HJ
     go_wp2
     refine bodyPost_ret (v:=wv (wof l)) (by simp [results,Tryz.results18,go_sem,z0,z1,z2,z3,z4,z5,z6]) rfl ⟨rfl,?_⟩
     exact yab (yab (yab (yab (yab (yab (yab D5.out (zG _)) (zG _)) (zG _)) (zG _)) (zG _)) (zG _)) (zG _)
end
end Go.Proofs.YtkpgfmonhfnhdaaGreatDoor
