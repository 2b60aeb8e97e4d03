/-
  ferialaw22.face: the reference's face.
-/
import Derived.Test.YtkpgfmonhfnhdaaGreatDoorQ8095c5
import Derived.Test.YtkpgfmonhfnhdaaGreatDoorQ4e1493
import Derived.Test.YtkpgfmonhfnhdaaGreatDoorQ0fd87b
import Derived.Test.YtkpgfmonhfnhdaaGreatDoorQfb4f3d
import Derived.Test.YtkpgfmonhfnhdaaGreatDoorQ039b6d
import Derived.Test.YtkpgfmonhfnhdaaGreatDoorQ0a53e8
import Derived.Deep.CutRange
import Derived.Deep.Cut
namespace Go.Proofs.YtkpgfmonhfnhdaaGreatDoor
open Go.RowKit Go.Maps
set_option linter.unusedVariables false
attribute [local irreducible] secL
attribute [local go_sem ↓] ydt ycX
theorem yf9 (w:World) (arr:Array Value) (t:TypeId) {j:Nat} {v:Value} (h:arr[j]? =some v):(w.alloc (.cells arr t)).cell? ⟨w.heap.size,j,none⟩=some v:=by
 rw [World.cell?,World.alloc_heap_new]
 simpa using h
theorem nth_new (w:World) (t:TypeId):NthS w.heap.size (fun _=> .slice none 0 0) (w.alloc (.cells zl1 t)):=fun j hj=>by
 have e:(zl1:Array Value)= (List.replicate 32 (.slice none 0 0)).toArray:=rfl
 exact ⟨yf9 w _ t (by rw [e,List.getElem?_toArray,List.getElem?_replicate,if_pos hj]),yav w _ t j⟩
def fsL (l:List Cl) (X:List Int):List Int:=(lsL l X).headD []
theorem any_sec {q:Nat→Bool}:anyQ q=true↔0 < (secL q).length:=by
 rw [ybW]
 constructor
 ·rintro ⟨k,hk,hq⟩; exact secL_ne hk hq
 ·intro h
  obtain ⟨j,hj,hq,-⟩:=yaw.1 (List.getElem_mem h)
  exact ⟨j,hj,hq⟩
theorem sec_rng {q:Nat→Bool} {x:Int} (h:x∈secL q):0≤x∧x < 86400:=by
 obtain ⟨j,hj,-,rfl⟩:=yaw.1 h; omega
def xS (l:List Cl) (F U:Int) (k:Nat):List Int:=dayS l ((yae F U).take k)
theorem xS_snoc {l:List Cl} {F U:Int} {k:Nat} {n:Int} (h:(yae F U)[k]? =some n):xS l F U (k+1)=xS l F U k ++ if anyQ (dayQ l n) then [n] else []:=by
 obtain ⟨hk,rfl⟩:=List.getElem?_eq_some_iff.1 h
 rw [xS,xS,dayS,dayS,yeT hk]
theorem xS_more {l:List Cl} {F U:Int} {k:Nat} {n:Int} (h:(yae F U)[k]? =some n):xS l F U (k+1)=xS l F U k ++ if 0 < (secL (dayQ l n)).length then [n] else []:=by
 rw [xS_snoc h]
 by_cases h:0 < (secL (dayQ l n)).length
 ·rw [if_pos h,if_pos (any_sec.2 h)]
 ·rw [if_neg h,if_neg (fun e=>h (any_sec.1 e))]
theorem head_app {ls:List (List Int)} {L:List Int} (h:ls≠ []):(ls ++ [L]).headD []=ls.headD []:=by
 cases ls with
 | nil=>exact absurd rfl h
 | cons a ls=>rfl
theorem GrS.of_eff1 {b7 b16:Nat} {V:Nat→Value} {W W':World} (hE:Eff (fun b=>b=b7) W W'):GrS (O2 b7 b16) V W V W':=⟨hE.size,fun b hb hO _=>hE.block b hb (fun e=>hO (.inl e)),fun i hi k hk=> .inl ⟨i,hi,hk⟩⟩
theorem yhm (q:Nat→Bool):(secL q).length≤86400:=by rw [secL]; exact ya1 _ _
theorem fs_len (l:List Cl) (X:List Int):(fsL l X).length≤86400:=by
 cases X with
 | nil=>simp [fsL,lsL]
 | cons D X=>exact yhm (dayQ l D)
theorem xS_len (l:List Cl) (F U:Int) (k:Nat):(xS l F U k).length≤k:=by
 rw [xS,dayS]
 exact zI (List.length_filter_le _ _) (by rw [List.length_take]; omega)
theorem shx_new (w:World) (t:TypeId) (s:Nat→Int):ShX w.heap.size s (w.alloc (.cells #[.int .i64 (s 0), .int .i64 (s 1), .int .i64 (s 2), .int .i64 (s 3), .int .i64 (s 4), .int .i64 (s 5), .int .i64 (s 6), .int .i64 (s 7), .int .i64 (s 8), .int .i64 (s 9)] t)):=by
 refine ⟨fun i hi=>yf9 w _ t ?_,by simp⟩
 have hi10:i=0∨i=1∨i=2∨i=3∨i=4∨i=5∨i=6∨i=7∨i=8∨i=9:=by omega
 rcases hi10 with rfl | rfl | rfl | rfl | rfl | rfl | rfl | rfl | rfl | rfl <;> rfl
structure Bl3 (b:Nat) (p:Nat→Bool) (W:World):Prop where
 c:∀i,i < 192→W.cell? ⟨b,i,none⟩=some (.bool (p i))
 z:∀i,W.frozen? ⟨b,i,none⟩=false
 lt:b < W.heap.size
theorem Bl3.block {b:Nat} {p:Nat→Bool} {W W':World} (h:Bl3 b p W) (hs:W.heap.size≤W'.heap.size) (hb:W'.heap[b]? =W.heap[b]?):Bl3 b p W':=
 ⟨fun i hi=>(World.cell?_of_block (w:=W) (a:=⟨b,i,none⟩) hb).trans (h.c i hi),fun i=>(World.frozen?_of_block (w:=W) (a:=⟨b,i,none⟩) hb).trans (h.z i),zH h.lt hs⟩
theorem Bl3.set {b:Nat} {p:Nat→Bool} {W:World} (h:Bl3 b p W) {k:Nat} (hk:k < 192):Bl3 b (fun j=>decide (j=k) || p j) (W.setCell ⟨b,k,none⟩ (.bool true)):=
 ⟨fun i hi=>by
  by_cases e:i=k
  ·subst e; rw [World.cell?_setCell_same _ _ _ (by rw [h.c i hi])]; simp
  ·rw [yay e,h.c i hi]; simp [e],fun i=>by simpa [go_sem] using h.z i,by simpa using h.lt⟩
theorem Bl3.as {b:Nat} {p q:Nat→Bool} {W:World} (h:Bl3 b p W) (e:∀i,i < 192→q i=p i):Bl3 b q W:=⟨fun i hi=>by rw [e i hi]; exact h.c i hi,h.z,h.lt⟩
theorem zero192:Tryz.zeroCells84= (List.replicate 192 (.bool false)).toArray:=by kernel_rfl
theorem bl3_new (w:World) (t:TypeId):Bl3 w.heap.size (fun _=>false) (w.alloc (.cells Tryz.zeroCells84 t)):=by
 rw [zero192]
 exact ⟨fun i hi=>yf9 w _ t (by rw [List.getElem?_toArray,List.getElem?_replicate,if_pos hi]),fun i=>yav w _ t i,by simp⟩
def in3 (L:List Int) (j:Nat):Bool:=if j < 64 then inB (hrL L) j else if j < 128 then inB (mnL L) (j - 64) else inB (scL L) (j - 128)
theorem yfX (f:Int→Int) (L:List Int) (x:Int) (j:Nat):inB ((L ++ [x]).map f) j= (decide ((j:Int)=f x) || inB (L.map f) j):=by
 rw [inB,inB,List.map_append,Bool.eq_iff_iff]
 simp [or_comm]
theorem in3_nil (j:Nat):in3 [] j=false:=by simp [in3,inB,hrL,mnL,scL]
theorem hr_snoc (L:List Int) (x:Int) (j:Nat):inB (hrL (L ++ [x])) j= (decide ((j:Int)=x / 3600) || inB (hrL L) j):=yfX (fun s=>s / 3600) L x j
theorem mn_snoc (L:List Int) (x:Int) (j:Nat):inB (mnL (L ++ [x])) j= (decide ((j:Int)=x / 60 % 60) || inB (mnL L) j):=yfX (fun s=>s / 60 % 60) L x j
theorem sc_snoc (L:List Int) (x:Int) (j:Nat):inB (scL (L ++ [x])) j= (decide ((j:Int)=x % 60) || inB (scL L) j):=yfX (fun s=>s % 60) L x j
theorem in3_snoc {L:List Int} {x:Int} {h m s:Nat} (eh:x / 3600= (h:Int)) (em:x / 60 % 60= (m:Int)) (es:x % 60= (s:Int)) (h0:h < 24) (h1:m < 60) (h2:s < 60) (j:Nat) (hj:j < 192) :
  in3 (L ++ [x]) j= (decide (j=128+s) || (decide (j=64+m) || (decide (j=h) || in3 L j))):=by
 have n1:j < 128→decide (j=128+s)=false:=fun h=>decide_eq_false (by omega)
 have n2:j < 64∨128≤j→decide (j=64+m)=false:=fun h=>decide_eq_false (by omega)
 have n3:64≤j→decide (j=h)=false:=fun h=>decide_eq_false (by omega)
 have y1:128≤j→decide (((j - 128:Nat):Int)= (s:Int))=decide (j=128+s):=fun h=>decide_eq_decide.2 (by omega)
 have y2:64≤j→decide (((j - 64:Nat):Int)= (m:Int))=decide (j=64+m):=fun h=>decide_eq_decide.2 (by omega)
 have y3:decide ((j:Int)= (h:Int))=decide (j=h):=decide_eq_decide.2 (by omega)
 unfold in3
 by_cases a:j < 64
 ·rw [if_pos a,if_pos a,hr_snoc,eh,y3,n1 (by omega),n2 (.inl a),Bool.false_or,Bool.false_or]
 ·rw [if_neg a,if_neg a]
  by_cases b:j < 128
  ·rw [if_pos b,if_pos b,mn_snoc,em,y2 (by omega),n1 b,n3 (by omega),Bool.false_or,Bool.false_or]
  ·rw [if_neg b,if_neg b,sc_snoc,es,y1 (by omega),n2 (.inr (by omega)),n3 (by omega),Bool.false_or,Bool.false_or]
theorem SlO.at {B:Nat} {V:Nat→Value} {W:World} {b off:Nat} {xs:List Int} (h:SlO B V W (some ⟨b,off,none⟩) xs):∀j (h:j < xs.length),W.cell? ⟨b,off+j,none⟩=some (.int .i64 xs[j]):=by
 rcases h with rfl | ⟨b',off',e,-,hc⟩
 ·intro j hj; exact absurd hj (by simp)
 ·injection e with e
  injection e with e1 e2
  subst e1; subst e2
  exact hc
def yc4 (v:Value):Sem Value:=Instr.loadAt 83 v
theorem yjf (v:Value):Instr.loadAt 83 v=yc4 v:=rfl
theorem info64b:(Tryz.prog.info? 83).map (·.size)=some 64:=by kernel_rfl
theorem Bl3.ld {b:Nat} {p:Nat→Bool} {W:World} (h:Bl3 b p W) {o:Nat} (ho:o+64≤192) (q:Nat→Bool) (e:∀i,i < 64→p (o+i)=q i):(yc4 (.pointer (some ⟨b,o,none⟩))).run Tryz.prog W= .ok (.agg (mkL q).toArray) W:=by
 have hr:W.rangeAt b o (mkL q):=fun j v hv=>by
  obtain ⟨hj,e2⟩:=List.getElem?_eq_some_iff.1 hv
  rw [mkL_len] at hj
  rw [h.c (o+j) (by omega),e j hj,←hv,mkL_at q hj]
 unfold yc4
 simp only [Instr.loadAt,Instr.sureAddr,Sem.run_bind,Sem.run_pure,Result.andThen_ok,run_loadVar_mid W b o 83 (mkL q) _ hr Tryz.underlying83 rfl (by rw [mkL_len]; exact info64b)]
theorem in3_0 (L:List Int) {i:Nat} (h:i < 64):in3 L i=inB (hrL L) i:=by unfold in3; rw [if_pos h]
theorem in3_1 (L:List Int) {i:Nat} (h:i < 64):in3 L (64+i)=inB (mnL L) i:=by
 unfold in3
 rw [if_neg (show¬64+i < 64 by omega),if_pos (show 64+i < 128 by omega),Nat.add_sub_cancel_left]
theorem in3_2 (L:List Int) {i:Nat} (h:i < 64):in3 L (128+i)=inB (scL L) i:=by
 unfold in3
 rw [if_neg (show¬128+i < 64 by omega),if_neg (show¬128+i < 128 by omega),Nat.add_sub_cancel_left]
structure Ld3 (g:Nat) (p0 p1 p2:Nat→Bool) (W:World):Prop where
 l0:(yc4 (.pointer (some ⟨g,0,none⟩))).run Tryz.prog W= .ok (.agg (mkL p0).toArray) W
 l1:(yc4 (.pointer (some ⟨g,64,none⟩))).run Tryz.prog W= .ok (.agg (mkL p1).toArray) W
 l2:(yc4 (.pointer (some ⟨g,128,none⟩))).run Tryz.prog W= .ok (.agg (mkL p2).toArray) W
theorem Bl3.ld3 {g:Nat} {L:List Int} {W:World} (h:Bl3 g (in3 L) W):Ld3 g (inB (hrL L)) (inB (mnL L)) (inB (scL L)) W:=by
 refine ⟨?_,?_,?_⟩
 ·exact h.ld (o:=0) (by omega) (inB (hrL L)) fun i hi=>by rw [Nat.zero_add]; exact in3_0 L hi
 ·exact h.ld (o:=64) (by omega) (inB (mnL L)) fun i hi=>in3_1 L hi
 ·exact h.ld (o:=128) (by omega) (inB (scL L)) fun i hi=>in3_2 L hi
attribute [local go_sem ↓] yjf yhj
set_option maxRecDepth 100000 in
set_option maxHeartbeats 12800000 in
theorem RFace_any (a:Option Addr) (cap:Nat) (l:List Cl) (F U:Int) (w:World) (hl:l.length≤1000) (hs:Sl w a (cls l)) (hok:∀c∈l,c.Ok) (h0:0≤F) (h1:F≤146097) (h2:U≤146096) (h3:F≤U+1) :
  Calls Tryz.prog 10 #[.slice a l.length cap, .int .i64 F, .int .i64 U] w fun e w'=>e= .returned (fcv (fcR l (dayS l (yae F U))) (fiV l (dayS l (yae F U))) (laV l (dayS l (yae F U))) ((dayS l (yae F U)).length:Nat) (evB (lsL l (dayS l (yae F U)))) (sqA (lsL l (dayS l (yae F U)))))∧Below w.heap.size w w':=by
 have hXL:(dayS l (yae F U)).length≤146097:=by rw [dayS]; exact zI (List.length_filter_le _ _) (by rw [yaH]; omega)
 obtain ⟨XX,hXX⟩:∃X,dayS l (yae F U)=X:=⟨_,rfl⟩
 rw [hXX] at hXL⊢
 have HXX:=hid hXX
 have HXL:=hid hXL
 clear hXX hXL
 have A0:=ydS w 28
 have B0:Below w.heap.size w (w.alloc (.cells zl0 28)):=yaa (Below.refl _ _) (zG _)
 obtain ⟨W0,hW0⟩:∃W0,w.alloc (.cells zl0 28)=W0:=⟨_,rfl⟩
 have s0:W0.heap.size=w.heap.size+1:=by rw [←hW0]; simp
 rw [hW0] at A0 B0
 have A1:=ydS W0 28
 have B1:Below W0.heap.size W0 (W0.alloc (.cells zl0 28)):=yaa (Below.refl _ _) (zG _)
 obtain ⟨W1,hW1⟩:∃W1,W0.alloc (.cells zl0 28)=W1:=⟨_,rfl⟩
 have s1:W1.heap.size=W0.heap.size+1:=by rw [←hW1]; simp
 rw [hW1] at A1 B1
 have hst:(yco (.pointer (some ⟨W0.heap.size,0,none⟩)) (.agg #[.int .u64 0, .int .u64 0, .int .u64 0, .int .u64 0, .int .u64 0, .int .u64 0, .int .u64 0, .int .u64 0, .int .u64 0, .int .u64 0, .int .u64 0, .int .u64 0, .int .u64 0, .int .u64 0, .int .u64 0, .int .u64 0, .int .u64 0, .int .u64 0, .int .u64 0, .int .u64 0, .int .u64 0, .int .u64 0, .int .u64 0, .int .u64 0, .int .u64 0, .int .u64 0, .int .u64 0, .int .u64 0, .int .u64 0, .int .u64 0, .int .u64 0, .int .u64 0, .int .u64 0, .int .u64 0, .int .u64 0, .int .u64 0, .int .u64 0, .int .u64 0, .int .u64 0, .int .u64 0, .int .u64 0, .int .u64 0, .int .u64 0, .int .u64 0, .int .u64 0, .int .u64 0, .int .i64 0, .int .i64 0, .int .i64 0, .bool true, .bool true])).run Tryz.prog W1= .ok () (W1.setCells W0.heap.size 0 (fcL (fun _=>0) 0 0 0 true true)):=A1.st (fun _=>0) 0 0 0 true true
 have A2:=A1.put (fun _=>0) 0 0 0 true true
 have B2:Below W0.heap.size W0 (W1.setCells W0.heap.size 0 (fcL (fun _=>0) 0 0 0 true true)):=B1.trans ((Eff.setCells (O:=fun x=>x=W0.heap.size) rfl (fcL (fun _=>0) 0 0 0 true true) 0 W1 (Eff.refl _ _)).below (by rintro b rfl; exact zG _) (by omega))
 have s2:(W1.setCells W0.heap.size 0 (fcL (fun _=>0) 0 0 0 true true)).heap.size=W1.heap.size:=ybe _ _ _ _
 obtain ⟨W2,hW2⟩:∃W2,W1.setCells W0.heap.size 0 (fcL (fun _=>0) 0 0 0 true true)=W2:=⟨_,rfl⟩
 rw [hW2] at A2 B2 s2 hst
 have A3:NthS W2.heap.size (fun _=> .slice none 0 0) (W2.alloc (.cells zl1 79)):=nth_new W2 _
 have B3:Below W2.heap.size W2 (W2.alloc (.cells zl1 79)):=yaa (Below.refl _ _) (zG _)
 obtain ⟨W3,hW3⟩:∃W3,W2.alloc (.cells zl1 79)=W3:=⟨_,rfl⟩
 have s3:W3.heap.size=W2.heap.size+1:=by rw [←hW3]; simp
 rw [hW3] at A3 B3
 have HI0:Hid (RfS W0 W0.heap.size W2.heap.size W3.heap.size (fun _=> .slice none 0 0) (rowL l []) 0 0 0 true true W3):=
  ⟨A2.block B3.size (B3.block _ (by omega)),⟨fun i hi=>World.ownsRow_nil _ _ _ _,fun i j _ _ _ k hk=>(by cases hk),zG _⟩,A3,B2.trans (B3.mono (by omega)),by omega⟩
 obtain ⟨b6,e6⟩:∃b,w.heap.size=b:=⟨_,rfl⟩
 obtain ⟨b7,e7⟩:∃b,W0.heap.size=b:=⟨_,rfl⟩
 obtain ⟨b16,e16⟩:∃b,W2.heap.size=b:=⟨_,rfl⟩
 obtain ⟨B,eB⟩:∃b,W3.heap.size=b:=⟨_,rfl⟩
 rw [e6] at A0
 rw [e7,e16,eB] at HI0
 rw [e7] at hst
 have HW0:=hid hW0
 have HW1:=hid hW1
 have HW3:=hid hW3
 have HA0:=hid A0
 have HB0:=hid B0
 have Hs:=hid hs
 have Hok:=hid hok
 have E6:=hid e6
 have E7:=hid e7
 have E16:=hid e16
 have HS:Hid (b7=b6+1):=by show _ = _; omega
 clear hW0 hW1 hW2 hW3 A0 A1 A2 A3 B1 B2 B3 B0 s0 s1 s2 s3 hs hok e6 e7 e16 eB
 go_enter Tryz.func10,Tryz.ntmps10
 go_upto_region 1 with fail
 rw [HW0.out,E6.out]
 go_upto_region 3 with (rw [HW1.out,E7.out])
 go_upto_region 4 with fail
 rw [HW3.out,E16.out]
 clear hst
 go_upto_region 6 with fail
 clear HW0 HW1 HW3
 go_loopw [8,9,10,11,12,13,14,15,17,18] (fun v8 v9 v10 v11 v12 v13 v14 v15 v17 v18 wr=>∃(k:Nat) (V:Nat→Value) (ar:Option Addr) (nr cr:Nat),v18= .int .i64 (F+k)∧F+k≤U+1∧v8=V 0∧v9=V 1∧v10=V 2∧v11=V 3∧v12=V 4∧v13=V 5∧v14=V 6∧v15=V 7∧v17= .slice ar nr cr∧Hid (RfS W0 b7 b16 B V (rowL l (xS l F U k)) (fiV l (xS l F U k)) (laV l (xS l F U k)) ((xS l F U k).length:Nat) (evB (lsL l (xS l F U k))) (sqA (lsL l (xS l F U k))) wr)∧Hid (SlO B V wr ar (fsL l (xS l F U k))∧nr= (fsL l (xS l F U k)).length)) (fun _ _ _ _ _ _ _ _ _ v18 _=>(U+1 - intOf v18).toNat)
 case atStart=>exact ⟨0,fun _=> .slice none 0 0,none,0,0,by go_num,by omega,rfl,rfl,rfl,rfl,rfl,rfl,rfl,rfl,rfl,HI0, .inl rfl,rfl⟩
 case round=>
  obtain ⟨k,V,ar,nr,cr,rfl,hk,rfl,rfl,rfl,rfl,rfl,rfl,rfl,rfl,rfl,HI,Hf⟩:=hrel
  by_cases hlt:F+k≤U
  ·have hD0:0≤F+(k:Int):=by omega
   have hD1:F+(k:Int) < 146097:=by omega
   have hDk:(yae F U)[k]? =some (F+(k:Int)):=by rw [List.getElem?_eq_getElem (by rw [yaH]; omega),ycj]
   have HX1:Hid (xS l F U (k+1)=xS l F U k ++ if 0 < (secL (dayQ l (F+k))).length then [F+(k:Int)] else []):=xS_more hDk
   have HB:Hid (Below w.heap.size w wr):=HB0.out.trans (HI.out.e.mono HB0.out.size)
   have hrng:=hid (fun x hx=>sec_rng (q:=dayQ l (F+k)) (x:=x) hx)
   have hfi1:=hid (fiV_one l (F+k))
   have hfi2:=hid (fun h=>yiy l (X:=xS l F U k) h (F+k))
   have hla:=hid (yin l (xS l F U k) (F+k))
   have hls:=hid (yei l (xS l F U k) (F+k))
   have hrow:=hid (rowL_snoc l (xS l F U k) (F+k))
   have hrl:=hid (yaW l (xS l F U k))
   have hxl:(xS l F U k).length≤146097:=zI (xS_len l F U k) (by omega)
   have cA:=hid (ybC (ygd a cap l (F+k) wr hl (Hs.out.below HB.out) Hok.out hD0 hD1))
   have cS:=hid (fun W=>yft (F+k) W hD0 hD1)
   have hwk:=ygs (F+k)
   have hyr:=yas hD0 hD1
   rw [←yaZ,shq] at cS
   obtain ⟨s,hsF⟩:∃s,shF (F+k)=s:=⟨_,rfl⟩
   obtain ⟨L,hL⟩:∃L,secL (dayQ l (F+k))=L:=⟨_,rfl⟩
   obtain ⟨X,hX⟩:∃X,xS l F U k=X:=⟨_,rfl⟩
   obtain ⟨D,hD⟩:∃D,F+(k:Int)=D:=⟨_,rfl⟩
   rw [hL] at HX1 hrng hfi1 hla hls cA
   rw [hX] at HX1 hfi2 hla hls hrow hrl hxl HI Hf
   rw [hsF] at cS hwk
   rw [hD] at HX1 hfi1 hfi2 hla hls hrow cA cS hD0 hD1 hlt
   obtain ⟨ev,hev⟩:∃g,evB (lsL l X)=g:=⟨_,rfl⟩
   obtain ⟨sq,hsq⟩:∃g,sqA (lsL l X)=g:=⟨_,rfl⟩
   rw [hev,hsq] at HI
   have Hev:=hid hev
   have Hsq:=hid hsq
   clear hev hsq
   have HsF:=hid hsF
   have HL:=hid hL
   have HXk:=hid hX
   have HDk:=hid hD
   rw [hD] at HsF HL
   clear hDk hsF hL hX
   go_wp2_with (rw [hD])
   refine cA.out.mono ?_
   rintro e w1 ⟨a1,n1,c1,rfl,hn1,-,ho1,hB1⟩
   obtain rfl:=hn1.out
   have HI1:=hid (HI.out.call hB1).1
   have HG1:=hid (HI.out.call hB1).2
   have Hs1:=hid (HI.out.r.slo ho1)
   clear cA hn1 ho1 hB1
   obtain ⟨nL,hnL⟩:∃n,L.length=n:=⟨_,rfl⟩
   rw [hnL]
   rw [hnL] at HX1
   have HnL:=hid hnL
   clear hnL
   cases nL with
   | zero=>
     have HX2:Hid (xS l F U (k+1)=X):=by show _ = _; rw [HX1.out,if_neg (by omega),List.append_nil]
     have Hf1:=hid (Hf.out.1.grs HG1.out HI1.out.two)
     have Hnr:=hid Hf.out.2
     clear Hf HI HX1 cS HG1 Hs1 hrow hrl hfi1 hfi2 hla hls
     go_wp2
     exact ⟨⟨k+1,V,ar,nr,cr,by have:=HDk.out; show Value.int .i64 _ = _; congr 1; go_num,by have:=HDk.out; omega,rfl,rfl,rfl,rfl,rfl,rfl,rfl,rfl,rfl,by rw [HX2.out,Hev.out,Hsq.out]; exact HI1,by rw [HX2.out]; exact ⟨Hf1.out,Hnr.out⟩⟩,by have:=HDk.out; simp [intOf]; omega⟩
   | succ m=>
     have hmb:(m:Int) < 86400:=by have h1:=HnL.out; have h2:=yhm (dayQ l D); rw [HL.out] at h2; omega
     have hb0:(((m+1:Nat):Int) == 0)=false:=by simp; omega
     have hb1:((m:Int)+1 == 0)=false:=by simp; omega
     have HX2:Hid (xS l F U (k+1)=X ++ [D]):=by show _ = _; rw [HX1.out,if_pos (by omega)]
     clear HX1
     go_upto_region 10 with fail
     clear hb0 hb1
     go_wp2_with fail
     refine (cS.out w1).mono ?_
     rintro e w2 ⟨rfl,hB2⟩
     have k2:=HI1.out.call hB2
     have hbN:Below w2.heap.size w2 (w2.alloc (.cells #[.int .i64 (s 0), .int .i64 (s 1), .int .i64 (s 2), .int .i64 (s 3), .int .i64 (s 4), .int .i64 (s 5), .int .i64 (s 6), .int .i64 (s 7), .int .i64 (s 8), .int .i64 (s 9)] 71)):=yaa (Below.refl _ _) (zG _)
     have hSx:ShX w2.heap.size s (w2.alloc (.cells #[.int .i64 (s 0), .int .i64 (s 1), .int .i64 (s 2), .int .i64 (s 3), .int .i64 (s 4), .int .i64 (s 5), .int .i64 (s 6), .int .i64 (s 7), .int .i64 (s 8), .int .i64 (s 9)] 71)):=shx_new w2 _ s
     have k3:=k2.1.call hbN
     have HI3:=hid k3.1
     have HG3:=hid (HG1.out.trans (k2.2.trans k3.2))
     have Hs3:=hid (Hs1.out.grs (k2.2.trans k3.2) HI1.out.two)
     have Hf3:=hid (Hf.out.1.grs HG3.out HI1.out.two)
     have Hnr:=hid Hf.out.2
     have Hbx:=hid (k2.1.r.new (W':=w2.alloc (.cells #[.int .i64 (s 0), .int .i64 (s 1), .int .i64 (s 2), .int .i64 (s 3), .int .i64 (s 4), .int .i64 (s 5), .int .i64 (s 6), .int .i64 (s 7), .int .i64 (s 8), .int .i64 (s 9)] 71)) (zG w2.heap.size) (by simp))
     obtain ⟨W4,hW4⟩:∃W,w2.alloc (.cells #[.int .i64 (s 0), .int .i64 (s 1), .int .i64 (s 2), .int .i64 (s 3), .int .i64 (s 4), .int .i64 (s 5), .int .i64 (s 6), .int .i64 (s 7), .int .i64 (s 8), .int .i64 (s 9)] 71)=W:=⟨_,rfl⟩
     obtain ⟨bx,ebx⟩:∃b,w2.heap.size=b:=⟨_,rfl⟩
     rw [hW4] at hSx HI3 HG3 Hs3 Hf3 Hbx
     rw [ebx] at hSx Hbx
     have Ebx:=hid ebx
     have HW4:=hid hW4
     have HSx:=hid hSx
     clear hB2 k2 hbN hSx k3 Hf HI HG1 Hs1 cS HI1 ebx hW4
     obtain ⟨bs,os,rfl,hos,hcs⟩:∃b off,a1=some ⟨b,off,none⟩∧Off B V W4 b∧∀j (h:j < L.length),W4.cell? ⟨b,off+j,none⟩=some (.int .i64 L[j]):=by
      rcases Hs3.out with e | h
      ·have:=HnL.out; rw [e] at this; cases this
      ·exact h
     have Hos:=hid hos
     have Hcs:=hid hcs
     have hL0:0 < L.length:=by have:=HnL.out; omega
     have hLm:m < L.length:=by have:=HnL.out; omega
     have ef0:fstI L=L[0]:=by rw [fstI,List.getElem?_eq_getElem hL0]; rfl
     have el0:lstI L=L[m]:=by rw [lstI,show L.length - 1=m by have:=HnL.out; omega,List.getElem?_eq_getElem hLm]; rfl
     have rf0:=hrng.out _ (List.getElem_mem hL0)
     have rl0:=hrng.out _ (List.getElem_mem hLm)
     have cf0:=hcs 0 hL0
     have cl0:=hcs m hLm
     rw [←ef0] at rf0 cf0
     rw [←el0] at rl0 cl0
     obtain ⟨x0,hx0⟩:∃x,fstI L=x:=⟨_,rfl⟩
     obtain ⟨x1,hx1⟩:∃x,lstI L=x:=⟨_,rfl⟩
     rw [hx0] at rf0 cf0 hfi1
     rw [hx1] at rl0 cl0 hla
     replace cf0:W4.cell? ⟨bs,os,none⟩=some (.int .i64 x0):=cf0
     have HRL:=hid rl0
     have HCL:=hid cl0
     clear hos hcs hL0 hLm ef0 el0 hx0 hx1 rl0 cl0
     go_upto_region 11 with (rw [HW4.out,Ebx.out])
     obtain ⟨g,hg⟩:∃g,((X.length:Int) == 0)=g:=⟨_,rfl⟩
     have c48:=HI3.out.f.c48
     iterate 13 go_step
     (try dsimp only)
     go_cut [17] from 45 to 51 (fun v17 wx=>∃(af:Option Addr) (nf cf:Nat),v17= .slice af nf cf∧Hid (RfS W0 b7 b16 B V (rowL l X) (fiV l (X ++ [D])) (laV l X) (X.length:Nat) ev sq wx∧Eff (fun b=>b=b7) W4 wx∧SlO B V wx af (fsL l (X ++ [D]))∧nf= (fsL l (X ++ [D])).length))
     case first=>
      cases g with
      | true=>
        have hXn:X= []:=List.eq_nil_of_length_eq_zero (by simpa using hg)
        have hfs:Hid (fsL l (X ++ [D])=L):=by show _ = _; rw [fsL,hls.out,hXn]; rfl
        have hfv:Hid (fiV l (X ++ [D])=86400 * D+x0):=by show _ = _; rw [hXn]; exact hfi1.out
        have hE:Eff (fun b=>b=b7) W4 (W4.setCell ⟨b7,46,none⟩ (.int .i64 (86400 * D+x0))):=(Eff.refl (fun b=>b=b7) W4).set rfl _ _
        have k5:=HI3.out.face hE (HI3.out.f.set46 (86400 * D+x0))
        have HK5:=hid k5.1
        have HS5:=hid (Hs3.out.grs k5.2 HI3.out.two)
        have HE5:=hid hE
        have z46:=HI3.out.f.z 46
        have c46:=HI3.out.f.c46
        clear hXn hg hE k5 c48
        go_wp2
        go_meet
        exact ⟨_,_,_,rfl,by rw [hfv.out]; exact HK5.out,HE5.out,by rw [hfs.out]; exact HS5.out,by rw [hfs.out]; exact HnL.out.symm⟩
      | false=>
        have hXn:X≠ []:=fun e=>by rw [e] at hg; cases hg
        have hfs:Hid (fsL l (X ++ [D])=fsL l X):=by show _ = _; rw [fsL,hls.out,fsL]; exact head_app (by rw [lsL]; simpa using hXn)
        have hfv:Hid (fiV l (X ++ [D])=fiV l X):=hfi2.out hXn
        clear hXn hg c48
        go_wp2
        go_meet
        exact ⟨_,_,_,rfl,by rw [hfv.out]; exact HI3.out,Eff.refl _ _,by rw [hfs.out]; exact Hf3.out,by rw [hfs.out]; exact Hnr.out⟩
     case rest=>
      obtain ⟨af,nf,cf,rfl,hc⟩:=hcut
      obtain ⟨hi5,he5,hs5,hn5⟩:=hc.out
      have hg5:=GrS.of_eff1 (b16:=b16) (V:=V) he5
      have HI5:=hid hi5
      have Hf5:=hid hs5
      have Hn5:=hid hn5
      have HG5:=hid (HG3.out.trans hg5)
      have Hs5:=hid (Hs3.out.grs hg5 HI3.out.two)
      have kb:=Hos.out.grs hg5 HI3.out.two
      have kx:=Hbx.out.grs hg5 HI3.out.two
      have Hos5:=hid kb.1
      have Hbx5:=hid kx.1
      have HSx5:=hid (HSx.out.block he5.size kx.2)
      have cL:=(World.cell?_of_block (w:=W4) (a:=⟨bs,os+m,none⟩) kb.2).trans HCL.out
      have hrl:=HRL.out
      obtain ⟨w5,hw5⟩:∃w5,wc=w5:=⟨_,rfl⟩
      rw [hw5] at HI5 Hf5 HG5 Hs5 Hos5 Hbx5 HSx5 cL⊢
      clear hi5 he5 hs5 hn5 hc hg5 kb kx HI3 HG3 Hs3 Hf3 Hos Hbx HSx hw5 Hnr hfi1 hfi2 HCL HRL c48 hg Hcs
      have hE47:Eff (fun b=>b=b7) w5 (w5.setCell ⟨b7,47,none⟩ (.int .i64 (86400 * D+x1))):=(Eff.refl (fun b=>b=b7) w5).set rfl _ _
      have k6:=HI5.out.face hE47 (HI5.out.f.set47 (86400 * D+x1))
      have hE48:Eff (fun b=>b=b7) w5 ((w5.setCell ⟨b7,47,none⟩ (.int .i64 (86400 * D+x1))).setCell ⟨b7,48,none⟩ (.int .i64 ((X.length:Int)+1))):=hE47.set rfl _ _
      have k7:=HI5.out.face hE48 (k6.1.f.set48 ((X.length:Int)+1))
      have c47:=HI5.out.f.c47
      have z47:=HI5.out.f.z 47
      have c48:=HI5.out.f.c48
      have z48:=HI5.out.f.z 48
      have eLen:((X ++ [D]).length:Int)= (X.length:Int)+1:=by simp
      obtain ⟨W6,hW6⟩:∃W,(w5.setCell ⟨b7,47,none⟩ (.int .i64 (86400 * D+x1))).setCell ⟨b7,48,none⟩ (.int .i64 ((X.length:Int)+1))=W:=⟨_,rfl⟩
      rw [hW6] at k7 hE48
      rw [←hla.out,←eLen] at k7
      have HK7:=hid k7
      have HE48:=hid hE48
      have HlA:=hid hla.out
      have HW6:=hid hW6
      clear hE47 k6 hE48 k7 eLen hW6
      go_upto_region 16 with fail
      rw [HW6.out]
      have hI6:=hid HK7.out.1
      have hG6:=hid (HG5.out.trans HK7.out.2)
      have k6:=HK7.out.2
      have hs6:=hid (Hs5.out.grs k6 HI5.out.two)
      have hf6:=hid (Hf5.out.grs k6 HI5.out.two)
      have kb6:=Hos5.out.grs k6 HI5.out.two
      have kx6:=Hbx5.out.grs k6 HI5.out.two
      have hb6:=hid kb6.1
      have hx6:=hid kx6.1
      have hS6:=hid (HSx5.out.block HE48.out.size kx6.2)
      have hne:Hid (evB (lsL l (X ++ [D]))= (ev && decide (L=fsL l (X ++ [D])))):=by show _ = _; rw [hls.out,evB_any,Hev.out,fsL,hls.out]
      clear k6 kb6 kx6 HI5 Hf5 HG5 Hs5 Hos5 Hbx5 HSx5 HK7 HE48 HW6 c47 z47 c48 z48 cL
      obtain ⟨X',hX'⟩:∃X',X ++ [D]=X':=⟨_,rfl⟩
      rw [hX'] at hI6 hf6 Hn5 hne HX2 hls HlA
      have HX':=hid hX'
      clear hX' hla hrl rf0 cf0
      go_cut [] from 67 to 74 (fun wx=>Hid (RfS W0 b7 b16 B V (rowL l X) (fiV l X') (laV l X') (X'.length:Nat) (evB (lsL l X')) sq wx∧GrS (O2 b7 b16) V W6 V wx))
      case first=>
       have c49:=hI6.out.f.c49
       have z49:=hI6.out.f.z 49
       have cI:=hid (Ints_any (some ⟨bs,os,none⟩) af c1 cf L (fsL l X') W6 (by have:=HnL.out; omega) (by have:=fs_len l X'; omega) hs6.out.sl hf6.out.sl)
       rw [HnL.out,←Hn5.out] at cI
       obtain ⟨g,hg⟩:∃g,decide (L=fsL l X')=g:=⟨_,rfl⟩
       rw [hg] at cI hne
       clear hg
       cases ev with
       | false=>
         have hE:=(Eff.refl (fun b=>b=b7) W6).set (b:=b7) rfl 49 (.bool false)
         have k:=hI6.out.face hE (hI6.out.f.set49 false)
         have HN:Hid (RfS W0 b7 b16 B V (rowL l X) (fiV l X') (laV l X') (X'.length:Nat) (evB (lsL l X')) sq (W6.setCell ⟨b7,49,none⟩ (.bool false))∧GrS (O2 b7 b16) V W6 V (W6.setCell ⟨b7,49,none⟩ (.bool false))):=by
          show _∧_
          rw [hne.out]; exact k
         clear hE k cI
         go_wp2
         go_meet
         exact HN
       | true=>
         go_wp2_with fail
         refine cI.out.mono ?_
         rintro e w7 ⟨rfl,hB7⟩
         have k7:=hI6.out.call hB7
         have hE:=(Eff.refl (fun b=>b=b7) w7).set (b:=b7) rfl 49 (.bool g)
         have k:=k7.1.face hE (k7.1.f.set49 g)
         have z49:=k7.1.f.z 49
         have c49:=k7.1.f.c49
         have HN:Hid (RfS W0 b7 b16 B V (rowL l X) (fiV l X') (laV l X') (X'.length:Nat) (evB (lsL l X')) sq (w7.setCell ⟨b7,49,none⟩ (.bool g))∧GrS (O2 b7 b16) V W6 V (w7.setCell ⟨b7,49,none⟩ (.bool g))):=by
          show _∧_
          rw [hne.out]; exact ⟨k.1,k7.2.trans k.2⟩
         clear hE k cI k7 hB7
         go_wp2
         go_meet
         exact HN
      case rest=>
       have hc:=hcut.out
       obtain ⟨W7,hW7⟩:∃W,wc=W:=⟨_,rfl⟩
       rw [hW7] at hc⊢
       have h2:=hI6.out.two
       have HI7:=hid hc.1
       have HG7:=hid (hG6.out.trans hc.2)
       have Hs7:=hid (hs6.out.grs hc.2 h2)
       have Hf7:=hid (hf6.out.grs hc.2 h2)
       have kb:=hb6.out.grs hc.2 h2
       have kx:=hx6.out.grs hc.2 h2
       have Hb7:=hid kb.1
       have Hx7:=hid kx.1
       have HS7:=hid (hS6.out.block hc.2.size kx.2)
       have HSq:Hid (sqA (lsL l X')= (sq && sqB L)):=by show _ = _; rw [hls.out,ycp,Hsq.out]
       have HRow:Hid (∀i,rowL l X' i=rowL l X i ++ newL l D i):=by rw [←HX'.out]; exact hrow.out
       clear hc h2 kb kx hI6 hG6 hs6 hf6 hb6 hx6 hS6 hW7 hne hls hcut
       have hBn:Below W7.heap.size W7 (W7.alloc (.cells Tryz.zeroCells84 84)):=yaa (Below.refl _ _) (zG _)
       have A8:=bl3_new W7 84
       have h2:=HI7.out.two
       have hHs8:=Hs7.out.grs (HI7.out.call hBn).2 h2
       have hbl:bs < W7.heap.size:=Hb7.out.hi
       obtain ⟨W8,hW8⟩:∃W,W7.alloc (.cells Tryz.zeroCells84 84)=W:=⟨_,rfl⟩
       obtain ⟨b21,e21⟩:∃b,W7.heap.size=b:=⟨_,rfl⟩
       rw [hW8] at A8 hHs8 hBn
       rw [e21] at A8 hbl
       have HB78:=hid hBn
       have HA8:=hid A8
       have Hbl:=hid hbl
       have HW8:=hid hW8
       have E21:=hid e21
       have HC8:=hid hHs8.at
       clear hBn A8 h2 hHs8 hbl hW8 e21
       go_upto_region 18 with (rw [HW8.out,E21.out])
       go_upto_region 19 with fail
       rw [←HnL.out]
       have hlen:L.length≤86400:=by have h2:=yhm (dayQ l D); rw [HL.out] at h2; exact h2
       clear HW8 hmb
       go_loopw [22] (fun v22 wr=>∃i:Nat,v22= .int .i64 i∧i≤L.length∧Hid (Bl3 b21 (in3 (L.take i)) wr∧Eff (fun b=>b=b21) W8 wr)) (fun v22 _=>L.length - (intOf v22).toNat)
       case atStart=>exact ⟨0,rfl,by omega,HA8.out.as (fun i _=>in3_nil i),Eff.refl _ _⟩
       case round=>
        obtain ⟨i,rfl,hi,HJ⟩:=hrel
        by_cases hiL:i < L.length
        ·have qqq:=0
         have ci:=HC8.out i hiL
         have ri:=hrng.out _ (List.getElem_mem hiL)
         have hti:=yai L i hiL
         obtain ⟨x,hx⟩:∃x,L[i]=x:=⟨_,rfl⟩
         rw [hx] at ci ri hti
         have ci2:=(HJ.out.2.cell (p:=⟨bs,os+i,none⟩) (Nat.lt_trans Hbl.out (by have:=HA8.out.lt; exact this)) (fun e=>by have:=Hbl.out; simp only [] at e; omega)).trans ci
         obtain ⟨r0,r1⟩:=ri
         obtain ⟨hh,eh⟩:∃h:Nat,x / 3600= (h:Int):=⟨(x / 3600).toNat,by omega⟩
         obtain ⟨mm,em⟩:∃h:Nat,x / 60 % 60= (h:Int):=⟨(x / 60 % 60).toNat,by omega⟩
         obtain ⟨ss,es⟩:∃h:Nat,x % 60= (h:Int):=⟨(x % 60).toNat,by omega⟩
         have em2:x % 3600 / 60= (mm:Int):=by omega
         have b1:hh < 24:=by omega
         have b2:mm < 60:=by omega
         have b3:ss < 60:=by omega
         have d1:(hh:Int) < 64:=by omega
         have d2:(mm:Int) < 64:=by omega
         have d3:(ss:Int) < 64:=by omega
         have s1:=HJ.out.1.set (show hh < 192 by omega)
         have s2:=s1.set (show 64+mm < 192 by omega)
         have s3:=s2.set (show 128+ss < 192 by omega)
         have ch:=HJ.out.1.c hh (by omega)
         have zh:=HJ.out.1.z hh
         have cm:=HJ.out.1.c (64+mm) (by omega)
         have zm:=HJ.out.1.z (64+mm)
         have cs:=HJ.out.1.c (128+ss) (by omega)
         have zs:=HJ.out.1.z (128+ss)
         have nx:Hid (Bl3 b21 (in3 (L.take (i+1))) (((wr.setCell ⟨b21,hh,none⟩ (.bool true)).setCell ⟨b21,64+mm,none⟩ (.bool true)).setCell ⟨b21,128+ss,none⟩ (.bool true))∧Eff (fun b=>b=b21) W8 (((wr.setCell ⟨b21,hh,none⟩ (.bool true)).setCell ⟨b21,64+mm,none⟩ (.bool true)).setCell ⟨b21,128+ss,none⟩ (.bool true))):=
          ⟨s3.as (fun j hj=>by rw [hti,in3_snoc eh em es b1 b2 b3 j hj]),((HJ.out.2.set rfl _ _).set rfl _ _).set rfl _ _⟩
         have q1:¬bs=b21:=fun e=>by have:=Hbl.out; omega
         have q2:¬64+mm=hh:=by omega
         have q3:¬128+ss=hh:=by omega
         have q4:¬128+ss=64+mm:=by omega
         clear s1 s2 s3 hti hx ci HJ b1 b2 b3
         go_wp2
         exact ⟨⟨i+1,by go_num,by omega,nx⟩,by simp [intOf]; omega⟩
        ·obtain rfl:i=L.length:=by omega
         have hJ:=HJ.out
         rw [List.take_length] at hJ
         have HD:Hid (Below wr.heap.size wr wr.drew):=(Below.refl _ _).drew
         have hL3:∀W2,Below wr.heap.size wr W2→Ld3 b21 (inB (hrL L)) (inB (mnL L)) (inB (scL L)) W2:=fun W2 hB=>(hJ.1.block hB.size (hB.block _ hJ.1.lt)).ld3
         obtain ⟨p0,hp0⟩:∃p,inB (hrL L)=p:=⟨_,rfl⟩
         obtain ⟨p1,hp1⟩:∃p,inB (mnL L)=p:=⟨_,rfl⟩
         obtain ⟨p2,hp2⟩:∃p,inB (scL L)=p:=⟨_,rfl⟩
         rw [hp0,hp1,hp2] at hL3
         have Hp0:=hid hp0
         have Hp1:=hid hp1
         have Hp2:=hid hp2
         have hC:Hid (∀W2,Below wr.heap.size wr W2→Hid (Ld3 b21 p0 p1 p2 W2)):=hL3
         have HE:=hid hJ.2
         have cM:=hid (fun p W=>ybC (yg1 p W))
         clear hJ HJ hlen hL3 hp0 hp1 hp2
         go_upto_region 24 with fail
         refine regF [] (S:=fun W=>Hid (Ld3 b21 p0 p1 p2 W)) (by kernel_rfl) (hC.out _ HD.out) (fun hHeld=>?_)
         refine zfA 0 ?_
         refine zfA 3 ?_
         refine zfA 6 ?_
         refine zfA 1 ?_
         refine zfA 4 ?_
         refine zfA 7 ?_
         refine rgO 2 (fun K hK=>?_)
         rw [if_pos (by rfl)]
         go_simp
         refine (cM.out p0 _).mono ?_
         rintro e y0 ⟨a2,n2,k2,rfl,hn0,-,ho0,hB0⟩
         have HB0:Hid (Below wr.heap.size wr y0):=HD.out.trans (hB0.mono HD.out.size)
         refine hK.out _ _ (fun _=>hC.out _ HB0.out) ?_
         clear hK
         have hS0:=hid (hC.out _ HB0.out)
         have HO0:=hid ho0
         have HN0:=hid hn0
         have HY0:=hid hB0
         clear ho0 hB0 hn0
         try simp only [rgPut]
         refine rgO 5 (fun K hK=>?_)
         rw [if_pos (by rfl)]
         go_simp
         refine (cM.out p1 _).mono ?_
         rintro e y1 ⟨a3,n3,k3,rfl,hn1,-,ho1,hB1⟩
         have HB1:Hid (Below wr.heap.size wr y1):=HB0.out.trans (hB1.mono HB0.out.size)
         refine hK.out _ _ (fun _=>hC.out _ HB1.out) ?_
         clear hK
         have hS1:=hid (hC.out _ HB1.out)
         have HO1:=hid ho1
         have HN1:=hid hn1
         have HY1:=hid hB1
         clear ho1 hB1 hn1
         try simp only [rgPut]
         refine rgO 8 (fun K hK=>?_)
         rw [if_pos (by rfl)]
         go_simp
         refine (cM.out p2 _).mono ?_
         rintro e y2 ⟨a4,n4,k4,rfl,hn2,-,ho2,hB2⟩
         have HB2:Hid (Below wr.heap.size wr y2):=HB1.out.trans (hB2.mono HB1.out.size)
         refine hK.out _ _ (fun _=>hC.out _ HB2.out) ?_
         clear hK
         have hS2:=hid (hC.out _ HB2.out)
         have HO2:=hid ho2
         have HN2:=hid hn2
         have HY2:=hid hB2
         clear ho2 hB2 hn2
         try simp only [rgPut]
         refine zfA 9 ?_
         refine zfA 10 ?_
         refine zfA 11 ?_
         refine OrdF.done (by kernel_rfl) ?_ _
         have hB79:Below W7.heap.size W7 wr:=HB78.out.trans (HE.out.below (B:=W7.heap.size) (by rintro b rfl; exact Nat.le_of_eq E21.out) HB78.out.size)
         have k9:=HI7.out.call hB79
         have h2:=HI7.out.two
         have g0:=GrS.of_below (O:=O2 b7 b16) (V:=V) HB0.out
         have g1:=GrS.of_below (O:=O2 b7 b16) (V:=V) HB1.out
         have g2:=GrS.of_below (O:=O2 b7 b16) (V:=V) HB2.out
         have kA:=k9.1.call HB2.out
         have HIA:=hid kA.1
         have HGA:=hid (HG7.out.trans (k9.2.trans kA.2))
         have HsA:=hid (Hs7.out.grs (k9.2.trans kA.2) h2)
         have HfA:=hid (Hf7.out.grs (k9.2.trans kA.2) h2)
         have kb:=Hb7.out.grs (k9.2.trans kA.2) h2
         have kx:=Hx7.out.grs (k9.2.trans kA.2) h2
         have HbA:=hid kb.1
         have HxA:=hid kx.1
         have HSA:=hid (HS7.out.block (k9.2.trans kA.2).size kx.2)
         have r0:=k9.1.r.call HB0.out
         have r1:=r0.call HY1.out
         have HT2:=hid (((k9.1.r.slo (W':=y0) HO0.out).grs (GrS.of_below (O:=O2 b7 b16) HY1.out) h2).grs (GrS.of_below (O:=O2 b7 b16) HY2.out) h2)
         have HT3:=hid ((r0.slo HO1.out).grs (GrS.of_below (O:=O2 b7 b16) HY2.out) h2)
         have HT4:=hid (r1.slo HO2.out)
         clear k9 h2 g0 g1 g2 kA kb kx hB79 r0 r1
         go_upto_region 25 with fail
         have hZ0:ofM (sel p0 64)=ofM (hrL L):=by rw [yht,←Hp0.out]; rfl
         have hZ1:ofM (sel p1 64)=ofM (mnL L):=by rw [yht,←Hp1.out]; rfl
         have hZ2:ofM (sel p2 64)=ofM (scL L):=by rw [yht,←Hp2.out]; rfl
         have cB0:=hid (fun W (h:Sl W a2 (ints (sel p0 64)))=>yaq a2 k2 (sel p0 64) W (by have:=ya1 p0 64; omega) h)
         have cB1:=hid (fun W (h:Sl W a3 (ints (sel p1 64)))=>yaq a3 k3 (sel p1 64) W (by have:=ya1 p1 64; omega) h)
         have cB2:=hid (fun W (h:Sl W a4 (ints (sel p2 64)))=>yaq a4 k4 (sel p2 64) W (by have:=ya1 p2 64; omega) h)
         have cA3:=hid (fun W=>ybC (yiS (ofM (hrL L)) (ofM (mnL L)) (ofM (scL L)) W (yan _) (yan _) (yan _)))
         rw [←yau] at cA3
         have cL0:=hid (fun W=>ybC (ycl (ofM (hrL L)) W (yan _)))
         have cL1:=hid (fun W=>ybC (ycl (ofM (mnL L)) W (yan _)))
         have cL2:=hid (fun W=>ybC (ycl (ofM (scL L)) W (yan _)))
         have HQ:Hid (sqB L=decide ((yau (ofM (hrL L)) (ofM (mnL L)) (ofM (scL L))).length=L.length)):=rfl
         have hN0:newL l D 0=sel (ofM (hrL L)).testBit 64:=by rw [newL,if_pos rfl,HL.out]
         have hN1:newL l D 1=sel (ofM (mnL L)).testBit 64:=by rw [newL,if_neg (by omega),if_pos rfl,HL.out]
         have hN2:newL l D 2=sel (ofM (scL L)).testBit 64:=by rw [newL,if_neg (by omega),if_neg (by omega),if_pos rfl,HL.out]
         obtain ⟨wk,hwk5⟩:∃wk:Nat,s 5= (wk:Int):=⟨(s 5).toNat,by omega⟩
         have hy:=yas hD0 hD1
         have hy1:s 1=fY D:=by rw [←HsF.out]; rfl
         obtain ⟨z0,e0⟩:∃z,ofM (hrL L)=z:=⟨_,rfl⟩
         obtain ⟨z1,e1⟩:∃z,ofM (mnL L)=z:=⟨_,rfl⟩
         obtain ⟨z2,e2⟩:∃z,ofM (scL L)=z:=⟨_,rfl⟩
         rw [←HN0.out,hZ0,e0] at cB0
         rw [←HN1.out,hZ1,e1] at cB1
         rw [←HN2.out,hZ2,e2] at cB2
         rw [e0,e1,e2] at cA3 HQ
         rw [←hN0,e0] at cL0
         rw [←hN1,e1] at cL1
         rw [←hN2,e2] at cL2
         have hM3:Hid (newL l D 3= [s 2]):=by show _ = _; rw [←HsF.out]; rfl
         have hM4:Hid (newL l D 4= [s 3]):=by show _ = _; rw [←HsF.out]; rfl
         have hM5:Hid (newL l D 5= [s 4]):=by show _ = _; rw [←HsF.out]; rfl
         have hM6:Hid (newL l D 6= [s 5]):=by show _ = _; rw [←HsF.out]; rfl
         have hM7:Hid (newL l D 7= [s 1 - 1970]):=by show _ = _; rw [←HsF.out]; rfl
         have hMq:Hid (∀q,q < 4→newL l D (8+(8 * q+wk))= [s (6+q)]):=fun q hq=>by
          rw [newL,if_neg (by omega),if_neg (by omega),if_neg (by omega),if_neg (by omega),if_neg (by omega),HsF.out,if_pos (by rw [hwk5]; omega)]
          congr 2; omega
         have hMe:Hid (∀i,8≤i→i < 40→i % 8≠wk→newL l D i= []):=fun i h0 h1 h2=>by
          rw [newL,if_neg (by omega),if_neg (by omega),if_neg (by omega),if_neg (by omega),if_neg (by omega),HsF.out,if_neg (by rw [hwk5]; omega)]
         have hNl:=yij l D
         have hRl:∀i,(rowL l X i).length≤20000000:=fun i=>by have:=yaW l X i; omega
         have HNl:=hid hNl
         have HRl:=hid hRl
         have hwk8:wk < 8:=by omega
         have hwki:(wk:Int) < 8:=by omega
         have Hwk5:=hid hwk5
         have Hyr:Hid (1970≤s 1∧s 1≤2369):=by show _∧_; omega
         clear hZ0 hZ1 hZ2 hN0 hN1 hN2 e0 e1 e2 hy hy1 hwk5 hNl hRl hwk
         go_cut [] from 112 to 127 (fun wx=>Hid (RfS W0 b7 b16 B V (rowL l X) (fiV l X') (laV l X') (X'.length:Nat) (evB (lsL l X')) (sqA (lsL l X')) wx∧GrS (O2 b7 b16) V y2 V wx))
         case first=>
          have c50:=HIA.out.f.c50
          have z50:=HIA.out.f.z 50
          cases sq with
          | false=>
            have hE:=(Eff.refl (fun b=>b=b7) y2).set (b:=b7) rfl 50 (.bool false)
            have k:=HIA.out.face hE (HIA.out.f.set50 false)
            have HN:Hid (RfS W0 b7 b16 B V (rowL l X) (fiV l X') (laV l X') (X'.length:Nat) (evB (lsL l X')) (sqA (lsL l X')) (y2.setCell ⟨b7,50,none⟩ (.bool false))∧GrS (O2 b7 b16) V y2 V (y2.setCell ⟨b7,50,none⟩ (.bool false))):=by
             show _∧_
             rw [HSq.out]; exact k
            clear hE k cA3 cB0 cB1 cB2 cL0 cL1 cL2
            go_wp2
            go_meet
            exact HN
          | true=>
            go_wp2_with fail
            refine (cB0.out _ HT2.out.sl).mono ?_
            rintro e v7 ⟨rfl,hB7⟩
            go_wp2_with fail
            refine (cB1.out _ (HT3.out.sl.below hB7)).mono ?_
            rintro e v8 ⟨rfl,hB8⟩
            have hB8':=hB7.trans (hB8.mono hB7.size)
            go_wp2_with fail
            refine (cB2.out _ (HT4.out.sl.below hB8')).mono ?_
            rintro e v9 ⟨rfl,hB9⟩
            have hB9':=hB8'.trans (hB9.mono hB8'.size)
            go_wp2_with fail
            refine (cA3.out v9).mono ?_
            rintro e vA ⟨aA,nA,kA,rfl,hnA,-,-,hBA⟩
            have hBt:=hB9'.trans (hBA.mono hB9'.size)
            obtain ⟨g,hg⟩:∃g,sqB L=g:=⟨_,rfl⟩
            rw [hg,←hnA.out] at HQ
            rw [hg] at HSq
            have hgb:((nA:Int) == (L.length:Int))=g:=by
             rw [HQ.out]
             by_cases e:nA=L.length
             ·rw [e]; simp
             ·rw [decide_eq_false e]; simp; omega
            have k7:=HIA.out.call hBt
            have hE:=(Eff.refl (fun b=>b=b7) vA).set (b:=b7) rfl 50 (.bool g)
            have k:=k7.1.face hE (k7.1.f.set50 g)
            have z50:=k7.1.f.z 50
            have c50:=k7.1.f.c50
            have HN:Hid (RfS W0 b7 b16 B V (rowL l X) (fiV l X') (laV l X') (X'.length:Nat) (evB (lsL l X')) (sqA (lsL l X')) (vA.setCell ⟨b7,50,none⟩ (.bool g))∧GrS (O2 b7 b16) V y2 V (vA.setCell ⟨b7,50,none⟩ (.bool g))):=by
             show _∧_
             rw [HSq.out]; exact ⟨k.1,k7.2.trans k.2⟩
            clear hE k cA3 cB0 cB1 cB2 cL0 cL1 cL2 k7 hB7 hB8 hB9 hB8' hB9' hBA hBt hnA hg HQ
            go_wp2
            go_meet
            exact HN
         case rest=>
          have hc:=hcut.out
          obtain ⟨v0,hv0⟩:∃W,wc=W:=⟨_,rfl⟩
          rw [hv0] at hc⊢
          have h2:=HIA.out.two
          have HR:Hid (RfS W0 b7 b16 B V (ybP (rowL l X) (newL l D) wk 0) (fiV l X') (laV l X') (X'.length:Nat) (evB (lsL l X')) (sqA (lsL l X')) v0):=hc.1.as fun i _=>(yi8 _ _ _ i).symm
          have HG:=hid hc.2
          have HT0:=HT2
          have HT1:=HT3
          have HT2:=HT4
          have hwy:IntKind.i64.wrap (s 1 - 1970)=s 1 - 1970:=IntWalk.i64_in _ (by have:=Hyr.out; omega)
          clear hc hv0 hcut HIA HsA HGA cA3 HQ HSq cM
          go_wp2_with fail
          refine (cB0.out _ ((HT0.out.grs HG.out (HR.out.two)).sl)).mono ?_
          rintro e u1 ⟨rfl,hB⟩
          have k1:=HR.out.call hB
          have HR:=hid k1.1
          have HG:=hid (HG.out.trans k1.2)
          clear hB k1
          go_wp2_with fail
          refine (cL0.out u1).mono ?_
          rintro e u2 ⟨aL,nL2,kL,rfl,hnL,hsL,hoL,hB⟩
          have k1:=HR.out.call hB
          have HR:=hid k1.1
          have HG:=hid (HG.out.trans k1.2)
          have HNo:=hid (ycf hoL)
          have HsL:=hid hsL
          clear hB k1 hoL hsL
          go_wp2_with (at_builtin; refine yhG (.tmp 128) (.tmp 131) 0 HR (by omega) rfl rfl rfl rfl hnL HsL.out HNo.out (HRl.out 0) (HNl.out 0) ?_)
          intro a0r q0r c0r v1 HK
          have HR:=hid HK.out.1
          have HG:=hid (HG.out.trans HK.out.2)
          clear HK hnL HNo HsL cB0 cL0 HT0
          go_wp2_with fail
          refine (cB1.out _ ((HT1.out.grs HG.out (HR.out.two)).sl)).mono ?_
          rintro e u1 ⟨rfl,hB⟩
          have k1:=HR.out.call hB
          have HR:=hid k1.1
          have HG:=hid (HG.out.trans k1.2)
          clear hB k1
          go_wp2_with fail
          refine (cL1.out u1).mono ?_
          rintro e u2 ⟨aL,nL2,kL,rfl,hnL,hsL,hoL,hB⟩
          have k1:=HR.out.call hB
          have HR:=hid k1.1
          have HG:=hid (HG.out.trans k1.2)
          have HNo:=hid (ycf hoL)
          have HsL:=hid hsL
          clear hB k1 hoL hsL
          go_wp2_with (at_builtin; refine yhG (.tmp 133) (.tmp 136) 1 HR (by omega) rfl rfl rfl rfl hnL HsL.out HNo.out (HRl.out 1) (HNl.out 1) ?_)
          intro a1r q1r c1r v2 HK
          have HR:=hid HK.out.1
          have HG:=hid (HG.out.trans HK.out.2)
          clear HK hnL HNo HsL cB1 cL1 HT1
          go_wp2_with fail
          refine (cB2.out _ ((HT2.out.grs HG.out (HR.out.two)).sl)).mono ?_
          rintro e u1 ⟨rfl,hB⟩
          have k1:=HR.out.call hB
          have HR:=hid k1.1
          have HG:=hid (HG.out.trans k1.2)
          clear hB k1
          go_wp2_with fail
          refine (cL2.out u1).mono ?_
          rintro e u2 ⟨aL,nL2,kL,rfl,hnL,hsL,hoL,hB⟩
          have k1:=HR.out.call hB
          have HR:=hid k1.1
          have HG:=hid (HG.out.trans k1.2)
          have HNo:=hid (ycf hoL)
          have HsL:=hid hsL
          clear hB k1 hoL hsL
          go_wp2_with (at_builtin; refine yhG (.tmp 138) (.tmp 141) 2 HR (by omega) rfl rfl rfl rfl hnL HsL.out HNo.out (HRl.out 2) (HNl.out 2) ?_)
          intro a2r q2r c2r v3 HK
          have HR:=hid HK.out.1
          have HG:=hid (HG.out.trans HK.out.2)
          clear HK hnL HNo HsL cB2 cL2 HT2
          have xS:=(HSA.out.block HG.out.size (HxA.out.grs HG.out HR.out.two).2).c 2 (by omega)
          go_wp2_with (at_builtin; refine ydE (.tmp 143) (.tmp 146) 3 HR (by omega) rfl rfl rfl rfl rfl hM3 (HRl.out 3) ?_)
          intro a3r q3r c3r v4 HK
          have HR:=hid HK.out.1
          have HG:=hid (HG.out.trans HK.out.2)
          clear HK hM3 xS
          have xS:=(HSA.out.block HG.out.size (HxA.out.grs HG.out HR.out.two).2).c 3 (by omega)
          go_wp2_with (at_builtin; refine ydE (.tmp 148) (.tmp 151) 4 HR (by omega) rfl rfl rfl rfl rfl hM4 (HRl.out 4) ?_)
          intro a4r q4r c4r v5 HK
          have HR:=hid HK.out.1
          have HG:=hid (HG.out.trans HK.out.2)
          clear HK hM4 xS
          have xS:=(HSA.out.block HG.out.size (HxA.out.grs HG.out HR.out.two).2).c 4 (by omega)
          go_wp2_with (at_builtin; refine ydE (.tmp 153) (.tmp 156) 5 HR (by omega) rfl rfl rfl rfl rfl hM5 (HRl.out 5) ?_)
          intro a5r q5r c5r v6 HK
          have HR:=hid HK.out.1
          have HG:=hid (HG.out.trans HK.out.2)
          clear HK hM5 xS
          have xS:=(HSA.out.block HG.out.size (HxA.out.grs HG.out HR.out.two).2).c 5 (by omega)
          go_wp2_with (at_builtin; refine ydE (.tmp 158) (.tmp 161) 6 HR (by omega) rfl rfl rfl rfl rfl hM6 (HRl.out 6) ?_)
          intro a6r q6r c6r v7 HK
          have HR:=hid HK.out.1
          have HG:=hid (HG.out.trans HK.out.2)
          clear HK hM6 xS
          have xS:=(HSA.out.block HG.out.size (HxA.out.grs HG.out HR.out.two).2).c 1 (by omega)
          go_wp2_with (at_builtin; refine ydE (.tmp 163) (.tmp 167) 7 HR (by omega) rfl rfl rfl rfl rfl hM7 (HRl.out 7) ?_)
          intro a7r q7r c7r v8 HK
          have HR:=hid HK.out.1
          have HG:=hid (HG.out.trans HK.out.2)
          clear HK hM7 xS
          obtain ⟨V8,hV8⟩:∃V8,updV (updV (updV (updV (updV (updV (updV (updV (V) 0 (.slice a0r q0r c0r)) 1 (.slice a1r q1r c1r)) 2 (.slice a2r q2r c2r)) 3 (.slice a3r q3r c3r)) 4 (.slice a4r q4r c4r)) 5 (.slice a5r q5r c5r)) 6 (.slice a6r q6r c6r)) 7 (.slice a7r q7r c7r)=V8:=⟨_,rfl⟩
          rw [hV8] at HR HG
          have HV8:Hid (V8 0= .slice a0r q0r c0r∧V8 1= .slice a1r q1r c1r∧V8 2= .slice a2r q2r c2r∧V8 3= .slice a3r q3r c3r∧V8 4= .slice a4r q4r c4r∧V8 5= .slice a5r q5r c5r∧V8 6= .slice a6r q6r c6r∧V8 7= .slice a7r q7r c7r):=by show V8 0= .slice a0r q0r c0r∧V8 1= .slice a1r q1r c1r∧V8 2= .slice a2r q2r c2r∧V8 3= .slice a3r q3r c3r∧V8 4= .slice a4r q4r c4r∧V8 5= .slice a5r q5r c5r∧V8 6= .slice a6r q6r c6r∧V8 7= .slice a7r q7r c7r; rw [←hV8]; exact ⟨rfl,rfl,rfl,rfl,rfl,rfl,rfl,rfl⟩
          have HI:=HR
          clear hV8 HR hwy
          have hBd:Below v8.heap.size v8 v8.drew:=(Below.refl _ _).drew
          have kd:=HI.out.call hBd
          have HJ:=hid kd.1
          have gd:=HG.out.trans kd.2
          have kx:=HxA.out.grs gd HI.out.two
          have hx:=HSA.out.block gd.size kx.2
          have x5:=hx.c 5 (by omega)
          rw [Hwk5.out] at x5
          have xq:=hx.c 6 (by omega)
          have mq:=HJ.out.m (8 * 0+wk) (by omega)
          have hlt:=HJ.out.lt
          have hrb:=HJ.out.r.b
          obtain ⟨y,hy⟩:∃y,s 6=y:=⟨_,rfl⟩
          have hNq:Hid (newL l D (8+(8 * 0+wk))= [y]):=by show _ = _; rw [←hy]; exact hMq.out 0 (by omega)
          rw [hy] at xq
          obtain ⟨u,hu⟩:∃u,V8 (8+(8 * 0+wk))=u:=⟨_,rfl⟩
          have Hu:=hid hu
          obtain ⟨n16,h16⟩:∃n,8 * 0+wk=n:=⟨_,rfl⟩
          have m1:v8.drew.cell? ⟨b16,wk,none⟩=some u:=by rw [show wk=8 * 0+wk by omega,mq.1,hu]
          have m2:v8.drew.frozen? ⟨b16,wk,none⟩=false:=by rw [show wk=8 * 0+wk by omega]; exact mq.2
          have hC:Hid (∀W2:World,Hid (v8.drew.heap.size≤W2.heap.size∧∀b,b < v8.drew.heap.size→b < B∨Off B V8 v8.drew b→W2.heap[b]? =v8.drew.heap[b]?)→Hid (W2.cell? ⟨bx,5,none⟩=some (.int .i64 wk)∧W2.cell? ⟨bx,6,none⟩=some (.int .i64 y)∧W2.cell? ⟨b16,wk,none⟩=some u)):=fun W2 hE=>
           have ex:=hE.out.2 bx kx.1.hi (.inr kx.1)
           have e16:=hE.out.2 b16 (by omega) (.inl (by omega))
           ⟨(World.cell?_of_block (w:=v8.drew) (a:=⟨bx,5,none⟩) ex).trans x5,(World.cell?_of_block (w:=v8.drew) (a:=⟨bx,6,none⟩) ex).trans xq,(World.cell?_of_block (w:=v8.drew) (a:=⟨b16,wk,none⟩) e16).trans m1⟩
          have hZ:Hid (∀W2:World,Hid (v8.drew.heap.size≤W2.heap.size∧∀b,b < v8.drew.heap.size→b < B∨Off B V8 v8.drew b→W2.heap[b]? =v8.drew.heap[b]?)→W2.frozen? ⟨b16,wk,none⟩=false):=fun W2 hE=>(World.frozen?_of_block (w:=v8.drew) (a:=⟨b16,wk,none⟩) (hE.out.2 b16 (by omega) (.inl (by omega)))).trans m2
          have hE0:Hid (v8.drew.heap.size≤v8.drew.heap.size∧∀b,b < v8.drew.heap.size→b < B∨Off B V8 v8.drew b→v8.drew.heap[b]? =v8.drew.heap[b]?):=⟨zG _,fun _ _ _=>rfl⟩
          have hE1:Hid (v8.drew.heap.size≤(v8.drew.alloc (.cells #[.int .i64 y] 3)).heap.size∧∀b,b < v8.drew.heap.size→b < B∨Off B V8 v8.drew b→(v8.drew.alloc (.cells #[.int .i64 y] 3)).heap[b]? =v8.drew.heap[b]?):=
           have hbn:Below v8.drew.heap.size v8.drew (v8.drew.alloc (.cells #[.int .i64 y] 3)):=yaa (Below.refl _ _) (zG _)
           ⟨hbn.size,fun b hb _=>hbn.block b hb⟩
          have HG:=hid gd
          clear hBd kd gd kx hx x5 xq mq hlt hrb hy hu m1 m2 h16
          go_upto_region 34 with fail
          refine regF [13] (S:=fun W=>Hid (W.cell? ⟨bx,5,none⟩=some (.int .i64 wk)∧W.cell? ⟨bx,6,none⟩=some (.int .i64 y)∧W.cell? ⟨b16,wk,none⟩=some u)) (by kernel_rfl) (hC.out _ hE0) (fun hHeld=>?_)
          refine zfA 0 ?_
          refine zfA 1 ?_
          refine zfA 2 ?_
          refine zfA 3 ?_
          refine zfA 4 ?_
          refine zfA 5 ?_
          refine zfA 6 ?_
          refine zfA 7 ?_
          refine zfA 8 ?_
          refine zfA 11 (U:= [11,12,13]) ?_
          refine rgO 9 (fun K hK=>?_)
          rw [if_pos (by rfl)]
          go_simp
          refine hK.out _ _ (fun _=>hC.out _ hE1) ?_
          clear hK
          try simp only [rgPut]
          refine rgO 10 (fun K hK=>?_)
          rw [if_pos (by rfl)]
          refine yiK (.tmp 175) (.tmp 178) 0 HJ hwk8 (by omega) rfl (by exact Hu.out.symm) rfl hNq (HRl.out _) ?_
          intro ap mp cp vp HK HE
          refine hK.out _ _ (fun _=>hC.out _ HE) ?_
          clear hK
          try simp only [rgPut]
          have hSp:=hid (hC.out _ HE)
          refine rgO 12 (fun K hK=>?_)
          rw [if_pos (by rfl)]
          go_simp
          refine hK.out _ _ (fun _=>hSp.out) ?_
          clear hK
          try simp only [rgPut]
          have c7:=hSp.out.out.2.2
          have z7:=hZ.out _ HE
          refine rgO 13 (fun K hK=>?_)
          rw [if_pos (by rfl)]
          go_simp
          refine hK.out _ _ (fun h=>absurd h (by decide)) ?_
          clear hK
          try simp only [rgPut]
          refine OrdF.done (by kernel_rfl) ?_ _
          have HI:=hid HK.out.1
          have HG:=hid (HG.out.trans HK.out.2)
          obtain ⟨V9,hVV9⟩:∃Z,updV V8 (8+(8 * 0+wk)) (.slice ap mp cp)=Z:=⟨_,rfl⟩
          have HV9:=hid hVV9
          rw [hVV9] at HI HG
          obtain ⟨v9,hv9⟩:∃Z,vp.setCell ⟨b16,8 * 0+wk,none⟩ (.slice ap mp cp)=Z:=⟨_,rfl⟩
          rw [hv9] at HI HG
          have hv9c:vp.setCell ⟨b16,wk,none⟩ (.slice ap mp cp)=v9:=by rw [show wk=8 * 0+wk by omega]; exact hv9
          rw [hv9c]
          clear HK HE hSp c7 z7 hC hZ hE0 hE1 hHeld HJ hNq Hu hVV9 hv9 hv9c
          have hBd:Below v9.heap.size v9 v9.drew:=(Below.refl _ _).drew
          have kd:=HI.out.call hBd
          have HJ:=hid kd.1
          have gd:=HG.out.trans kd.2
          have kx:=HxA.out.grs gd HI.out.two
          have hx:=HSA.out.block gd.size kx.2
          have x5:=hx.c 5 (by omega)
          rw [Hwk5.out] at x5
          have xq:=hx.c 7 (by omega)
          have mq:=HJ.out.m (8 * 1+wk) (by omega)
          have hlt:=HJ.out.lt
          have hrb:=HJ.out.r.b
          obtain ⟨y,hy⟩:∃y,s 7=y:=⟨_,rfl⟩
          have hNq:Hid (newL l D (8+(8 * 1+wk))= [y]):=by show _ = _; rw [←hy]; exact hMq.out 1 (by omega)
          rw [hy] at xq
          obtain ⟨u,hu⟩:∃u,V9 (8+(8 * 1+wk))=u:=⟨_,rfl⟩
          have Hu:=hid hu
          obtain ⟨n16,h16⟩:∃n,8 * 1+wk=n:=⟨_,rfl⟩
          have m1:v9.drew.cell? ⟨b16,8+wk,none⟩=some u:=by rw [show 8+wk=8 * 1+wk by omega,mq.1,hu]
          have m2:v9.drew.frozen? ⟨b16,8+wk,none⟩=false:=by rw [show 8+wk=8 * 1+wk by omega]; exact mq.2
          have hC:Hid (∀W2:World,Hid (v9.drew.heap.size≤W2.heap.size∧∀b,b < v9.drew.heap.size→b < B∨Off B V9 v9.drew b→W2.heap[b]? =v9.drew.heap[b]?)→Hid (W2.cell? ⟨bx,5,none⟩=some (.int .i64 wk)∧W2.cell? ⟨bx,7,none⟩=some (.int .i64 y)∧W2.cell? ⟨b16,8+wk,none⟩=some u)):=fun W2 hE=>
           have ex:=hE.out.2 bx kx.1.hi (.inr kx.1)
           have e16:=hE.out.2 b16 (by omega) (.inl (by omega))
           ⟨(World.cell?_of_block (w:=v9.drew) (a:=⟨bx,5,none⟩) ex).trans x5,(World.cell?_of_block (w:=v9.drew) (a:=⟨bx,7,none⟩) ex).trans xq,(World.cell?_of_block (w:=v9.drew) (a:=⟨b16,8+wk,none⟩) e16).trans m1⟩
          have hZ:Hid (∀W2:World,Hid (v9.drew.heap.size≤W2.heap.size∧∀b,b < v9.drew.heap.size→b < B∨Off B V9 v9.drew b→W2.heap[b]? =v9.drew.heap[b]?)→W2.frozen? ⟨b16,8+wk,none⟩=false):=fun W2 hE=>(World.frozen?_of_block (w:=v9.drew) (a:=⟨b16,8+wk,none⟩) (hE.out.2 b16 (by omega) (.inl (by omega)))).trans m2
          have hE0:Hid (v9.drew.heap.size≤v9.drew.heap.size∧∀b,b < v9.drew.heap.size→b < B∨Off B V9 v9.drew b→v9.drew.heap[b]? =v9.drew.heap[b]?):=⟨zG _,fun _ _ _=>rfl⟩
          have hE1:Hid (v9.drew.heap.size≤(v9.drew.alloc (.cells #[.int .i64 y] 3)).heap.size∧∀b,b < v9.drew.heap.size→b < B∨Off B V9 v9.drew b→(v9.drew.alloc (.cells #[.int .i64 y] 3)).heap[b]? =v9.drew.heap[b]?):=
           have hbn:Below v9.drew.heap.size v9.drew (v9.drew.alloc (.cells #[.int .i64 y] 3)):=yaa (Below.refl _ _) (zG _)
           ⟨hbn.size,fun b hb _=>hbn.block b hb⟩
          have HG:=hid gd
          clear hBd kd gd kx hx x5 xq mq hlt hrb hy hu m1 m2 h16
          go_upto_region 35 with fail
          refine regF [13] (S:=fun W=>Hid (W.cell? ⟨bx,5,none⟩=some (.int .i64 wk)∧W.cell? ⟨bx,7,none⟩=some (.int .i64 y)∧W.cell? ⟨b16,8+wk,none⟩=some u)) (by kernel_rfl) (hC.out _ hE0) (fun hHeld=>?_)
          refine zfA 0 ?_
          refine zfA 1 ?_
          refine zfA 2 ?_
          refine zfA 3 ?_
          refine zfA 4 ?_
          refine zfA 5 ?_
          refine zfA 6 ?_
          refine zfA 7 ?_
          refine zfA 8 ?_
          refine zfA 11 (U:= [11,12,13]) ?_
          refine rgO 9 (fun K hK=>?_)
          rw [if_pos (by rfl)]
          go_simp
          refine hK.out _ _ (fun _=>hC.out _ hE1) ?_
          clear hK
          try simp only [rgPut]
          refine rgO 10 (fun K hK=>?_)
          rw [if_pos (by rfl)]
          refine yiK (.tmp 188) (.tmp 191) 1 HJ hwk8 (by omega) rfl (by exact Hu.out.symm) rfl hNq (HRl.out _) ?_
          intro ap mp cp vp HK HE
          refine hK.out _ _ (fun _=>hC.out _ HE) ?_
          clear hK
          try simp only [rgPut]
          have hSp:=hid (hC.out _ HE)
          refine rgO 12 (fun K hK=>?_)
          rw [if_pos (by rfl)]
          go_simp
          refine hK.out _ _ (fun _=>hSp.out) ?_
          clear hK
          try simp only [rgPut]
          have c7:=hSp.out.out.2.2
          have z7:=hZ.out _ HE
          refine rgO 13 (fun K hK=>?_)
          rw [if_pos (by rfl)]
          go_simp
          refine hK.out _ _ (fun h=>absurd h (by decide)) ?_
          clear hK
          try simp only [rgPut]
          refine OrdF.done (by kernel_rfl) ?_ _
          have HI:=hid HK.out.1
          have HG:=hid (HG.out.trans HK.out.2)
          obtain ⟨V10,hVV10⟩:∃Z,updV V9 (8+(8 * 1+wk)) (.slice ap mp cp)=Z:=⟨_,rfl⟩
          have HV10:=hid hVV10
          rw [hVV10] at HI HG
          obtain ⟨v10,hv10⟩:∃Z,vp.setCell ⟨b16,8 * 1+wk,none⟩ (.slice ap mp cp)=Z:=⟨_,rfl⟩
          rw [hv10] at HI HG
          have hv10c:vp.setCell ⟨b16,8+wk,none⟩ (.slice ap mp cp)=v10:=by rw [show 8+wk=8 * 1+wk by omega]; exact hv10
          rw [hv10c]
          clear HK HE hSp c7 z7 hC hZ hE0 hE1 hHeld HJ hNq Hu hVV10 hv10 hv10c
          have hBd:Below v10.heap.size v10 v10.drew:=(Below.refl _ _).drew
          have kd:=HI.out.call hBd
          have HJ:=hid kd.1
          have gd:=HG.out.trans kd.2
          have kx:=HxA.out.grs gd HI.out.two
          have hx:=HSA.out.block gd.size kx.2
          have x5:=hx.c 5 (by omega)
          rw [Hwk5.out] at x5
          have xq:=hx.c 8 (by omega)
          have mq:=HJ.out.m (8 * 2+wk) (by omega)
          have hlt:=HJ.out.lt
          have hrb:=HJ.out.r.b
          obtain ⟨y,hy⟩:∃y,s 8=y:=⟨_,rfl⟩
          have hNq:Hid (newL l D (8+(8 * 2+wk))= [y]):=by show _ = _; rw [←hy]; exact hMq.out 2 (by omega)
          rw [hy] at xq
          obtain ⟨u,hu⟩:∃u,V10 (8+(8 * 2+wk))=u:=⟨_,rfl⟩
          have Hu:=hid hu
          obtain ⟨n16,h16⟩:∃n,8 * 2+wk=n:=⟨_,rfl⟩
          have m1:v10.drew.cell? ⟨b16,16+wk,none⟩=some u:=by rw [show 16+wk=8 * 2+wk by omega,mq.1,hu]
          have m2:v10.drew.frozen? ⟨b16,16+wk,none⟩=false:=by rw [show 16+wk=8 * 2+wk by omega]; exact mq.2
          have hC:Hid (∀W2:World,Hid (v10.drew.heap.size≤W2.heap.size∧∀b,b < v10.drew.heap.size→b < B∨Off B V10 v10.drew b→W2.heap[b]? =v10.drew.heap[b]?)→Hid (W2.cell? ⟨bx,5,none⟩=some (.int .i64 wk)∧W2.cell? ⟨bx,8,none⟩=some (.int .i64 y)∧W2.cell? ⟨b16,16+wk,none⟩=some u)):=fun W2 hE=>
           have ex:=hE.out.2 bx kx.1.hi (.inr kx.1)
           have e16:=hE.out.2 b16 (by omega) (.inl (by omega))
           ⟨(World.cell?_of_block (w:=v10.drew) (a:=⟨bx,5,none⟩) ex).trans x5,(World.cell?_of_block (w:=v10.drew) (a:=⟨bx,8,none⟩) ex).trans xq,(World.cell?_of_block (w:=v10.drew) (a:=⟨b16,16+wk,none⟩) e16).trans m1⟩
          have hZ:Hid (∀W2:World,Hid (v10.drew.heap.size≤W2.heap.size∧∀b,b < v10.drew.heap.size→b < B∨Off B V10 v10.drew b→W2.heap[b]? =v10.drew.heap[b]?)→W2.frozen? ⟨b16,16+wk,none⟩=false):=fun W2 hE=>(World.frozen?_of_block (w:=v10.drew) (a:=⟨b16,16+wk,none⟩) (hE.out.2 b16 (by omega) (.inl (by omega)))).trans m2
          have hE0:Hid (v10.drew.heap.size≤v10.drew.heap.size∧∀b,b < v10.drew.heap.size→b < B∨Off B V10 v10.drew b→v10.drew.heap[b]? =v10.drew.heap[b]?):=⟨zG _,fun _ _ _=>rfl⟩
          have hE1:Hid (v10.drew.heap.size≤(v10.drew.alloc (.cells #[.int .i64 y] 3)).heap.size∧∀b,b < v10.drew.heap.size→b < B∨Off B V10 v10.drew b→(v10.drew.alloc (.cells #[.int .i64 y] 3)).heap[b]? =v10.drew.heap[b]?):=
           have hbn:Below v10.drew.heap.size v10.drew (v10.drew.alloc (.cells #[.int .i64 y] 3)):=yaa (Below.refl _ _) (zG _)
           ⟨hbn.size,fun b hb _=>hbn.block b hb⟩
          have HG:=hid gd
          clear hBd kd gd kx hx x5 xq mq hlt hrb hy hu m1 m2 h16
          go_upto_region 36 with fail
          refine regF [13] (S:=fun W=>Hid (W.cell? ⟨bx,5,none⟩=some (.int .i64 wk)∧W.cell? ⟨bx,8,none⟩=some (.int .i64 y)∧W.cell? ⟨b16,16+wk,none⟩=some u)) (by kernel_rfl) (hC.out _ hE0) (fun hHeld=>?_)
          refine zfA 0 ?_
          refine zfA 1 ?_
          refine zfA 2 ?_
          refine zfA 3 ?_
          refine zfA 4 ?_
          refine zfA 5 ?_
          refine zfA 6 ?_
          refine zfA 7 ?_
          refine zfA 8 ?_
          refine zfA 11 (U:= [11,12,13]) ?_
          refine rgO 9 (fun K hK=>?_)
          rw [if_pos (by rfl)]
          go_simp
          refine hK.out _ _ (fun _=>hC.out _ hE1) ?_
          clear hK
          try simp only [rgPut]
          refine rgO 10 (fun K hK=>?_)
          rw [if_pos (by rfl)]
          refine yiK (.tmp 201) (.tmp 204) 2 HJ hwk8 (by omega) rfl (by exact Hu.out.symm) rfl hNq (HRl.out _) ?_
          intro ap mp cp vp HK HE
          refine hK.out _ _ (fun _=>hC.out _ HE) ?_
          clear hK
          try simp only [rgPut]
          have hSp:=hid (hC.out _ HE)
          refine rgO 12 (fun K hK=>?_)
          rw [if_pos (by rfl)]
          go_simp
          refine hK.out _ _ (fun _=>hSp.out) ?_
          clear hK
          try simp only [rgPut]
          have c7:=hSp.out.out.2.2
          have z7:=hZ.out _ HE
          refine rgO 13 (fun K hK=>?_)
          rw [if_pos (by rfl)]
          go_simp
          refine hK.out _ _ (fun h=>absurd h (by decide)) ?_
          clear hK
          try simp only [rgPut]
          refine OrdF.done (by kernel_rfl) ?_ _
          have HI:=hid HK.out.1
          have HG:=hid (HG.out.trans HK.out.2)
          obtain ⟨V11,hVV11⟩:∃Z,updV V10 (8+(8 * 2+wk)) (.slice ap mp cp)=Z:=⟨_,rfl⟩
          have HV11:=hid hVV11
          rw [hVV11] at HI HG
          obtain ⟨v11,hv11⟩:∃Z,vp.setCell ⟨b16,8 * 2+wk,none⟩ (.slice ap mp cp)=Z:=⟨_,rfl⟩
          rw [hv11] at HI HG
          have hv11c:vp.setCell ⟨b16,16+wk,none⟩ (.slice ap mp cp)=v11:=by rw [show 16+wk=8 * 2+wk by omega]; exact hv11
          rw [hv11c]
          clear HK HE hSp c7 z7 hC hZ hE0 hE1 hHeld HJ hNq Hu hVV11 hv11 hv11c
          have hBd:Below v11.heap.size v11 v11.drew:=(Below.refl _ _).drew
          have kd:=HI.out.call hBd
          have HJ:=hid kd.1
          have gd:=HG.out.trans kd.2
          have kx:=HxA.out.grs gd HI.out.two
          have hx:=HSA.out.block gd.size kx.2
          have x5:=hx.c 5 (by omega)
          rw [Hwk5.out] at x5
          have xq:=hx.c 9 (by omega)
          have mq:=HJ.out.m (8 * 3+wk) (by omega)
          have hlt:=HJ.out.lt
          have hrb:=HJ.out.r.b
          obtain ⟨y,hy⟩:∃y,s 9=y:=⟨_,rfl⟩
          have hNq:Hid (newL l D (8+(8 * 3+wk))= [y]):=by show _ = _; rw [←hy]; exact hMq.out 3 (by omega)
          rw [hy] at xq
          obtain ⟨u,hu⟩:∃u,V11 (8+(8 * 3+wk))=u:=⟨_,rfl⟩
          have Hu:=hid hu
          obtain ⟨n16,h16⟩:∃n,8 * 3+wk=n:=⟨_,rfl⟩
          have m1:v11.drew.cell? ⟨b16,24+wk,none⟩=some u:=by rw [show 24+wk=8 * 3+wk by omega,mq.1,hu]
          have m2:v11.drew.frozen? ⟨b16,24+wk,none⟩=false:=by rw [show 24+wk=8 * 3+wk by omega]; exact mq.2
          have hC:Hid (∀W2:World,Hid (v11.drew.heap.size≤W2.heap.size∧∀b,b < v11.drew.heap.size→b < B∨Off B V11 v11.drew b→W2.heap[b]? =v11.drew.heap[b]?)→Hid (W2.cell? ⟨bx,5,none⟩=some (.int .i64 wk)∧W2.cell? ⟨bx,9,none⟩=some (.int .i64 y)∧W2.cell? ⟨b16,24+wk,none⟩=some u)):=fun W2 hE=>
           have ex:=hE.out.2 bx kx.1.hi (.inr kx.1)
           have e16:=hE.out.2 b16 (by omega) (.inl (by omega))
           ⟨(World.cell?_of_block (w:=v11.drew) (a:=⟨bx,5,none⟩) ex).trans x5,(World.cell?_of_block (w:=v11.drew) (a:=⟨bx,9,none⟩) ex).trans xq,(World.cell?_of_block (w:=v11.drew) (a:=⟨b16,24+wk,none⟩) e16).trans m1⟩
          have hZ:Hid (∀W2:World,Hid (v11.drew.heap.size≤W2.heap.size∧∀b,b < v11.drew.heap.size→b < B∨Off B V11 v11.drew b→W2.heap[b]? =v11.drew.heap[b]?)→W2.frozen? ⟨b16,24+wk,none⟩=false):=fun W2 hE=>(World.frozen?_of_block (w:=v11.drew) (a:=⟨b16,24+wk,none⟩) (hE.out.2 b16 (by omega) (.inl (by omega)))).trans m2
          have hE0:Hid (v11.drew.heap.size≤v11.drew.heap.size∧∀b,b < v11.drew.heap.size→b < B∨Off B V11 v11.drew b→v11.drew.heap[b]? =v11.drew.heap[b]?):=⟨zG _,fun _ _ _=>rfl⟩
          have hE1:Hid (v11.drew.heap.size≤(v11.drew.alloc (.cells #[.int .i64 y] 3)).heap.size∧∀b,b < v11.drew.heap.size→b < B∨Off B V11 v11.drew b→(v11.drew.alloc (.cells #[.int .i64 y] 3)).heap[b]? =v11.drew.heap[b]?):=
           have hbn:Below v11.drew.heap.size v11.drew (v11.drew.alloc (.cells #[.int .i64 y] 3)):=yaa (Below.refl _ _) (zG _)
           ⟨hbn.size,fun b hb _=>hbn.block b hb⟩
          have HG:=hid gd
          clear hBd kd gd kx hx x5 xq mq hlt hrb hy hu m1 m2 h16
          go_upto_region 37 with fail
          refine regF [13] (S:=fun W=>Hid (W.cell? ⟨bx,5,none⟩=some (.int .i64 wk)∧W.cell? ⟨bx,9,none⟩=some (.int .i64 y)∧W.cell? ⟨b16,24+wk,none⟩=some u)) (by kernel_rfl) (hC.out _ hE0) (fun hHeld=>?_)
          refine zfA 0 ?_
          refine zfA 1 ?_
          refine zfA 2 ?_
          refine zfA 3 ?_
          refine zfA 4 ?_
          refine zfA 5 ?_
          refine zfA 6 ?_
          refine zfA 7 ?_
          refine zfA 8 ?_
          refine zfA 11 (U:= [11,12,13]) ?_
          refine rgO 9 (fun K hK=>?_)
          rw [if_pos (by rfl)]
          go_simp
          refine hK.out _ _ (fun _=>hC.out _ hE1) ?_
          clear hK
          try simp only [rgPut]
          refine rgO 10 (fun K hK=>?_)
          rw [if_pos (by rfl)]
          refine yiK (.tmp 214) (.tmp 217) 3 HJ hwk8 (by omega) rfl (by exact Hu.out.symm) rfl hNq (HRl.out _) ?_
          intro ap mp cp vp HK HE
          refine hK.out _ _ (fun _=>hC.out _ HE) ?_
          clear hK
          try simp only [rgPut]
          have hSp:=hid (hC.out _ HE)
          refine rgO 12 (fun K hK=>?_)
          rw [if_pos (by rfl)]
          go_simp
          refine hK.out _ _ (fun _=>hSp.out) ?_
          clear hK
          try simp only [rgPut]
          have c7:=hSp.out.out.2.2
          have z7:=hZ.out _ HE
          refine rgO 13 (fun K hK=>?_)
          rw [if_pos (by rfl)]
          go_simp
          refine hK.out _ _ (fun h=>absurd h (by decide)) ?_
          clear hK
          try simp only [rgPut]
          refine OrdF.done (by kernel_rfl) ?_ _
          have HI:=hid HK.out.1
          have HG:=hid (HG.out.trans HK.out.2)
          obtain ⟨V12,hVV12⟩:∃Z,updV V11 (8+(8 * 3+wk)) (.slice ap mp cp)=Z:=⟨_,rfl⟩
          have HV12:=hid hVV12
          rw [hVV12] at HI HG
          obtain ⟨v12,hv12⟩:∃Z,vp.setCell ⟨b16,8 * 3+wk,none⟩ (.slice ap mp cp)=Z:=⟨_,rfl⟩
          rw [hv12] at HI HG
          have hv12c:vp.setCell ⟨b16,24+wk,none⟩ (.slice ap mp cp)=v12:=by rw [show 24+wk=8 * 3+wk by omega]; exact hv12
          rw [hv12c]
          clear HK HE hSp c7 z7 hC hZ hE0 hE1 hHeld HJ hNq Hu hVV12 hv12 hv12c
          have HFi:Hid (RfS W0 b7 b16 B V12 (rowL l X') (fiV l X') (laV l X') (X'.length:Nat) (evB (lsL l X')) (sqA (lsL l X')) v12):=HI.out.as fun i hi=>(HRow.out i).trans (stepL_end hMe.out i hi)
          have HFf:=hid (HfA.out.grs HG.out HI.out.two)
          have HVl:Hid (∀j,j < 8→V12 j=V8 j):=fun j hj=>by rw [←HV12.out,←HV11.out,←HV10.out,←HV9.out]; exact low4 V8 hj _ _ _ _ _ _ _ _
          clear HI HG HRl HNl hMq hMe HRow Hyr HfA
          go_wp2
          have HD:=HDk.out
          have hv:=HV8.out
          have hl:=HVl.out
          refine ⟨⟨k+1,V12,_,_,_,by show Value.int .i64 _ = _; congr 1; go_num,by omega,(hl 0 (by omega)).trans hv.1 |>.symm,(hl 1 (by omega)).trans hv.2.1 |>.symm,(hl 2 (by omega)).trans hv.2.2.1 |>.symm,(hl 3 (by omega)).trans hv.2.2.2.1 |>.symm,(hl 4 (by omega)).trans hv.2.2.2.2.1 |>.symm,(hl 5 (by omega)).trans hv.2.2.2.2.2.1 |>.symm,(hl 6 (by omega)).trans hv.2.2.2.2.2.2.1 |>.symm,(hl 7 (by omega)).trans hv.2.2.2.2.2.2.2 |>.symm,rfl,by rw [HX2.out]; exact HFi,by rw [HX2.out]; exact ⟨HFf.out,Hn5.out⟩⟩,by simp [intOf]; omega⟩
  ·have qqq:=0
   have hkU:F+(k:Int)=U+1:=by omega
   have hXe:xS l F U k=XX:=by rw [xS,List.take_of_length_le (by rw [yaH]; omega)]; exact HXX.out
   rw [hXe] at HI
   have HS:=hid HI.out.fs
   clear Hf HI hXe hkU
   obtain ⟨a0r,c0r,er,hsr⟩:=HS.out.row (i:=0) (by omega)
   have cB:=hid (yaq a0r c0r (rowL l XX 0) _ (by have:=yaW l XX 0; have:=HXL.out; omega) hsr)
   obtain ⟨x0,hx0⟩:∃x,ofM (rowL l XX 0)=x:=⟨_,rfl⟩
   rw [hx0] at cB
   have Hx0:=hid hx0
   clear hsr hx0
   go_wp2_with fail
   clear er
   refine cB.out.mono ?_
   rintro e u0 ⟨rfl,hB⟩
   have HS:=hid (HS.out.call hB)
   have cc:=HS.out.f.c 2 (by omega)
   have cz:=HS.out.f.z 2
   have HS:=hid (HS.out.set (k:=2) (by omega) x0)
   obtain ⟨t0,ht⟩:∃W,u0.setCell ⟨b7,2,none⟩ (.int .u64 (x0:Nat))=W:=⟨_,rfl⟩
   rw [ht] at HS
   go_upto_region 39 with fail
   clear ht cc cz hB cB
   obtain ⟨a1r,c1r,er,hsr⟩:=HS.out.row (i:=1) (by omega)
   have cB:=hid (yaq a1r c1r (rowL l XX 1) _ (by have:=yaW l XX 1; have:=HXL.out; omega) hsr)
   obtain ⟨x1,hx1⟩:∃x,ofM (rowL l XX 1)=x:=⟨_,rfl⟩
   rw [hx1] at cB
   have Hx1:=hid hx1
   clear hsr hx1
   go_wp2_with fail
   clear er
   refine cB.out.mono ?_
   rintro e u1 ⟨rfl,hB⟩
   have HS:=hid (HS.out.call hB)
   have cc:=HS.out.f.c 1 (by omega)
   have cz:=HS.out.f.z 1
   have HS:=hid (HS.out.set (k:=1) (by omega) x1)
   obtain ⟨t1,ht⟩:∃W,u1.setCell ⟨b7,1,none⟩ (.int .u64 (x1:Nat))=W:=⟨_,rfl⟩
   rw [ht] at HS
   go_upto_region 40 with fail
   clear ht cc cz hB cB
   obtain ⟨a2r,c2r,er,hsr⟩:=HS.out.row (i:=2) (by omega)
   have cB:=hid (yaq a2r c2r (rowL l XX 2) _ (by have:=yaW l XX 2; have:=HXL.out; omega) hsr)
   obtain ⟨x2,hx2⟩:∃x,ofM (rowL l XX 2)=x:=⟨_,rfl⟩
   rw [hx2] at cB
   have Hx2:=hid hx2
   clear hsr hx2
   go_wp2_with fail
   clear er
   refine cB.out.mono ?_
   rintro e u2 ⟨rfl,hB⟩
   have HS:=hid (HS.out.call hB)
   have cc:=HS.out.f.c 0 (by omega)
   have cz:=HS.out.f.z 0
   have HS:=hid (HS.out.set (k:=0) (by omega) x2)
   obtain ⟨t2,ht⟩:∃W,u2.setCell ⟨b7,0,none⟩ (.int .u64 (x2:Nat))=W:=⟨_,rfl⟩
   rw [ht] at HS
   go_upto_region 41 with fail
   clear ht cc cz hB cB
   obtain ⟨a3r,c3r,er,hsr⟩:=HS.out.row (i:=3) (by omega)
   have cB:=hid (yaq a3r c3r (rowL l XX 3) _ (by have:=yaW l XX 3; have:=HXL.out; omega) hsr)
   obtain ⟨x3,hx3⟩:∃x,ofM (rowL l XX 3)=x:=⟨_,rfl⟩
   rw [hx3] at cB
   have Hx3:=hid hx3
   clear hsr hx3
   go_wp2_with fail
   clear er
   refine cB.out.mono ?_
   rintro e u3 ⟨rfl,hB⟩
   have HS:=hid (HS.out.call hB)
   have cc:=HS.out.f.c 3 (by omega)
   have cz:=HS.out.f.z 3
   have HS:=hid (HS.out.set (k:=3) (by omega) x3)
   obtain ⟨t3,ht⟩:∃W,u3.setCell ⟨b7,3,none⟩ (.int .u64 (x3:Nat))=W:=⟨_,rfl⟩
   rw [ht] at HS
   go_upto_region 42 with fail
   clear ht cc cz hB cB
   obtain ⟨a4r,c4r,er,hsr⟩:=HS.out.row (i:=4) (by omega)
   have cB:=hid (yaq a4r c4r (rowL l XX 4) _ (by have:=yaW l XX 4; have:=HXL.out; omega) hsr)
   obtain ⟨x4,hx4⟩:∃x,ofM (rowL l XX 4)=x:=⟨_,rfl⟩
   rw [hx4] at cB
   have Hx4:=hid hx4
   clear hsr hx4
   go_wp2_with fail
   clear er
   refine cB.out.mono ?_
   rintro e u4 ⟨rfl,hB⟩
   have HS:=hid (HS.out.call hB)
   have cc:=HS.out.f.c 4 (by omega)
   have cz:=HS.out.f.z 4
   have HS:=hid (HS.out.set (k:=4) (by omega) x4)
   obtain ⟨t4,ht⟩:∃W,u4.setCell ⟨b7,4,none⟩ (.int .u64 (x4:Nat))=W:=⟨_,rfl⟩
   rw [ht] at HS
   go_upto_region 43 with fail
   clear ht cc cz hB cB
   obtain ⟨a5r,c5r,er,hsr⟩:=HS.out.row (i:=5) (by omega)
   have cB:=hid (yaq a5r c5r (rowL l XX 5) _ (by have:=yaW l XX 5; have:=HXL.out; omega) hsr)
   obtain ⟨x5,hx5⟩:∃x,ofM (rowL l XX 5)=x:=⟨_,rfl⟩
   rw [hx5] at cB
   have Hx5:=hid hx5
   clear hsr hx5
   go_wp2_with fail
   clear er
   refine cB.out.mono ?_
   rintro e u5 ⟨rfl,hB⟩
   have HS:=hid (HS.out.call hB)
   have cc:=HS.out.f.c 5 (by omega)
   have cz:=HS.out.f.z 5
   have HS:=hid (HS.out.set (k:=5) (by omega) x5)
   obtain ⟨t5,ht⟩:∃W,u5.setCell ⟨b7,5,none⟩ (.int .u64 (x5:Nat))=W:=⟨_,rfl⟩
   rw [ht] at HS
   go_upto_region 44 with fail
   clear ht cc cz hB cB
   obtain ⟨a6r,c6r,er,hsr⟩:=HS.out.row (i:=6) (by omega)
   have cB:=hid (yaq a6r c6r (rowL l XX 6) _ (by have:=yaW l XX 6; have:=HXL.out; omega) hsr)
   obtain ⟨x6,hx6⟩:∃x,ofM (rowL l XX 6)=x:=⟨_,rfl⟩
   rw [hx6] at cB
   have Hx6:=hid hx6
   clear hsr hx6
   go_wp2_with fail
   clear er
   refine cB.out.mono ?_
   rintro e u6 ⟨rfl,hB⟩
   have HS:=hid (HS.out.call hB)
   have cc:=HS.out.f.c 6 (by omega)
   have cz:=HS.out.f.z 6
   have HS:=hid (HS.out.set (k:=6) (by omega) x6)
   obtain ⟨t6,ht⟩:∃W,u6.setCell ⟨b7,6,none⟩ (.int .u64 (x6:Nat))=W:=⟨_,rfl⟩
   rw [ht] at HS
   go_upto_region 45 with fail
   clear ht cc cz hB cB
   obtain ⟨a7r,c7r,er,hsr⟩:=HS.out.row (i:=7) (by omega)
   have cB:=hid (yiP a7r c7r (rowL l XX 7) _ (by have:=yaW l XX 7; have:=HXL.out; omega) hsr)
   obtain ⟨f7,hf7⟩:∃x,wof (rowL l XX 7)=x:=⟨_,rfl⟩
   rw [hf7] at cB
   have Hf7:=hid hf7
   clear hsr hf7
   go_wp2_with fail
   clear er
   refine cB.out.mono ?_
   rintro e u7 ⟨rfl,hB⟩
   have HS:=hid (HS.out.call hB)
   have cs7:=HS.out.f.st7 f7
   have HS:=hid (HS.out.put7 f7)
   obtain ⟨t7,ht⟩:∃W,u7.setCells b7 7 (l7u f7)=W:=⟨_,rfl⟩
   rw [ht] at HS
   go_upto_region 46 with fail
   clear ht cs7 hB cB
   have HS:Hid (FsS W0 b7 b16 B V (rowL l XX) (uwR l XX 0) (fiV l XX) (laV l XX) (XX.length:Nat) (evB (lsL l XX)) (sqA (lsL l XX)) t7):=HS.out.as fun i hi=>by rw [uwR_zero l XX i hi,Hf7.out,Hx0.out,Hx1.out,Hx2.out,Hx3.out,Hx4.out,Hx5.out,Hx6.out]
   go_upto_region 47 with fail
   go_loopw [26] (fun v26 wr=>∃i:Nat,v26= .int .i64 i∧i≤8∧Hid (FsS W0 b7 b16 B V (rowL l XX) (uwR l XX i) (fiV l XX) (laV l XX) (XX.length:Nat) (evB (lsL l XX)) (sqA (lsL l XX)) wr)) (fun v26 _=>8 - (intOf v26).toNat)
   case atStart=>exact ⟨0,rfl,by omega,HS⟩
   case round=>
    obtain ⟨i,rfl,hi,HJ⟩:=hrel
    by_cases hlt:i < 8
    ·have hlti:(i:Int) < 8:=by omega
     obtain ⟨aq,cq,er,hsr⟩:=HJ.out.row (i:=8+i) (by omega)
     have mq:=(HJ.out.m (i) (by omega)).1
     rw [er] at mq
     have cB:=hid (yaq aq cq (rowL l XX (8+i)) _ (by have:=yaW l XX (8+i); have:=HXL.out; omega) hsr)
     obtain ⟨m0,hm0⟩:∃m,(rowL l XX (8+i)).length=m:=⟨_,rfl⟩
     rw [hm0] at cB mq
     obtain ⟨x0,hx0⟩:∃x,ofM (rowL l XX (8+i))=x:=⟨_,rfl⟩
     rw [hx0] at cB
     have Hy0:=hid hx0
     clear hsr hx0 er hm0
     go_wp2_with fail
     refine cB.out.mono ?_
     rintro e u0 ⟨rfl,hB⟩
     have HJ:=hid (HJ.out.call hB)
     have cc:=HJ.out.f.c (14+i) (by omega)
     have cz:=HJ.out.f.z (14+i)
     have HJ:=hid (HJ.out.set (k:=14+i) (by omega) x0)
     obtain ⟨t0w,ht⟩:∃W,u0.setCell ⟨b7,14+i,none⟩ (.int .u64 (x0:Nat))=W:=⟨_,rfl⟩
     rw [ht] at HJ
     go_upto_region 50 with fail
     clear ht cc cz hB cB mq
     obtain ⟨aq,cq,er,hsr⟩:=HJ.out.row (i:=8+(8+i)) (by omega)
     have mq:=(HJ.out.m (8+i) (by omega)).1
     rw [er] at mq
     have cB:=hid (yaq aq cq (rowL l XX (8+(8+i))) _ (by have:=yaW l XX (8+(8+i)); have:=HXL.out; omega) hsr)
     obtain ⟨m1,hm1⟩:∃m,(rowL l XX (8+(8+i))).length=m:=⟨_,rfl⟩
     rw [hm1] at cB mq
     obtain ⟨x1,hx1⟩:∃x,ofM (rowL l XX (8+(8+i)))=x:=⟨_,rfl⟩
     rw [hx1] at cB
     have Hy1:=hid hx1
     clear hsr hx1 er hm1
     go_wp2_with fail
     refine cB.out.mono ?_
     rintro e u1 ⟨rfl,hB⟩
     have HJ:=hid (HJ.out.call hB)
     have cc:=HJ.out.f.c (22+i) (by omega)
     have cz:=HJ.out.f.z (22+i)
     have HJ:=hid (HJ.out.set (k:=22+i) (by omega) x1)
     obtain ⟨t1w,ht⟩:∃W,u1.setCell ⟨b7,22+i,none⟩ (.int .u64 (x1:Nat))=W:=⟨_,rfl⟩
     rw [ht] at HJ
     go_upto_region 51 with fail
     clear ht cc cz hB cB mq
     obtain ⟨aq,cq,er,hsr⟩:=HJ.out.row (i:=8+(16+i)) (by omega)
     have mq:=(HJ.out.m (16+i) (by omega)).1
     rw [er] at mq
     have cB:=hid (yaq aq cq (rowL l XX (8+(16+i))) _ (by have:=yaW l XX (8+(16+i)); have:=HXL.out; omega) hsr)
     obtain ⟨m2,hm2⟩:∃m,(rowL l XX (8+(16+i))).length=m:=⟨_,rfl⟩
     rw [hm2] at cB mq
     obtain ⟨x2,hx2⟩:∃x,ofM (rowL l XX (8+(16+i)))=x:=⟨_,rfl⟩
     rw [hx2] at cB
     have Hy2:=hid hx2
     clear hsr hx2 er hm2
     go_wp2_with fail
     refine cB.out.mono ?_
     rintro e u2 ⟨rfl,hB⟩
     have HJ:=hid (HJ.out.call hB)
     have cc:=HJ.out.f.c (30+i) (by omega)
     have cz:=HJ.out.f.z (30+i)
     have HJ:=hid (HJ.out.set (k:=30+i) (by omega) x2)
     obtain ⟨t2w,ht⟩:∃W,u2.setCell ⟨b7,30+i,none⟩ (.int .u64 (x2:Nat))=W:=⟨_,rfl⟩
     rw [ht] at HJ
     go_upto_region 52 with fail
     clear ht cc cz hB cB mq
     obtain ⟨aq,cq,er,hsr⟩:=HJ.out.row (i:=8+(24+i)) (by omega)
     have mq:=(HJ.out.m (24+i) (by omega)).1
     rw [er] at mq
     have cB:=hid (yaq aq cq (rowL l XX (8+(24+i))) _ (by have:=yaW l XX (8+(24+i)); have:=HXL.out; omega) hsr)
     obtain ⟨m3,hm3⟩:∃m,(rowL l XX (8+(24+i))).length=m:=⟨_,rfl⟩
     rw [hm3] at cB mq
     obtain ⟨x3,hx3⟩:∃x,ofM (rowL l XX (8+(24+i)))=x:=⟨_,rfl⟩
     rw [hx3] at cB
     have Hy3:=hid hx3
     clear hsr hx3 er hm3
     go_wp2_with fail
     refine cB.out.mono ?_
     rintro e u3 ⟨rfl,hB⟩
     have HJ:=hid (HJ.out.call hB)
     have cc:=HJ.out.f.c (38+i) (by omega)
     have cz:=HJ.out.f.z (38+i)
     have HJ:=hid (HJ.out.set (k:=38+i) (by omega) x3)
     obtain ⟨t3w,ht⟩:∃W,u3.setCell ⟨b7,38+i,none⟩ (.int .u64 (x3:Nat))=W:=⟨_,rfl⟩
     rw [ht] at HJ
     have HJ:Hid (FsS W0 b7 b16 B V (rowL l XX) (uwR l XX (i+1)) (fiV l XX) (laV l XX) (XX.length:Nat) (evB (lsL l XX)) (sqA (lsL l XX)) t3w):=HJ.out.as fun j hj=>by rw [uwR_succ l XX hlt j hj,Hy0.out,Hy1.out,Hy2.out,Hy3.out]
     clear hB cB mq
     go_upto_region 48 with fail
     clear ht cc cz
     go_wp2
     exact ⟨⟨i+1,by go_num,by omega,HJ⟩,by simp [intOf]; omega⟩
    ·obtain rfl:i=8:=by omega
     have HJ:=hid (HJ.out.as (u':=fcR l XX) (fun i hi=>uwR_end l XX i hi))
     have cl:=HJ.out.f.ld
     have HA6:=hid (HA0.out.block (W':=W0) (zG _) rfl)
     have hb6:b6 < W0.heap.size:=HA0.out.lt
     have hA:=HA0.out.block HJ.out.e.size (HJ.out.e.block _ hb6)
     have cst:=hA.st (fcR l XX) (fiV l XX) (laV l XX) (XX.length:Nat) (evB (lsL l XX)) (sqA (lsL l XX))
     have hP:=hA.put (fcR l XX) (fiV l XX) (laV l XX) (XX.length:Nat) (evB (lsL l XX)) (sqA (lsL l XX))
     have hBf:Below w.heap.size w (wr.setCells b6 0 (fcL (fcR l XX) (fiV l XX) (laV l XX) (XX.length:Nat) (evB (lsL l XX)) (sqA (lsL l XX)))):=(HB0.out.trans (HJ.out.e.mono HB0.out.size)).trans ((Eff.setCells (O:=fun x=>x=b6) rfl _ 0 wr (Eff.refl _ _)).below (by rintro b rfl; exact Nat.le_of_eq E6.out) (HB0.out.trans (HJ.out.e.mono HB0.out.size)).size)
     have cld:=hP.ld
     have HBf:=hid hBf
     obtain ⟨Wf,hWf⟩:∃W,wr.setCells b6 0 (fcL (fcR l XX) (fiV l XX) (laV l XX) (XX.length:Nat) (evB (lsL l XX)) (sqA (lsL l XX)))=W:=⟨_,rfl⟩
     rw [hWf] at cst cld HBf
     rw [hWf] at hP
     have HPr:=hid hP.range
     clear hA hP hBf hb6 HA6 cld
     go_wp2
     refine bodyPost_ret (yac (p:=6) rfl _ _ b6 0 _ _ rfl HPr.out Tryz.underlying28 rfl (by rw [ycx]; exact ygJ)) rfl ⟨?_,HBf.out⟩
     rfl
end Go.Proofs.YtkpgfmonhfnhdaaGreatDoor
