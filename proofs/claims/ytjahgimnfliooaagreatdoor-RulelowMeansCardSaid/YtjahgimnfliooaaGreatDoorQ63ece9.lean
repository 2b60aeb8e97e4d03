/-
  lap.stepped: the disc of the seconds of a state whose units are of its phase.
-/
import Derived.Test.YtjahgimnfliooaaGreatDoorQ7eaca1
import Derived.Test.YtjahgimnfliooaaGreatDoorQ4951b9
import Derived.Test.YtjahgimnfliooaaGreatDoorQbd5244
import Derived.Test.YtjahgimnfliooaaGreatDoorQc74b0e
import Derived.Deep.RegionHeld3
import Derived.Deep.CutRange
set_option maxRecDepth 100000
set_option maxHeartbeats 25600000
namespace Go.Proofs.YtjahgimnfliooaaGreatDoor
open Go.RowKit
set_option linter.unusedVariables false
attribute [local go_sem] Oper.semAt_some
theorem wf_wp {n:Nat} {P:Program} {c:Code} {Q:Exit→Act→World→Prop} {a:Act} {w:World}:c.wpIn (WF none) n P Q a w↔c.wp P Q a w:=wpIn_wide
theorem ygH (x:Int) (W:World) (t:TypeId):Calls Tryz.prog 68 #[.slice (some ⟨W.heap.size,0,none⟩) 1 1] (W.alloc (.cells #[.int .i64 x] t)) fun e w'=>e= .returned (.int .u64 (ofM [x]))∧Below W.heap.size W w':=by
 have hb:Below W.heap.size W (W.alloc (.cells #[.int .i64 x] t)):=yaa (Below.refl _ _) (zG _)
 exact (yei (some ⟨W.heap.size,0,none⟩) 1 [x] (W.alloc (.cells #[.int .i64 x] t)) (by simp) (ybZ (yau W [.int .i64 x] t) (by simp))).mono fun e w' ⟨he,h⟩=>⟨he,hb.trans (h.mono hb.size)⟩
def yaU (c:Cl) (z f u p n:Int) (k:Nat):Bool:=ybA c f u k && (decide (p≤(k:Int) / z) && (decide (((k:Int) / z - p) % c.step=0) && decide ((k:Int) / z < n)))
def yaW (c:Cl) (z f u p:Int) (k:Nat):Bool:=ybA c f u k && (decide (p≤(k:Int) / z) && decide (((k:Int) / z - p) % c.step=0))
theorem ydi (c:Cl) (z f u p:Int) (k:Nat):yaU c z f u p p k=false:=by
 rw [yaU]
 by_cases h:p≤(k:Int) / z
 ·rw [zzd (show¬(k:Int) / z < p by omega)]; simp
 ·rw [zzd h]; simp
theorem yd1 {c:Cl} {z f u p n:Int} (hs:1≤c.step) (hpn:p≤n) (hm:(n - p) % c.step=0) (k:Nat):yaU c z f u p (n+c.step) k= (yaU c z f u p n k || (ybA c f u k && decide ((k:Int) / z=n))):=by
 rw [yaU,yaU]
 obtain ⟨x,hx⟩:∃x,(k:Int) / z=x:=⟨_,rfl⟩
 rw [hx]
 have key:(p≤x∧(x - p) % c.step=0∧x < n+c.step)↔((p≤x∧(x - p) % c.step=0∧x < n)∨x=n):=by
  constructor
  ·rintro ⟨h1,h2,h3⟩
   by_cases h:x < n
   ·exact .inl ⟨h1,h2,h⟩
   ·right
    have e:(x - n) % c.step=0:=by
     have:x - n= (x - p) - (n - p):=by omega
     rw [this,Int.sub_emod,h2,hm]; rfl
    rw [Int.emod_eq_of_lt (by omega) (by omega)] at e
    omega
  ·rintro (⟨h1,h2,h3⟩ | rfl)
   ·exact ⟨h1,h2,by omega⟩
   ·exact ⟨hpn,hm,by omega⟩
 cases ybA c f u k
 ·rfl
 ·rw [zze]
  simp only [zzo,zzX,Bool.or_eq_true,zzY]
  exact key
theorem yca {c:Cl} {z f u p n:Int} {k:Nat} (h:(k:Int) / z < n):yaU c z f u p n k=yaW c z f u p k:=by
 rw [yaU,yaW,zzZ h,Bool.and_true]
theorem yc7 {a b:Nat} {x:Int}:hasB (a &&& b) x= (hasB a x && hasB b x):=by
 rw [hasB,hasB,hasB,Nat.testBit_and]
 cases decide (0≤x) <;> simp
theorem yc6 {x y:Int} (h0:0≤y) (h1:y < 64):hasB (ofM [x]) y=decide (y=x):=by
 obtain ⟨k,rfl⟩:∃k:Nat,y=k:=⟨y.toNat,by omega⟩
 rw [ygq,ofM,ybh,zzZ (by omega),zzo,inB]
 simp
theorem yeM (c:Cl) {z n:Int} {H M S:Nat} (hz:(z=1∧H=c.m 2 &&& ofM [n / 3600]∧M=c.m 1 &&& ofM [n / 60 % 60]∧S=c.m 0 &&& ofM [n % 60])∨(z=60∧H=c.m 2 &&& ofM [n * 60 / 3600]∧M=c.m 1 &&& ofM [n % 60]∧S=c.m 0)∨(z=3600∧H=c.m 2 &&& ofM [n]∧M=c.m 1∧S=c.m 0))
  (h0:0≤n) (k:Nat) (hk:k < 86400):ybl k H M S= (ybl k (c.m 2) (c.m 1) (c.m 0) && decide ((k:Int) / z=n)):=by
 have hd:dayB (k:Int)=true:=by simp only [dayB,zzY]; omega
 rw [ybl,ybl,hd]
 simp only [zzo]
 rcases hz with ⟨rfl,rfl,rfl,rfl⟩ | ⟨rfl,rfl,rfl,rfl⟩ | ⟨rfl,rfl,rfl,rfl⟩
 ·rw [yc7,yc7,yc7,yc6 (by omega) (by omega),yc6 (by omega) (by omega),yc6 (by omega) (by omega)]
  have key:(decide ((k:Int) / 3600=n / 3600) && (decide ((k:Int) / 60 % 60=n / 60 % 60) && decide ((k:Int) % 60=n % 60)))=decide ((k:Int) / 1=n):=by
   rw [zze]; simp only [zzX,zzY]; omega
  rw [←key]
  cases hasB (c.m 2) ((k:Int) / 3600) <;> cases hasB (c.m 1) ((k:Int) / 60 % 60) <;> cases hasB (c.m 0) ((k:Int) % 60) <;> simp
 ·rw [yc7,yc7,yc6 (by omega) (by omega),yc6 (by omega) (by omega)]
  have key:(decide ((k:Int) / 3600=n * 60 / 3600) && decide ((k:Int) / 60 % 60=n % 60))=decide ((k:Int) / 60=n):=by
   rw [zze]; simp only [zzX,zzY]; omega
  rw [←key]
  cases hasB (c.m 2) ((k:Int) / 3600) <;> cases hasB (c.m 1) ((k:Int) / 60 % 60) <;> cases hasB (c.m 0) ((k:Int) % 60) <;> simp
 ·rw [yc7,yc6 (by omega) (by omega)]
  cases hasB (c.m 2) ((k:Int) / 3600) <;> cases hasB (c.m 1) ((k:Int) / 60 % 60) <;> cases hasB (c.m 0) ((k:Int) % 60) <;> simp
def TStep (h0 h1 h2 h3 h4 h5 h6 h7 h8:Value) (ds:List Deferred) (a:Act):Prop:=∃V:Nat→Value,a= {tmps:=#[h0,h1,h2,h3,h4,h5,h6,h7,h8,V 9,V 10,V 11,V 12,V 13,V 14,V 15,V 16,V 17,V 18,V 19,V 20,V 21,V 22,V 23,V 24,V 25,V 26,V 27,V 28,V 29,V 30,V 31,V 32,V 33,V 34,V 35,V 36,V 37,V 38,V 39,V 40,V 41,V 42,V 43,V 44,V 45,V 46,V 47,V 48,V 49,V 50,V 51,V 52,V 53,V 54,V 55,V 56,V 57,V 58,V 59,V 60,V 61,V 62,V 63,V 64,V 65,V 66,V 67,V 68,V 69,V 70,V 71,V 72,V 73,V 74,V 75,V 76,V 77,V 78,V 79,V 80,V 81,V 82,V 83],defers:=ds}
theorem TStep.of {h0 h1 h2 h3 h4 h5 h6 h7 h8 u9 u10 u11 u12 u13 u14 u15 u16 u17 u18 u19 u20 u21 u22 u23 u24 u25 u26 u27 u28 u29 u30 u31 u32 u33 u34 u35 u36 u37 u38 u39 u40 u41 u42 u43 u44 u45 u46 u47 u48 u49 u50 u51 u52 u53 u54 u55 u56 u57 u58 u59 u60 u61 u62 u63 u64 u65 u66 u67 u68 u69 u70 u71 u72 u73 u74 u75 u76 u77 u78 u79 u80 u81 u82 u83:Value} {ds:List Deferred}:TStep h0 h1 h2 h3 h4 h5 h6 h7 h8 ds {tmps:=#[h0,h1,h2,h3,h4,h5,h6,h7,h8,u9,u10,u11,u12,u13,u14,u15,u16,u17,u18,u19,u20,u21,u22,u23,u24,u25,u26,u27,u28,u29,u30,u31,u32,u33,u34,u35,u36,u37,u38,u39,u40,u41,u42,u43,u44,u45,u46,u47,u48,u49,u50,u51,u52,u53,u54,u55,u56,u57,u58,u59,u60,u61,u62,u63,u64,u65,u66,u67,u68,u69,u70,u71,u72,u73,u74,u75,u76,u77,u78,u79,u80,u81,u82,u83],defers:=ds}:=⟨fun i=>(#[u9,u10,u11,u12,u13,u14,u15,u16,u17,u18,u19,u20,u21,u22,u23,u24,u25,u26,u27,u28,u29,u30,u31,u32,u33,u34,u35,u36,u37,u38,u39,u40,u41,u42,u43,u44,u45,u46,u47,u48,u49,u50,u51,u52,u53,u54,u55,u56,u57,u58,u59,u60,u61,u62,u63,u64,u65,u66,u67,u68,u69,u70,u71,u72,u73,u74,u75,u76,u77,u78,u79,u80,u81,u82,u83]:Array Value).getD (#[0,0,0,0,0,0,0,0,0,0,1,2,3,4,5,6,7,8,9,10,11,12,13,14,15,16,17,18,19,20,21,22,23,24,25,26,27,28,29,30,31,32,33,34,35,36,37,38,39,40,41,42,43,44,45,46,47,48,49,50,51,52,53,54,55,56,57,58,59,60,61,62,63,64,65,66,67,68,69,70,71,72,73,74].getD i 0) undef,rfl⟩
def TStepX (h0 h1 h2 h3 h4 h5 h6 h7 h8 h16:Value) (ds:List Deferred) (a:Act):Prop:=∃V:Nat→Value,a= {tmps:=#[h0,h1,h2,h3,h4,h5,h6,h7,h8,V 9,V 10,V 11,V 12,V 13,V 14,V 15,h16,V 17,V 18,V 19,V 20,V 21,V 22,V 23,V 24,V 25,V 26,V 27,V 28,V 29,V 30,V 31,V 32,V 33,V 34,V 35,V 36,V 37,V 38,V 39,V 40,V 41,V 42,V 43,V 44,V 45,V 46,V 47,V 48,V 49,V 50,V 51,V 52,V 53,V 54,V 55,V 56,V 57,V 58,V 59,V 60,V 61,V 62,V 63,V 64,V 65,V 66,V 67,V 68,V 69,V 70,V 71,V 72,V 73,V 74,V 75,V 76,V 77,V 78,V 79,V 80,V 81,V 82,V 83],defers:=ds}
theorem TStepX.of {h0 h1 h2 h3 h4 h5 h6 h7 h8 h16 u9 u10 u11 u12 u13 u14 u15 u17 u18 u19 u20 u21 u22 u23 u24 u25 u26 u27 u28 u29 u30 u31 u32 u33 u34 u35 u36 u37 u38 u39 u40 u41 u42 u43 u44 u45 u46 u47 u48 u49 u50 u51 u52 u53 u54 u55 u56 u57 u58 u59 u60 u61 u62 u63 u64 u65 u66 u67 u68 u69 u70 u71 u72 u73 u74 u75 u76 u77 u78 u79 u80 u81 u82 u83:Value} {ds:List Deferred}:TStepX h0 h1 h2 h3 h4 h5 h6 h7 h8 h16 ds {tmps:=#[h0,h1,h2,h3,h4,h5,h6,h7,h8,u9,u10,u11,u12,u13,u14,u15,h16,u17,u18,u19,u20,u21,u22,u23,u24,u25,u26,u27,u28,u29,u30,u31,u32,u33,u34,u35,u36,u37,u38,u39,u40,u41,u42,u43,u44,u45,u46,u47,u48,u49,u50,u51,u52,u53,u54,u55,u56,u57,u58,u59,u60,u61,u62,u63,u64,u65,u66,u67,u68,u69,u70,u71,u72,u73,u74,u75,u76,u77,u78,u79,u80,u81,u82,u83],defers:=ds}:=⟨fun i=>(#[u9,u10,u11,u12,u13,u14,u15,u17,u18,u19,u20,u21,u22,u23,u24,u25,u26,u27,u28,u29,u30,u31,u32,u33,u34,u35,u36,u37,u38,u39,u40,u41,u42,u43,u44,u45,u46,u47,u48,u49,u50,u51,u52,u53,u54,u55,u56,u57,u58,u59,u60,u61,u62,u63,u64,u65,u66,u67,u68,u69,u70,u71,u72,u73,u74,u75,u76,u77,u78,u79,u80,u81,u82,u83]:Array Value).getD (#[0,0,0,0,0,0,0,0,0,0,1,2,3,4,5,6,0,7,8,9,10,11,12,13,14,15,16,17,18,19,20,21,22,23,24,25,26,27,28,29,30,31,32,33,34,35,36,37,38,39,40,41,42,43,44,45,46,47,48,49,50,51,52,53,54,55,56,57,58,59,60,61,62,63,64,65,66,67,68,69,70,71,72,73].getD i 0) undef,rfl⟩
def StI (bd:Nat) (q:Nat→Bool) (p:Int→Bool) (l:List Int):OwnP:=fun k O W=>(∀b,O b↔b=bd)∧DiscAt W bd (fun j=>q j || memD ((l.take k).filter p) j)
theorem ycX (bd:Nat) (q:Nat→Bool) (p:Int→Bool) (l:List Int):ybD (StI bd q p l):=fun k O W W' h hs hO=>⟨h.1,h.2.block hs (hO bd ((h.1 bd).mpr rfl))⟩
theorem stI_lt (bd:Nat) (q:Nat→Bool) (p:Int→Bool) (l:List Int):LtO (StI bd q p l):=fun k O W h b hb=>by rw [(h.1 b).mp hb]; exact h.2.lt
theorem StI.more {W':World} {bd:Nat} {q:Nat→Bool} {p:Int→Bool} {l:List Int} {k:Nat} {x:Int} (hx:l[k]? =some x) (hp:p x=true) (h:DiscAt W' bd (fun j=>(q j || memD ((l.take k).filter p) j) || decide ((j:Int)=x))) :
  DiscAt W' bd (fun j=>q j || memD ((l.take (k+1)).filter p) j):=by
 obtain ⟨hk,rfl⟩:=zzq.1 hx
 refine h.congr fun j hj=>?_
 rw [yam l k hk,List.filter_append,memD,memD,Bool.or_assoc]
 congr 1
 rw [zze,Bool.or_eq_true,zzY,zzY,zzY,List.mem_append]
 simp [hp]
theorem StI.same {W:World} {bd:Nat} {q:Nat→Bool} {p:Int→Bool} {l:List Int} {k:Nat} {x:Int} (hx:l[k]? =some x) (hp:p x=false) (h:DiscAt W bd (fun j=>q j || memD ((l.take k).filter p) j)) :
  DiscAt W bd (fun j=>q j || memD ((l.take (k+1)).filter p) j):=by
 obtain ⟨hk,rfl⟩:=zzq.1 hx
 have e:(l.take (k+1)).filter p= (l.take k).filter p:=by rw [yam l k hk,List.filter_append]; simp [hp]
 rw [e]; exact h
theorem yhL {P:Program} {c:Code} {K:Act→World→Prop} {Q:Exit→Act→World→Prop} {a:Act} {w:World} (h:c.wp P (Exit.then K (fun _ _ _=>False)) a w):c.wp P (Exit.then K Q) a w:=
 wp_mono h fun e a w hq=>by cases e <;> first | exact hq | exact hq.elim
abbrev StS (b:Nat) (c:Cl) (w4 W:World):Prop:=
 (W.cell? ⟨b,2,none⟩=some (.int .u64 (c.m 2:Nat))∧W.cell? ⟨b,1,none⟩=some (.int .u64 (c.m 1:Nat))∧W.cell? ⟨b,0,none⟩=some (.int .u64 (c.m 0:Nat)))∧Below w4.heap.size w4 W∧b < w4.heap.size
theorem StS.keep {b:Nat} {c:Cl} {w4 W W':World} (h:StS b c w4 W) (hb:Below W.heap.size W W'):StS b c w4 W':=by
 obtain ⟨⟨h2,h1,h0⟩,hB,hl⟩:=h
 have hl':b < W.heap.size:=zH hl hB.size
 exact ⟨⟨(hb.cell (p:=⟨b,2,none⟩) hl').trans h2,(hb.cell (p:=⟨b,1,none⟩) hl').trans h1,(hb.cell (p:=⟨b,0,none⟩) hl').trans h0⟩,hB.trans (hb.mono hB.size),hl⟩
theorem yky (c:Cl) (a:Bool) (f u p:Int) (w:World) (hc:c.Ok) (hp:0≤p) (hs:1≤c.step) (hT:Tab w) :
  Calls Tryz.prog 192 #[clv c,stv a f u p, .int .i64 1] w fun e w'=>∃b,e= .returned (.pointer (some ⟨b,0,none⟩))∧w.heap.size≤b∧DiscAt w' b (yaW c 1 f u p)∧Below w.heap.size w w':=by
 have b0:=hc.m 0 (by omega)
 have b1:=hc.m 1 (by omega)
 have b2:=hc.m 2 (by omega)
 have c1:=hid (fun W=>yek none 0 [] W (by simp) (Sl.nil _ _))
 have cQ:=hid (fun s W h0 h1=>ycS s W h0 h1)
 have cO:=hid (fun x W=>ygH x W 3)
 have c2:=hid (fun x y z W hx hy hz=>yeG x y z W hx hy hz)
 have cP:=hid (fun b q s W h=>ydW b q s W h)
 have n0:Hid (∀x:Int,bits .and .u64 ((c.m 0:Nat):Int) ((ofM [x]:Nat):Int)= ((c.m 0 &&& ofM [x]:Nat):Int)):=fun x=>yaE b0 (yaP _)
 have n1:Hid (∀x:Int,bits .and .u64 ((c.m 1:Nat):Int) ((ofM [x]:Nat):Int)= ((c.m 1 &&& ofM [x]:Nat):Int)):=fun x=>yaE b1 (yaP _)
 have n2:Hid (∀x:Int,bits .and .u64 ((c.m 2:Nat):Int) ((ofM [x]:Nat):Int)= ((c.m 2 &&& ofM [x]:Nat):Int)):=fun x=>yaE b2 (yaP _)
 have hss:=hc.step.2
 have HT:=hid hT
 have B012:=hid (And.intro b0 (And.intro b1 b2))
 obtain ⟨W1,hW1⟩:∃W1,(w.alloc (.cells (yac c).toArray 34)).alloc (.cells #[.bool a, .int .i64 f, .int .i64 u, .int .i64 p] 203)=W1:=⟨_,rfl⟩
 have q1:W1.heap.size=w.heap.size+2:=by rw [←hW1]; simp
 have q2:Below w.heap.size w W1:=by rw [←hW1]; exact yaa (yaa (Below.refl _ _) (zG _)) (by simp)
 have q3:ClB W1 w.heap.size c:=by rw [←hW1]; exact ydM w c _ _
 have q4:Four W1 (w.heap.size+1) (.bool a) (.int .i64 f) (.int .i64 u) (.int .i64 p):=by
  rw [←hW1]
  have h:=ybN (w.alloc (.cells (yac c).toArray 34)) (.bool a) (.int .i64 f) (.int .i64 u) (.int .i64 p) 203
  rw [zzN] at h
  exact h
 have HW1:=hid hW1
 have Q2:=hid q2
 have Q3:=hid q3
 have Q4:=hid q4
 clear hW1 q2 q3 q4 hT hc b0 b1 b2
 refine (wf_calls (r:=none) (n:=1)).mp ?_
 refine callsIn_of_wp_marks Tryz.func192 rfl trivial ?_ rfl
 simp only [Tryz.ntmps192,List.size_toArray,List.length_cons,List.length_nil,Nat.reduceAdd,Nat.reduceSub,Array.replicate_succ,Array.replicate_zero,List.push_toArray,List.append_toArray,List.nil_append,List.cons_append]
 gi_wp2_with fail
 rw [HW1.out]
 refine (wf_calls.mpr (c1.out W1)).mono ?_
 rintro e w2 ⟨rfl,hD,hB2⟩
 rw [q1]
 obtain ⟨W3,hW3⟩:∃W,w2.alloc (.cells #[.pointer (some ⟨w.heap.size+2,0,none⟩)] 105)=W:=⟨_,rfl⟩
 have s2:w.heap.size+2 < w2.heap.size:=by rw [q1] at hD; exact hD.lt
 have b3:Below w2.heap.size w2 W3:=by rw [←hW3]; exact yaa (Below.refl _ _) (zG _)
 have s3:W3.heap.size=w2.heap.size+1:=by rw [←hW3]; simp
 have B13:Below W1.heap.size W1 W3:=hB2.trans (b3.mono hB2.size)
 have HB3:Hid (Below w.heap.size w W3):=Q2.out.trans (B13.mono Q2.out.size)
 have HD3:Hid (DiscAt W3 (w.heap.size+2) (memD [])):=by rw [q1] at hD; exact hD.below b3 s2
 have C3:=hid (Q3.out.below B13 (by omega))
 have F3:=hid (Q4.out.below B13 (by omega))
 have e5:=hid (show W3.cell? ⟨w2.heap.size,0,none⟩=some (.pointer (some ⟨w.heap.size+2,0,none⟩)) by rw [←hW3]; simp [go_sem])
 have f3:(w2.alloc (.cells #[.pointer (some ⟨w.heap.size+2,0,none⟩)] 105)).cell? ⟨w.heap.size+1,3,none⟩=some (.int .i64 p):=by rw [hW3]; exact F3.out.1.2.2.2
 have HW3:=hid hW3
 have S3:=hid s3
 clear hW3 hD hB2 b3 B13 s3
 gi_wp2_with fail
 rw [HW3.out]
 clear f3
 have start0:Hid (DiscAt W3 (w.heap.size+2) (yaU c 1 f u p p)):=HD3.out.congr fun k hk=>by rw [ydi,memD]; simp
 refine wpIn_loop (fun a' w'=>∃(n:Int) (Ds:List Nat),0≤n∧p≤n∧Hid ((n - p) % c.step=0)∧TStep (clv c) (stv a f u p) (.int .i64 1) (.pointer (some ⟨w.heap.size,0,none⟩)) (.pointer (some ⟨w.heap.size+1,0,none⟩)) undef (.pointer none) (.pointer (some ⟨w2.heap.size,0,none⟩)) (.int .i64 n) (yjT Ds) a'∧Hid (DiscAt w' (w.heap.size+2) (yaU c 1 f u p n)∧Eff (fun b=>b=w.heap.size+2) W3 w'∧(∀D∈Ds,w'.heap[D]? =some (.deferred (some []))∧W3.heap.size≤D)∧Ds.Nodup))
  (fun a' _=>(86400 - intOf (a'.tmps.getD 8 undef)).toNat) ?start ?round
 case start=>exact ⟨p,[],hp,Int.le_refl _,(by show _ = _; simp),TStep.of,start0.out,Eff.refl _ _,fun D h=>(by cases h),List.nodup_nil⟩
 case round=>
  rintro a' w4 ⟨n,Ds,hn0,hpn,hmod,⟨U,rfl⟩,HI⟩
  have s24:w2.heap.size < w4.heap.size:=by have:=HI.out.2.1.size; have:=S3.out; omega
  by_cases hlt:n < 86400
  ·have t1:0≤n:=by omega
   have t2:n < 86400:=by omega
   have C4:Hid (ClB w4 w.heap.size c):=fun j v hv=>(HI.out.2.1.cell (p:=⟨w.heap.size,0+j,none⟩) (by have:=S3.out; show w.heap.size < _; omega) (by show¬w.heap.size= _; omega)).trans (C3.out j v hv)
   have Hlt:=hid hlt
   refine wf_wp.mpr ?_
   go_wp2_with fail
   refine (cQ.out _ _ t1 t2).mono ?_
   rintro e w' ⟨rfl,rfl⟩
   go_upto_region 6 with fail
   go_cut [13,14,15] from 37 to 46 (fun x13 x14 x15 wx=>x13= .int .u64 ((c.m 2 &&& ofM [n / 3600]:Nat):Int)∧x14= .int .u64 (c.m 1:Nat)∧x15= .int .u64 (c.m 0:Nat)∧Hid (Below w4.heap.size w4 wx))
   case first=>
    refine yhL ?_
    refine wp_region_held_drew (S:=fun w'=>StS w.heap.size c w4 w') (by kernel_rfl) ?_ (fun hHeld=>?_)
    ·obtain ⟨m0,m1,m2,-⟩:=C4.out.masks
     exact ⟨⟨m2,m1,m0⟩,(Below.refl _ _).drew,by omega⟩
    have hHeld0:=hHeld
    refine zhD 0 ?_
    refine zhD 1 ?_
    refine zhD 2 ?_
    refine zhD 6 ?_
    refine zhD 7 ?_
    refine zhD 8 ?_
    refine zhD 9 ?_
    refine zzK 3 (fun K hK=>?_)
    go_simp
    (try go_wp2_with fail)
    refine hK.out _ _ (StS.keep hHeld (yaa (Below.refl _ _) (zG _))) (fun hHeld=>?_)
    clear hK K
    try simp only [zP]
    refine zzK 4 (fun K hK=>?_)
    go_simp
    refine (cO.out _ w4.drew).mono ?_
    rintro e w5 ⟨rfl,hB5⟩
    have hH5:=StS.keep hHeld0 hB5
    clear hB5
    (try go_wp2_with fail)
    refine hK.out _ _ hH5 (fun hHeld=>?_)
    clear hK K hH5 hHeld0
    try simp only [zP]
    refine zhD 5 ?_
    refine zhD 10 ?_
    refine zhD 11 ?_
    refine zhD 12 ?_
    refine wpAnyH_done (by kernel_rfl) ?_ _
    have HB6:=hid hHeld.2.1
    clear hHeld
    go_wp2_with fail
    go_meet
    exact ⟨congrArg _ (n2.out _),rfl,rfl,HB6⟩
   case rest=>
    obtain ⟨rfl,rfl,rfl,hB6⟩:=hcut
    have C6:=hid (C4.out.below hB6.out (by omega))
    have HB6:=hid hB6.out
    clear hB6
    go_wp2_with fail
    refine (cO.out _ _).mono ?_
    rintro e w8 ⟨rfl,hB8⟩
    go_wp2_with fail
    refine (cO.out _ _).mono ?_
    rintro e wz ⟨rfl,hB9⟩
    have HB9:Hid (Below w4.heap.size w4 wz):=HB6.out.trans ((hB8.trans (hB9.mono hB8.size)).mono HB6.out.size)
    clear hB8 hB9
    go_wp2_with fail
    rw [n1.out,n0.out]
    refine (c2.out _ _ _ _ (ybk B012.out.2.2) (ybk B012.out.2.1) (ybk B012.out.1)).mono ?_
    rintro e w7 ⟨rfl,k1,k2,k3,hB7,s7⟩
    have HB7:Hid (Below w4.heap.size w4 w7):=HB9.out.trans (hB7.mono HB9.out.size)
    have hsp:=hid (yeM c (z:=1) (n:=n) (.inl ⟨rfl,rfl,rfl,rfl⟩) hn0)
    have s47:w4.heap.size≤w7.heap.size:=HB7.out.size
    have s79:=HB9.out.size
    obtain ⟨hD4,hE4,hDs,hnd⟩:=HI.out
    have hD7:DiscAt w7 (w.heap.size+2) (yaU c 1 f u p n):=hD4.below HB7.out (by omega)
    have hT7:=HT.out.later (HB3.out.trans ((hE4.trans (Eff.of_below (O:=fun b=>b=w.heap.size+2) HB7.out) (fun b hb=> .inl hb)).below (by rintro b rfl; omega) HB3.out.size))
    have tl:=hid (ycV _ _ _ wz.heap.size (wz.heap.size+1) (wz.heap.size+2) (fun b=>b=w.heap.size+2) w7 (ybk B012.out.2.2) (ybk B012.out.2.1) (ybk B012.out.1) (by omega) (by omega) (by omega) (by omega) (by omega) (by omega) k1 k2 k3 hT7 (by have:=HT.out.1; show¬0= _; omega))
    have hmem:Hid (∀k:Nat,k < 86400→((k:Int)∈ybt (c.m 2 &&& ofM [n / 3600]) (c.m 1 &&& ofM [n / 60 % 60]) (c.m 0 &&& ofM [n % 60])↔ybl k (c.m 2 &&& ofM [n / 3600]) (c.m 1 &&& ofM [n / 60 % 60]) (c.m 0 &&& ofM [n % 60])=true)):=fun k hk=>yc0 (ybk B012.out.2.2) (ybk B012.out.2.1) (ybk B012.out.1) (by omega) (by omega)
    have hfl:Hid (∀L,L=ybt (c.m 2 &&& ofM [n / 3600]) (c.m 1 &&& ofM [n / 60 % 60]) (c.m 0 &&& ofM [n % 60])→∀k:Nat,k < 86400→(yaU c 1 f u p n k || memD (L.filter (betB f u)) k)=yaU c 1 f u p (n+c.step) k):=fun L hL k hk=>by
     rw [yd1 hs hpn hmod.out,hL,memD]
     have e1:decide ((k:Int)∈(ybt (c.m 2 &&& ofM [n / 3600]) (c.m 1 &&& ofM [n / 60 % 60]) (c.m 0 &&& ofM [n % 60])).filter (betB f u))= (ybA c f u k && decide ((k:Int) / 1=n)):=by
      rw [zze,zzY,List.mem_filter,hmem.out k hk,hsp.out k hk,ybA]
      cases ybl k (c.m 2) (c.m 1) (c.m 0) <;> cases betB f u k <;> simp
     rw [e1]
    obtain ⟨L,hL⟩:∃L,ybt (c.m 2 &&& ofM [n / 3600]) (c.m 1 &&& ofM [n / 60 % 60]) (c.m 0 &&& ofM [n % 60])=L:=⟨_,rfl⟩
    rw [hL] at tl
    have Hfl:=hid (hfl.out L hL.symm)
    have I7:Hid (StI (w.heap.size+2) (yaU c 1 f u p n) (betB f u) L 0 (fun b=>b=w.heap.size+2) w7):=⟨fun b=>Iff.rfl,hD7.congr fun k hk=>by simp [memD]⟩
    have e57:=hid (((Eff.of_below (O:=fun b=>b=w.heap.size+2) HB7.out).cell (p:=⟨w2.heap.size,0,none⟩) (by simp only []; omega) (by show¬w2.heap.size= _; omega)).trans ((hE4.cell (p:=⟨w2.heap.size,0,none⟩) (by have:=S3.out; simp only []; omega) (by show¬w2.heap.size= _; omega)).trans e5.out))
    have F7:Hid (Four w7 (w.heap.size+1) (.bool a) (.int .i64 f) (.int .i64 u) (.int .i64 p)):=by
     have h0:=F3.out
     obtain ⟨⟨g0,g1,g2,g3⟩,x0,x1,x2,x3⟩:=h0
     have ce:∀i,w7.cell? ⟨w.heap.size+1,i,none⟩=W3.cell? ⟨w.heap.size+1,i,none⟩:=fun i=>(HB7.out.cell (p:=⟨w.heap.size+1,i,none⟩) (by simp only []; omega)).trans (hE4.cell (p:=⟨w.heap.size+1,i,none⟩) (by have:=S3.out; simp only []; omega) (by show¬w.heap.size+1= _; omega))
     have fe:∀i,w7.frozen? ⟨w.heap.size+1,i,none⟩=W3.frozen? ⟨w.heap.size+1,i,none⟩:=fun i=>(HB7.out.frozen (p:=⟨w.heap.size+1,i,none⟩) (by simp only []; omega)).trans (hE4.frozen (p:=⟨w.heap.size+1,i,none⟩) (by have:=S3.out; simp only []; omega) (by show¬w.heap.size+1= _; omega))
     exact ⟨⟨(ce 0).trans g0,(ce 1).trans g1,(ce 2).trans g2,(ce 3).trans g3⟩,(fe 0).trans x0,(fe 1).trans x1,(fe 2).trans x2,(fe 3).trans x3⟩
    have C7:Hid (ClB w7 w.heap.size c):=C4.out.below HB7.out (by omega)
    have HE7:Hid (Eff (fun b=>b=w.heap.size+2) W3 w7):=hE4.trans (Eff.of_below (O:=fun b=>b=w.heap.size+2) HB7.out) (fun b hb=> .inl hb)
    have HDs:Hid (∀D∈Ds,w7.heap[D]? =some (.deferred (some []))∧D≠w.heap.size+2∧W3.heap.size≤D∧D < w4.heap.size):=fun D hD=>by
     have h1:=hDs D hD
     have:=S3.out
     exact ⟨(HB7.out.block D (yan h1.1)).trans h1.1,by omega,h1.2,yan h1.1⟩
    have Hnd:=hid hnd
    have lw4:w2.heap.size < w7.heap.size:=by omega
    have lw5:w.heap.size+1 < w7.heap.size:=by omega
    clear k1 k2 k3 hB7 hT7 hD7 hD4 hE4 hDs hnd hL hmem hsp hfl s7
    go_wp2_with fail
    refine (wf_wp (n:=1)).mp ?_
    refine ybz (gf:=196) (lb:=#[.pointer (some ⟨wz.heap.size,0,none⟩), .pointer (some ⟨wz.heap.size+1,0,none⟩), .pointer (some ⟨wz.heap.size+2,0,none⟩)]) rfl ycW L _ rfl tl.out
     (StI (w.heap.size+2) (yaU c 1 f u p n) (betB f u) L) (fun _ _ _ _=>False) (ycX _ _ _ _) (fun _ _ _ _ _ h _ _=>h.elim) (stI_lt _ _ _ _) (fun _ _ _ _ h=>h.elim) I7.out
     (fun k O a' W=>StI (w.heap.size+2) (yaU c 1 f u p n) (betB f u) L k O W∧∃x,L[k]? =some x∧TStepX (clv c) (stv a f u p) (.int .i64 1) (.pointer (some ⟨w.heap.size,0,none⟩)) (.pointer (some ⟨w.heap.size+1,0,none⟩)) undef (.pointer none) (.pointer (some ⟨w2.heap.size,0,none⟩)) (.int .i64 n) (.int .i64 x) [] a')
     (fun l o k O a' W' hr hn h=>⟨ybM (ycX _ _ _ _) h.1 hn o,h.2⟩) ?assign ?body ?done ?stop
    case assign=>
     intro l k O6 W6 K hk hI hG6 hK
     gi_wp2
     exact hK _ O6 _ (Grow.refl _ _) ⟨hI,_,zzp hk,TStepX.of⟩
    case stop=>
     intro c' k O9 w9 _ _ _ h
     exact h.elim
    case body=>
     rintro l k O6 a' W6 hk hG6 hl6 hrec6 hnl6 ⟨⟨hO6,hd6⟩,x,ex,U6,rfl⟩
     have e56:=(hG6.cell lw4 (by omega) 0).trans e57.out
     obtain ⟨⟨-,f1,f2,-⟩,-⟩:=F7.out
     have g1:=(hG6.cell lw5 (by omega) 1).trans f1
     have g2:=(hG6.cell lw5 (by omega) 2).trans f2
     have Hd6:=hid hd6
     have HO6:=hid hO6
     have Hex:=hid ex
     clear f1 f2 hd6 hO6 ex hG6
     by_cases h1:f≤x
     ·have d1:decide (f≤x)=true:=zzZ h1
      by_cases h2:x≤u
      ·have hp:Hid (betB f u x=true):=by show _ = _; rw [betB,zzZ (by omega),zzZ (by omega)]; rfl
       have d2:decide (x≤u)=true:=zzZ h2
       gi_wp2_with fail
       refine (wf_calls.mpr (cP.out _ _ x _ Hd6.out)).mono ?_
       rintro e w7 ⟨⟨v,rfl⟩,hd7,hE7⟩
       have Hd7:=hid hd7
       have HE7:=hid hE7
       clear hd7 hE7
       gi_wp2
       exact ⟨O6,⟨fun _ h=>h,fun _ h=> .inl h,HE7.out.wide fun b hb=>(HO6.out b).mpr hb⟩,HO6.out,StI.more Hex.out hp.out Hd7.out⟩
      ·have hp:Hid (betB f u x=false):=by show _ = _; rw [betB,zzd h2,Bool.and_false]
       have d2:decide (x≤u)=false:=zzd h2
       gi_wp2
       exact ⟨O6,Grow.refl _ _,HO6.out,StI.same Hex.out hp.out Hd6.out⟩
     ·have d1:decide (f≤x)=false:=zzd h1
      have hp:Hid (betB f u x=false):=by show _ = _; rw [betB,d1]; rfl
      gi_wp2
      exact ⟨O6,Grow.refl _ _,HO6.out,StI.same Hex.out hp.out Hd6.out⟩
    case done=>
     rintro O9 wz hG9 ⟨hO9,hd9⟩ hD hnD
     rw [List.take_length] at hd9
     have hall:∀D∈w7.heap.size :: Ds,wz.heap[D]? =some (.deferred (some []))∧W3.heap.size≤D:=by
      intro E hE
      rcases List.mem_cons.mp hE with rfl | hE
      ·exact ⟨hD,HE7.out.size⟩
      ·obtain ⟨g1,g2,g3,g4⟩:=HDs.out E hE
       exact ⟨(hG9.eff.block E (by omega) (by show¬E= _; exact g2)).trans g1,g3⟩
     have hnn:(w7.heap.size :: Ds).Nodup:=List.nodup_cons.mpr ⟨fun h=>by have:=(HDs.out _ h).2.2.2; omega,Hnd.out⟩
     have HH:Hid (DiscAt wz (w.heap.size+2) (yaU c 1 f u p (n+c.step))∧Eff (fun b=>b=w.heap.size+2) W3 wz∧(∀D∈w7.heap.size :: Ds,wz.heap[D]? =some (.deferred (some []))∧W3.heap.size≤D)∧(w7.heap.size :: Ds).Nodup):=
      ⟨hd9.congr fun k hk=>Hfl.out k hk,HE7.out.trans hG9.eff (fun b hb=> .inl hb),hall,hnn⟩
     have e59:=(hG9.cell lw4 (by omega) 0).trans e57.out
     obtain ⟨-,m1,-,-,-⟩:=C7.out.tail
     have m19:=(hG9.cell (b:=w.heap.size) (by omega) (by omega) 26).trans m1
     have hm2:Hid ((n+c.step - p) % c.step=0):=by
      show _ = _
      rw [show n+c.step - p= (n - p)+c.step by omega,Int.add_emod_right]; exact hmod.out
     clear hall hnn hd9 hG9 hD m1
     by_cases hbig:86400 < c.step
     ·have db:decide (86400 < c.step)=true:=zzZ hbig
      have hend:Hid (∀k:Nat,k < 86400→yaU c 1 f u p (n+c.step) k=yaW c 1 f u p k):=fun k hk=>yca (by omega)
      go_wp2
      gi_wp2
      refine ya8 (by simp) (w7.heap.size :: Ds) wz HH.out.2.2.2 (fun D hD=>(HH.out.2.2.1 D hD).1) ?_
      intro w' e1 e2 e3 e4 e5
      exact ⟨_,results_tmp rfl _ _ _,_,rfl,by omega,(HH.out.1.congr hend.out).block (by rw [e4]; exact zG _) (e5 _ (fun h=>by have:=(HH.out.2.2.1 _ h).2; have:=S3.out; omega)),(HB3.out.trans ((ycf HH.out.2.1 (fun D hD=>(HH.out.2.2.1 D hD).2) e1 e2 e3 e4 e5).below (by rintro b rfl; omega) HB3.out.size))⟩
     ·have db:decide (86400 < c.step)=false:=zzd hbig
      have hn1:n+c.step≤9223372036854775807:=by omega
      go_wp2
      exact ⟨⟨n+c.step,by omega,by omega,hm2.out,w7.heap.size :: Ds,TStep.of,HH.out⟩,by simp [intOf]; omega⟩
  ·obtain ⟨hD4,hE4,hDs,hnd⟩:=HI.out
   have e54:=(hE4.cell (p:=⟨w2.heap.size,0,none⟩) (by have:=S3.out; simp only []; omega) (by show¬w2.heap.size= _; omega)).trans e5.out
   have hend:Hid (∀k:Nat,k < 86400→yaU c 1 f u p n k=yaW c 1 f u p k):=fun k hk=>yca (by omega)
   have HH:=hid (And.intro hD4 (And.intro hE4 (And.intro hDs hnd)))
   clear hD4 hE4 hDs hnd
   gi_wp2
   refine ya8 (by simp) Ds w4 HH.out.2.2.2 (fun D hD=>(HH.out.2.2.1 D hD).1) ?_
   intro w' e1 e2 e3 e4 e5
   exact ⟨_,results_tmp rfl _ _ _,_,rfl,by omega,(HH.out.1.congr hend.out).block (by rw [e4]; exact zG _) (e5 _ (fun h=>by have:=(HH.out.2.2.1 _ h).2; have:=S3.out; omega)),(HB3.out.trans ((ycf HH.out.2.1 (fun D hD=>(HH.out.2.2.1 D hD).2) e1 e2 e3 e4 e5).below (by rintro b rfl; omega) HB3.out.size))⟩
theorem yix (c:Cl) (a:Bool) (f u p:Int) (w:World) (hc:c.Ok) (hp:0≤p) (hs:1≤c.step) (hT:Tab w) :
  Calls Tryz.prog 192 #[clv c,stv a f u p, .int .i64 60] w fun e w'=>∃b,e= .returned (.pointer (some ⟨b,0,none⟩))∧w.heap.size≤b∧DiscAt w' b (yaW c 60 f u p)∧Below w.heap.size w w':=by
 have b0:=hc.m 0 (by omega)
 have b1:=hc.m 1 (by omega)
 have b2:=hc.m 2 (by omega)
 have c1:=hid (fun W=>yek none 0 [] W (by simp) (Sl.nil _ _))
 have cQ:=hid (fun s W h0 h1=>ycS s W h0 h1)
 have cO:=hid (fun x W=>ygH x W 3)
 have c2:=hid (fun x y z W hx hy hz=>yeG x y z W hx hy hz)
 have cP:=hid (fun b q s W h=>ydW b q s W h)
 have n0:Hid (∀x:Int,bits .and .u64 ((c.m 0:Nat):Int) ((ofM [x]:Nat):Int)= ((c.m 0 &&& ofM [x]:Nat):Int)):=fun x=>yaE b0 (yaP _)
 have n1:Hid (∀x:Int,bits .and .u64 ((c.m 1:Nat):Int) ((ofM [x]:Nat):Int)= ((c.m 1 &&& ofM [x]:Nat):Int)):=fun x=>yaE b1 (yaP _)
 have n2:Hid (∀x:Int,bits .and .u64 ((c.m 2:Nat):Int) ((ofM [x]:Nat):Int)= ((c.m 2 &&& ofM [x]:Nat):Int)):=fun x=>yaE b2 (yaP _)
 have hss:=hc.step.2
 have HT:=hid hT
 have B012:=hid (And.intro b0 (And.intro b1 b2))
 obtain ⟨W1,hW1⟩:∃W1,(w.alloc (.cells (yac c).toArray 34)).alloc (.cells #[.bool a, .int .i64 f, .int .i64 u, .int .i64 p] 203)=W1:=⟨_,rfl⟩
 have q1:W1.heap.size=w.heap.size+2:=by rw [←hW1]; simp
 have q2:Below w.heap.size w W1:=by rw [←hW1]; exact yaa (yaa (Below.refl _ _) (zG _)) (by simp)
 have q3:ClB W1 w.heap.size c:=by rw [←hW1]; exact ydM w c _ _
 have q4:Four W1 (w.heap.size+1) (.bool a) (.int .i64 f) (.int .i64 u) (.int .i64 p):=by
  rw [←hW1]
  have h:=ybN (w.alloc (.cells (yac c).toArray 34)) (.bool a) (.int .i64 f) (.int .i64 u) (.int .i64 p) 203
  rw [zzN] at h
  exact h
 have HW1:=hid hW1
 have Q2:=hid q2
 have Q3:=hid q3
 have Q4:=hid q4
 clear hW1 q2 q3 q4 hT hc b0 b1 b2
 refine (wf_calls (r:=none) (n:=1)).mp ?_
 refine callsIn_of_wp_marks Tryz.func192 rfl trivial ?_ rfl
 simp only [Tryz.ntmps192,List.size_toArray,List.length_cons,List.length_nil,Nat.reduceAdd,Nat.reduceSub,Array.replicate_succ,Array.replicate_zero,List.push_toArray,List.append_toArray,List.nil_append,List.cons_append]
 gi_wp2_with fail
 rw [HW1.out]
 refine (wf_calls.mpr (c1.out W1)).mono ?_
 rintro e w2 ⟨rfl,hD,hB2⟩
 rw [q1]
 obtain ⟨W3,hW3⟩:∃W,w2.alloc (.cells #[.pointer (some ⟨w.heap.size+2,0,none⟩)] 105)=W:=⟨_,rfl⟩
 have s2:w.heap.size+2 < w2.heap.size:=by rw [q1] at hD; exact hD.lt
 have b3:Below w2.heap.size w2 W3:=by rw [←hW3]; exact yaa (Below.refl _ _) (zG _)
 have s3:W3.heap.size=w2.heap.size+1:=by rw [←hW3]; simp
 have B13:Below W1.heap.size W1 W3:=hB2.trans (b3.mono hB2.size)
 have HB3:Hid (Below w.heap.size w W3):=Q2.out.trans (B13.mono Q2.out.size)
 have HD3:Hid (DiscAt W3 (w.heap.size+2) (memD [])):=by rw [q1] at hD; exact hD.below b3 s2
 have C3:=hid (Q3.out.below B13 (by omega))
 have F3:=hid (Q4.out.below B13 (by omega))
 have e5:=hid (show W3.cell? ⟨w2.heap.size,0,none⟩=some (.pointer (some ⟨w.heap.size+2,0,none⟩)) by rw [←hW3]; simp [go_sem])
 have f3:(w2.alloc (.cells #[.pointer (some ⟨w.heap.size+2,0,none⟩)] 105)).cell? ⟨w.heap.size+1,3,none⟩=some (.int .i64 p):=by rw [hW3]; exact F3.out.1.2.2.2
 have HW3:=hid hW3
 have S3:=hid s3
 clear hW3 hD hB2 b3 B13 s3
 gi_wp2_with fail
 rw [HW3.out]
 clear f3
 have start0:Hid (DiscAt W3 (w.heap.size+2) (yaU c 60 f u p p)):=HD3.out.congr fun k hk=>by rw [ydi,memD]; simp
 refine wpIn_loop (fun a' w'=>∃(n:Int) (Ds:List Nat),0≤n∧p≤n∧Hid ((n - p) % c.step=0)∧TStep (clv c) (stv a f u p) (.int .i64 60) (.pointer (some ⟨w.heap.size,0,none⟩)) (.pointer (some ⟨w.heap.size+1,0,none⟩)) undef (.pointer none) (.pointer (some ⟨w2.heap.size,0,none⟩)) (.int .i64 n) (yjT Ds) a'∧Hid (DiscAt w' (w.heap.size+2) (yaU c 60 f u p n)∧Eff (fun b=>b=w.heap.size+2) W3 w'∧(∀D∈Ds,w'.heap[D]? =some (.deferred (some []))∧W3.heap.size≤D)∧Ds.Nodup))
  (fun a' _=>(86400 - intOf (a'.tmps.getD 8 undef)).toNat) ?start ?round
 case start=>exact ⟨p,[],hp,Int.le_refl _,(by show _ = _; simp),TStep.of,start0.out,Eff.refl _ _,fun D h=>(by cases h),List.nodup_nil⟩
 case round=>
  rintro a' w4 ⟨n,Ds,hn0,hpn,hmod,⟨U,rfl⟩,HI⟩
  have s24:w2.heap.size < w4.heap.size:=by have:=HI.out.2.1.size; have:=S3.out; omega
  by_cases hlt:n < 1440
  ·have t1:0≤n * 60:=by omega
   have t2:n * 60 < 86400:=by omega
   have C4:Hid (ClB w4 w.heap.size c):=fun j v hv=>(HI.out.2.1.cell (p:=⟨w.heap.size,0+j,none⟩) (by have:=S3.out; show w.heap.size < _; omega) (by show¬w.heap.size= _; omega)).trans (C3.out j v hv)
   have Hlt:=hid hlt
   refine wf_wp.mpr ?_
   go_wp2_with fail
   refine (cQ.out _ _ t1 t2).mono ?_
   rintro e w' ⟨rfl,rfl⟩
   go_upto_region 6 with fail
   go_cut [13,14,15] from 37 to 46 (fun x13 x14 x15 wx=>x13= .int .u64 ((c.m 2 &&& ofM [n * 60 / 3600]:Nat):Int)∧x14= .int .u64 (c.m 1:Nat)∧x15= .int .u64 (c.m 0:Nat)∧Hid (Below w4.heap.size w4 wx))
   case first=>
    refine yhL ?_
    refine wp_region_held_drew (S:=fun w'=>StS w.heap.size c w4 w') (by kernel_rfl) ?_ (fun hHeld=>?_)
    ·obtain ⟨m0,m1,m2,-⟩:=C4.out.masks
     exact ⟨⟨m2,m1,m0⟩,(Below.refl _ _).drew,by omega⟩
    have hHeld0:=hHeld
    refine zhD 0 ?_
    refine zhD 1 ?_
    refine zhD 2 ?_
    refine zhD 6 ?_
    refine zhD 7 ?_
    refine zhD 8 ?_
    refine zhD 9 ?_
    refine zzK 3 (fun K hK=>?_)
    go_simp
    (try go_wp2_with fail)
    refine hK.out _ _ (StS.keep hHeld (yaa (Below.refl _ _) (zG _))) (fun hHeld=>?_)
    clear hK K
    try simp only [zP]
    refine zzK 4 (fun K hK=>?_)
    go_simp
    refine (cO.out _ w4.drew).mono ?_
    rintro e w5 ⟨rfl,hB5⟩
    have hH5:=StS.keep hHeld0 hB5
    clear hB5
    (try go_wp2_with fail)
    refine hK.out _ _ hH5 (fun hHeld=>?_)
    clear hK K hH5 hHeld0
    try simp only [zP]
    refine zhD 5 ?_
    refine zhD 10 ?_
    refine zhD 11 ?_
    refine zhD 12 ?_
    refine wpAnyH_done (by kernel_rfl) ?_ _
    have HB6:=hid hHeld.2.1
    clear hHeld
    go_wp2_with fail
    go_meet
    exact ⟨congrArg _ (n2.out _),rfl,rfl,HB6⟩
   case rest=>
    obtain ⟨rfl,rfl,rfl,hB6⟩:=hcut
    have C6:=hid (C4.out.below hB6.out (by omega))
    have HB6:=hid hB6.out
    clear hB6
    go_wp2_with fail
    refine (cO.out _ _).mono ?_
    rintro e wz ⟨rfl,hB9⟩
    have HB9:Hid (Below w4.heap.size w4 wz):=HB6.out.trans (hB9.mono HB6.out.size)
    clear hB9
    go_wp2_with fail
    rw [n1.out]
    refine (c2.out _ _ _ _ (ybk B012.out.2.2) (ybk B012.out.2.1) (B012.out.1)).mono ?_
    rintro e w7 ⟨rfl,k1,k2,k3,hB7,s7⟩
    have HB7:Hid (Below w4.heap.size w4 w7):=HB9.out.trans (hB7.mono HB9.out.size)
    have hsp:=hid (yeM c (z:=60) (n:=n) (.inr (.inl ⟨rfl,rfl,rfl,rfl⟩)) hn0)
    have s47:w4.heap.size≤w7.heap.size:=HB7.out.size
    have s79:=HB9.out.size
    obtain ⟨hD4,hE4,hDs,hnd⟩:=HI.out
    have hD7:DiscAt w7 (w.heap.size+2) (yaU c 60 f u p n):=hD4.below HB7.out (by omega)
    have hT7:=HT.out.later (HB3.out.trans ((hE4.trans (Eff.of_below (O:=fun b=>b=w.heap.size+2) HB7.out) (fun b hb=> .inl hb)).below (by rintro b rfl; omega) HB3.out.size))
    have tl:=hid (ycV _ _ _ wz.heap.size (wz.heap.size+1) (wz.heap.size+2) (fun b=>b=w.heap.size+2) w7 (ybk B012.out.2.2) (ybk B012.out.2.1) (B012.out.1) (by omega) (by omega) (by omega) (by omega) (by omega) (by omega) k1 k2 k3 hT7 (by have:=HT.out.1; show¬0= _; omega))
    have hmem:Hid (∀k:Nat,k < 86400→((k:Int)∈ybt (c.m 2 &&& ofM [n * 60 / 3600]) (c.m 1 &&& ofM [n % 60]) (c.m 0)↔ybl k (c.m 2 &&& ofM [n * 60 / 3600]) (c.m 1 &&& ofM [n % 60]) (c.m 0)=true)):=fun k hk=>yc0 (ybk B012.out.2.2) (ybk B012.out.2.1) (B012.out.1) (by omega) (by omega)
    have hfl:Hid (∀L,L=ybt (c.m 2 &&& ofM [n * 60 / 3600]) (c.m 1 &&& ofM [n % 60]) (c.m 0)→∀k:Nat,k < 86400→(yaU c 60 f u p n k || memD (L.filter (betB f u)) k)=yaU c 60 f u p (n+c.step) k):=fun L hL k hk=>by
     rw [yd1 hs hpn hmod.out,hL,memD]
     have e1:decide ((k:Int)∈(ybt (c.m 2 &&& ofM [n * 60 / 3600]) (c.m 1 &&& ofM [n % 60]) (c.m 0)).filter (betB f u))= (ybA c f u k && decide ((k:Int) / 60=n)):=by
      rw [zze,zzY,List.mem_filter,hmem.out k hk,hsp.out k hk,ybA]
      cases ybl k (c.m 2) (c.m 1) (c.m 0) <;> cases betB f u k <;> simp
     rw [e1]
    obtain ⟨L,hL⟩:∃L,ybt (c.m 2 &&& ofM [n * 60 / 3600]) (c.m 1 &&& ofM [n % 60]) (c.m 0)=L:=⟨_,rfl⟩
    rw [hL] at tl
    have Hfl:=hid (hfl.out L hL.symm)
    have I7:Hid (StI (w.heap.size+2) (yaU c 60 f u p n) (betB f u) L 0 (fun b=>b=w.heap.size+2) w7):=⟨fun b=>Iff.rfl,hD7.congr fun k hk=>by simp [memD]⟩
    have e57:=hid (((Eff.of_below (O:=fun b=>b=w.heap.size+2) HB7.out).cell (p:=⟨w2.heap.size,0,none⟩) (by simp only []; omega) (by show¬w2.heap.size= _; omega)).trans ((hE4.cell (p:=⟨w2.heap.size,0,none⟩) (by have:=S3.out; simp only []; omega) (by show¬w2.heap.size= _; omega)).trans e5.out))
    have F7:Hid (Four w7 (w.heap.size+1) (.bool a) (.int .i64 f) (.int .i64 u) (.int .i64 p)):=by
     have h0:=F3.out
     obtain ⟨⟨g0,g1,g2,g3⟩,x0,x1,x2,x3⟩:=h0
     have ce:∀i,w7.cell? ⟨w.heap.size+1,i,none⟩=W3.cell? ⟨w.heap.size+1,i,none⟩:=fun i=>(HB7.out.cell (p:=⟨w.heap.size+1,i,none⟩) (by simp only []; omega)).trans (hE4.cell (p:=⟨w.heap.size+1,i,none⟩) (by have:=S3.out; simp only []; omega) (by show¬w.heap.size+1= _; omega))
     have fe:∀i,w7.frozen? ⟨w.heap.size+1,i,none⟩=W3.frozen? ⟨w.heap.size+1,i,none⟩:=fun i=>(HB7.out.frozen (p:=⟨w.heap.size+1,i,none⟩) (by simp only []; omega)).trans (hE4.frozen (p:=⟨w.heap.size+1,i,none⟩) (by have:=S3.out; simp only []; omega) (by show¬w.heap.size+1= _; omega))
     exact ⟨⟨(ce 0).trans g0,(ce 1).trans g1,(ce 2).trans g2,(ce 3).trans g3⟩,(fe 0).trans x0,(fe 1).trans x1,(fe 2).trans x2,(fe 3).trans x3⟩
    have C7:Hid (ClB w7 w.heap.size c):=C4.out.below HB7.out (by omega)
    have HE7:Hid (Eff (fun b=>b=w.heap.size+2) W3 w7):=hE4.trans (Eff.of_below (O:=fun b=>b=w.heap.size+2) HB7.out) (fun b hb=> .inl hb)
    have HDs:Hid (∀D∈Ds,w7.heap[D]? =some (.deferred (some []))∧D≠w.heap.size+2∧W3.heap.size≤D∧D < w4.heap.size):=fun D hD=>by
     have h1:=hDs D hD
     have:=S3.out
     exact ⟨(HB7.out.block D (yan h1.1)).trans h1.1,by omega,h1.2,yan h1.1⟩
    have Hnd:=hid hnd
    have lw4:w2.heap.size < w7.heap.size:=by omega
    have lw5:w.heap.size+1 < w7.heap.size:=by omega
    clear k1 k2 k3 hB7 hT7 hD7 hD4 hE4 hDs hnd hL hmem hsp hfl s7
    go_wp2_with fail
    refine (wf_wp (n:=1)).mp ?_
    refine ybz (gf:=196) (lb:=#[.pointer (some ⟨wz.heap.size,0,none⟩), .pointer (some ⟨wz.heap.size+1,0,none⟩), .pointer (some ⟨wz.heap.size+2,0,none⟩)]) rfl ycW L _ rfl tl.out
     (StI (w.heap.size+2) (yaU c 60 f u p n) (betB f u) L) (fun _ _ _ _=>False) (ycX _ _ _ _) (fun _ _ _ _ _ h _ _=>h.elim) (stI_lt _ _ _ _) (fun _ _ _ _ h=>h.elim) I7.out
     (fun k O a' W=>StI (w.heap.size+2) (yaU c 60 f u p n) (betB f u) L k O W∧∃x,L[k]? =some x∧TStepX (clv c) (stv a f u p) (.int .i64 60) (.pointer (some ⟨w.heap.size,0,none⟩)) (.pointer (some ⟨w.heap.size+1,0,none⟩)) undef (.pointer none) (.pointer (some ⟨w2.heap.size,0,none⟩)) (.int .i64 n) (.int .i64 x) [] a')
     (fun l o k O a' W' hr hn h=>⟨ybM (ycX _ _ _ _) h.1 hn o,h.2⟩) ?assign ?body ?done ?stop
    case assign=>
     intro l k O6 W6 K hk hI hG6 hK
     gi_wp2
     exact hK _ O6 _ (Grow.refl _ _) ⟨hI,_,zzp hk,TStepX.of⟩
    case stop=>
     intro c' k O9 w9 _ _ _ h
     exact h.elim
    case body=>
     rintro l k O6 a' W6 hk hG6 hl6 hrec6 hnl6 ⟨⟨hO6,hd6⟩,x,ex,U6,rfl⟩
     have e56:=(hG6.cell lw4 (by omega) 0).trans e57.out
     obtain ⟨⟨-,f1,f2,-⟩,-⟩:=F7.out
     have g1:=(hG6.cell lw5 (by omega) 1).trans f1
     have g2:=(hG6.cell lw5 (by omega) 2).trans f2
     have Hd6:=hid hd6
     have HO6:=hid hO6
     have Hex:=hid ex
     clear f1 f2 hd6 hO6 ex hG6
     by_cases h1:f≤x
     ·have d1:decide (f≤x)=true:=zzZ h1
      by_cases h2:x≤u
      ·have hp:Hid (betB f u x=true):=by show _ = _; rw [betB,zzZ (by omega),zzZ (by omega)]; rfl
       have d2:decide (x≤u)=true:=zzZ h2
       gi_wp2_with fail
       refine (wf_calls.mpr (cP.out _ _ x _ Hd6.out)).mono ?_
       rintro e w7 ⟨⟨v,rfl⟩,hd7,hE7⟩
       have Hd7:=hid hd7
       have HE7:=hid hE7
       clear hd7 hE7
       gi_wp2
       exact ⟨O6,⟨fun _ h=>h,fun _ h=> .inl h,HE7.out.wide fun b hb=>(HO6.out b).mpr hb⟩,HO6.out,StI.more Hex.out hp.out Hd7.out⟩
      ·have hp:Hid (betB f u x=false):=by show _ = _; rw [betB,zzd h2,Bool.and_false]
       have d2:decide (x≤u)=false:=zzd h2
       gi_wp2
       exact ⟨O6,Grow.refl _ _,HO6.out,StI.same Hex.out hp.out Hd6.out⟩
     ·have d1:decide (f≤x)=false:=zzd h1
      have hp:Hid (betB f u x=false):=by show _ = _; rw [betB,d1]; rfl
      gi_wp2
      exact ⟨O6,Grow.refl _ _,HO6.out,StI.same Hex.out hp.out Hd6.out⟩
    case done=>
     rintro O9 wz hG9 ⟨hO9,hd9⟩ hD hnD
     rw [List.take_length] at hd9
     have hall:∀D∈w7.heap.size :: Ds,wz.heap[D]? =some (.deferred (some []))∧W3.heap.size≤D:=by
      intro E hE
      rcases List.mem_cons.mp hE with rfl | hE
      ·exact ⟨hD,HE7.out.size⟩
      ·obtain ⟨g1,g2,g3,g4⟩:=HDs.out E hE
       exact ⟨(hG9.eff.block E (by omega) (by show¬E= _; exact g2)).trans g1,g3⟩
     have hnn:(w7.heap.size :: Ds).Nodup:=List.nodup_cons.mpr ⟨fun h=>by have:=(HDs.out _ h).2.2.2; omega,Hnd.out⟩
     have HH:Hid (DiscAt wz (w.heap.size+2) (yaU c 60 f u p (n+c.step))∧Eff (fun b=>b=w.heap.size+2) W3 wz∧(∀D∈w7.heap.size :: Ds,wz.heap[D]? =some (.deferred (some []))∧W3.heap.size≤D)∧(w7.heap.size :: Ds).Nodup):=
      ⟨hd9.congr fun k hk=>Hfl.out k hk,HE7.out.trans hG9.eff (fun b hb=> .inl hb),hall,hnn⟩
     have e59:=(hG9.cell lw4 (by omega) 0).trans e57.out
     obtain ⟨-,m1,-,-,-⟩:=C7.out.tail
     have m19:=(hG9.cell (b:=w.heap.size) (by omega) (by omega) 26).trans m1
     have hm2:Hid ((n+c.step - p) % c.step=0):=by
      show _ = _
      rw [show n+c.step - p= (n - p)+c.step by omega,Int.add_emod_right]; exact hmod.out
     clear hall hnn hd9 hG9 hD m1
     by_cases hbig:86400 < c.step
     ·have db:decide (86400 < c.step)=true:=zzZ hbig
      have hend:Hid (∀k:Nat,k < 86400→yaU c 60 f u p (n+c.step) k=yaW c 60 f u p k):=fun k hk=>yca (by omega)
      go_wp2
      gi_wp2
      refine ya8 (by simp) (w7.heap.size :: Ds) wz HH.out.2.2.2 (fun D hD=>(HH.out.2.2.1 D hD).1) ?_
      intro w' e1 e2 e3 e4 e5
      exact ⟨_,results_tmp rfl _ _ _,_,rfl,by omega,(HH.out.1.congr hend.out).block (by rw [e4]; exact zG _) (e5 _ (fun h=>by have:=(HH.out.2.2.1 _ h).2; have:=S3.out; omega)),(HB3.out.trans ((ycf HH.out.2.1 (fun D hD=>(HH.out.2.2.1 D hD).2) e1 e2 e3 e4 e5).below (by rintro b rfl; omega) HB3.out.size))⟩
     ·have db:decide (86400 < c.step)=false:=zzd hbig
      have hn1:n+c.step≤9223372036854775807:=by omega
      go_wp2
      exact ⟨⟨n+c.step,by omega,by omega,hm2.out,w7.heap.size :: Ds,TStep.of,HH.out⟩,by simp [intOf]; omega⟩
  ·obtain ⟨hD4,hE4,hDs,hnd⟩:=HI.out
   have e54:=(hE4.cell (p:=⟨w2.heap.size,0,none⟩) (by have:=S3.out; simp only []; omega) (by show¬w2.heap.size= _; omega)).trans e5.out
   have hend:Hid (∀k:Nat,k < 86400→yaU c 60 f u p n k=yaW c 60 f u p k):=fun k hk=>yca (by omega)
   have HH:=hid (And.intro hD4 (And.intro hE4 (And.intro hDs hnd)))
   clear hD4 hE4 hDs hnd
   gi_wp2
   refine ya8 (by simp) Ds w4 HH.out.2.2.2 (fun D hD=>(HH.out.2.2.1 D hD).1) ?_
   intro w' e1 e2 e3 e4 e5
   exact ⟨_,results_tmp rfl _ _ _,_,rfl,by omega,(HH.out.1.congr hend.out).block (by rw [e4]; exact zG _) (e5 _ (fun h=>by have:=(HH.out.2.2.1 _ h).2; have:=S3.out; omega)),(HB3.out.trans ((ycf HH.out.2.1 (fun D hD=>(HH.out.2.2.1 D hD).2) e1 e2 e3 e4 e5).below (by rintro b rfl; omega) HB3.out.size))⟩
theorem ygJ (c:Cl) (a:Bool) (f u p:Int) (w:World) (hc:c.Ok) (hp:0≤p) (hs:1≤c.step) (hT:Tab w) :
  Calls Tryz.prog 192 #[clv c,stv a f u p, .int .i64 3600] w fun e w'=>∃b,e= .returned (.pointer (some ⟨b,0,none⟩))∧w.heap.size≤b∧DiscAt w' b (yaW c 3600 f u p)∧Below w.heap.size w w':=by
 have b0:=hc.m 0 (by omega)
 have b1:=hc.m 1 (by omega)
 have b2:=hc.m 2 (by omega)
 have c1:=hid (fun W=>yek none 0 [] W (by simp) (Sl.nil _ _))
 have cQ:=hid (fun s W h0 h1=>ycS s W h0 h1)
 have cO:=hid (fun x W=>ygH x W 3)
 have c2:=hid (fun x y z W hx hy hz=>yeG x y z W hx hy hz)
 have cP:=hid (fun b q s W h=>ydW b q s W h)
 have n0:Hid (∀x:Int,bits .and .u64 ((c.m 0:Nat):Int) ((ofM [x]:Nat):Int)= ((c.m 0 &&& ofM [x]:Nat):Int)):=fun x=>yaE b0 (yaP _)
 have n1:Hid (∀x:Int,bits .and .u64 ((c.m 1:Nat):Int) ((ofM [x]:Nat):Int)= ((c.m 1 &&& ofM [x]:Nat):Int)):=fun x=>yaE b1 (yaP _)
 have n2:Hid (∀x:Int,bits .and .u64 ((c.m 2:Nat):Int) ((ofM [x]:Nat):Int)= ((c.m 2 &&& ofM [x]:Nat):Int)):=fun x=>yaE b2 (yaP _)
 have hss:=hc.step.2
 have HT:=hid hT
 have B012:=hid (And.intro b0 (And.intro b1 b2))
 obtain ⟨W1,hW1⟩:∃W1,(w.alloc (.cells (yac c).toArray 34)).alloc (.cells #[.bool a, .int .i64 f, .int .i64 u, .int .i64 p] 203)=W1:=⟨_,rfl⟩
 have q1:W1.heap.size=w.heap.size+2:=by rw [←hW1]; simp
 have q2:Below w.heap.size w W1:=by rw [←hW1]; exact yaa (yaa (Below.refl _ _) (zG _)) (by simp)
 have q3:ClB W1 w.heap.size c:=by rw [←hW1]; exact ydM w c _ _
 have q4:Four W1 (w.heap.size+1) (.bool a) (.int .i64 f) (.int .i64 u) (.int .i64 p):=by
  rw [←hW1]
  have h:=ybN (w.alloc (.cells (yac c).toArray 34)) (.bool a) (.int .i64 f) (.int .i64 u) (.int .i64 p) 203
  rw [zzN] at h
  exact h
 have HW1:=hid hW1
 have Q2:=hid q2
 have Q3:=hid q3
 have Q4:=hid q4
 clear hW1 q2 q3 q4 hT hc b0 b1 b2
 refine (wf_calls (r:=none) (n:=1)).mp ?_
 refine callsIn_of_wp_marks Tryz.func192 rfl trivial ?_ rfl
 simp only [Tryz.ntmps192,List.size_toArray,List.length_cons,List.length_nil,Nat.reduceAdd,Nat.reduceSub,Array.replicate_succ,Array.replicate_zero,List.push_toArray,List.append_toArray,List.nil_append,List.cons_append]
 gi_wp2_with fail
 rw [HW1.out]
 refine (wf_calls.mpr (c1.out W1)).mono ?_
 rintro e w2 ⟨rfl,hD,hB2⟩
 rw [q1]
 obtain ⟨W3,hW3⟩:∃W,w2.alloc (.cells #[.pointer (some ⟨w.heap.size+2,0,none⟩)] 105)=W:=⟨_,rfl⟩
 have s2:w.heap.size+2 < w2.heap.size:=by rw [q1] at hD; exact hD.lt
 have b3:Below w2.heap.size w2 W3:=by rw [←hW3]; exact yaa (Below.refl _ _) (zG _)
 have s3:W3.heap.size=w2.heap.size+1:=by rw [←hW3]; simp
 have B13:Below W1.heap.size W1 W3:=hB2.trans (b3.mono hB2.size)
 have HB3:Hid (Below w.heap.size w W3):=Q2.out.trans (B13.mono Q2.out.size)
 have HD3:Hid (DiscAt W3 (w.heap.size+2) (memD [])):=by rw [q1] at hD; exact hD.below b3 s2
 have C3:=hid (Q3.out.below B13 (by omega))
 have F3:=hid (Q4.out.below B13 (by omega))
 have e5:=hid (show W3.cell? ⟨w2.heap.size,0,none⟩=some (.pointer (some ⟨w.heap.size+2,0,none⟩)) by rw [←hW3]; simp [go_sem])
 have f3:(w2.alloc (.cells #[.pointer (some ⟨w.heap.size+2,0,none⟩)] 105)).cell? ⟨w.heap.size+1,3,none⟩=some (.int .i64 p):=by rw [hW3]; exact F3.out.1.2.2.2
 have HW3:=hid hW3
 have S3:=hid s3
 clear hW3 hD hB2 b3 B13 s3
 gi_wp2_with fail
 rw [HW3.out]
 clear f3
 have start0:Hid (DiscAt W3 (w.heap.size+2) (yaU c 3600 f u p p)):=HD3.out.congr fun k hk=>by rw [ydi,memD]; simp
 refine wpIn_loop (fun a' w'=>∃(n:Int) (Ds:List Nat),0≤n∧p≤n∧Hid ((n - p) % c.step=0)∧TStep (clv c) (stv a f u p) (.int .i64 3600) (.pointer (some ⟨w.heap.size,0,none⟩)) (.pointer (some ⟨w.heap.size+1,0,none⟩)) undef (.pointer none) (.pointer (some ⟨w2.heap.size,0,none⟩)) (.int .i64 n) (yjT Ds) a'∧Hid (DiscAt w' (w.heap.size+2) (yaU c 3600 f u p n)∧Eff (fun b=>b=w.heap.size+2) W3 w'∧(∀D∈Ds,w'.heap[D]? =some (.deferred (some []))∧W3.heap.size≤D)∧Ds.Nodup))
  (fun a' _=>(86400 - intOf (a'.tmps.getD 8 undef)).toNat) ?start ?round
 case start=>exact ⟨p,[],hp,Int.le_refl _,(by show _ = _; simp),TStep.of,start0.out,Eff.refl _ _,fun D h=>(by cases h),List.nodup_nil⟩
 case round=>
  rintro a' w4 ⟨n,Ds,hn0,hpn,hmod,⟨U,rfl⟩,HI⟩
  have s24:w2.heap.size < w4.heap.size:=by have:=HI.out.2.1.size; have:=S3.out; omega
  by_cases hlt:n < 24
  ·have t1:0≤n * 3600:=by omega
   have t2:n * 3600 < 86400:=by omega
   have C4:Hid (ClB w4 w.heap.size c):=fun j v hv=>(HI.out.2.1.cell (p:=⟨w.heap.size,0+j,none⟩) (by have:=S3.out; show w.heap.size < _; omega) (by show¬w.heap.size= _; omega)).trans (C3.out j v hv)
   have Hlt:=hid hlt
   refine wf_wp.mpr ?_
   go_wp2_with fail
   refine (cQ.out _ _ t1 t2).mono ?_
   rintro e w' ⟨rfl,rfl⟩
   go_upto_region 6 with fail
   go_cut [13,14,15] from 37 to 46 (fun x13 x14 x15 wx=>x13= .int .u64 ((c.m 2 &&& ofM [n]:Nat):Int)∧x14= .int .u64 (c.m 1:Nat)∧x15= .int .u64 (c.m 0:Nat)∧Hid (Below w4.heap.size w4 wx))
   case first=>
    refine yhL ?_
    refine wp_region_held_drew (S:=fun w'=>StS w.heap.size c w4 w') (by kernel_rfl) ?_ (fun hHeld=>?_)
    ·obtain ⟨m0,m1,m2,-⟩:=C4.out.masks
     exact ⟨⟨m2,m1,m0⟩,(Below.refl _ _).drew,by omega⟩
    have hHeld0:=hHeld
    refine zhD 0 ?_
    refine zhD 1 ?_
    refine zhD 2 ?_
    refine zhD 6 ?_
    refine zhD 7 ?_
    refine zhD 8 ?_
    refine zhD 9 ?_
    refine zzK 3 (fun K hK=>?_)
    go_simp
    (try go_wp2_with fail)
    refine hK.out _ _ (StS.keep hHeld (yaa (Below.refl _ _) (zG _))) (fun hHeld=>?_)
    clear hK K
    try simp only [zP]
    refine zzK 4 (fun K hK=>?_)
    go_simp
    refine (cO.out _ w4.drew).mono ?_
    rintro e w5 ⟨rfl,hB5⟩
    have hH5:=StS.keep hHeld0 hB5
    clear hB5
    (try go_wp2_with fail)
    refine hK.out _ _ hH5 (fun hHeld=>?_)
    clear hK K hH5 hHeld0
    try simp only [zP]
    refine zhD 5 ?_
    refine zhD 10 ?_
    refine zhD 11 ?_
    refine zhD 12 ?_
    refine wpAnyH_done (by kernel_rfl) ?_ _
    have HB6:=hid hHeld.2.1
    clear hHeld
    go_wp2_with fail
    go_meet
    exact ⟨congrArg _ (n2.out _),rfl,rfl,HB6⟩
   case rest=>
    obtain ⟨rfl,rfl,rfl,hB6⟩:=hcut
    have C6:=hid (C4.out.below hB6.out (by omega))
    have HB6:=hid hB6.out
    clear hB6
    have HB9:=hid HB6.out
    go_wp2_with fail
    refine (c2.out _ _ _ _ (ybk B012.out.2.2) (B012.out.2.1) (B012.out.1)).mono ?_
    rintro e w7 ⟨rfl,k1,k2,k3,hB7,s7⟩
    have HB7:Hid (Below w4.heap.size w4 w7):=HB9.out.trans (hB7.mono HB9.out.size)
    have hsp:=hid (yeM c (z:=3600) (n:=n) (.inr (.inr ⟨rfl,rfl,rfl,rfl⟩)) hn0)
    have s47:w4.heap.size≤w7.heap.size:=HB7.out.size
    have s79:=HB9.out.size
    obtain ⟨hD4,hE4,hDs,hnd⟩:=HI.out
    have hD7:DiscAt w7 (w.heap.size+2) (yaU c 3600 f u p n):=hD4.below HB7.out (by omega)
    have hT7:=HT.out.later (HB3.out.trans ((hE4.trans (Eff.of_below (O:=fun b=>b=w.heap.size+2) HB7.out) (fun b hb=> .inl hb)).below (by rintro b rfl; omega) HB3.out.size))
    have tl:=hid (ycV _ _ _ wc.heap.size (wc.heap.size+1) (wc.heap.size+2) (fun b=>b=w.heap.size+2) w7 (ybk B012.out.2.2) (B012.out.2.1) (B012.out.1) (by omega) (by omega) (by omega) (by omega) (by omega) (by omega) k1 k2 k3 hT7 (by have:=HT.out.1; show¬0= _; omega))
    have hmem:Hid (∀k:Nat,k < 86400→((k:Int)∈ybt (c.m 2 &&& ofM [n]) (c.m 1) (c.m 0)↔ybl k (c.m 2 &&& ofM [n]) (c.m 1) (c.m 0)=true)):=fun k hk=>yc0 (ybk B012.out.2.2) (B012.out.2.1) (B012.out.1) (by omega) (by omega)
    have hfl:Hid (∀L,L=ybt (c.m 2 &&& ofM [n]) (c.m 1) (c.m 0)→∀k:Nat,k < 86400→(yaU c 3600 f u p n k || memD (L.filter (betB f u)) k)=yaU c 3600 f u p (n+c.step) k):=fun L hL k hk=>by
     rw [yd1 hs hpn hmod.out,hL,memD]
     have e1:decide ((k:Int)∈(ybt (c.m 2 &&& ofM [n]) (c.m 1) (c.m 0)).filter (betB f u))= (ybA c f u k && decide ((k:Int) / 3600=n)):=by
      rw [zze,zzY,List.mem_filter,hmem.out k hk,hsp.out k hk,ybA]
      cases ybl k (c.m 2) (c.m 1) (c.m 0) <;> cases betB f u k <;> simp
     rw [e1]
    obtain ⟨L,hL⟩:∃L,ybt (c.m 2 &&& ofM [n]) (c.m 1) (c.m 0)=L:=⟨_,rfl⟩
    rw [hL] at tl
    have Hfl:=hid (hfl.out L hL.symm)
    have I7:Hid (StI (w.heap.size+2) (yaU c 3600 f u p n) (betB f u) L 0 (fun b=>b=w.heap.size+2) w7):=⟨fun b=>Iff.rfl,hD7.congr fun k hk=>by simp [memD]⟩
    have e57:=hid (((Eff.of_below (O:=fun b=>b=w.heap.size+2) HB7.out).cell (p:=⟨w2.heap.size,0,none⟩) (by simp only []; omega) (by show¬w2.heap.size= _; omega)).trans ((hE4.cell (p:=⟨w2.heap.size,0,none⟩) (by have:=S3.out; simp only []; omega) (by show¬w2.heap.size= _; omega)).trans e5.out))
    have F7:Hid (Four w7 (w.heap.size+1) (.bool a) (.int .i64 f) (.int .i64 u) (.int .i64 p)):=by
     have h0:=F3.out
     obtain ⟨⟨g0,g1,g2,g3⟩,x0,x1,x2,x3⟩:=h0
     have ce:∀i,w7.cell? ⟨w.heap.size+1,i,none⟩=W3.cell? ⟨w.heap.size+1,i,none⟩:=fun i=>(HB7.out.cell (p:=⟨w.heap.size+1,i,none⟩) (by simp only []; omega)).trans (hE4.cell (p:=⟨w.heap.size+1,i,none⟩) (by have:=S3.out; simp only []; omega) (by show¬w.heap.size+1= _; omega))
     have fe:∀i,w7.frozen? ⟨w.heap.size+1,i,none⟩=W3.frozen? ⟨w.heap.size+1,i,none⟩:=fun i=>(HB7.out.frozen (p:=⟨w.heap.size+1,i,none⟩) (by simp only []; omega)).trans (hE4.frozen (p:=⟨w.heap.size+1,i,none⟩) (by have:=S3.out; simp only []; omega) (by show¬w.heap.size+1= _; omega))
     exact ⟨⟨(ce 0).trans g0,(ce 1).trans g1,(ce 2).trans g2,(ce 3).trans g3⟩,(fe 0).trans x0,(fe 1).trans x1,(fe 2).trans x2,(fe 3).trans x3⟩
    have C7:Hid (ClB w7 w.heap.size c):=C4.out.below HB7.out (by omega)
    have HE7:Hid (Eff (fun b=>b=w.heap.size+2) W3 w7):=hE4.trans (Eff.of_below (O:=fun b=>b=w.heap.size+2) HB7.out) (fun b hb=> .inl hb)
    have HDs:Hid (∀D∈Ds,w7.heap[D]? =some (.deferred (some []))∧D≠w.heap.size+2∧W3.heap.size≤D∧D < w4.heap.size):=fun D hD=>by
     have h1:=hDs D hD
     have:=S3.out
     exact ⟨(HB7.out.block D (yan h1.1)).trans h1.1,by omega,h1.2,yan h1.1⟩
    have Hnd:=hid hnd
    have lw4:w2.heap.size < w7.heap.size:=by omega
    have lw5:w.heap.size+1 < w7.heap.size:=by omega
    clear k1 k2 k3 hB7 hT7 hD7 hD4 hE4 hDs hnd hL hmem hsp hfl s7
    go_wp2_with fail
    refine (wf_wp (n:=1)).mp ?_
    refine ybz (gf:=196) (lb:=#[.pointer (some ⟨wc.heap.size,0,none⟩), .pointer (some ⟨wc.heap.size+1,0,none⟩), .pointer (some ⟨wc.heap.size+2,0,none⟩)]) rfl ycW L _ rfl tl.out
     (StI (w.heap.size+2) (yaU c 3600 f u p n) (betB f u) L) (fun _ _ _ _=>False) (ycX _ _ _ _) (fun _ _ _ _ _ h _ _=>h.elim) (stI_lt _ _ _ _) (fun _ _ _ _ h=>h.elim) I7.out
     (fun k O a' W=>StI (w.heap.size+2) (yaU c 3600 f u p n) (betB f u) L k O W∧∃x,L[k]? =some x∧TStepX (clv c) (stv a f u p) (.int .i64 3600) (.pointer (some ⟨w.heap.size,0,none⟩)) (.pointer (some ⟨w.heap.size+1,0,none⟩)) undef (.pointer none) (.pointer (some ⟨w2.heap.size,0,none⟩)) (.int .i64 n) (.int .i64 x) [] a')
     (fun l o k O a' W' hr hn h=>⟨ybM (ycX _ _ _ _) h.1 hn o,h.2⟩) ?assign ?body ?done ?stop
    case assign=>
     intro l k O6 W6 K hk hI hG6 hK
     gi_wp2
     exact hK _ O6 _ (Grow.refl _ _) ⟨hI,_,zzp hk,TStepX.of⟩
    case stop=>
     intro c' k O9 w9 _ _ _ h
     exact h.elim
    case body=>
     rintro l k O6 a' W6 hk hG6 hl6 hrec6 hnl6 ⟨⟨hO6,hd6⟩,x,ex,U6,rfl⟩
     have e56:=(hG6.cell lw4 (by omega) 0).trans e57.out
     obtain ⟨⟨-,f1,f2,-⟩,-⟩:=F7.out
     have g1:=(hG6.cell lw5 (by omega) 1).trans f1
     have g2:=(hG6.cell lw5 (by omega) 2).trans f2
     have Hd6:=hid hd6
     have HO6:=hid hO6
     have Hex:=hid ex
     clear f1 f2 hd6 hO6 ex hG6
     by_cases h1:f≤x
     ·have d1:decide (f≤x)=true:=zzZ h1
      by_cases h2:x≤u
      ·have hp:Hid (betB f u x=true):=by show _ = _; rw [betB,zzZ (by omega),zzZ (by omega)]; rfl
       have d2:decide (x≤u)=true:=zzZ h2
       gi_wp2_with fail
       refine (wf_calls.mpr (cP.out _ _ x _ Hd6.out)).mono ?_
       rintro e w7 ⟨⟨v,rfl⟩,hd7,hE7⟩
       have Hd7:=hid hd7
       have HE7:=hid hE7
       clear hd7 hE7
       gi_wp2
       exact ⟨O6,⟨fun _ h=>h,fun _ h=> .inl h,HE7.out.wide fun b hb=>(HO6.out b).mpr hb⟩,HO6.out,StI.more Hex.out hp.out Hd7.out⟩
      ·have hp:Hid (betB f u x=false):=by show _ = _; rw [betB,zzd h2,Bool.and_false]
       have d2:decide (x≤u)=false:=zzd h2
       gi_wp2
       exact ⟨O6,Grow.refl _ _,HO6.out,StI.same Hex.out hp.out Hd6.out⟩
     ·have d1:decide (f≤x)=false:=zzd h1
      have hp:Hid (betB f u x=false):=by show _ = _; rw [betB,d1]; rfl
      gi_wp2
      exact ⟨O6,Grow.refl _ _,HO6.out,StI.same Hex.out hp.out Hd6.out⟩
    case done=>
     rintro O9 wz hG9 ⟨hO9,hd9⟩ hD hnD
     rw [List.take_length] at hd9
     have hall:∀D∈w7.heap.size :: Ds,wz.heap[D]? =some (.deferred (some []))∧W3.heap.size≤D:=by
      intro E hE
      rcases List.mem_cons.mp hE with rfl | hE
      ·exact ⟨hD,HE7.out.size⟩
      ·obtain ⟨g1,g2,g3,g4⟩:=HDs.out E hE
       exact ⟨(hG9.eff.block E (by omega) (by show¬E= _; exact g2)).trans g1,g3⟩
     have hnn:(w7.heap.size :: Ds).Nodup:=List.nodup_cons.mpr ⟨fun h=>by have:=(HDs.out _ h).2.2.2; omega,Hnd.out⟩
     have HH:Hid (DiscAt wz (w.heap.size+2) (yaU c 3600 f u p (n+c.step))∧Eff (fun b=>b=w.heap.size+2) W3 wz∧(∀D∈w7.heap.size :: Ds,wz.heap[D]? =some (.deferred (some []))∧W3.heap.size≤D)∧(w7.heap.size :: Ds).Nodup):=
      ⟨hd9.congr fun k hk=>Hfl.out k hk,HE7.out.trans hG9.eff (fun b hb=> .inl hb),hall,hnn⟩
     have e59:=(hG9.cell lw4 (by omega) 0).trans e57.out
     obtain ⟨-,m1,-,-,-⟩:=C7.out.tail
     have m19:=(hG9.cell (b:=w.heap.size) (by omega) (by omega) 26).trans m1
     have hm2:Hid ((n+c.step - p) % c.step=0):=by
      show _ = _
      rw [show n+c.step - p= (n - p)+c.step by omega,Int.add_emod_right]; exact hmod.out
     clear hall hnn hd9 hG9 hD m1
     by_cases hbig:86400 < c.step
     ·have db:decide (86400 < c.step)=true:=zzZ hbig
      have hend:Hid (∀k:Nat,k < 86400→yaU c 3600 f u p (n+c.step) k=yaW c 3600 f u p k):=fun k hk=>yca (by omega)
      go_wp2
      gi_wp2
      refine ya8 (by simp) (w7.heap.size :: Ds) wz HH.out.2.2.2 (fun D hD=>(HH.out.2.2.1 D hD).1) ?_
      intro w' e1 e2 e3 e4 e5
      exact ⟨_,results_tmp rfl _ _ _,_,rfl,by omega,(HH.out.1.congr hend.out).block (by rw [e4]; exact zG _) (e5 _ (fun h=>by have:=(HH.out.2.2.1 _ h).2; have:=S3.out; omega)),(HB3.out.trans ((ycf HH.out.2.1 (fun D hD=>(HH.out.2.2.1 D hD).2) e1 e2 e3 e4 e5).below (by rintro b rfl; omega) HB3.out.size))⟩
     ·have db:decide (86400 < c.step)=false:=zzd hbig
      have hn1:n+c.step≤9223372036854775807:=by omega
      go_wp2
      exact ⟨⟨n+c.step,by omega,by omega,hm2.out,w7.heap.size :: Ds,TStep.of,HH.out⟩,by simp [intOf]; omega⟩
  ·obtain ⟨hD4,hE4,hDs,hnd⟩:=HI.out
   have e54:=(hE4.cell (p:=⟨w2.heap.size,0,none⟩) (by have:=S3.out; simp only []; omega) (by show¬w2.heap.size= _; omega)).trans e5.out
   have hend:Hid (∀k:Nat,k < 86400→yaU c 3600 f u p n k=yaW c 3600 f u p k):=fun k hk=>yca (by omega)
   have HH:=hid (And.intro hD4 (And.intro hE4 (And.intro hDs hnd)))
   clear hD4 hE4 hDs hnd
   gi_wp2
   refine ya8 (by simp) Ds w4 HH.out.2.2.2 (fun D hD=>(HH.out.2.2.1 D hD).1) ?_
   intro w' e1 e2 e3 e4 e5
   exact ⟨_,results_tmp rfl _ _ _,_,rfl,by omega,(HH.out.1.congr hend.out).block (by rw [e4]; exact zG _) (e5 _ (fun h=>by have:=(HH.out.2.2.1 _ h).2; have:=S3.out; omega)),(HB3.out.trans ((ycf HH.out.2.1 (fun D hD=>(HH.out.2.2.1 D hD).2) e1 e2 e3 e4 e5).below (by rintro b rfl; omega) HB3.out.size))⟩
end Go.Proofs.YtjahgimnfliooaaGreatDoor
