/-
  The numbers of a set of seven words, word by word and as one rising list.
  The function that wide.All makes tells a set's numbers, word by word.
  The function that a disc's All makes tells its seconds, word by word.
  A disc's Next.
  A disc's Len, and feriaref15.Both.
  The law of a range over a function whose yield takes any values, for a client that may ask what has turned.
  A call of a function value with two arguments.
  A set of blocks.
-/
import Derived.Test.YtkpgfmonhfnhdaaGreatDoorQ15e503
import Derived.Test.YtkpgfmonhfnhdaaGreatDoorQd6e098
import Derived.Test.YtkpgfmonhfnhdaaGreatDoorQ76d87d
import Derived.Test.YtkpgfmonhfnhdaaGreatDoorQ967547
import Derived.Test.YtkpgfmonhfnhdaaGreatDoorQ30bd52
set_option maxRecDepth 100000
set_option maxHeartbeats 25600000
namespace Go.Proofs.YtkpgfmonhfnhdaaGreatDoor
set_option linter.unusedVariables false
section
open Go.RowKit
theorem yhE (p:Nat→Bool) (a:Nat):∀b,sel p (a+b)=sel p a ++ (sel (fun k=>p (a+k)) b).map (fun x=>(a:Int)+x)
 | 0=>by simp [yiz]
 | b+1=>by
   rw [←Nat.add_assoc]
   by_cases h:p (a+b)=true
   ·rw [ycw h,ycw (p:=fun k=>p (a+k)) h,yhE p a b,List.map_append,List.append_assoc]; simp
   ·have h':p (a+b)=false:=by simpa using h
    rw [yew h',yew (p:=fun k=>p (a+k)) h',yhE p a b]
theorem yex {p q:Nat→Bool} {n:Nat} (h:∀i,i < n→p i=q i):sel p n=sel q n:=by
 induction n with
 | zero=>rfl
 | succ n ih=>
   have e:=ih (fun i hi=>h i (by omega))
   cases hp:p n
   ·rw [yew hp,yew (by rw [←h n (by omega)]; exact hp),e]
   ·rw [ycw hp,ycw (by rw [←h n (by omega)]; exact hp),e]
def ygE (t:Nat→Nat) (i:Nat):List Int:=(sel (t i).testBit 64).map (fun x=>((64 * i:Nat):Int)+x)
def ybk (t:Nat→Nat):Nat→List Int
 | 0=> []
 | n+1=>ybk t n ++ ygE t n
theorem yem (t:Nat→Nat):∀n,ybk t n=sel (bitW t) (64 * n)
 | 0=>rfl
 | n+1=>by
   rw [ybk,yem t n,show 64 * (n+1)=64 * n+64 by omega,yhE,ygE]
   congr 1
   congr 1
   refine yex (fun i hi=>?_)
   rw [bitW,show (64 * n+i) / 64=n by omega,show (64 * n+i) % 64=i by omega]
def wsel (s:Nat→Nat):List Int:=sel (bitW s) 400
theorem ygD (t:Nat→Nat):∀n,(ybk t n).length=lenW t n
 | 0=>rfl
 | n+1=>by rw [ybk,List.length_append,ygD t n,ygE,List.length_map,ydK,lenW]
theorem yin (t:Nat→Nat):∀n i k,i < n→(hk:k < (sel (t i).testBit 64).length)→(ybk t n)[(ybk t i).length+k]? =some (((64 * i:Nat):Int)+(sel (t i).testBit 64)[k])
 | 0,i,k,hi,hk=>by omega
 | n+1,i,k,hi,hk=>by
   have hl:(ygE t i).length= (sel (t i).testBit 64).length:=by simp [ygE]
   rcases Nat.lt_or_ge i n with h | h
   ·have hmono:∀m,(ybk t i).length+(ygE t i).length≤(ybk t (i+1+m)).length:=fun m=>by
     induction m with
     | zero=>rw [Nat.add_zero,ybk,List.length_append]; exact zG _
     | succ m ih=>rw [←Nat.add_assoc,ybk,List.length_append]; omega
    have h2:=hmono (n - i - 1)
    rw [show i+1+(n - i - 1)=n by omega] at h2
    rw [ybk,List.getElem?_append_left (by omega)]
    exact yin t n i k h hk
   ·obtain rfl:i=n:=by omega
    rw [ybk,List.getElem?_append_right (by omega),Nat.add_sub_cancel_left,ygE,List.getElem?_map,zzp hk]; rfl
end
section
open Go.RowKit
attribute [local go_sem] Oper.semAt_some
def yhL (Ds:List Nat):List Deferred:=Ds.map fun D=>{target:= .collected D,args:=#[]}
theorem yaD {F:Fence} {n:Nat} {P:Program} {fn:Func} {tmps:Array Value} {R:Ending→World→Prop} {u:FrameMode} (hu:u≠ .run):∀(Ds:List Nat) (w:World),Ds.Nodup→(∀D∈Ds,w.heap[D]? =some (.deferred (some [])))→
  (∀w':World,w'.os=w.os→w'.tape=w.tape→w'.output=w.output→w'.heap.size=w.heap.size→(∀b,b ∉ Ds→w'.heap[b]? =w.heap[b]?)→LeavesInM F n P fn tmps R [] u w')→LeavesInM F n P fn tmps R (yhL Ds) u w
 | [],w,_,_,h=>h w rfl rfl rfl rfl (fun _ _=>rfl)
 | D :: Ds,w,hn,hD,h=>by
   rw [List.nodup_cons] at hn
   refine ⟨hu, .inl ⟨D,_,rfl,run_takeDeferred (hD D (by simp)),?_⟩⟩
   refine yaD hu Ds _ hn.2 (fun E hE=>(World.putObj_heap_other (fun e=>hn.1 (by rw [←e]; exact hE))).trans (hD E (by simp [hE]))) (fun w' h1 h2 h3 h4 h5=>h w' h1 h2 h3 (by rw [h4,World.putObj_size]) (fun b hb=>?_))
   simp only [List.mem_cons,not_or] at hb
   exact (h5 b hb.2).trans (World.putObj_heap_other hb.1)
theorem yfi {I:OwnP} (hI:ybd I) {k:Nat} {O:Nat→Prop} {w w':World} {Ds:List Nat} (h:I k O w) (hn:∀D∈Ds,¬O D) (hs:w'.heap.size=w.heap.size) (hb:∀b,b ∉ Ds→w'.heap[b]? =w.heap[b]?):I k O w':=
 hI k O w w' h (by omega) (fun b hb2=>hb b (fun h2=>hn b h2 hb2))
theorem ybz {O:Nat→Prop} {W w w':World} {Ds:List Nat} (h:Eff O W w) (hn:∀D∈Ds,W.heap.size≤D) (h1:w'.os=w.os) (h2:w'.tape=w.tape) (h3:w'.output=w.output) (hs:w'.heap.size=w.heap.size) (hb:∀b,b ∉ Ds→w'.heap[b]? =w.heap[b]?):Eff O W w':=
 ⟨h1.trans h.os,h2.trans h.tape,h3.trans h.output,by rw [hs]; exact h.size,fun k hk hno=>(hb k (fun h4=>by have:=hn k h4; omega)).trans (h.block k hk hno)⟩
end
section
open Go.RowKit
attribute [local go_sem] Oper.semAt_some
theorem DcAll_any (b:Nat) (f:Nat→Nat) (w:World) (hc:DC w b f) (hb:b < w.heap.size) :
  Calls Tryz.prog 104 #[.pointer (some ⟨b,0,none⟩)] w fun e w'=>e= .returned (.func (.func 148) #[] #[.pointer (some ⟨w.heap.size,0,none⟩)])∧DC w' w.heap.size f∧Below w.heap.size w w'∧w.heap.size < w'.heap.size:=by
 obtain ⟨W1,hW1⟩:∃W1,w.alloc (.cells Tryz.zeroCells129 129)=W1:=⟨_,rfl⟩
 have q1:DC W1 w.heap.size (fun _=>0):=by rw [←hW1]; exact dc_new' w
 have q2:∀i,W1.frozen? ⟨w.heap.size,i,none⟩=false:=fun i=>by rw [←hW1]; exact yaE w _ _ i
 have q3:Below w.heap.size w W1:=by rw [←hW1]; exact yaa (Below.refl _ _) (zG _)
 have q4:W1.heap.size=w.heap.size+1:=by rw [←hW1]; simp
 have hu:Upd w.heap.size (fun _=>0) W1 W1:=⟨q1,q2,fun _ _=>by omega,Eff.refl _ _⟩
 have hrg:=hid (yi6 (hc.below q3 hb))
 have hth:=hid (hu.there' f)
 have hst:=hid (hu.all f)
 have HW1:=hid hW1
 have Q3:=hid q3
 clear hW1 q1 q2 q3 hc hu
 go_enter Tryz.func104,Tryz.ntmps104
 go_wp2_with fail
 rw [HW1.out]
 refine wp_load_mid 129 (.tmp 8) rfl b 0 rfl _ _ hrg.out Tryz.underlying129 rfl (by rw [List.length_map,List.length_range]; exact yga) ?_
 obtain ⟨cs,hcs⟩:∃cs:List Value,(List.range 1350).map (fun i=>Value.int .u64 (f i:Nat))=cs:=⟨_,rfl⟩
 have h1350:cs.length=1350:=by rw [←hcs,List.length_map,List.length_range]
 have hone:cs.toArray.all (·.oneCell')=true:=by rw [←hcs]; simp [Value.oneCell']
 rw [hcs] at hst hth⊢
 have Hone:=hid hone
 have H1350:=hid h1350
 clear hcs hrg hone h1350
 go_wp2_with (refine wpList_store_mid rfl 129 (.tmp 3) (.tmp 9) rfl w.heap.size 0 cs.toArray rfl rfl hth.out (by rw [List.size_toArray,H1350.out]; exact yga) Hone.out ?_)
 go_ret
 exact ⟨rfl,hst.out.1,Q3.out.trans (hst.out.2.below (by rintro b rfl; exact zG _) (by omega)),by have:=hst.out.2.size; omega⟩
theorem yhu (t:Nat→Nat) (b1:Nat) (y:Value) (J Jx:OwnP) (O:Nat→Prop) (W:World) (ht:∀i,i < 1350→t i < 18446744073709551616)
  (hC:Client2 Tryz.prog y (ybk t 1350) J Jx O W) (hJ:J 0 O W) (hb1:b1 < W.heap.size) (hn1:¬O b1) (hc1:DC W b1 t) (hT:Tab W) (hTO:¬O 0) :
  Calls Tryz.prog 148 #[y, .pointer (some ⟨b1,0,none⟩)] W fun e W'=>(∃v,e= .returned v)∧Told (ybk t 1350) J Jx O W W':=by
 obtain ⟨yf,yi,yc,rfl⟩:=hC.form
 have HC:=hid hC
 have HT:=hid hT
 have hT0:=hT.1
 have HN:=hid hTO
 have HN1:=hid hn1
 obtain ⟨W1,hW1⟩:∃W1,W.alloc (.cells #[.func yf yi yc] 100)=W1:=⟨_,rfl⟩
 have q3:W1.heap.size=W.heap.size+1:=by rw [←hW1]; simp
 have q4:Below W.heap.size W W1:=by rw [←hW1]; exact yaa (Below.refl _ _) (zG _)
 have q5:W1.cell? ⟨W.heap.size,0,none⟩=some (.func yf yi yc):=by rw [←hW1]; simp [go_sem]
 have HD1:=hid (hc1.below q4 hb1)
 have HW1:=hid hW1
 have ey:=hid q5
 have Q4:=hid q4
 have HJ1:Hid (J 0 O W1):=ybm hC.stab hC.lt hJ q4
 have Hlt:=hid (hC.lt 0 O W hJ)
 have Ht:=hid ht
 have tells:=hid (fun i hi b' Ow w (h1:b' < w.heap.size) h2 h3 h4 h5=>yci (t i) b' Ow w (ht i hi) h1 h2 h3 h4 h5)
 clear hC hT hJ hTO q4 q5 hc1 hW1 ht hn1
 refine (wf_calls (r:=none) (n:=1)).mp ?_
 refine callsIn_of_wp_marks Tryz.func148 rfl trivial ?_ rfl
 simp only [Tryz.ntmps148,List.size_toArray,List.length_cons,List.length_nil,Nat.reduceAdd,Nat.reduceSub,Array.replicate_succ,Array.replicate_zero,List.push_toArray,List.append_toArray,List.nil_append,List.cons_append]
 gi_wp2_with fail
 refine ybl ?_
 rw [HW1.out]
 gi_wp2_with fail
 refine wpIn_label ?_
 gi_wp2_with fail
 refine wpIn_loop (fun a' w'=>∃(i:Nat) (u3 u4 u6 u7 u8 u9 u10 u11 u12 u13 u14 u15 u16 u17 u18 u19 u20 u21:Value) (Ds:List Nat) (O':Nat→Prop),i≤1350∧a' = {tmps:=#[.func yf yi yc, .pointer (some ⟨b1,0,none⟩), .pointer (some ⟨W.heap.size,0,none⟩),u3,u4, .int .i64 (i:Nat),u6,u7,u8,u9,u10,u11,u12,u13,u14,u15,u16,u17,u18,u19,u20,u21],defers:=yhL Ds}∧Hid (J (ybk t i).length O' w'∧Grow O O' W1 w'∧(∀D∈Ds,w'.heap[D]? =some (.deferred (some []))∧¬O' D∧W1.heap.size≤D)∧Ds.Nodup))
  (fun a' _=>1350 - (intOf (a'.tmps.getD 5 undef)).toNat) ?start ?round
 case start=>exact ⟨0,_,_,_,_,_,_,_,_,_,_,_,_,_,_,_,_,_,_,[],O,by omega,rfl,HJ1.out,Grow.refl _ _,fun D h=>(by cases h),List.nodup_nil⟩
 case round=>
  rintro a' w2 ⟨i,u3,u4,u6,u7,u8,u9,u10,u11,u12,u13,u14,u15,u16,u17,u18,u19,u20,u21,Ds,O2,hi,rfl,HI⟩
  by_cases hlt:i < 1350
  ·obtain ⟨hJ2,hG2,hDs,hnd⟩:=HI.out
   have hyl:W.heap.size < W1.heap.size:=by omega
   have nO:¬O W.heap.size:=fun h=>by have:=Hlt.out _ h; omega
   obtain ⟨wA,hwA⟩:∃wA,w2.alloc (.cells #[.int .i64 (i:Nat)] 3)=wA:=⟨_,rfl⟩
   have sA:wA.heap.size=w2.heap.size+1:=by rw [←hwA]; simp
   have bA:Below w2.heap.size w2 wA:=by rw [←hwA]; exact yaa (Below.refl _ _) (zG _)
   have cA:wA.cell? ⟨w2.heap.size,0,none⟩=some (.int .i64 (i:Nat)):=by rw [←hwA]; simp [go_sem]
   have sb1:b1 < w2.heap.size:=by have:=hG2.eff.size; omega
   have eb0:w2.cell? ⟨b1,i,none⟩=some (.int .u64 (t i:Nat)):=((hG2.cell (by omega) HN1.out i).trans (HD1.out i hlt))
   have eb1:(w2.alloc (.cells #[.int .i64 (i:Nat)] 3)).cell? ⟨b1,i,none⟩=some (.int .u64 (t i:Nat)):=by rw [hwA]; exact (bA.cell (p:=⟨b1,i,none⟩) sb1).trans eb0
   have HMA:=yel (t i) wA (Ht.out i hlt)
   rw [sA] at HMA
   have HM:=hid HMA
   have HwA:=hid hwA
   have BA:=hid bA
   have CA:=hid cA
   have hiI:(i:Int) < 1350:=by omega
   clear HMA hwA bA hJ2 hG2 hDs hnd
   gi_wp2_with fail
   rw [HwA.out]
   refine (wf_calls.mpr HM.out).mono ?_
   rintro e w3 ⟨rfl,hm1,hm2,hm3⟩
   have hB23:Below w2.heap.size w2 w3:=BA.out.trans (hm2.mono (by omega))
   have HB23:=hid hB23
   obtain ⟨hJ2,hG2,hDs,hnd⟩:=HI.out
   have hlt2:=HC.out.lt _ _ _ hJ2
   have GG:Hid (Grow O O2 W w3):=(Grow.of_below Q4.out).trans (hG2.trans (Grow.of_below hB23))
   have hT3:=(((HT.out.later Q4.out).eff hG2.eff HN.out).later hB23)
   have tl:=hid (tells.out i hlt (w2.heap.size+1+1) O2 w3 hm3 (fun h=>by have:=hlt2 _ h; omega) hm1 hT3 (hG2.not (b:=0) (by have:=(HT.out.later Q4.out).1; omega) HN.out))
   have ey3:=hid ((hB23.cell (p:=⟨W.heap.size,0,none⟩) (by have:=hG2.eff.size; simp only []; omega)).trans ((hG2.cell hyl nO 0).trans ey.out))
   have ci3:=hid ((hm2.cell (p:=⟨w2.heap.size,0,none⟩) (by simp only []; omega)).trans CA.out)
   have NO2:=hid (And.intro (hG2.not hyl nO) (show¬O2 w2.heap.size from fun h=>by have:=hlt2 _ h; omega))
   have s12:=hG2.eff.size
   have s23:=hB23.size
   have HJ3:Hid (J (ybk t i).length O2 w3):=ybm HC.out.stab HC.out.lt hJ2 hB23
   have HDs:=hid (fun D hD=>(⟨(hB23.block D (yai (hDs D hD).1)).trans (hDs D hD).1,(hDs D hD).2.1,(hDs D hD).2.2,yai (hDs D hD).1⟩:w3.heap[D]? =some (.deferred (some []))∧¬O2 D∧W1.heap.size≤D∧D < w2.heap.size))
   have Hnd:=hid hnd
   have HG12:=hid hG2
   clear hm1 hm2 hB23 hJ2 hG2 hDs hnd hT3 HM cA eb0 eb1 sb1
   gi_wp2_with fail
   refine yaZ (gf:=169) (lb:=#[.pointer (some ⟨w2.heap.size+1+1,0,none⟩)]) rfl ycj (sel (t i).testBit 64) O2 rfl tl.out
    (fun k O W=>J ((ybk t i).length+k) O W) (fun c k O W=>c= .exit 0∧∃q,1≤q∧q≤(ybk t 1350).length∧Jx q O W)
    (fun k O W W' h hs hO=>HC.out.stab _ O W W' h hs hO) (fun c k O W W' h hs hO=>⟨h.1,by obtain ⟨q,h1,h2,h3⟩:=h.2; exact ⟨q,h1,h2,HC.out.stabx _ O W W' h3 hs hO⟩⟩)
    (fun k O W h=>HC.out.lt _ O W h) (fun c k O W h=>by obtain ⟨_,q,h1,h2,h3⟩:=h; exact HC.out.ltx _ O W h3) (by simpa using HJ3.out)
    (fun k O a' W'=>J ((ybk t i).length+k) O W'∧∃x,(sel (t i).testBit 64)[k]? =some x∧a' = {tmps:=#[.func yf yi yc, .pointer (some ⟨b1,0,none⟩), .pointer (some ⟨W.heap.size,0,none⟩), .pointer (some ⟨w2.heap.size,0,none⟩), .int .i64 x, .int .i64 (i:Nat), .bool true, .int .i64 (i:Nat), .int .i64 (i:Nat), .pointer (some ⟨b1,i,none⟩), .int .u64 (t i:Nat), .slice (some ⟨w2.heap.size+1,0,none⟩) 1 1, .func (.func 169) #[] #[.pointer (some ⟨w2.heap.size+1+1,0,none⟩)], .int .i64 x,u14,u15,u16,u17,u18,u19,u20,u21],defers:= []})
    (fun l o k O a' W' hr hn h=>⟨ybg HC.out.stab h.1 hn o,h.2⟩) ?assign ?body ?done ?stop
   case assign=>
    intro l k O6 W6 K hk hJ6 hG6 hK
    gi_wp2
    exact hK _ O6 _ (Grow.refl _ _) ⟨hJ6,_,zzp hk,rfl⟩
   case body=>
    rintro l3 k O6 a' W6 hk hG6 hl3 hrec6 hnl3 ⟨hJ6,x,ex,rfl⟩
    have ey6:=(hG6.cell (b:=W.heap.size) (by omega) NO2.out.1 0).trans ey3.out
    have ci6:=(hG6.cell (b:=w2.heap.size) (by omega) NO2.out.2 0).trans ci3.out
    have hat:=yin t 1350 i k hlt hk
    obtain ⟨hidx,hval⟩:=zzq.1 hat
    have hcall:=HC.out.call _ O6 W6 hidx hJ6 (GG.out.trans hG6)
    obtain ⟨_,ex'⟩:=zzq.1 ex
    have bx:=ygM (p:=(t i).testBit) k hk
    rw [ex'] at bx
    rw [hval,ex',show ((64 * i:Nat):Int)+x= (i:Int) * 64+x by omega] at hcall
    have Hcall:=hid hcall
    have Hidx:=hid hidx
    obtain ⟨x1,x2⟩:=bx
    clear hcall hidx hval ex' hJ6 hG6 hat ex
    gi_wp2_with (refine callv (.tmp 14) (.tmp 18) _ rfl rfl rfl rfl Hcall.out ?_)
    rintro e W7 O7 h1 h2 h3 hend
    rcases hend with ⟨rfl,hJ7⟩ | ⟨rfl,hJ7⟩
    ·have HJ7:Hid (Grow O6 O7 W6 W7∧J ((ybk t i).length+(k+1)) O7 W7):=⟨⟨h1,h2,h3⟩,hJ7⟩
     clear h1 h2 h3 hJ7
     refine ⟨_,rfl,?_⟩
     gi_wp2
     exact ⟨O7,HJ7.out.1,HJ7.out.2⟩
    ·have HJ7:Hid (Grow O6 O7 W6 W7∧∃q,1≤q∧q≤(ybk t 1350).length∧Jx q O7 W7):=⟨⟨h1,h2,h3⟩,_,by omega,Nat.succ_le_of_lt Hidx.out,hJ7⟩
     clear h1 h2 h3 hJ7
     refine ⟨_,rfl,?_⟩
     gi_wp2
     exact ⟨O7,HJ7.out.1,rfl,HJ7.out.2⟩
   case done=>
    intro O9 w9 hG9 hJ9 hD hnD
    have hall:∀D∈w3.heap.size :: Ds,w9.heap[D]? =some (.deferred (some []))∧¬O9 D∧W1.heap.size≤D:=by
     intro E hE
     rcases List.mem_cons.mp hE with rfl | hE
     ·exact ⟨hD,hnD,by omega⟩
     ·obtain ⟨e1,e2,e3,e4⟩:=HDs.out E hE
      exact ⟨(hG9.eff.block E (by omega) e2).trans e1,hG9.not (by omega) e2,e3⟩
    have hnn:(w3.heap.size :: Ds).Nodup:=List.nodup_cons.mpr ⟨fun h=>by have:=(HDs.out _ h).2.2.2; omega,Hnd.out⟩
    have hlen:(ybk t (i+1)).length= (ybk t i).length+(sel (t i).testBit 64).length:=by rw [ybk,List.length_append,ygE,List.length_map]
    have HE:Hid (J (ybk t (i+1)).length O9 w9∧Grow O O9 W1 w9∧(∀D∈w3.heap.size :: Ds,w9.heap[D]? =some (.deferred (some []))∧¬O9 D∧W1.heap.size≤D)∧(w3.heap.size :: Ds).Nodup):=
     ⟨by rw [hlen]; exact hJ9,HG12.out.trans ((Grow.of_below HB23.out).trans hG9),hall,hnn⟩
    clear hall hnn hlen hJ9 hG9
    gi_wp2
    exact ⟨⟨i+1,_,_,_,_,_,_,_,_,_,_,_,_,_,_,_,_,_,_,w3.heap.size :: Ds,O9,by omega,rfl,HE.out⟩,by simp [intOf]; omega⟩
   case stop=>
    rintro c k O9 w9 hk1 hk2 hG9 ⟨rfl,q,hq1,hq2,hJ9⟩ hD hnD
    have hall:∀D∈w3.heap.size :: Ds,w9.heap[D]? =some (.deferred (some []))∧¬O9 D∧W1.heap.size≤D:=by
     intro E hE
     rcases List.mem_cons.mp hE with rfl | hE
     ·exact ⟨hD,hnD,by omega⟩
     ·obtain ⟨e1,e2,e3,e4⟩:=HDs.out E hE
      exact ⟨(hG9.eff.block E (by omega) e2).trans e1,hG9.not (by omega) e2,e3⟩
    have hnn:(w3.heap.size :: Ds).Nodup:=List.nodup_cons.mpr ⟨fun h=>by have:=(HDs.out _ h).2.2.2; omega,Hnd.out⟩
    have hG:=GG.out.trans hG9
    gi_wp2
    rw [Exit.noGoto_normal]
    refine yaD (by simp) (w3.heap.size :: Ds) w9 hnn (fun D hD=>(hall D hD).1) ?_
    intro w' e1 e2 e3 e4 e5
    exact ⟨_,results_none rfl _ _ _,⟨_,rfl⟩,O9,hG.sub,hG.new,ybz hG.eff (fun D hD=>by have:=(hall D hD).2.2; omega) e1 e2 e3 e4 e5, .inr ⟨q,hq1,hq2,yfi HC.out.stabx hJ9 (fun D hD=>(hall D hD).2.1) e4 e5⟩⟩
  ·obtain rfl:i=1350:=by omega
   obtain ⟨hJ2,hG2,hDs,hnd⟩:=HI.out
   have hG:=(Grow.of_below (O:=O) Q4.out).trans hG2
   have HH:=hid (And.intro hJ2 (And.intro hG (And.intro hDs hnd)))
   clear hJ2 hG2 hDs hnd hG
   gi_wp2
   rw [Exit.noGoto_normal]
   obtain ⟨hJ2,hG,hDs,hnd⟩:=HH.out
   refine yaD (by simp) Ds w2 hnd (fun D hD=>(hDs D hD).1) ?_
   intro w' e1 e2 e3 e4 e5
   exact ⟨_,results_none rfl _ _ _,⟨_,rfl⟩,O2,hG.sub,hG.new,ybz hG.eff (fun D hD=>by have:=(hDs D hD).2.2; omega) e1 e2 e3 e4 e5, .inl (yfi HC.out.stab hJ2 (fun D hD=>(hDs D hD).2.1) e4 e5)⟩
end
section
open Go.RowKit
def ycr (f:Nat→Nat) (s j:Nat):Nat:=mk (fun t=>(f j).testBit t && decide (s≤64 * j+t))
theorem fromW_lt (f:Nat→Nat) (s j:Nat):ycr f s j < 18446744073709551616:=yao _
theorem fromW_low (f:Nat→Nat) (s j:Nat) (h:j < s / 64):ycr f s j=0:=by
 rw [ycr,←ybu]
 exact yaC fun k hk=>by rw [zzd (by omega),Bool.and_false]
theorem yjS (f:Nat→Nat) (s j:Nat) (h:s / 64 < j) (hf:f j < 18446744073709551616):ycr f s j=f j:=by
 refine (ydV hf fun k hk=>?_).symm
 rw [zzZ (by omega),Bool.and_true]
theorem fromW_bit (f:Nat→Nat) (s k:Nat):bitW (ycr f s) k= (bitW f k && decide (s≤k)):=by
 rw [bitW,ycr,yaw,bitW,zzZ (Nat.mod_lt _ (by omega)),zzo]
 have:64 * (k / 64)+k % 64=k:=Nat.div_add_mod k 64
 rw [this]
theorem fromW_at (f:Nat→Nat) (s:Nat) (hf:f (s / 64) < 18446744073709551616):ycr f s (s / 64)=f (s / 64) / 2 ^ (s % 64) * 2 ^ (s % 64):=by
 have h1:f (s / 64) / 2 ^ (s % 64) * 2 ^ (s % 64)≤f (s / 64):=Nat.div_mul_le_self _ _
 refine (ydV (by omega) fun k hk=>?_).symm
 rw [←Nat.shiftRight_eq_div_pow,←Nat.shiftLeft_eq,Nat.testBit_shiftLeft,Nat.testBit_shiftRight]
 by_cases h:s % 64≤k
 ·rw [show s % 64+(k - s % 64)=k by omega,zzZ (show k ≥ s % 64 from h),zzZ (show s≤64 * (s / 64)+k by omega),zzo,Bool.and_true]
 ·rw [zzd (show¬k ≥ s % 64 from h),zzd (show¬s≤64 * (s / 64)+k by omega),Bool.false_and,Bool.and_false]
theorem yfG (b:Nat) (q:Nat→Bool) (s:Nat) (w:World) (hs:s < 86400) (hT:Tab w) (hd:DiscAt w b q) :
  Calls Tryz.prog 26 #[.pointer (some ⟨b,0,none⟩), .int .i64 s] w fun r w'=>(∃n ok,r= .returned (.tuple #[.int .i64 n, .bool ok])∧FirstOf (fun k=>q k && decide (s≤k)) n ok)∧w=w':=by
 obtain ⟨f,f1,f2,f3,f4,f5⟩:=hd
 have c1:=hid (yc2 (s:Int) w)
 rw [ycF,zzZ hs] at c1
 have c2:=hid (fun m hm=>ycc m w hm hT)
 have HC:=hid f1
 have Hf:=hid f3
 have hlt:=hid (fun j=>fromW_lt f s j)
 have hlow:=hid (fun j h=>fromW_low f s j h)
 have hhigh:=hid (fun j h hf=>yjS f s j h hf)
 have hsh:Hid (IntKind.u64.wrap ((f (s / 64):Int) / 2 ^ (s % 64) * 2 ^ (s % 64))= ((ycr f s (s / 64):Nat):Int)):=by
  show _ = _
  have h1:f (s / 64) / 2 ^ (s % 64) * 2 ^ (s % 64)≤f (s / 64):=Nat.div_mul_le_self _ _
  have h2:=f3 (s / 64) (by omega)
  have e:((f (s / 64):Int) / 2 ^ (s % 64) * 2 ^ (s % 64))= ((f (s / 64) / 2 ^ (s % 64) * 2 ^ (s % 64):Nat):Int):=by simp
  rw [e,ybe (by omega),fromW_at f s h2]
 have hbit:Hid (∀k,k < 86400→bitW (ycr f s) k= (q k && decide (s≤k))):=fun k hk=>by rw [fromW_bit,f4 k hk]
 have hsI:(s:Int) < 87000:=by omega
 have hi:s / 64 < 1350:=by omega
 have e1:=f1 (s / 64) hi
 have hs0:(0:Int)≤s:=by omega
 have hmx:max (s:Int) 0=s:=by omega
 clear hs f1 f2 f3 f4 f5 hT
 go_enter Tryz.func26,Tryz.ntmps26
 go_wp2_with fail
 refine c1.out.mono ?_
 rintro e w' ⟨rfl,rfl⟩
 go_wp2_with fail
 rw [hsh.out]
 clear hsh e1
 go_loopw [6,7] (fun m i wr=>∃k:Nat,i= .int .i64 k∧m= .int .u64 (ycr f s k:Nat)∧Hid (s / 64≤k)∧k < 1350∧Hid (∀j,j < k→ycr f s j=0)∧wr=w) (fun _ i _=>1350 - (intOf i).toNat)
 case atStart=>exact ⟨s / 64,by simp,rfl,zG _,hi,hlow.out,rfl⟩
 case round=>
  obtain ⟨k,rfl,rfl,hsk,hk2,hz,rfl⟩:=hrel
  have d4:=hid (c2.out _ (hlt.out k))
  have hfw:=hid (ydS (ycr f s) k hk2 hz.out (hlt.out k))
  obtain ⟨b1,b2⟩:=ydQ (hlt.out k)
  have hb0:Hid (ya6 (ycr f s k)=false→ycr f s k=0):=fun h=>by simpa [ya6] using h
  obtain ⟨L,hL⟩:∃L,ybF (ycr f s k)=L:=⟨_,rfl⟩
  rw [hL] at d4 hfw b1 b2
  clear hL
  cases hB:ya6 (ycr f s k)
  ·rw [hB] at d4
   have hz2:Hid (∀j,j < k+1→ycr f s j=0):=fun j hj=>by
    by_cases e:j=k
    ·rw [e]; exact hb0.out hB
    ·exact hz.out j (by omega)
   clear hB
   by_cases hlast:k+1=1350
   ·have hbq:Hid (((k:Int)+1 == 1350)=true):=by show _ = _; simp; omega
    have hz3:Hid (FirstOf (bitW (ycr f s)) 0 false):=ydT _ (fun j hj=>hz2.out j (by omega))
    have hbq':=hbq.out
    clear hlast
    go_wp2_with fail
    refine d4.out.mono ?_
    rintro e w' ⟨rfl,rfl⟩
    go_wp2
    go_ret2
    exact ⟨⟨_,_,rfl,hz3.out.congr hbit.out⟩,rfl⟩
   ·have hk3:k+1 < 1350:=by omega
    have hbq:((k:Int)+1 == 1350)=false:=by simp; omega
    have e5:=HC.out (k+1) hk3
    have e6:=hhigh.out (k+1) (by have:=hsk.out; omega) (Hf.out _ hk3)
    rw [←e6] at e5
    have hsk2:Hid (s / 64≤k+1):=Nat.le_succ_of_le hsk.out
    clear hlast e6
    go_wp2_with fail
    refine d4.out.mono ?_
    rintro e w' ⟨rfl,rfl⟩
    go_wp2
    exact ⟨⟨k+1,by go_num,rfl,hsk2.out,hk3,hz2.out,by trivial⟩,by simp [intOf]; omega⟩
  ·rw [hB] at d4
   have hr:=hid (hfw.out hB)
   clear hB
   go_wp2_with fail
   refine d4.out.mono ?_
   rintro e w' ⟨rfl,rfl⟩
   go_wp2
   go_ret2
   exact ⟨⟨_,_,rfl,hr.out.congr hbit.out⟩,rfl⟩
end
section
open Go.RowKit
theorem DLen_any (b:Nat) (f:Nat→Nat) (w:World) (hc:DC w b f) (hf:∀i,i < 1350→f i < 18446744073709551616) :
  Calls Tryz.prog 61 #[.pointer (some ⟨b,0,none⟩)] w fun e w'=>e= .returned (.int .i64 (lenW f 1350:Nat))∧w=w':=by
 have c2:=hid (fun i hi W=>ygz (f i) W (hf i hi))
 obtain ⟨N,hN⟩:∃N,lenW f 1350=N:=⟨_,rfl⟩
 have hl:=hid (fun n=>lenW_le f n)
 have HC:=hid hc
 have HN:Hid (∀k,k=1350→lenW f k=N):=fun k hk=>by rw [hk]; exact hN
 rw [hN]
 clear hN hc hf
 go_enter Tryz.func61,Tryz.ntmps61
 go_wp2
 go_loopw [3,7] (fun m i wr=>∃(k:Nat) (x:Nat),i= .int .i64 k∧k≤1350∧m= .int .i64 x∧Hid (x=lenW f k)∧wr=w) (fun _ i _=>1350 - (intOf i).toNat)
 case atStart=>exact ⟨0,0,rfl,by omega,rfl,(rfl:0=lenW f 0),rfl⟩
 case round=>
  obtain ⟨k,x,rfl,hk,rfl,hx,rfl⟩:=hrel
  have h1:=hl.out k
  by_cases hlt:k < 1350
  ·have h2:=hl.out (k+1)
   have e1:=HC.out k hlt
   have hs1:=lenW_succ f k
   have C2:=hid (c2.out k hlt wr)
   obtain ⟨y,hy⟩:∃x,Lib.popAux 64 (f k)=x:=⟨_,rfl⟩
   rw [hy] at hs1 C2
   rw [hs1] at h2
   rw [←hx.out] at h1 h2
   have hs2:Hid (x+y=lenW f (k+1)):=by show _ = _; rw [hs1,hx.out]
   have hkI:(k:Int) < 1350:=by omega
   clear hy hs1
   go_wp2_with fail
   refine C2.out.mono ?_
   rintro e w' ⟨rfl,rfl⟩
   go_wp2
   exact ⟨⟨k+1,x+y,by go_num,by omega,by simp,hs2,trivial⟩,by simp [intOf]; omega⟩
  ·have hk7:Hid (x=N):=by show _ = _; rw [hx.out]; exact HN.out k (by omega)
   rw [←hx.out] at h1
   go_wp2
   go_ret
   exact ⟨by rw [hk7.out]; rfl,rfl⟩
end
section
open Go.RowKit
structure ClientV (P:Program) (y:Value) (xs:List (Array Value)) (J Jx:OwnP) (O0:Nat→Prop) (W0:World):Prop where
 form:∃f fi cap,y= .func f fi cap
 stab:ybd J
 stabx:ybd Jx
 lt:LtO J
 ltx:LtO Jx
 call:∀k O W,(hk:k < xs.length)→J k O W→Grow O0 O W0 W→CallV P y xs[k] W fun e W'=>∃O':Nat→Prop,(∀b,O b→O' b)∧(∀b,O' b→O b∨W.heap.size≤b)∧Eff O W W'∧
  ((e= .returned (.bool true)∧J (k+1) O' W')∨(e= .returned (.bool false)∧Jx (k+1) O' W'))
def ToldV (xs:List (Array Value)) (J Jx:OwnP) (O:Nat→Prop) (W:World) (W':World):Prop:=
 ∃O':Nat→Prop,(∀b,O b→O' b)∧(∀b,O' b→O b∨W.heap.size≤b)∧Eff O W W'∧(J xs.length O' W'∨∃k,1≤k∧k≤xs.length∧Jx k O' W')
theorem ygU {P:Program} {n:Nat} {fn:FuncId} {tmps:Array Value} {ps:Array Tmp} {assign body:Code} {D l:Nat} {Dk:Option Nat} (xs:List (Array Value)) (hps:∀x∈xs,x.size=ps.size)
  {I:OwnP} {Ix:Code→OwnP} (hI:ybd I) (hIx:∀c,ybd (Ix c)) (hIl:LtO I) (hIxl:∀c,LtO (Ix c)) (A:Nat→(Nat→Prop)→Act→World→Prop) (hA:∀l o k O a' W,(∃r,W.heap[l]? =some (.loop r))→¬O l→A k O a' W→A k O a' (W.putObj l o))
  (Ow O0:Nat→Prop) (w W1:World) (hwl:w.heap.size≤l) (hconv:∀O O1 W,(∀b,O b↔O1 b∨b=l∨Dk=some b)→Grow O0 O W1 W→Grow Ow O1 w W)
  (hassign:∀k O W (K:Act→World→Prop) (hk:k < xs.length),I k O W→Grow Ow O w W→(∀a' O' W',Grow O O' W W'→A k O' a' W'→K a' W')→
    assign.wpIn (WF (some l)) n P (Exit.then K (fun _ _ _=>False)) {tmps:=(ps.zip xs[k]).foldl (fun t (p,v)=>t.setIfInBounds p v) tmps,defers:= []} W)
  (hbody:∀k O a' W,(hk:k < xs.length)→Grow Ow O w W→(∃r,W.heap[l]? =some (.loop r))→¬O l→A k O a' W→body.wpIn (WF (some l)) n P (yh9 I Ix k O W) a' W) :
  ClientV P (.func (.yield l) #[] #[]) xs (RJ (yag fn tmps ps assign body D .ready none) l Dk I) (fun k O W=>∃c,RJ (yag fn tmps ps assign body D .done (some c)) l Dk (Ix c) k O W) O0 W1 where
 form:=⟨_,_,_,rfl⟩
 stab:=RJ.stab hI
 stabx:=fun k O W W' ⟨c,h⟩ hs hO=>⟨c,RJ.stab (hIx c) k O W W' h hs hO⟩
 lt:=RJ.lt hIl
 ltx:=fun k O W ⟨c,h⟩=>RJ.lt (hIxl c) k O W h
 call:=by
  rintro k O W hk ⟨O1,hO,hnl,hD,hi,hl⟩ hG0
  have hG:=hconv O O1 W hO hG0
  have hlt:=yai hl
  have hy:=run_yield (P:=P) (args:=xs[k]) hl (hps _ (zzr hk))
  refine .inr ⟨l,_,_,_,_,rfl,hy,fun m=>ydb (r:=none) (m:=n) (roundIn_of_wpIn trivial ?_)⟩
  clear hy
  refine hassign k O1 W _ hk hi hG ?_
  intro a' O2 Wa hg2 ha
  have hla:=(hg2.eff.block l hlt hnl).trans hl
  have hDa:∀d,Dk=some d→Wa.heap[d]? =some (.deferred (some [])):=fun d hd=>(hg2.eff.block d (yai (hD d hd).2.2) (hD d hd).1).trans (hD d hd).2.2
  have hnew:∀b,b < W.heap.size→¬O1 b→¬O2 b:=fun b hb hn h=>by
   rcases hg2.new b h with h1 | h1
   ·exact hn h1
   ·omega
  have hnl2:=hnew l hlt hnl
  have hsz2:=hg2.eff.size
  refine ⟨_,run_beginRound hla rfl,?_⟩
  obtain ⟨Wb,hWb⟩:∃Wb,Wa.putObj l (.loop (yag fn tmps ps assign body D .busy none))=Wb:=⟨_,rfl⟩
  have hWs:Wb.heap.size=Wa.heap.size:=by rw [←hWb]; exact World.putObj_size
  have hWo:∀b,b≠l→Wb.heap[b]? =Wa.heap[b]?:=fun b hb=>by rw [←hWb]; exact World.putObj_heap_other hb
  have hWl:Wb.heap[l]? =some (.loop (yag fn tmps ps assign body D .busy none)):=by rw [←hWb]; exact World.putObj_heap_same (yai hla)
  have hEb:Eff O W Wb:=by rw [←hWb]; exact (hg2.eff.wide (fun b hb=>(hO b).mpr (.inl hb))).putObj (.inl ((hO l).mpr (.inr (.inl rfl)))) _
  have hGa:=hG.trans hg2
  have hb:=hbody k O2 a' Wb hk ⟨hGa.sub,hGa.new,by rw [←hWb]; exact hGa.eff.putObj (.inr hwl) _⟩ ⟨_,hWl⟩ hnl2 (by rw [←hWb]; exact hA _ _ _ _ _ _ ⟨_,hla⟩ hnl2 ha)
  rw [hWb]
  refine wpIn_mono hb ?_
  have fin:∀(jump:Option Code) (O3:Nat→Prop) (W3:World),Grow O2 O3 Wb W3→∀(X:OwnP),ybd X→X (k+1) O3 W3→∃O':Nat→Prop,(∀b,O b→O' b)∧(∀b,O' b→O b∨W.heap.size≤b)∧
    (Instr.endRound l jump).run P W3= .ok (.bool jump.isNone) (W3.putObj l (.loop (yag fn tmps ps assign body D (if jump.isNone then .ready else .done) jump)))∧Eff O W (W3.putObj l (.loop (yag fn tmps ps assign body D (if jump.isNone then .ready else .done) jump)))∧
    RJ (yag fn tmps ps assign body D (if jump.isNone then .ready else .done) jump) l Dk X (k+1) O' (W3.putObj l (.loop (yag fn tmps ps assign body D (if jump.isNone then .ready else .done) jump))):=fun jump O3 W3 hg3 X hX hx=>by
   have hl3:=(hg3.eff.block l (yai hWl) hnl2).trans hWl
   have hnew3:∀b,b < Wb.heap.size→¬O2 b→¬O3 b:=fun b hb hn h=>by
    rcases hg3.new b h with h1 | h1
    ·exact hn h1
    ·omega
   have hend:=run_endRound (P:=P) jump hl3
   refine ⟨fun b=>O3 b∨b=l∨Dk=some b,fun b hb=>?_,fun b hb=>?_,?_,?_,O3,fun b=>Iff.rfl,hnew3 l (yai hWl) hnl2,fun d hd=>?_,?_,?_⟩
   ·rcases (hO b).mp hb with h | h
    ·exact .inl (hg3.sub b (hg2.sub b h))
    ·exact .inr h
   ·rcases hb with h | h
    ·rcases hg3.new b h with h1 | h1
     ·rcases hg2.new b h1 with h2 | h2
      ·exact .inl ((hO b).mpr (.inl h2))
      ·exact .inr h2
     ·exact .inr (by omega)
    ·exact .inl ((hO b).mpr (.inr h))
   ·exact hend
   ·refine Eff.putObj (hEb.trans (hg3.eff) fun b hb=>?_) (.inl ((hO l).mpr (.inr (.inl rfl)))) _
    rcases hg2.new b hb with h2 | h2
    ·exact .inl ((hO b).mpr (.inl h2))
    ·exact .inr h2
   ·obtain ⟨d1,d2,d3⟩:=hD d hd
    have hd2:=hnew d (yai d3) d1
    have hdb:d < Wb.heap.size:=by have:=yai (hDa d hd); omega
    exact ⟨hnew3 d hdb hd2,d2,(World.putObj_heap_other d2).trans ((hg3.eff.block d hdb hd2).trans ((hWo d d2).trans (hDa d hd)))⟩
   ·exact hX _ _ _ _ hx (by rw [World.putObj_size]; exact zG _) (fun b hb=>World.putObj_heap_other (fun e=>hnew3 l (yai hWl) hnl2 (e ▸ hb)))
   ·exact World.putObj_heap_same (yai hl3)
  rintro e a3 W3 hp
  cases e with
  | normal=>
    obtain ⟨O3,hg3,hi3⟩:=hp
    obtain ⟨O',h1,h2,h3,h4,h5⟩:=fin none O3 W3 hg3 I hI hi3
    exact ⟨_,_,h3,O',h1,h2,h4, .inl ⟨rfl,h5⟩⟩
  | ret=>
    obtain ⟨O3,hg3,hi3⟩:=hp
    obtain ⟨O',h1,h2,h3,h4,h5⟩:=fin (some .ret) O3 W3 hg3 _ (hIx _) hi3
    exact ⟨_,_,h3,O',h1,h2,h4, .inr ⟨rfl,_,h5⟩⟩
  | exit id=>
    obtain ⟨O3,hg3,hi3⟩:=hp
    obtain ⟨O',h1,h2,h3,h4,h5⟩:=fin (some (.exit id)) O3 W3 hg3 _ (hIx _) hi3
    exact ⟨_,_,h3,O',h1,h2,h4, .inr ⟨rfl,_,h5⟩⟩
  | goto t=>
    obtain ⟨O3,hg3,hi3⟩:=hp
    obtain ⟨O',h1,h2,h3,h4,h5⟩:=fin (some (.goto t)) O3 W3 hg3 _ (hIx _) hi3
    exact ⟨_,_,h3,O',h1,h2,h4, .inr ⟨rfl,_,h5⟩⟩
  | panic ch=>exact hp.elim
  | outgrown=>exact hp.elim
def TellsV (P:Program) (gf:Nat) (lb:Array Value) (xs:List (Array Value)) (Ow:Nat→Prop) (w:World):Prop:=
 ∀(y:Value) (J Jx:OwnP) (O:Nat→Prop) (W:World),(∀b,O b→Ow b∨w.heap.size≤b)→Below w.heap.size w W→ClientV P y xs J Jx O W→J 0 O W→Calls P gf (#[y] ++ lb) W fun e W'=>(∃v,e= .returned v)∧ToldV xs J Jx O W W'
theorem yd8 {P:Program} {n:Nat} {g:Operand} {ps:Array Tmp} {assign body:Code} {Q:Exit→Act→World→Prop} {a:Act} {w:World} {gf:Nat} {lb:Array Value}
  (hg:a.eval g= .func (.func gf) #[] lb) (eg:∀args w,(callFunc gf args).run P w= .ok (.enter gf args) w) (xs:List (Array Value)) (Ow:Nat→Prop) (hps:∀x∈xs,x.size=ps.size) (hseq:TellsV P gf lb xs Ow w)
  (I:OwnP) (Ix:Code→OwnP) (hI:ybd I) (hIx:∀c,ybd (Ix c)) (hIl:LtO I) (hIxl:∀c,LtO (Ix c)) (h0:I 0 Ow w) (A:Nat→(Nat→Prop)→Act→World→Prop) (hA:∀l o k O a' W,(∃r,W.heap[l]? =some (.loop r))→¬O l→A k O a' W→A k O a' (W.putObj l o))
  (hassign:∀l k O W (K:Act→World→Prop) (hk:k < xs.length),I k O W→Grow Ow O w W→(∀a' O' W',Grow O O' W W'→A k O' a' W'→K a' W')→
    assign.wpIn (WF (some l)) n P (Exit.then K (fun _ _ _=>False)) {tmps:=(ps.zip xs[k]).foldl (fun t (p,v)=>t.setIfInBounds p v) a.tmps,defers:= []} W)
  (hbody:∀l k O a' W,(hk:k < xs.length)→Grow Ow O w W→w.heap.size≤l→(∃r,W.heap[l]? =some (.loop r))→¬O l→A k O a' W→body.wpIn (WF (some l)) n P (yh9 I Ix k O W) a' W)
  (hdone:∀O' W',Grow Ow O' w W'→I xs.length O' W'→W'.heap[w.heap.size]? =some (.deferred (some []))→¬O' w.heap.size→Q .normal {a with defers:={target:= .collected w.heap.size,args:=#[]} :: a.defers} W')
  (hstop:∀c k O' W',1≤k→k≤xs.length→Grow Ow O' w W'→Ix c k O' W'→W'.heap[w.heap.size]? =some (.deferred (some []))→¬O' w.heap.size→
    c.wpIn (WF none) n P Q {a with defers:={target:= .collected w.heap.size,args:=#[]} :: a.defers} W') :
  (Code.rangeFunc g ps assign body).wpIn (WF none) n P Q a w:=by
 refine wpIn_rangeFunc ?_
 intro fn hfn
 obtain ⟨W1,hW1⟩:∃W1,(w.alloc (.deferred (some []))).alloc (.loop (yag fn a.tmps ps assign body w.heap.size .ready none))=W1:=⟨_,rfl⟩
 have hL1:W1.heap[w.heap.size+1]? =some (.loop (yag fn a.tmps ps assign body w.heap.size .ready none)):=by
  rw [←hW1]; have:=World.alloc_heap_new (w.alloc (.deferred (some []))) (.loop (yag fn a.tmps ps assign body w.heap.size .ready none)); rwa [zzN] at this
 have hB1:Below w.heap.size w W1:=by rw [←hW1]; exact ((Below.refl _ w).alloc (zG _) _).alloc (by simp) _
 have hK1:W1.heap[w.heap.size]? =some (.deferred (some [])):=by
  rw [←hW1]; exact (Below.heap_alloc _ _ _ (by simp)).trans (World.alloc_heap_new w _)
 have hlt:=hIl 0 Ow w h0
 have hJ:RJ (yag fn a.tmps ps assign body w.heap.size .ready none) (w.heap.size+1) (some w.heap.size) I 0 (fun b=>Ow b∨b=w.heap.size+1∨some w.heap.size=some b) W1:=
  ⟨Ow,fun b=>Iff.rfl,fun h=>by have:=hlt _ h; omega,fun d hd=>by cases hd; exact ⟨fun h=>by have:=hlt _ h; omega,by omega,hK1⟩,hI 0 Ow w W1 h0 hB1.size (fun b hb=>hB1.block b (hlt b hb)),hL1⟩
 have hlc:=yai hL1
 have hC:=ygU (P:=P) (n:=n) (fn:=fn) (tmps:=a.tmps) (D:=w.heap.size) (l:=w.heap.size+1) (Dk:=some w.heap.size) xs hps hI hIx hIl hIxl A hA Ow (fun b=>Ow b∨b=w.heap.size+1∨some w.heap.size=some b) w W1 (by omega) (fun O O1 W hO hG=>⟨fun b hb=>by
   have hb2:=hlt b hb
   rcases (hO b).mp (hG.sub b (.inl hb)) with h | h | h
   ·exact h
   ·omega
   ·cases h; omega,fun b hb=>by
   rcases hG.new b ((hO b).mpr (.inl hb)) with (h | h | h) | h
   ·exact .inl h
   ·exact .inr (by omega)
   ·cases h; exact .inr (by omega)
   ·exact .inr (by have:=hB1.size; omega),(Eff.of_below (O:=Ow) hB1).trans hG.eff fun b hb=>by
   rcases hb with h | h | h
   ·exact .inl h
   ·exact .inr (by omega)
   ·cases h; exact .inr (by omega)⟩) (hassign (w.heap.size+1)) (fun k O a' W hk hG=>hbody (w.heap.size+1) k O a' W hk hG (by omega))
 have hcall:=hseq _ _ _ _ W1 (fun b hb=>by rcases hb with h | h | h; exact .inl h; exact .inr (by omega); exact .inr (by cases h; omega)) hB1 hC hJ
 refine ⟨w.heap.size+1,[{target:= .collected w.heap.size,args:=#[]}],W1,{target:= .fn (.func gf) lb,args:=#[.func (.yield (w.heap.size+1)) #[] #[]]},W1,gf,
  #[.func (.yield (w.heap.size+1)) #[] #[]] ++ lb,W1,?_,?_,fun _ _=>trivial,?_,(fun h=>nomatch h),?_⟩
 ·rw [←hW1]; exact run_enterLoop_outer _ _ _ _ _
 ·simp only [resolve,hg]; simp [go_sem]
 ·simp [invoke,go_sem,eg]
 ·refine wf_calls.mpr (hcall.mono ?_)
  have back:∀(X:OwnP) (k:Nat) (O':Nat→Prop) (W2:World) (st:LoopState) (pe:Option Code),ybd X→st≠ .busy→(∀b,Ow b→O' b)→(∀b,O' b→(Ow b∨b=w.heap.size+1∨some w.heap.size=some b)∨W1.heap.size≤b)→
    Eff (fun b=>Ow b∨b=w.heap.size+1∨some w.heap.size=some b) W1 W2→RJ (yag fn a.tmps ps assign body w.heap.size st pe) (w.heap.size+1) (some w.heap.size) X k O' W2→
    (Instr.endLoop (w.heap.size+1)).run P W2= .ok pe (W2.putObj (w.heap.size+1) (.loop (yag fn a.tmps ps assign body w.heap.size .exhausted pe)))∧∃O2,Grow Ow O2 w (W2.putObj (w.heap.size+1) (.loop (yag fn a.tmps ps assign body w.heap.size .exhausted pe)))∧X k O2 (W2.putObj (w.heap.size+1) (.loop (yag fn a.tmps ps assign body w.heap.size .exhausted pe)))∧
      (W2.putObj (w.heap.size+1) (.loop (yag fn a.tmps ps assign body w.heap.size .exhausted pe))).heap[w.heap.size]? =some (.deferred (some []))∧¬O2 w.heap.size:=by
   rintro X k O' W2 st pe hX hst hsub hnew hE ⟨O1,hO,hnl,hD,hi,hl⟩
   have hr:=run_endLoop (P:=P) hl hst
   refine ⟨hr,O1,⟨fun b hb=>?_,fun b hb=>?_,?_⟩,hX _ _ _ _ hi (by rw [World.putObj_size]; exact zG _) (fun b hb=>World.putObj_heap_other (fun e=>hnl (e ▸ hb))),(World.putObj_heap_other (by omega)).trans (hD _ rfl).2.2,(hD _ rfl).1⟩
   ·have hb2:=hlt b hb
    rcases (hO b).mp (hsub b hb) with h | h | h
    ·exact h
    ·omega
    ·cases h; omega
   ·rcases hnew b ((hO b).mpr (.inl hb)) with (h | h | h) | h
    ·exact .inl h
    ·exact .inr (by omega)
    ·cases h; exact .inr (by omega)
    ·exact .inr (by have:=hB1.size; omega)
   ·refine Eff.putObj ((Eff.of_below (O:=Ow) hB1).trans hE fun b hb=>?_) (.inr (by omega)) _
    rcases hb with h | h | h
    ·exact .inl h
    ·exact .inr (by omega)
    ·cases h; exact .inr (by omega)
  rintro e W2 ⟨⟨v,rfl⟩,O',hsub,hnew,hE,hend⟩
  rcases hend with hj | ⟨k,hk1,hk2,c,hj⟩
  ·obtain ⟨h1,O2,h2,h3,h4,h5⟩:=back I xs.length O' W2 .ready none hI (by simp) (fun b hb=>hsub b (.inl hb)) hnew hE hj
   exact ⟨none,_,h1,hdone O2 _ h2 h3 h4 h5⟩
  ·obtain ⟨h1,O2,h2,h3,h4,h5⟩:=back (Ix c) k O' W2 .done (some c) (hIx c) (by simp) (fun b hb=>hsub b (.inl hb)) hnew hE hj
   exact ⟨some c,_,h1,hstop c k O2 _ hk1 hk2 h2 h3 h4 h5⟩
theorem callv2 {r:Option Nat} {n:Nat} {P:Program} {ops:Array Oper} {rest:List Oper} {o:Oper} {a:Act} {Q:Exit→Act→World→Prop} {W:World} (s x z:Operand) (t t2:TypeId)
  (hgd:o.guard=none) (ho:o.op= .call {callee:= .value s,args:=#[x,z],argTypes:=#[t,t2]}) {y u v:Value} (hs:a.eval s=y) (hx:a.eval x=u) (hz:a.eval z=v) {R:Ending→World→Prop}
  (h:CallV P y #[u,v] W R) (hK:∀e W',R e W'→∃v,e= .returned v∧wpListIn (WF r) n P ops Q rest (a.put o.dst v) W') :
  wpListIn (WF r) n P ops Q (o :: rest) a W:=by
 refine wpListIn_plain hgd fun K hK'=>?_
 unfold Oper.wpIn
 refine ⟨fun _ _=>trivial,?_⟩
 rw [Oper.semAt_plain (WF r) _ _ (by rw [ho]; intro c hc; cases hc)]
 rcases h with ⟨f,cap,rfl,he,hc⟩ | ⟨l,fn,tmps,assign,body,rfl,hy,hc⟩
 ·simp [execOp,ho,resolve,invoke,hs,hx,hz,he,Deferred.ofValue]
  rw [Oper.uponIn_enter]
  refine ⟨fun h=>(by cases h),wf_calls.mpr ((show Calls P f (#[u,v] ++ cap) W R from hc).mono fun e w' hr=>?_)⟩
  obtain ⟨v,rfl,hw⟩:=hK e w' hr
  exact hK' _ _ hw
 ·simp [execOp,ho,resolve,invoke,hs,hx,hz,hy,Deferred.ofValue]
  rw [Oper.uponIn_round]
  refine ⟨fun h=>(by cases h),RoundIn.mono (hc _) fun e w' hr=>?_⟩
  obtain ⟨v,rfl,hw⟩:=hK e w' hr
  exact hK' _ _ hw
end
section
abbrev Blk:=Nat→Prop
end
end Go.Proofs.YtkpgfmonhfnhdaaGreatDoor
