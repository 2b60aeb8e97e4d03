/-
  What civil.Date, civil.Ordinal, feriaref05.Date and feriaref05.Ordinal compute, of the window's days.
  What a day of the window is: week.Shape and feriaref06.Shape.
  What tod.Of, tod.Parts, tod.In, tod.Next and feriaref07.In compute.
-/
import Derived.Test.YtkpgfmonhfnhdaaGreatDoorQ5411a8
import Derived.Scope
import Derived.Deep.MidRow
import Derived.Test.YtkpgfmonhfnhdaaGreatDoorQd4b665
namespace Go.Proofs.YtkpgfmonhfnhdaaGreatDoor
set_option linter.unusedVariables false
section
open Go.RowKit
theorem yd4 {fn:Func} {t u v x:Tmp} (h:fn.results= #[.tmp t, .tmp u, .tmp v, .tmp x]) (tmps:Array Value) (P:Program) (w:World) :
  (results fn tmps).run P w= .ok (.tuple #[tmps.getD t undef,tmps.getD u undef,tmps.getD v undef,tmps.getD x undef]) w:=by
 simp [results,h]
theorem yhB {n:Int} (h0:0≤n) (h1:n < 146097):0≤fK n∧fK n < 400∧0≤fL n∧fL n < 366:=by
 obtain ⟨m,e,hd,h⟩:=yjw n h0 h1
 exact h
set_option maxHeartbeats 1600000 in
theorem yhd (n:Int) (w:World) (h0:0≤n) (h1:n < 146097):Calls Tryz.prog 112 #[.int .i64 n] w fun e w'=>e= .returned (.tuple #[.int .i64 (fY n), .int .i64 (fMo n), .int .i64 (fD n), .bool true])∧Below w.heap.size w w':=by
 obtain ⟨y0,y1,m0,m1,d0,d1⟩:=yas h0 h1
 obtain ⟨k0,k1,l0,l1⟩:=yhB h0 h1
 have c1:=hid (fun W=>yeY n 365 W h0 (by omega) (by omega))
 have c2:=hid (fun W=>yeY (n+719468) 146097 W (by omega) (by omega) (by omega))
 have c3:=hid (fun W=>ygf (n+719468) 146097 W (by omega) (by omega))
 have c4:=hid (fun W=>yiZ (fY n) (fMo n) (fD n) W (by omega) (by omega) m0 m1 d0 d1)
 have eO:Hid ((n+719468) % 146097=fO n):=rfl
 have eN:Hid ((n+719468) / 146097=fN n / 146097):=rfl
 have eK:Hid ((fO n - fO n / 1460+fO n / 36524 - fO n / 146096) / 365=fK n):=rfl
 have eL:Hid (fO n - (fK n * 365+fK n / 4 - fK n / 100)=fL n):=rfl
 have eM:Hid ((5 * fL n+2) / 153=fM n):=rfl
 have eD:Hid (fL n - (153 * fM n+2) / 5+1=fD n):=rfl
 have eMo:Hid ((fM n+2) % 12+1=fMo n):=rfl
 have eY:Hid (fN n / 146097 * 400+fK n+(if fMo n≤2 then 1 else 0)=fY n):=rfl
 have bO:0≤fO n∧fO n < 146097:=by unfold fO; omega
 have bN:0≤fN n / 146097∧fN n / 146097≤10:=by unfold fN; omega
 have bM:0≤fM n∧fM n≤12:=by unfold fM; omega
 obtain ⟨o,ho⟩:∃o,fO n=o:=⟨_,rfl⟩
 obtain ⟨er,her⟩:∃o,fN n / 146097=o:=⟨_,rfl⟩
 obtain ⟨k,hk⟩:∃o,fK n=o:=⟨_,rfl⟩
 obtain ⟨l,hl⟩:∃o,fL n=o:=⟨_,rfl⟩
 obtain ⟨mp,hmp⟩:∃o,fM n=o:=⟨_,rfl⟩
 obtain ⟨d,hd⟩:∃o,fD n=o:=⟨_,rfl⟩
 obtain ⟨mo,hmo⟩:∃o,fMo n=o:=⟨_,rfl⟩
 obtain ⟨y,hy⟩:∃o,fY n=o:=⟨_,rfl⟩
 rw [ho] at eO eK eL bO
 rw [her] at eN eY bN
 rw [hk] at eK eL eY k0 k1
 rw [hl] at eL eM eD l0 l1
 rw [hmp] at eM eD eMo bM
 rw [hd] at eD c4 d0 d1⊢
 rw [hmo] at eMo eY c4 m0 m1 d1⊢
 rw [hy] at eY c4 y0 y1 d1⊢
 rw [eO.out] at c3
 rw [eN.out] at c2
 clear ho her hk hl hmp hd hmo hy eO eN d1
 obtain ⟨o0,o1⟩:=bO
 obtain ⟨e0,e1⟩:=bN
 obtain ⟨mp0,mp1⟩:=bM
 have q1:0≤n / 365∧n / 365≤1000:=by omega
 go_enter Tryz.func112,Tryz.ntmps112
 go_wp2_with fail
 refine (c1.out _).mono ?_
 rintro e w' ⟨rfl,rfl⟩
 obtain ⟨q10,q11⟩:=q1
 go_wp2_with fail
 refine (c1.out _).mono ?_
 rintro e w' ⟨rfl,rfl⟩
 go_wp2_with fail
 refine (c2.out _).mono ?_
 rintro e w' ⟨rfl,rfl⟩
 go_wp2_with fail
 refine (c3.out _).mono ?_
 rintro e w' ⟨rfl,rfl⟩
 have eK':=eK.out
 have eL':=eL.out
 have eM':=eM.out
 have eD':=eD.out
 have eMo':=eMo.out
 by_cases hm2:mo≤2
 all_goals
  have hy2:=eY.out
  first | rw [if_pos hm2] at hy2 | rw [if_neg hm2,Int.add_zero] at hy2
  go_wp2_with fail
  refine (c4.out _).mono ?_
  rintro e w' ⟨rfl,hB⟩
  have HB:=hid hB
  clear hB
  go_wp2
  refine bodyPost_ret (yd4 rfl _ _ _) rfl ?_
  exact ⟨rfl,HB.out⟩
theorem ord_eq {n y:Int} {m:Nat} {d:Int} (h:IsDate n y m d):msI y m+d=n - ysI y+1:=by have:=h.sum; omega
def fOr (n:Int):Int:=n - ysI (fY n)+1
theorem yiz {n:Int} (h0:0≤n) (h1:n < 146097):msI (fY n) (fMo n).toNat+fD n=fOr n∧1≤fOr n∧fOr n≤365+yaI (fY n):=by
 obtain ⟨m,e,hd,_⟩:=yjw n h0 h1
 have h:=ord_eq hd
 have h2:=yfd hd.m0 hd.m1 hd.d0 hd.d1
 rw [e,Int.toNat_natCast]
 unfold fOr
 omega
theorem yeG (y:Int):msI y 1=0:=rfl
set_option maxHeartbeats 1600000 in
theorem yiY (y:Int) (m:Nat) (d:Int) (w:World) (h0:0≤y) (hy:y≤3000) (h1:1≤m) (h2:m≤12) (h3:1≤d) (h4:d≤lenI y m) :
  Calls Tryz.prog 113 #[.int .i64 y, .int .i64 m, .int .i64 d] w fun e w'=>e= .returned (.tuple #[.int .i64 (msI y m+d), .bool true])∧Below w.heap.size w w':=by
 have c1:=hid (yiZ y m d w h0 hy (by omega) (by omega) h3 h4)
 have c2:=hid (fun (k:Nat) W (a:1≤k) (b:k≤12)=>yc7 y k W h0 (by omega) (by omega))
 have hn:=hid (fun k a b=>yc2 y k a b)
 have hb:=ybr y m
 have hl:=hid (fun k a b=>(yfd (y:=y) (m:=k) (d:=1) a b (by omega) (by have:=ybr y k; omega)))
 have hlb:=hid (fun (k:Int)=>ybr y k)
 have hlp:=ybu y
 have hd32:d≤31:=by omega
 clear h4 hb
 go_enter Tryz.func113,Tryz.ntmps113
 go_wp2_with fail
 refine wp_scope_straight ?_
 go_wp2_with fail
 refine c1.out.mono ?_
 rintro e w1 ⟨rfl,hB1⟩
 have HB1:=hid hB1
 clear hB1 c1
 go_wp2_with fail
 refine wp_label ?_
 go_wp2_with fail
 go_loopw [8,9] (fun v i wr=>∃k:Nat,i= .int .i64 k∧1≤k∧k≤m∧v= .int .i64 (msI y k+d)∧Hid (Below w.heap.size w wr)∧w.heap.size≤wr.heap.size) (fun _ i _=>(13 - intOf i).toNat)
 case atStart=>exact ⟨1,rfl,by omega,h1,by rw [yeG,Int.zero_add],HB1.out,HB1.out.size⟩
 case round=>
  obtain ⟨k,rfl,hk1,hkm,rfl,HB,hsz⟩:=hrel
  have b1:=hl.out k hk1 (by omega)
  by_cases hk:k=m
  ·subst hk
   have hbq:((k:Int) == (k:Int))=true:=by simp
   have hk12:(k:Int)≤12:=by omega
   clear hn hl
   obtain ⟨q,hq⟩:∃q,msI y k=q:=⟨_,rfl⟩
   rw [hq] at b1⊢
   have Hq:=hid hq
   clear hq
   go_wp2
   simp only [Exit.noGoto]
   go_ret2
   exact ⟨by rw [Hq.out]; rfl,HB.out⟩
  ·have hk12:k < 12:=by omega
   have hbq:((k:Int) == (m:Int))=false:=by simp; omega
   have hkI:(k:Int)≤12:=by omega
   have hnx:=hid (hn.out k hk1 hk12)
   have c2':=hid (c2.out k wr hk1 (by omega))
   have hlk:=hlb.out k
   obtain ⟨q,hq⟩:∃q,msI y k=q:=⟨_,rfl⟩
   obtain ⟨lk,hlk2⟩:∃q,lenI y k=q:=⟨_,rfl⟩
   rw [hq] at b1 hnx⊢
   rw [hlk2] at hnx c2' hlk
   have hklt:k < m:=by omega
   clear hq hlk2 hn hl c2 hlb hk
   go_wp2_with fail
   refine c2'.out.mono ?_
   rintro e w2 ⟨rfl,hB2⟩
   have HB2:Hid (Below w.heap.size w w2):=HB.out.trans (hB2.mono hsz)
   have hsz2:w.heap.size≤w2.heap.size:=zI hsz hB2.size
   clear hB2
   go_wp2
   exact ⟨⟨k+1,by go_num,by omega,by omega,by rw [hnx.out]; congr 1; omega,HB2.out,hsz2⟩,by simp [intOf]; omega⟩
set_option maxHeartbeats 1600000 in
theorem ROrd_any (y:Int) (m:Nat) (d:Int) (w:World) (h0:0≤y) (hy:y≤3000) (h1:1≤m) (h2:m≤12) (h3:1≤d) (h4:d≤31) :
  Calls Tryz.prog 76 #[.int .i64 y, .int .i64 m, .int .i64 d] w fun e w'=>e= .returned (.int .i64 (msI y m+d))∧w=w':=by
 have c2:=hid (fun (k:Nat) W (a:1≤k) (b:k≤12)=>ydj y k W h0 (by omega) (by omega))
 have hn:=hid (fun k a b=>yc2 y k a b)
 have hl:=hid (fun k a b=>(yfd (y:=y) (m:=k) (d:=1) a b (by omega) (by have:=ybr y k; omega)))
 have hlb:=hid (fun (k:Int)=>ybr y k)
 have hlp:=ybu y
 go_enter Tryz.func76,Tryz.ntmps76
 go_wp2_with fail
 go_loopw [7,8] (fun v i wr=>∃k:Nat,i= .int .i64 k∧1≤k∧k≤m∧v= .int .i64 (msI y k+d)∧wr=w) (fun _ i _=>(13 - intOf i).toNat)
 case atStart=>exact ⟨1,rfl,by omega,h1,by rw [yeG,Int.zero_add],rfl⟩
 case round=>
  obtain ⟨k,rfl,hk1,hkm,rfl,rfl⟩:=hrel
  have b1:=hl.out k hk1 (by omega)
  by_cases hk:k=m
  ·subst hk
   clear hn hl
   obtain ⟨q,hq⟩:∃q,msI y k=q:=⟨_,rfl⟩
   rw [hq] at b1⊢
   have Hq:=hid hq
   clear hq
   go_wp2
   go_ret
   exact ⟨by rw [Hq.out]; rfl,rfl⟩
  ·have hk12:k < 12:=by omega
   have hkI:(k:Int) < (m:Int):=by omega
   have hnx:=hid (hn.out k hk1 hk12)
   have c2':=hid (c2.out k wr hk1 (by omega))
   have hlk:=hlb.out k
   obtain ⟨q,hq⟩:∃q,msI y k=q:=⟨_,rfl⟩
   obtain ⟨lk,hlk2⟩:∃q,lenI y k=q:=⟨_,rfl⟩
   rw [hq] at b1 hnx⊢
   rw [hlk2] at hnx c2' hlk
   clear hq hlk2 hn hl c2 hlb hk
   go_wp2_with fail
   refine c2'.out.mono ?_
   rintro e w' ⟨rfl,rfl⟩
   go_wp2
   exact ⟨⟨k+1,by go_num,by omega,by omega,by rw [hnx.out]; congr 1; omega,by trivial⟩,by simp [intOf]; omega⟩
set_option maxHeartbeats 1600000 in
theorem yg4 (n:Int) (w:World) (h0:0≤n) (h1:n < 146097):Calls Tryz.prog 73 #[.int .i64 n] w fun e w'=>e= .returned (.tuple #[.int .i64 (fY n), .int .i64 (fMo n), .int .i64 (fD n), .bool true])∧w=w':=by
 obtain ⟨M,eM,hD,_⟩:=yjw n h0 h1
 have hz:n / 146097=0:=by omega
 have c1:=hid (fun W=>ydX n 146097 W h0 (by omega) (by omega))
 rw [hz] at c1
 have c2:=hid (fun y W (h:0≤y)=>ygY y W h)
 have c3:=hid (fun y m W (h:0≤y) a b=>ydj y m W h a b)
 rw [eM]
 obtain ⟨Y,hY⟩:∃y,fY n=y:=⟨_,rfl⟩
 obtain ⟨Dd,hd⟩:∃y,fD n=y:=⟨_,rfl⟩
 rw [hY,hd] at hD⊢
 have HD:=hid hD
 have hyn:=hid yef
 have hnx:=hid (fun k a b=>yc2 Y k a b)
 have hlt:=hid (fun (y:Int) (h:y < Y)=>ysI_lt h)
 have hbd:=hid (yfd hD.m0 hD.m1 hD.d0 hD.d1)
 have hy0:=hD.y0
 have hy1:=hD.y1
 clear hD hY hd eM hz
 go_enter Tryz.func73,Tryz.ntmps73
 go_wp2_with fail
 refine (c1.out _).mono ?_
 rintro e w' ⟨rfl,rfl⟩
 go_wp2_with fail
 go_loopw [7,8] (fun l v wr=>∃y:Int,v= .int .i64 y∧1970≤y∧y≤Y∧l= .int .i64 (n - ysI y)∧ysI y≤n∧0≤ysI y∧wr=w) (fun _ v _=>(3000 - intOf v).toNat)
 case atStart=>exact ⟨1970,rfl,by omega,hy0,by rw [yen,Int.sub_zero],by rw [yen]; exact h0,by rw [yen]; omega,rfl⟩
 case round=>
  obtain ⟨y,rfl,hy2,hy3,rfl,hy4,hy5,rfl⟩:=hrel
  have c2':=hid (c2.out y wr (by omega))
  have hl:=ybu y
  by_cases hk:y < Y
  ·have hge:ysI y+365+yaI y≤n:=by
    have:=hlt.out y hk
    have h3:=HD.out.sum
    have h4:=hbd.out
    omega
   have hyn':=hid (hyn.out y)
   obtain ⟨s,hs⟩:∃s,ysI y=s:=⟨_,rfl⟩
   obtain ⟨l,hll⟩:∃s,yaI y=s:=⟨_,rfl⟩
   rw [hs] at hge hyn' hy4 hy5⊢
   rw [hll] at hge hyn' c2' hl
   clear hs hll hyn hlt
   go_wp2_with fail
   refine c2'.out.mono ?_
   rintro e w' ⟨rfl,rfl⟩
   go_wp2_with fail
   refine c2'.out.mono ?_
   rintro e w' ⟨rfl,rfl⟩
   go_wp2
   exact ⟨⟨y+1,rfl,by omega,by omega,by rw [hyn'.out]; congr 1; omega,by rw [hyn'.out]; omega,by rw [hyn'.out]; omega,by trivial⟩,by simp [intOf]; omega⟩
  ·obtain rfl:y=Y:=by omega
   have hb2:=hbd.out
   have hsum:=HD.out.sum
   have hlt2:n - ysI y < 365+yaI y:=by omega
   obtain ⟨L,hL⟩:∃s,n - ysI y=s:=⟨_,rfl⟩
   obtain ⟨l,hll⟩:∃s,yaI y=s:=⟨_,rfl⟩
   have hL0:0≤L:=by omega
   have HL:Hid (L=msI y M+Dd - 1):=by show _ = _; omega
   rw [hL] at hlt2⊢
   rw [hll] at hlt2 c2' hl
   have hM:=hid HD.out.m1
   have hM0:=hid HD.out.m0
   have hd0:=HD.out.d0
   have hd1:=hid HD.out.d1
   clear hL hll hyn hlt hbd HD hb2 hsum hy4 hy5
   go_wp2_with fail
   refine c2'.out.mono ?_
   rintro e w' ⟨rfl,rfl⟩
   go_wp2_with fail
   obtain ⟨wo,rfl⟩:∃wo:World,wo=wr:=⟨_,rfl⟩
   go_loopw [7,9] (fun r i wq=>∃k:Nat,i= .int .i64 k∧1≤k∧k≤M∧r= .int .i64 (L - msI y k)∧0≤L - msI y k∧0≤msI y k∧wq=wo) (fun _ i _=>(13 - intOf i).toNat)
   case atStart=>exact ⟨1,rfl,by omega,hM0.out,by rw [yeG,Int.sub_zero],by rw [yeG]; omega,by rw [yeG]; omega,by trivial⟩
   case round=>
    obtain ⟨k,rfl,hk1,hkm,rfl,hk3,hk4,rfl⟩:=hrel
    have hk12:(k:Int)≤12:=by have:=hM.out; omega
    have c3':=hid (c3.out y k wr (by omega) (by omega) hk12)
    have hlk:=ybr y k
    by_cases hkM:k=M
    ·subst hkM
     have hlt3:L - msI y k < lenI y k:=by have:=HL.out; have:=hd1.out; omega
     have HR:Hid (L - msI y k+1=Dd):=by show _ = _; have:=HL.out; omega
     obtain ⟨q,hq⟩:∃q,msI y k=q:=⟨_,rfl⟩
     obtain ⟨lk,hlk2⟩:∃q,lenI y k=q:=⟨_,rfl⟩
     rw [hq] at hk3 hk4 HR hlt3⊢
     rw [hlk2] at c3' hlk hlt3
     clear hq hlk2 hnx
     go_wp2_with fail
     refine c3'.out.mono ?_
     rintro e w' ⟨rfl,rfl⟩
     go_wp2
     refine bodyPost_ret (yd4 rfl _ _ _) rfl ?_
     rw [←HR.out]
     exact ⟨rfl,rfl⟩
    ·have hge:lenI y k≤L - msI y k:=by
      have:=msI_lt (y:=y) hk1 (show k < M by omega) hM.out
      have:=HL.out
      omega
     have hnx':=hid (hnx.out k hk1 (by have:=hM.out; omega))
     obtain ⟨q,hq⟩:∃q,msI y k=q:=⟨_,rfl⟩
     obtain ⟨lk,hlk2⟩:∃q,lenI y k=q:=⟨_,rfl⟩
     rw [hq] at hk3 hk4 hnx' hge⊢
     rw [hlk2] at c3' hlk hge hnx'
     clear hq hlk2 hnx
     go_wp2_with fail
     refine c3'.out.mono ?_
     rintro e w' ⟨rfl,rfl⟩
     go_wp2_with fail
     refine c3'.out.mono ?_
     rintro e w' ⟨rfl,rfl⟩
     go_wp2
     exact ⟨⟨k+1,by go_num,by omega,by omega,by rw [hnx'.out]; congr 1; omega,by rw [hnx'.out]; omega,by rw [hnx'.out]; omega,by trivial⟩,by simp [intOf]; omega⟩
end
section
open Go.RowKit
abbrev sh10 (n y m d b wk i1 i2 i3 i4:Int):Value:= .agg #[.int .i64 n, .int .i64 y, .int .i64 m, .int .i64 d, .int .i64 b, .int .i64 wk, .int .i64 i1, .int .i64 i2, .int .i64 i3, .int .i64 i4]
abbrev shv (n y m d o:Int):Value:=sh10 n y m d (lenI y m - d+1) ((n % 7+3) % 7+1) ((d - 1) / 7+1) ((lenI y m - d) / 7+1) ((o - 1) / 7+1) ((365+yaI y - o) / 7+1)
def shN (n:Int):Value:=shv n (fY n) (fMo n) (fD n) (fOr n)
theorem WkDay_any (n:Int) (w:World) (h0:0≤n):Calls Tryz.prog 156 #[.int .i64 n] w fun e w'=>e= .returned (.int .i64 ((n % 7+3) % 7+1))∧w=w':=by
 have c1:=hid (fun W=>ygf n 7 W h0 (by omega))
 have c2:=hid (fun W=>ygf (n % 7+3) 7 W (by omega) (by omega))
 have b1:0≤n % 7∧n % 7 < 7:=by omega
 have b2:0≤(n % 7+3) % 7∧(n % 7+3) % 7 < 7:=by omega
 obtain ⟨q,hq⟩:∃q,(n % 7+3) % 7=q:=⟨_,rfl⟩
 rw [hq] at c2 b2⊢
 obtain ⟨p,hp⟩:∃q,n % 7=q:=⟨_,rfl⟩
 rw [hp] at c1 c2 b1
 clear hp hq
 go_enter Tryz.func156,Tryz.ntmps156
 go_wp2_with fail
 refine (c1.out _).mono ?_
 rintro e w' ⟨rfl,rfl⟩
 go_wp2_with fail
 refine (c2.out _).mono ?_
 rintro e w' ⟨rfl,rfl⟩
 go_wp2
 go_ret
 exact ⟨rfl,rfl⟩
theorem ygT (a l:Int) (w:World) (h1:1≤a) (h2:a≤l) (h3:l≤400):Calls Tryz.prog 157 #[.int .i64 a, .int .i64 l] w fun e w'=>e= .returned (.tuple #[.int .i64 ((a - 1) / 7+1), .int .i64 ((l - a) / 7+1)])∧w=w':=by
 have b1:0≤(a - 1) / 7∧(a - 1) / 7≤400:=by omega
 have b2:0≤(l - a) / 7∧(l - a) / 7≤400:=by omega
 have n1:¬a < 1:=by omega
 have n2:¬l < a:=by omega
 go_enter Tryz.func157,Tryz.ntmps157
 go_wp2
 go_ret2
 exact ⟨rfl,rfl⟩
theorem yfs (a l:Int) (w:World) (h1:1≤a) (h2:a≤l) (h3:l≤400):Calls Tryz.prog 75 #[.int .i64 a, .int .i64 l] w fun e w'=>e= .returned (.tuple #[.int .i64 ((a - 1) / 7+1), .int .i64 ((l - a) / 7+1)])∧w=w':=by
 have b1:0≤(a - 1) / 7∧(a - 1) / 7≤400:=by omega
 have b2:0≤(l - a) / 7∧(l - a) / 7≤400:=by omega
 have n1:¬a < 1:=by omega
 have n2:¬l < a:=by omega
 go_enter Tryz.func75,Tryz.ntmps75
 go_wp2
 go_ret2
 exact ⟨rfl,rfl⟩
theorem RDay_any (n:Int) (w:World) (h0:0≤n) (h1:n≤9223372036854775807):Calls Tryz.prog 78 #[.int .i64 n] w fun e w'=>e= .returned (.int .i64 ((n % 7+3) % 7+1))∧w=w':=by
 have c1:=hid (fun W=>yiR n 7 W h0 (by omega) h1)
 obtain ⟨p,hp⟩:∃p:Nat,n % 7=p:=⟨(n % 7).toNat,by omega⟩
 have hp7:p < 7:=by omega
 rw [hp] at c1⊢
 clear hp
 go_enter Tryz.func78,Tryz.ntmps78
 go_wp2_with fail
 refine (c1.out _).mono ?_
 rintro e w' ⟨rfl,rfl⟩
 go_wp2_with fail
 go_loopw [4,5] (fun v i wr=>∃k:Nat,i= .int .i64 k∧k≤p∧v= .int .i64 (((k+3) % 7+1:Nat):Int)∧wr=w) (fun _ i _=>p - (intOf i).toNat)
 case atStart=>exact ⟨0,rfl,by omega,rfl,rfl⟩
 case round=>
  obtain ⟨k,rfl,hk,rfl,rfl⟩:=hrel
  have hs:Hid ((((k+3) % 7+1) % 7+1:Nat)= (k+1+3) % 7+1):=by show _ = _; omega
  have hR:Hid (k=p→((((k+3) % 7+1:Nat)):Int)= ((p:Int)+3) % 7+1):=fun e=>by rw [e]; omega
  obtain ⟨q,hq⟩:∃q:Nat,(k+3) % 7+1=q:=⟨_,rfl⟩
  have hqb:q≤7:=by omega
  rw [hq] at hs hR⊢
  clear hq
  by_cases hlt:k < p
  ·have hkI:(k:Int) < (p:Int):=by omega
   go_wp2
   exact ⟨⟨k+1,by go_num,by omega,by rw [←hs.out]; congr 1,trivial⟩,by simp [intOf]; omega⟩
  ·have hkp:=hR.out (by omega)
   have Hkp:=hid hkp
   clear hkp
   go_wp2
   go_ret
   exact ⟨by rw [←Hkp.out]; rfl,by trivial⟩
/-! ### a struct that is handed back out of its block -/
theorem yac {P:Program} {fn:Func} {p:Tmp} {ty:TypeId} (h:fn.results= #[.cell p ty]) (tmps:Array Value) (w:World) (b o:Nat) (cs:List Value) (d:TypeDesc)
  (hp:tmps.getD p undef= .pointer (some ⟨b,o,none⟩)) (hc:w.rangeAt b o cs) (hu:P.underlying ty=some d) (hd:d.isRow=true) (hi:(P.info? ty).map (·.size)=some cs.length) :
  (results fn tmps).run P w= .ok (.agg cs.toArray) w:=by
 have hp':tmps[p]?.getD undef= .pointer (some ⟨b,o,none⟩):=by simpa using hp
 simp [results,h,hp',asAddr,run_loadVar_mid w b o ty cs d hc hu hd hi]
theorem ybo {P:Program} {fn:Func} {p t:Tmp} {ty:TypeId} (h:fn.results= #[.cell p ty, .tmp t]) (tmps:Array Value) (w:World) (b o:Nat) (cs:List Value) (d:TypeDesc)
  (hp:tmps.getD p undef= .pointer (some ⟨b,o,none⟩)) (hc:w.rangeAt b o cs) (hu:P.underlying ty=some d) (hd:d.isRow=true) (hi:(P.info? ty).map (·.size)=some cs.length) :
  (results fn tmps).run P w= .ok (.tuple #[.agg cs.toArray,tmps.getD t undef]) w:=by
 have hp':tmps[p]?.getD undef= .pointer (some ⟨b,o,none⟩):=by simpa using hp
 simp [results,h,hp',asAddr,run_loadVar_mid w b o ty cs d hc hu hd hi]
theorem yaV {B:Nat} {a:World} {b:Nat} (hb:B≤b):∀(vs:List Value) (o:Nat) (w:World),Below B a w→Below B a (w.setCells b o vs)
 | [],_,_,h=>h
 | v :: vs,o,w,h=>by rw [World.setCells]; exact yaV hb vs (o+1) _ (yab h hb)
theorem yfL {W:World} {b o:Nat} {cs:List Value} (h:W.rangeAt b o cs) (hb:b < W.heap.size) (x:Obj):(W.alloc x).rangeAt b o cs:=fun j v hv=>
 ((yaa (Below.refl _ W) (zG _)).cell (p:=⟨b,o+j,none⟩) hb).trans (h j v hv)
theorem yda {W W':World} {b o n B:Nat} (h:W.there b o n) (hb:Below B W W') (hB:b < B):W'.there b o n:=fun j hj=>by
 obtain ⟨h1,h2⟩:=h j hj
 exact ⟨by rw [hb.cell (p:=⟨b,o+j,none⟩) hB]; exact h1,(hb.frozen (p:=⟨b,o+j,none⟩) hB).trans h2⟩
def Z10 (W:World) (b:Nat):Prop:=∀i,i < 10→W.cell? ⟨b,i,none⟩=some (.int .i64 0)∧W.frozen? ⟨b,i,none⟩=false
theorem Z10.below {W W':World} {b B:Nat} (h:Z10 W b) (hb:Below B W W') (hB:b < B):Z10 W' b:=fun i hi=>⟨(hb.cell (p:=⟨b,i,none⟩) hB).trans (h i hi).1,(hb.frozen (p:=⟨b,i,none⟩) hB).trans (h i hi).2⟩
theorem z10_new (w:World) (t:TypeId):Z10 (w.alloc (.cells #[.int .i64 0, .int .i64 0, .int .i64 0, .int .i64 0, .int .i64 0, .int .i64 0, .int .i64 0, .int .i64 0, .int .i64 0, .int .i64 0] t)) w.heap.size:=by
 intro i hi
 have:i=0∨i=1∨i=2∨i=3∨i=4∨i=5∨i=6∨i=7∨i=8∨i=9:=by omega
 rcases this with rfl | rfl | rfl | rfl | rfl | rfl | rfl | rfl | rfl | rfl <;> exact ⟨by simp [go_sem],by simp [go_sem]⟩
theorem Z10.there {W:World} {b:Nat} (h:Z10 W b):W.there b 0 10:=fun j hj=>by
 rw [Nat.zero_add]
 exact ⟨by rw [(h j hj).1]; rfl,(h j hj).2⟩
theorem Z10.all {W:World} {b:Nat} (h:Z10 W b):(W.cell? ⟨b,0,none⟩=some (.int .i64 0)∧W.cell? ⟨b,1,none⟩=some (.int .i64 0)∧W.cell? ⟨b,2,none⟩=some (.int .i64 0)∧W.cell? ⟨b,3,none⟩=some (.int .i64 0)∧W.cell? ⟨b,4,none⟩=some (.int .i64 0)∧
  W.cell? ⟨b,5,none⟩=some (.int .i64 0)∧W.cell? ⟨b,6,none⟩=some (.int .i64 0)∧W.cell? ⟨b,7,none⟩=some (.int .i64 0)∧W.cell? ⟨b,8,none⟩=some (.int .i64 0)∧W.cell? ⟨b,9,none⟩=some (.int .i64 0))∧
  (W.frozen? ⟨b,0,none⟩=false∧W.frozen? ⟨b,1,none⟩=false∧W.frozen? ⟨b,2,none⟩=false∧W.frozen? ⟨b,3,none⟩=false∧W.frozen? ⟨b,4,none⟩=false∧
  W.frozen? ⟨b,5,none⟩=false∧W.frozen? ⟨b,6,none⟩=false∧W.frozen? ⟨b,7,none⟩=false∧W.frozen? ⟨b,8,none⟩=false∧W.frozen? ⟨b,9,none⟩=false):=
 ⟨⟨(h 0 (by omega)).1,(h 1 (by omega)).1,(h 2 (by omega)).1,(h 3 (by omega)).1,(h 4 (by omega)).1,(h 5 (by omega)).1,(h 6 (by omega)).1,(h 7 (by omega)).1,(h 8 (by omega)).1,(h 9 (by omega)).1⟩,
  (h 0 (by omega)).2,(h 1 (by omega)).2,(h 2 (by omega)).2,(h 3 (by omega)).2,(h 4 (by omega)).2,(h 5 (by omega)).2,(h 6 (by omega)).2,(h 7 (by omega)).2,(h 8 (by omega)).2,(h 9 (by omega)).2⟩
theorem ten_range {W:World} {b:Nat} (h:Z10 W b) (vs:List Value) (hl:vs.length=10):(W.setCells b 0 vs).rangeAt b 0 vs:=World.rangeAt_setCells_same _ _ _ _ (by rw [hl]; exact h.there)
abbrev ten (W:World) (b:Nat) (v0 v1 v2 v3 v4 v5 v6 v7 v8 v9:Value):World:=
 (((((((((W.setCell ⟨b,0,none⟩ v0).setCell ⟨b,1,none⟩ v1).setCell ⟨b,2,none⟩ v2).setCell ⟨b,3,none⟩ v3).setCell ⟨b,4,none⟩ v4).setCell ⟨b,5,none⟩ v5).setCell ⟨b,6,none⟩ v6).setCell ⟨b,7,none⟩ v7).setCell ⟨b,8,none⟩ v8).setCell ⟨b,9,none⟩ v9
theorem ten_eq (W:World) (b:Nat) (v0 v1 v2 v3 v4 v5 v6 v7 v8 v9:Value):ten W b v0 v1 v2 v3 v4 v5 v6 v7 v8 v9=W.setCells b 0 [v0,v1,v2,v3,v4,v5,v6,v7,v8,v9]:=rfl
theorem yh2 (W:World) (b:Nat) (v0 v1 v2 v3 v4 v5 v6 v7 v8 v9:Value):(ten W b v0 v1 v2 v3 v4 v5 v6 v7 v8 v9).heap.size=W.heap.size:=by simp [ten]
theorem ygp {B:Nat} {a W:World} {b:Nat} (h:Below B a W) (hb:B≤b) (v0 v1 v2 v3 v4 v5 v6 v7 v8 v9:Value):Below B a (ten W b v0 v1 v2 v3 v4 v5 v6 v7 v8 v9):=by
 rw [ten_eq]; exact yaV hb _ _ _ h
theorem ten_at {W:World} {b:Nat} (h:Z10 W b) (v0 v1 v2 v3 v4 v5 v6 v7 v8 v9:Value):(ten W b v0 v1 v2 v3 v4 v5 v6 v7 v8 v9).rangeAt b 0 [v0,v1,v2,v3,v4,v5,v6,v7,v8,v9]:=by
 rw [ten_eq]; exact ten_range h _ rfl
theorem ten_at' {W:World} {b:Nat} (h:Z10 W b) (hb:b < W.heap.size) (o:Obj) (v0 v1 v2 v3 v4 v5 v6 v7 v8 v9:Value):((ten W b v0 v1 v2 v3 v4 v5 v6 v7 v8 v9).alloc o).rangeAt b 0 [v0,v1,v2,v3,v4,v5,v6,v7,v8,v9]:=
 yfL (ten_at h _ _ _ _ _ _ _ _ _ _) (by rw [yh2]; exact hb) o
theorem yi7 {B:Nat} {a W:World} {b:Nat} (h:Below B a W) (hb:B≤b) (hs:B≤W.heap.size) (o:Obj) (v0 v1 v2 v3 v4 v5 v6 v7 v8 v9:Value):Below B a ((ten W b v0 v1 v2 v3 v4 v5 v6 v7 v8 v9).alloc o):=
 yaa (ygp h hb _ _ _ _ _ _ _ _ _ _) (by rw [yh2]; exact hs)
theorem yaD (w:World) (l:List Value) (t:TypeId):(w.alloc (.cells l.toArray t)).rangeAt w.heap.size 0 l:=fun j v hv=>by
 obtain ⟨hj,e⟩:=List.getElem?_eq_some_iff.1 hv
 rw [Nat.zero_add]
 simp [go_sem,hj,e]
theorem yb9 (w:World) (cs:Array Value) (t:TypeId):(w.alloc (.cells cs t)).there w.heap.size 0 cs.size:=fun j hj=>by
 rw [Nat.zero_add]
 refine ⟨?_,by simp [go_sem]⟩
 simp [go_sem,hj]
theorem yeR:(Tryz.prog.info? 71).map (·.size)=some 10:=by kernel_rfl
set_option maxHeartbeats 3200000 in
theorem ye7 (n y m d o:Int) (w:World) (hn0:0≤n) (hn1:n < 200000) (hy0:1970≤y) (hy1:y≤2400) (hm0:1≤m) (hm1:m≤12) (hd0:1≤d) (hd1:d≤lenI y m) (ho0:1≤o) (ho1:o≤365+yaI y) :
  Calls Tryz.prog 114 #[.int .i64 n, .int .i64 y, .int .i64 m, .int .i64 d, .int .i64 o] w fun e w'=>e= .returned (shv n y m d o)∧Below w.heap.size w w':=by
 have c1:=hid (fun W=>yc7 y m W (by omega) hm0 hm1)
 have c2:=hid (fun W=>yiT y W (by omega))
 have c3:=hid (fun W=>WkDay_any n W hn0)
 have hlb:=ybr y m
 have c4:=hid (fun W=>ygT d (lenI y m) W hd0 hd1 (by omega))
 have hl:=yfS y
 have c5:=hid (fun W=>ygT o (365+yaI y) W ho0 ho1 (by rcases hl with h | h <;> omega))
 unfold shv
 obtain ⟨l,hll⟩:∃l,lenI y m=l:=⟨_,rfl⟩
 rw [hll] at c1 c4 hd1 hlb⊢
 obtain ⟨wd,hwd⟩:∃l,(n % 7+3) % 7+1=l:=⟨_,rfl⟩
 rw [hwd] at c3⊢
 obtain ⟨i1,hi1⟩:∃l,(d - 1) / 7+1=l:=⟨_,rfl⟩
 rw [hi1] at c4⊢
 obtain ⟨i2,hi2⟩:∃x,(l - d) / 7+1=x:=⟨_,rfl⟩
 rw [hi2] at c4⊢
 obtain ⟨i3,hi3⟩:∃x,(o - 1) / 7+1=x:=⟨_,rfl⟩
 rw [hi3] at c5⊢
 obtain ⟨i4,hi4⟩:∃x,(365+yaI y - o) / 7+1=x:=⟨_,rfl⟩
 rw [hi4] at c5⊢
 clear hll hwd hi1 hi2 hi3 hi4
 have HZ:=hid (z10_new w 71)
 rcases hl with ⟨e1,e2⟩ | ⟨e1,e2⟩
 all_goals
  rw [e1] at c2
  rw [e2] at c5
  first | rw [show (365:Int)+1=366 from rfl] at c5 | rw [show (365:Int)+0=365 from rfl] at c5
  clear e1 e2 ho1
  go_enter Tryz.func114,Tryz.ntmps114
  go_wp2_with fail
  refine (c1.out _).mono ?_
  rintro e w1 ⟨rfl,hB1⟩
  have hZ1:=HZ.out.below hB1 (by simp)
  have HB1:Hid (Below w.heap.size w w1):=(yaa (Below.refl _ _) (zG _)).trans (hB1.mono (by simp))
  have hs1:w.heap.size < w1.heap.size:=by have:=hB1.size; simp at this; omega
  have hne:w.heap.size≠w1.heap.size:=by omega
  have HZ1:=hid hZ1
  obtain ⟨⟨z0,z1,z2,z3,z4,z5,z6,z7,z8,z9⟩,f0,f1,f2,f3,f4,f5,f6,f7,f8,f9⟩:=hZ1.all
  clear hZ1
  clear hB1 HZ c1
  go_wp2_with fail
  refine (c2.out _).mono ?_
  rintro e w' ⟨rfl,rfl⟩
  go_wp2_with fail
  refine (c3.out _).mono ?_
  rintro e w' ⟨rfl,rfl⟩
  go_wp2_with fail
  refine (c4.out _).mono ?_
  rintro e w' ⟨rfl,rfl⟩
  go_wp2_with fail
  refine (c5.out _).mono ?_
  rintro e w' ⟨rfl,rfl⟩
  go_wp2
  refine bodyPost_ret (yac rfl _ _ w.heap.size 0 _ _ rfl (ten_at' HZ1.out hs1 _ _ _ _ _ _ _ _ _ _ _) Tryz.underlying71 rfl yeR) rfl ⟨rfl,yi7 HB1.out (zG _) (by omega) _ _ _ _ _ _ _ _ _ _ _⟩
set_option maxHeartbeats 3200000 in
theorem Shape_any (n:Int) (w:World) (h0:0≤n) (h1:n < 146097):Calls Tryz.prog 128 #[.int .i64 n] w fun e w'=>e= .returned (.tuple #[shN n, .bool true])∧Below w.heap.size w w':=by
 obtain ⟨y0,y1,m0,m1,d0,d1⟩:=yas h0 h1
 obtain ⟨g1,g2,g3⟩:=yiz h0 h1
 have hm:((fMo n).toNat:Int)=fMo n:=by omega
 have c1:=hid (fun W=>yhd n W h0 h1)
 have c2:Hid (∀W,Calls Tryz.prog 113 #[.int .i64 (fY n), .int .i64 (fMo n), .int .i64 (fD n)] W fun e w'=>e= .returned (.tuple #[.int .i64 (fOr n), .bool true])∧Below W.heap.size W w'):=fun W=>by
  have:=yiY (fY n) (fMo n).toNat (fD n) W (by omega) (by omega) (by omega) (by omega) d0 (by rw [hm]; exact d1)
  rw [hm,g1] at this; exact this
 have c3:Hid (∀W,Calls Tryz.prog 114 #[.int .i64 n, .int .i64 (fY n), .int .i64 (fMo n), .int .i64 (fD n), .int .i64 (fOr n)] W fun e w'=>e= .returned (shN n)∧Below W.heap.size W w'):=fun W=>ye7 n _ _ _ _ W h0 (by omega) y0 (by omega) m0 m1 d0 d1 g2 g3
 have hsh:Hid (∃a0 a1 a2 a3 a4 a5 a6 a7 a8 a9:Int,shN n=sh10 a0 a1 a2 a3 a4 a5 a6 a7 a8 a9):=⟨_,_,_,_,_,_,_,_,_,_,rfl⟩
 obtain ⟨a0,a1,a2,a3,a4,a5,a6,a7,a8,a9,hs⟩:=hsh.out
 rw [hs] at c3⊢
 obtain ⟨y,hy⟩:∃o,fY n=o:=⟨_,rfl⟩
 obtain ⟨mo,hmo⟩:∃o,fMo n=o:=⟨_,rfl⟩
 obtain ⟨d,hd⟩:∃o,fD n=o:=⟨_,rfl⟩
 obtain ⟨o,ho⟩:∃o,fOr n=o:=⟨_,rfl⟩
 rw [hy,hmo,hd] at c1 c2 c3
 rw [ho] at c2 c3
 have HZ:=hid (z10_new w 71)
 clear y0 y1 m0 m1 d0 d1 g1 g2 g3 hm hs hsh hy hmo hd ho
 go_enter Tryz.func128,Tryz.ntmps128
 go_wp2_with fail
 refine (c1.out _).mono ?_
 rintro e w1 ⟨rfl,hB1⟩
 have hZ1:=hid (HZ.out.below hB1 (by simp))
 have HB1:Hid (Below w.heap.size w w1):=(yaa (Below.refl _ _) (zG _)).trans (hB1.mono (by simp))
 have hs1:w.heap.size < w1.heap.size:=by have:=hB1.size; simp at this; omega
 clear hB1
 go_wp2_with fail
 refine (c2.out _).mono ?_
 rintro e w2 ⟨rfl,hB2⟩
 have hZ2:=hid (hZ1.out.below hB2 hs1)
 have HB2:Hid (Below w.heap.size w w2):=HB1.out.trans (hB2.mono (by omega))
 have hs2:w.heap.size < w2.heap.size:=by have:=hB2.size; omega
 clear hB2
 go_wp2_with fail
 refine (c3.out _).mono ?_
 rintro e w3 ⟨rfl,hB3⟩
 have hZ3:=hZ2.out.below hB3 hs2
 have HB3:Hid (Below w.heap.size w w3):=HB2.out.trans (hB3.mono (by omega))
 have HZ3:=hid hZ3
 obtain ⟨⟨z0,z1,z2,z3,z4,z5,z6,z7,z8,z9⟩,f0,f1,f2,f3,f4,f5,f6,f7,f8,f9⟩:=hZ3.all
 clear hB3 hZ3
 go_wp2
 refine bodyPost_ret (ybo rfl _ _ w.heap.size 0 _ _ rfl (ten_at HZ3.out _ _ _ _ _ _ _ _ _ _) Tryz.underlying71 rfl yeR) rfl ⟨rfl,ygp HB3.out (zG _) _ _ _ _ _ _ _ _ _ _⟩
set_option maxHeartbeats 3200000 in
theorem yft (n:Int) (w:World) (h0:0≤n) (h1:n < 146097):Calls Tryz.prog 32 #[.int .i64 n] w fun e w'=>e= .returned (shN n)∧Below w.heap.size w w':=by
 obtain ⟨y0,y1,m0,m1,d0,d1⟩:=yas h0 h1
 obtain ⟨g1,g2,g3⟩:=yiz h0 h1
 have hm:((fMo n).toNat:Int)=fMo n:=by omega
 have hlb:=ybr (fY n) (fMo n)
 have hl:=ybu (fY n)
 have c1:=hid (fun W=>yg4 n W h0 h1)
 have c2:Hid (∀W,Calls Tryz.prog 76 #[.int .i64 (fY n), .int .i64 (fMo n), .int .i64 (fD n)] W fun e w'=>e= .returned (.int .i64 (fOr n))∧W=w'):=fun W=>by
  have:=ROrd_any (fY n) (fMo n).toNat (fD n) W (by omega) (by omega) (by omega) (by omega) d0 (by omega)
  rw [hm,g1] at this; exact this
 have c3:=hid (fun W=>ydj (fY n) (fMo n) W (by omega) m0 m1)
 have c4:=hid (fun W=>ygY (fY n) W (by omega))
 have c5:=hid (fun W=>yfs (fD n) (lenI (fY n) (fMo n)) W d0 d1 (by omega))
 have c6:=hid (fun W=>yfs (fOr n) (365+yaI (fY n)) W g2 g3 (by omega))
 have c7:=hid (fun W=>RDay_any n W h0 (by omega))
 unfold shN shv
 have hback:Hid (lenI (fY n) (fMo n)+1 - fD n=lenI (fY n) (fMo n) - fD n+1):=by show _ = _; omega
 obtain ⟨y,hy⟩:∃o,fY n=o:=⟨_,rfl⟩
 obtain ⟨mo,hmo⟩:∃o,fMo n=o:=⟨_,rfl⟩
 obtain ⟨d,hd⟩:∃o,fD n=o:=⟨_,rfl⟩
 obtain ⟨o,ho⟩:∃o,fOr n=o:=⟨_,rfl⟩
 simp only [hy,hmo,hd,ho] at c1 c2 c3 c4 c5 c6 hback m0 m1 d0 d1 hlb g1 g2 g3⊢
 obtain ⟨l,hll⟩:∃o,lenI y mo=o:=⟨_,rfl⟩
 simp only [hll] at c3 c5 hback d1 hlb⊢
 obtain ⟨al,hal⟩:∃o,365+yaI y=o:=⟨_,rfl⟩
 simp only [hal] at c4 c6 g3⊢
 obtain ⟨wd,hwd⟩:∃l,(n % 7+3) % 7+1=l:=⟨_,rfl⟩
 rw [hwd] at c7⊢
 obtain ⟨i1,hi1⟩:∃l,(d - 1) / 7+1=l:=⟨_,rfl⟩
 rw [hi1] at c5⊢
 obtain ⟨i2,hi2⟩:∃x,(l - d) / 7+1=x:=⟨_,rfl⟩
 rw [hi2] at c5⊢
 obtain ⟨i3,hi3⟩:∃x,(o - 1) / 7+1=x:=⟨_,rfl⟩
 rw [hi3] at c6⊢
 obtain ⟨i4,hi4⟩:∃x,(al - o) / 7+1=x:=⟨_,rfl⟩
 rw [hi4] at c6⊢
 rw [←hback.out]
 clear hback hy hmo hd ho hll hal hwd hi1 hi2 hi3 hi4 hl hm g1
 go_enter Tryz.func32,Tryz.ntmps32
 go_wp2_with (first
  | (go_at_call 73; refine (c1.out _).mono ?_; rintro e w' ⟨rfl,rfl⟩)
  | (go_at_call 76; refine (c2.out _).mono ?_; rintro e w' ⟨rfl,rfl⟩)
  | (go_at_call 74; refine (c3.out _).mono ?_; rintro e w' ⟨rfl,rfl⟩)
  | (go_at_call 77; refine (c4.out _).mono ?_; rintro e w' ⟨rfl,rfl⟩)
  | (go_at_call 78; refine (c7.out _).mono ?_; rintro e w' ⟨rfl,rfl⟩)
  | (go_at_call 75; (first | with_reducible refine (c5.out _).mono ?_ | with_reducible refine (c6.out _).mono ?_); rintro e w' ⟨rfl,rfl⟩))
 refine bodyPost_ret (yac rfl _ _ w.heap.size 0 _ _ rfl (yaD w _ _) Tryz.underlying71 rfl yeR) rfl ⟨rfl,yaa (Below.refl _ _) (zG _)⟩
end
section
open Go.RowKit
def dayB (s:Int):Bool:=decide (0≤s∧s < 86400)
set_option maxHeartbeats 400000 in
theorem ydG (s:Int) (w:World) (h0:0≤s) (h1:s < 86400):Calls Tryz.prog 105 #[.int .i64 s] w fun e w'=>e= .returned (.tuple #[.int .i64 (s / 3600), .int .i64 (s / 60 % 60), .int .i64 (s % 60), .bool true])∧w=w':=by
 go_enter Tryz.func105,Tryz.ntmps105
 go_wp2
 exact bodyPost_ret (v:= .tuple #[.int .i64 (s / 3600), .int .i64 (s / 60 % 60), .int .i64 (s % 60), .bool true]) (by simp [results,Tryz.results105,go_sem]) rfl ⟨rfl,rfl⟩
def ybY (s:Int) (hs ms ss:Nat):Bool:=dayB s && (hasB hs (s / 3600) && (hasB ms (s / 60 % 60) && hasB ss (s % 60)))
end
end Go.Proofs.YtkpgfmonhfnhdaaGreatDoor
