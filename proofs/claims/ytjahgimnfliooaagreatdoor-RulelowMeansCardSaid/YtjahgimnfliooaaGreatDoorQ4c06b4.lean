/-
  math/bits.OnesCount64 computes how many bits a number has.
  math/bits.OnesCount64 and mask.Len compute how many numbers a mask has.
  feriaref02.List makes the list of a mask's numbers.
  What the small functions of wide compute: sets of numbers as seven words.
  What within, may, May, Has, Len of wide compute.
  What may, May, Has and Len of wide, and Has and List of feriaref04, compute.
-/
import Derived.Test.YtjahgimnfliooaaGreatDoorQe6aba9
import Derived.Lib.BitFns
import Derived.Test.YtjahgimnfliooaaGreatDoorQbd5244
import Derived.Test.YtjahgimnfliooaaGreatDoorQe977ed
import Derived.ChangeKeysEq
import Derived.Deep.RegionHeld3
set_option maxRecDepth 100000
set_option maxHeartbeats 25600000
namespace Go.Proofs.YtjahgimnfliooaaGreatDoor
set_option linter.unusedVariables false
section
open Go.RowKit
theorem ycR (x y:Nat):x &&& y= (x % 256 &&& y % 256)+256 * (x / 256 &&& y / 256):=by
 have h1:=Nat.and_mod_two_pow (a:=x) (b:=y) (n:=8)
 have h2:=Nat.and_div_two_pow (a:=x) (b:=y) (n:=8)
 simp only [show (2:Nat) ^ 8=256 from rfl] at h1 h2
 rw [←h1,←h2]; omega
def ya9 (c:Nat):Nat→Nat
 | 0=>0
 | n+1=>c+256 * ya9 c n
def sw1 (n x:Nat):Nat:=(x / 2 &&& ya9 0x55 n)+(x &&& ya9 0x55 n)
def sw2 (n x:Nat):Nat:=(x / 4 &&& ya9 0x33 n)+(x &&& ya9 0x33 n)
def sw3 (n x:Nat):Nat:=(x / 16+x) &&& ya9 0x0f n
theorem shr1:∀a:Fin 256,∀r:Fin 2,((a.val / 2+r.val * 128) &&& 0x55)= (a.val / 2 &&& 0x55):=by decide +kernel
theorem shr2:∀a:Fin 256,∀r:Fin 4,((a.val / 4+r.val * 64) &&& 0x33)= (a.val / 4 &&& 0x33):=by decide +kernel
theorem yiL (n a b:Nat) (ha:a < 256):sw1 (n+1) (a+256 * b)= (((a / 2 &&& 0x55)+(a &&& 0x55))+256 * sw1 n b):=by
 unfold sw1
 rw [ycR ((a+256 * b) / 2),ycR (a+256 * b)]
 simp only [ya9]
 have e1:(0x55+256 * ya9 0x55 n) % 256=0x55:=by omega
 have e2:(0x55+256 * ya9 0x55 n) / 256=ya9 0x55 n:=by omega
 have e3:(a+256 * b) / 2 % 256=a / 2+b % 2 * 128:=by omega
 have e4:(a+256 * b) / 2 / 256=b / 2:=by omega
 have e5:(a+256 * b) % 256=a:=by omega
 have e6:(a+256 * b) / 256=b:=by omega
 rw [e1,e2,e3,e4,e5,e6]
 have h:=shr1 ⟨a,ha⟩ ⟨b % 2,by omega⟩
 simp only at h
 rw [h]
 omega
theorem yiK (n a b:Nat) (ha:a < 256):sw2 (n+1) (a+256 * b)= (((a / 4 &&& 0x33)+(a &&& 0x33))+256 * sw2 n b):=by
 unfold sw2
 rw [ycR ((a+256 * b) / 4),ycR (a+256 * b)]
 simp only [ya9]
 have e1:(0x33+256 * ya9 0x33 n) % 256=0x33:=by omega
 have e2:(0x33+256 * ya9 0x33 n) / 256=ya9 0x33 n:=by omega
 have e3:(a+256 * b) / 4 % 256=a / 4+b % 4 * 64:=by omega
 have e4:(a+256 * b) / 4 / 256=b / 4:=by omega
 have e5:(a+256 * b) % 256=a:=by omega
 have e6:(a+256 * b) / 256=b:=by omega
 rw [e1,e2,e3,e4,e5,e6]
 have h:=shr2 ⟨a,ha⟩ ⟨b % 4,by omega⟩
 simp only at h
 rw [h]
 omega
theorem shr3:∀a:Fin 256,∀r:Fin 16,a.val / 16≤4→a.val % 16≤4→((a.val / 16+r.val * 16+a.val) % 256 &&& 0x0f)= ((a.val / 16+a.val) &&& 0x0f):=by decide +kernel
theorem sw3_cons (n a b:Nat) (ha:a < 256) (h1:a / 16≤4) (h2:a % 16≤4) (h3:b % 16≤4):sw3 (n+1) (a+256 * b)= (((a / 16+a) &&& 0x0f)+256 * sw3 n b):=by
 unfold sw3
 rw [ycR]
 simp only [ya9]
 have e1:(0x0f+256 * ya9 0x0f n) % 256=0x0f:=by omega
 have e2:(0x0f+256 * ya9 0x0f n) / 256=ya9 0x0f n:=by omega
 have e3:((a+256 * b) / 16+(a+256 * b)) % 256= (a / 16+b % 16 * 16+a) % 256:=by omega
 have e4:((a+256 * b) / 16+(a+256 * b)) / 256=b / 16+b:=by omega
 rw [e1,e2,e3,e4]
 have h:=shr3 ⟨a,ha⟩ ⟨b % 16,by omega⟩ h1 h2
 simp only at h
 rw [h]
def ygz (a:Nat):Nat:=(a / 2 &&& 0x55)+(a &&& 0x55)
def ykk (a:Nat):Nat:=(a / 4 &&& 0x33)+(a &&& 0x33)
def byte3 (a:Nat):Nat:=(a / 16+a) &&& 0x0f
theorem yec:∀a:Fin 256,ygz a.val < 256∧ykk (ygz a.val) < 256∧ykk (ygz a.val) / 16≤4∧ykk (ygz a.val) % 16≤4∧byte3 (ykk (ygz a.val))=Lib.popAux 8 a.val∧Lib.popAux 8 a.val≤8:=by decide +kernel
def pops:Nat→Nat→Nat
 | 0,_=>0
 | n+1,x=>Lib.popAux 8 (x % 256)+256 * pops n (x / 256)
theorem sw12_low (n x:Nat) (hn:1≤n):sw2 n (sw1 n x) % 16≤4:=by
 obtain ⟨k,rfl⟩:∃k,n=k+1:=⟨n - 1,by omega⟩
 have e:x=x % 256+256 * (x / 256):=by omega
 obtain ⟨f1,f2,f3,f4,_⟩:=yec ⟨x % 256,by omega⟩
 simp only at f1 f2 f3 f4
 rw [e,yiL _ _ _ (by omega)]
 show sw2 (k+1) (ygz (x % 256)+256 * sw1 k (x / 256)) % 16≤4
 rw [yiK _ _ _ f1]
 show (ykk (ygz (x % 256))+256 * sw2 k (sw1 k (x / 256))) % 16≤4
 omega
theorem sw_zero (x:Nat):sw2 0 (sw1 0 x)=0:=by simp [sw1,sw2,ya9]
theorem sw_all:∀n x:Nat,sw3 n (sw2 n (sw1 n x))=pops n x
 | 0,x=>by simp [sw3,ya9,pops]
 | n+1,x=>by
   obtain ⟨f1,f2,f3,f4,f5,f6⟩:=yec ⟨x % 256,by omega⟩
   simp only at f1 f2 f3 f4 f5
   have e:x=x % 256+256 * (x / 256):=by omega
   have hl:sw2 n (sw1 n (x / 256)) % 16≤4:=by
    by_cases h:1≤n
    ·exact sw12_low n _ h
    ·obtain rfl:n=0:=by omega
     rw [sw_zero]; omega
   rw [pops,←f5,←sw_all n (x / 256)]
   conv=>lhs; rw [e]
   rw [yiL _ _ _ (by omega)]
   show sw3 (n+1) (sw2 (n+1) (ygz (x % 256)+256 * sw1 n (x / 256)))= _
   rw [yiK _ _ _ f1]
   show sw3 (n+1) (ykk (ygz (x % 256))+256 * sw2 n (sw1 n (x / 256)))= _
   rw [sw3_cons _ _ _ f2 f3 f4 hl]
   rfl
theorem yfL:∀n x:Nat,Lib.popAux n x=Lib.popAux n (x % 2 ^ n)
 | 0,x=>rfl
 | n+1,x=>by
   rw [Lib.popAux,Lib.popAux,yfL n (x / 2),Nat.pow_succ]
   have h1:x % (2 ^ n * 2) % 2=x % 2:=Nat.mod_mod_of_dvd _ (Nat.dvd_mul_left 2 _)
   have h2:x % (2 ^ n * 2) / 2=x / 2 % 2 ^ n:=by rw [Nat.mul_comm,Nat.mod_mul_right_div_self]
   rw [h1,h2]
theorem yd4:∀m n x:Nat,Lib.popAux (m+n) x=Lib.popAux m x+Lib.popAux n (x / 2 ^ m)
 | 0,n,x=>by simp [Lib.popAux]
 | m+1,n,x=>by
   rw [show m+1+n= (m+n)+1 by omega,Lib.popAux,Lib.popAux,yd4 m n,Nat.div_div_eq_div_mul,Nat.pow_succ,Nat.mul_comm 2,Nat.add_assoc]
def popN (n x:Nat):Nat:=match n with
 | 0=>0
 | n+1=>Lib.popAux 8 (x % 256)+popN n (x / 256)
theorem popN_eq:∀n x:Nat,popN n x=Lib.popAux (8 * n) x
 | 0,x=>rfl
 | n+1,x=>by
   rw [popN,popN_eq n,show 8 * (n+1)=8+8 * n by omega,yd4 8,←yfL 8 x]
theorem yep (x:Nat):Lib.popAux 8 (x % 256)≤8:=(yec ⟨x % 256,by omega⟩).2.2.2.2.2
theorem fold_pops (x:Nat):pops 8 x < 651061555542690057∧
  (pops 8 x+pops 8 x / 256+(pops 8 x+pops 8 x / 256) / 65536+(pops 8 x+pops 8 x / 256+(pops 8 x+pops 8 x / 256) / 65536) / 4294967296) % 128=Lib.popAux 64 x:=by
 rw [←popN_eq 8 x]
 simp only [pops,popN]
 have h0:=yep x
 have h1:=yep (x / 256)
 have h2:=yep (x / 256 / 256)
 have h3:=yep (x / 256 / 256 / 256)
 have h4:=yep (x / 256 / 256 / 256 / 256)
 have h5:=yep (x / 256 / 256 / 256 / 256 / 256)
 have h6:=yep (x / 256 / 256 / 256 / 256 / 256 / 256)
 have h7:=yep (x / 256 / 256 / 256 / 256 / 256 / 256 / 256)
 generalize Lib.popAux 8 (x % 256)=p0 at *
 generalize Lib.popAux 8 (x / 256 % 256)=p1 at *
 generalize Lib.popAux 8 (x / 256 / 256 % 256)=p2 at *
 generalize Lib.popAux 8 (x / 256 / 256 / 256 % 256)=p3 at *
 generalize Lib.popAux 8 (x / 256 / 256 / 256 / 256 % 256)=p4 at *
 generalize Lib.popAux 8 (x / 256 / 256 / 256 / 256 / 256 % 256)=p5 at *
 generalize Lib.popAux 8 (x / 256 / 256 / 256 / 256 / 256 / 256 % 256)=p6 at *
 generalize Lib.popAux 8 (x / 256 / 256 / 256 / 256 / 256 / 256 / 256 % 256)=p7 at *
 clear x
 refine ⟨by omega,?_⟩
 obtain ⟨t,ht⟩:∃t,p0+256 * (p1+256 * (p2+256 * (p3+256 * (p4+256 * (p5+256 * (p6+256 * (p7+256 * 0)))))))=t:=⟨_,rfl⟩
 rw [ht]
 have a1:t / 256=p1+256 * (p2+256 * (p3+256 * (p4+256 * (p5+256 * (p6+256 * p7))))):=by omega
 obtain ⟨u,hu⟩:∃u,t+t / 256=u:=⟨_,rfl⟩
 have a2:u= (p0+p1)+256 * (p1+p2)+65536 * ((p2+p3)+256 * (p3+p4)+65536 * ((p4+p5)+256 * (p5+p6)+65536 * ((p6+p7)+256 * p7))):=by omega
 rw [hu]
 have a3:u / 65536= (p2+p3)+256 * (p3+p4)+65536 * ((p4+p5)+256 * (p5+p6)+65536 * ((p6+p7)+256 * p7)):=by omega
 obtain ⟨v,hv⟩:∃v,u+u / 65536=v:=⟨_,rfl⟩
 rw [hv]
 have a4:v= ((p0+p1+p2+p3)+256 * (p1+p2+p3+p4)+65536 * ((p2+p3+p4+p5)+256 * (p3+p4+p5+p6)))+4294967296 * ((p4+p5+p6+p7)+256 * (p5+p6+p7)+65536 * ((p6+p7)+256 * p7)):=by omega
 clear ht a1 hu a2 a3 hv
 have a5:v / 4294967296= (p4+p5+p6+p7)+256 * (p5+p6+p7)+65536 * ((p6+p7)+256 * p7):=by omega
 rw [a5,a4]
 have a6:(p0+p1+p2+p3)+256 * (p1+p2+p3+p4)+65536 * ((p2+p3+p4+p5)+256 * (p3+p4+p5+p6))+4294967296 * ((p4+p5+p6+p7)+256 * (p5+p6+p7)+65536 * ((p6+p7)+256 * p7))+((p4+p5+p6+p7)+256 * (p5+p6+p7)+65536 * ((p6+p7)+256 * p7))
   = (p0+(p1+(p2+(p3+(p4+(p5+(p6+p7)))))))+128 * (2 * (p1+p2+p3+p4)+512 * ((p2+p3+p4+p5)+256 * (p3+p4+p5+p6))+33554432 * ((p4+p5+p6+p7)+256 * (p5+p6+p7)+65536 * ((p6+p7)+256 * p7))+2 * (p5+p6+p7)+512 * ((p6+p7)+256 * p7)):=by omega
 rw [a6,Nat.add_mul_mod_self_left]
 exact Nat.mod_eq_of_lt (by omega)
end
section
open Go.RowKit
theorem ych:ya9 0x55 8=6148914691236517205∧ya9 0x33 8=3689348814741910323∧ya9 0x0f 8=1085102592571150095:=by decide
theorem ycQ (x c:Nat):x &&& c≤c:=Nat.and_le_right
theorem pop_e1 (x:Nat) (hx:x < 18446744073709551616):IntKind.u64.wrap (bits .and .u64 ((x:Int) / 2) 6148914691236517205+bits .and .u64 (x:Int) 6148914691236517205)= ((sw1 8 x:Nat):Int):=by
 have e:((x:Int) / 2)= ((x / 2:Nat):Int):=by simp
 have h1:=yaE (a:=x / 2) (b:=6148914691236517205) (by omega) (by omega)
 have h2:=yaE (a:=x) (b:=6148914691236517205) hx (by omega)
 have l1:=ycQ (x / 2) 6148914691236517205
 have l2:=ycQ x 6148914691236517205
 rw [e,show (6148914691236517205:Int)= ((6148914691236517205:Nat):Int) from rfl,h1,h2,←Int.natCast_add,ybx (by omega),sw1,ych.1]
theorem pop_e2 (x:Nat) (hx:x < 18446744073709551616):IntKind.u64.wrap (bits .and .u64 ((x:Int) / 4) 3689348814741910323+bits .and .u64 (x:Int) 3689348814741910323)= ((sw2 8 x:Nat):Int):=by
 have e:((x:Int) / 4)= ((x / 4:Nat):Int):=by simp
 have h1:=yaE (a:=x / 4) (b:=3689348814741910323) (by omega) (by omega)
 have h2:=yaE (a:=x) (b:=3689348814741910323) hx (by omega)
 have l1:=ycQ (x / 4) 3689348814741910323
 have l2:=ycQ x 3689348814741910323
 rw [e,show (3689348814741910323:Int)= ((3689348814741910323:Nat):Int) from rfl,h1,h2,←Int.natCast_add,ybx (by omega),sw2,ych.2.1]
theorem pop_e3 (x:Nat) (hx:x≤7378697629483820646):bits .and .u64 (IntKind.u64.wrap ((x:Int) / 16+(x:Int))) 1085102592571150095= ((sw3 8 x:Nat):Int):=by
 have e:((x:Int) / 16)= ((x / 16:Nat):Int):=by simp
 have h1:=yaE (a:=x / 16+x) (b:=1085102592571150095) (by omega) (by omega)
 rw [e,←Int.natCast_add,ybx (by omega),show (1085102592571150095:Int)= ((1085102592571150095:Nat):Int) from rfl,h1,sw3,ych.2.2]
theorem pop_e4 (x k:Nat) (c:Int) (hc:c= (k:Int)) (hx:x≤9223372036854775807):IntKind.u64.wrap ((x:Int)+(x:Int) / c)= ((x+x / k:Nat):Int):=by
 subst hc
 have e:((x:Int) / (k:Int))= ((x / k:Nat):Int):=by simp
 have:x / k≤x:=Nat.div_le_self _ _
 rw [e,←Int.natCast_add,ybx (by omega)]
theorem pop_e7 (x:Nat) (hx:x≤9223372036854775807):bits .and .i64 (x:Int) 127= ((x % 128:Nat):Int):=by
 show IntKind.i64.wrap ((BitVec.ofInt 64 (x:Int) &&& BitVec.ofInt 64 (127:Int)).toNat:Int)= _
 rw [BitVec.toNat_and,ybd (by omega),show (127:Int)= ((127:Nat):Int) from rfl,ybd (by omega),show (127:Nat)=2 ^ 7 - 1 from rfl,Nat.and_two_pow_sub_one_eq_mod]
 exact IntWalk.i64_in _ (by omega)
theorem Ones_any (x:Nat) (w:World) (hx:x < 18446744073709551616):Calls Tryz.prog 179 #[.int .u64 x] w fun e w'=>e= .returned (.int .i64 (Lib.popAux 64 x:Nat))∧w=w':=by
 go_enter Tryz.func179,Tryz.ntmps179
 go_wp2_with fail
 refine bodyPost_ret (v:= .int .i64 (Lib.popAux 64 x:Nat)) ?_ rfl ⟨rfl,rfl⟩
 simp [results,Tryz.results179,go_sem]
 have a1:sw1 8 x≤12297829382473034410:=by unfold sw1; rw [ych.1]; have:=ycQ (x / 2) 6148914691236517205; have:=ycQ x 6148914691236517205; omega
 have a2:sw2 8 (sw1 8 x)≤7378697629483820646:=by unfold sw2; rw [ych.2.1]; have:=ycQ (sw1 8 x / 4) 3689348814741910323; have:=ycQ (sw1 8 x) 3689348814741910323; omega
 obtain ⟨f1,f2⟩:=fold_pops x
 rw [pop_e1 x hx,pop_e2 _ (by omega),pop_e3 _ a2,sw_all,pop_e4 _ 256 256 rfl (by omega),pop_e4 _ 65536 65536 rfl (by omega),pop_e4 _ 4294967296 4294967296 rfl (by omega)]
 rw [IntWalk.wrap64_in _ (by omega),pop_e7 _ (by omega),f2]
theorem Len_any (x:Nat) (w:World) (hx:x < 18446744073709551616):Calls Tryz.prog 150 #[.int .u64 x] w fun e w'=>e= .returned (.int .i64 (Lib.popAux 64 x:Nat))∧w=w':=by
 have H:=hid (Ones_any x w hx)
 go_enter Tryz.func150,Tryz.ntmps150
 go_wp2_with fail
 refine H.out.mono ?_
 rintro e w' ⟨rfl,rfl⟩
 go_wp2
 go_ret
 exact ⟨rfl,rfl⟩
def listM (m:Nat) (n:Nat):List Int:=((List.range n).filter m.testBit).map Int.ofNat
theorem yjV (m n:Nat):listM m (n+1)=if m.testBit n then listM m n ++ [(n:Int)] else listM m n:=by
 unfold listM
 rw [List.range_succ,List.filter_append,List.map_append]
 by_cases h:m.testBit n <;> simp [h]
theorem yhW (n m:Nat):Lib.popAux (n+1) m=Lib.popAux n m+(if m.testBit n then 1 else 0):=by
 rw [yd4 n 1 m,Lib.popAux,Lib.popAux,Nat.testBit_eq_decide_div_mod_eq]
 simp
 split <;> omega
theorem yhb (m:Nat):∀n,(listM m n).length=Lib.popAux n m
 | 0=>rfl
 | n+1=>by
   rw [yjV,yhW,←yhb m n]
   by_cases h:m.testBit n <;> simp [h]
end
section
open Go.RowKit
theorem sel_pop (m:Nat):(sel m.testBit 64).length=Lib.popAux 64 m:=yhb m 64
theorem ygq (m n:Nat):hasB m (n:Int)=m.testBit n:=by simp [hasB]
end
section
open Go.RowKit
abbrev wv (s:Nat→Nat):Value:= .agg #[.int .u64 (s 0:Nat), .int .u64 (s 1:Nat), .int .u64 (s 2:Nat), .int .u64 (s 3:Nat), .int .u64 (s 4:Nat), .int .u64 (s 5:Nat), .int .u64 (s 6:Nat)]
def WCells (W:World) (b:Nat) (s:Nat→Nat):Prop:=∀i,i < 7→W.cell? ⟨b,i,none⟩=some (.int .u64 (s i:Nat))
theorem WCells.below {W W':World} {b B:Nat} {s:Nat→Nat} (h:WCells W b s) (hb:Below B W W') (hB:b < B):WCells W' b s:=fun i hi=>(hb.cell (p:=⟨b,i,none⟩) hB).trans (h i hi)
theorem WCells.congr {W:World} {b:Nat} {s t:Nat→Nat} (h:WCells W b s) (e:∀i,i < 7→s i=t i):WCells W b t:=fun i hi=>by rw [←e i hi]; exact h i hi
theorem WCells.all {W:World} {b:Nat} {s:Nat→Nat} (h:WCells W b s):W.cell? ⟨b,0,none⟩=some (.int .u64 (s 0:Nat))∧W.cell? ⟨b,1,none⟩=some (.int .u64 (s 1:Nat))∧W.cell? ⟨b,2,none⟩=some (.int .u64 (s 2:Nat))∧
  W.cell? ⟨b,3,none⟩=some (.int .u64 (s 3:Nat))∧W.cell? ⟨b,4,none⟩=some (.int .u64 (s 4:Nat))∧W.cell? ⟨b,5,none⟩=some (.int .u64 (s 5:Nat))∧W.cell? ⟨b,6,none⟩=some (.int .u64 (s 6:Nat)):=
 ⟨h 0 (by omega),h 1 (by omega),h 2 (by omega),h 3 (by omega),h 4 (by omega),h 5 (by omega),h 6 (by omega)⟩
theorem WCells.set {W:World} {b i:Nat} {s:Nat→Nat} {v:Nat} (h:WCells W b s) (hi:i < 7):WCells (W.setCell ⟨b,i,none⟩ (.int .u64 v)) b (fun j=>if j=i then v else s j):=by
 intro j hj
 by_cases e:j=i
 ·subst e; simp [go_sem,h j hj]
 ·simp [go_sem,h j hj,e]
def ybV (i:Nat):Nat:=ybc 0 (399 - 64 * (i:Int)) 1
theorem fullW_lt (i:Nat):ybV i < 18446744073709551616:=yaP _
def WFree (W:World) (b:Nat):Prop:=∀j,W.frozen? ⟨b,j,none⟩=false
theorem WFree.below {W W':World} {b B:Nat} (h:WFree W b) (hb:Below B W W') (hB:b < B):WFree W' b:=fun i=>(hb.frozen (p:=⟨b,i,none⟩) hB).trans (h i)
theorem WFree.set {W:World} {b:Nat} (h:WFree W b) (p:Addr) (v:Value):WFree (W.setCell p v) b:=fun j=>by simp [go_sem,h j]
theorem yhv (w:World):Calls Tryz.prog 66 #[] w fun e w'=>e= .returned (wv ybV)∧Below w.heap.size w w':=by
 have c1:Hid (∀(i:Nat) W,(i:Int) < 7→Calls Tryz.prog 64 #[.int .i64 0, .int .i64 (399 - (i:Int) * 64), .int .i64 1] W fun e w'=>e= .returned (.int .u64 (ybV i))∧W=w'):=fun i W h=>by
  have:=ybO 0 (399 - 64 * (i:Int)) 1 W (by omega) (by omega)
  rw [Int.mul_comm] at this
  have e:ybV i=ybc 0 (399 - (i:Int) * 64) 1:=by rw [ybV,Int.mul_comm]
  rw [e]; exact this
 go_enter Tryz.func66,Tryz.ntmps66
 go_wp2
 go_loopw [3] (fun v wr=>∃i:Nat,v= .int .i64 i∧i≤7∧Hid (WCells wr (w.heap.size+1) (fun j=>if j < i then ybV j else 0))∧Hid (WCells wr w.heap.size (fun _=>0))∧Hid (WFree wr (w.heap.size+1))∧Hid (WFree wr w.heap.size)∧Below w.heap.size w wr∧wr.heap.size=w.heap.size+2) (fun v _=>7 - (intOf v).toNat)
 case atStart=>
  refine ⟨0,rfl,by omega,fun j hj=>?_,fun j hj=>?_,fun j=>by simp [go_sem],fun j=>by simp [go_sem],yaa (yaa (Below.refl _ _) (zG _)) (by simp),by simp⟩
  ·have:j=0∨j=1∨j=2∨j=3∨j=4∨j=5∨j=6:=by omega
   rcases this with rfl | rfl | rfl | rfl | rfl | rfl | rfl <;> simp [go_sem]
  ·have:j=0∨j=1∨j=2∨j=3∨j=4∨j=5∨j=6:=by omega
   rcases this with rfl | rfl | rfl | rfl | rfl | rfl | rfl <;> simp [go_sem]
 case round=>
  obtain ⟨i,rfl,hi,hc,hc0,hf,hf0,hB,hsz⟩:=hrel
  by_cases hlt:i < 7
  ·have e1:=hc.out i hlt
   have e2:=hf.out i
   go_wp2_with fail
   refine (c1.out i wr (by omega)).mono ?_
   rintro e w1 ⟨rfl,rfl⟩
   go_wp2
   refine ⟨⟨i+1,by go_num,by omega,?_,?_,?_,?_,yab hB (by omega),by simpa [go_sem] using hsz⟩,by simp [intOf]; omega⟩
   ·exact (hc.out.set (v:=ybV i) hlt).congr (fun j hj=>by
     by_cases e:j=i
     ·subst e; simp
     ·have:(j < i+1)= (j < i):=by simp; omega
      simp [e,this])
   ·exact fun j hj=>(zzJ (w:=wr) (a:=⟨w.heap.size,j,none⟩) (Below.heap_setCell _ _ _ _ (by simp))).trans (hc0.out j hj)
   ·exact hf.out.set _ _
   ·exact hf0.out.set _ _
  ·obtain rfl:i=7:=by omega
   have hc':WCells wr (w.heap.size+1) ybV:=hc.out.congr (fun j hj=>by simp [hj])
   obtain ⟨r0,r1,r2,r3,r4,r5,r6⟩:=hc'.all
   obtain ⟨z0,z1,z2,z3,z4,z5,z6⟩:=hc0.out.all
   have f0:=hf0.out 0
   have f1:=hf0.out 1
   have f2:=hf0.out 2
   have f3:=hf0.out 3
   have f4:=hf0.out 4
   have f5:=hf0.out 5
   have f6:=hf0.out 6
   clear hc hc0 hf hf0 hc'
   go_wp2
   refine bodyPost_ret (v:=wv ybV) (by simp [results,Tryz.results66,go_sem,z0,z1,z2,z3,z4,z5,z6]) rfl ⟨rfl,?_⟩
   exact yab (yab (yab (yab (yab (yab (yab hB (zG _)) (zG _)) (zG _)) (zG _)) (zG _)) (zG _)) (zG _)
end
section
open Go.RowKit
def inW (s:Nat→Nat) (i:Nat):Nat:=s i &&& ybV i
theorem yfy {i:Nat} (h:i < 7):i=0∨i=1∨i=2∨i=3∨i=4∨i=5∨i=6:=by omega
theorem ydZ (w:World) (s:Nat→Nat) (t:TypeId):WCells (w.alloc (.cells #[.int .u64 (s 0:Nat), .int .u64 (s 1:Nat), .int .u64 (s 2:Nat), .int .u64 (s 3:Nat), .int .u64 (s 4:Nat), .int .u64 (s 5:Nat), .int .u64 (s 6:Nat)] t)) w.heap.size s:=by
 intro i hi
 rcases yfy hi with rfl | rfl | rfl | rfl | rfl | rfl | rfl <;> simp [go_sem]
theorem wfree_new (w:World) (s:Nat→Nat) (t:TypeId):WFree (w.alloc (.cells #[.int .u64 (s 0:Nat), .int .u64 (s 1:Nat), .int .u64 (s 2:Nat), .int .u64 (s 3:Nat), .int .u64 (s 4:Nat), .int .u64 (s 5:Nat), .int .u64 (s 6:Nat)] t)) w.heap.size:=fun i=>by simp [go_sem]
theorem ygn:(Tryz.prog.info? 28).map (fun i=>(i.zero,i.size,i.bytes))=some (some (.int .u64 0),1,8):=by kernel_rfl
theorem ygV (s:Nat→Nat) (i:Nat) (h:i < 7) (W:World):(Instr.index 32 (wv s) (.int .i64 i)).run Tryz.prog W= .ok (.int .u64 (s i:Nat)) W:=by
 obtain ⟨i0,hi0,hz0,hz1,hz2⟩:=info_parts ygn
 rcases yfy h with rfl | rfl | rfl | rfl | rfl | rfl | rfl
 all_goals
  simp [Instr.index,wv,go_sem,part,sizeOf,typeInfo,hi0,hz1]
theorem ykm (s:Nat→Nat) (w:World) (hs:∀i,i < 7→s i < 18446744073709551616) :
  Calls Tryz.prog 78 #[wv s] w fun e w'=>e= .returned (wv (inW s))∧Below w.heap.size w w':=by
 have c1:=hid (fun W=>yhv W)
 obtain ⟨W0,hW0⟩:∃W0,(w.alloc (.cells #[.int .u64 (s 0:Nat), .int .u64 (s 1:Nat), .int .u64 (s 2:Nat), .int .u64 (s 3:Nat), .int .u64 (s 4:Nat), .int .u64 (s 5:Nat), .int .u64 (s 6:Nat)] 32)).alloc (.cells #[.int .u64 0, .int .u64 0, .int .u64 0, .int .u64 0, .int .u64 0, .int .u64 0, .int .u64 0] 32)=W0:=⟨_,rfl⟩
 have q1:W0.heap.size=w.heap.size+2:=by rw [←hW0]; simp
 have q2:Below w.heap.size w W0:=by rw [←hW0]; exact yaa (yaa (Below.refl _ _) (zG _)) (by simp)
 have q3:WCells W0 w.heap.size s:=by rw [←hW0]; exact (ydZ w s _).below (yaa (Below.refl _ _) (zG _)) (by simp)
 have q4:WFree W0 w.heap.size:=by rw [←hW0]; exact (wfree_new w s _).below (yaa (Below.refl _ _) (zG _)) (by simp)
 have q5:WCells W0 (w.heap.size+1) (fun _=>0):=by
  rw [←hW0]
  intro i hi
  rcases yfy hi with rfl | rfl | rfl | rfl | rfl | rfl | rfl <;> simp [go_sem]
 have q6:WFree W0 (w.heap.size+1):=fun i=>by rw [←hW0]; simp [go_sem]
 have HW0:=hid hW0
 have HS:=hid hs
 have HQ:=hid (And.intro q2 (And.intro q3 (And.intro q4 (And.intro q5 q6))))
 clear hW0 hs q2 q3 q4 q5 q6
 go_enter Tryz.func78,Tryz.ntmps78
 go_wp2_with fail
 rw [HW0.out]
 refine (c1.out W0).mono ?_
 rintro e w1 ⟨rfl,hB1⟩
 obtain ⟨q2,q3,q4,q5,q6⟩:=HQ.out
 have s1:=hB1.size
 have r3:=hid (q3.below hB1 (by omega))
 have r4:=hid (q4.below hB1 (by omega))
 have r5:=hid (q5.below hB1 (by omega))
 have r6:=hid (q6.below hB1 (by omega))
 have r2:Hid (Below w.heap.size w w1):=q2.trans (hB1.mono (by omega))
 clear q2 q3 q4 q5 q6 hB1
 go_wp2
 go_loopw [6] (fun v wr=>∃i:Nat,v= .int .i64 i∧i≤7∧Hid (WCells wr w.heap.size (fun j=>if j < i then inW s j else s j))∧Hid (WCells wr (w.heap.size+1) (fun _=>0))∧Hid (WFree wr w.heap.size)∧Hid (WFree wr (w.heap.size+1))∧Hid (Below w.heap.size w wr)) (fun v _=>7 - (intOf v).toNat)
 case atStart=>exact ⟨0,rfl,by omega,r3.out.congr (fun j hj=>by simp),r5.out,r4.out,r6.out,r2.out⟩
 case round=>
  obtain ⟨i,rfl,hi,hc,hc0,hf,hf0,hB⟩:=hrel
  by_cases hlt:i < 7
  ·have e1:wr.cell? ⟨w.heap.size,i,none⟩=some (.int .u64 (s i:Nat)):=by have:=hc.out i hlt; simpa using this
   have e2:=hf.out i
   have hand:=hid (yaE (HS.out i hlt) (fullW_lt i))
   have done:∀W',W' =wr.setCell ⟨w.heap.size,i,none⟩ (.int .u64 (bits .and .u64 (s i:Nat) (ybV i:Nat)))→WCells W' w.heap.size (fun j=>if j < i+1 then inW s j else s j)∧WCells W' (w.heap.size+1) (fun _=>0)∧WFree W' w.heap.size∧WFree W' (w.heap.size+1)∧Below w.heap.size w W':=by
    rintro W' rfl
    rw [hand.out]
    refine ⟨(hc.out.set (v:=inW s i) hlt).congr (fun j hj=>?_),fun j hj=>(zzJ (w:=wr) (a:=⟨w.heap.size+1,j,none⟩) (Below.heap_setCell _ _ _ _ (by simp))).trans (hc0.out j hj),hf.out.set _ _,hf0.out.set _ _,yab hB.out (zG _)⟩
    by_cases e:j=i
    ·subst e; simp
    ·have:(j < i+1)= (j < i):=by simp; omega
     simp [e,this]
   have Done:=hid done
   clear done
   have hix:=fun W=>ygV ybV i hlt W
   clear hc hc0 hf hf0 hB
   go_wp2
   obtain ⟨d1,d2,d3,d4,d5⟩:=Done.out _ rfl
   exact ⟨⟨i+1,by go_num,by omega,d1,d2,d3,d4,d5⟩,by simp [intOf]; omega⟩
  ·obtain rfl:i=7:=by omega
   have hc':WCells wr w.heap.size (inW s):=hc.out.congr (fun j hj=>by simp [hj])
   obtain ⟨r0,r1,r2,r3,r4,r5,r6⟩:=hc'.all
   obtain ⟨z0,z1,z2,z3,z4,z5,z6⟩:=hc0.out.all
   have f0:=hf0.out 0
   have f1:=hf0.out 1
   have f2:=hf0.out 2
   have f3:=hf0.out 3
   have f4:=hf0.out 4
   have f5:=hf0.out 5
   have f6:=hf0.out 6
   clear hc hc0 hf hf0 hc'
   go_wp2
   refine bodyPost_ret (v:=wv (inW s)) (by simp [results,Tryz.results78,go_sem,z0,z1,z2,z3,z4,z5,z6]) rfl ⟨rfl,?_⟩
   exact yab (yab (yab (yab (yab (yab (yab hB.out (Nat.le_add_right _ _)) (Nat.le_add_right _ _)) (Nat.le_add_right _ _)) (Nat.le_add_right _ _)) (Nat.le_add_right _ _)) (Nat.le_add_right _ _)) (Nat.le_add_right _ _)
end
section
open Go.RowKit
def eqW (s t:Nat→Nat):Bool:=(List.range 7).all (fun i=>s i == t i)
theorem part_wv (s:Nat→Nat) (i:Nat) (h:i < 7) (W:World):(part 28 #[.int .u64 (s 0:Nat), .int .u64 (s 1:Nat), .int .u64 (s 2:Nat), .int .u64 (s 3:Nat), .int .u64 (s 4:Nat), .int .u64 (s 5:Nat), .int .u64 (s 6:Nat)] (i * Tryz.prog.cellsOf 28)).run Tryz.prog W= .ok (.int .u64 (s i:Nat)) W:=by
 rw [show Tryz.prog.cellsOf 28=1 by kernel_rfl]
 rcases yfy h with rfl | rfl | rfl | rfl | rfl | rfl | rfl
 all_goals
  simp [go_sem,part]
theorem yjJ (s t:Nat→Nat) (W:World):(binOp .eql 32 (wv s) (wv t)).run Tryz.prog W= .ok (.bool (eqW s t)) W:=by
 obtain ⟨i0,hi0,hz0,hz1,hz2⟩:=info_parts ygn
 rw [run_eql_struct,show (10000:Nat)=9999+1 from rfl,run_equalIn_array W 9999 _ _ Tryz.underlying32 hi0,eqW]
 have hl:∀i∈List.range 7,i < 7:=fun i hi=>by simpa using hi
 generalize List.range 7=l at hl⊢
 have key:(Op.eqItems 9999 28 (Tryz.prog.cellsOf 28) #[.int .u64 (s 0:Nat), .int .u64 (s 1:Nat), .int .u64 (s 2:Nat), .int .u64 (s 3:Nat), .int .u64 (s 4:Nat), .int .u64 (s 5:Nat), .int .u64 (s 6:Nat)]
   #[.int .u64 (t 0:Nat), .int .u64 (t 1:Nat), .int .u64 (t 2:Nat), .int .u64 (t 3:Nat), .int .u64 (t 4:Nat), .int .u64 (t 5:Nat), .int .u64 (t 6:Nat)] l).run Tryz.prog W= .ok (l.all (fun i=>s i == t i)) W:=by
  induction l with
  | nil=>simp [Op.eqItems]
  | cons i l ih=>
    have hi:i < 7:=hl i (by simp)
    have pe:(Op.equalIn 9999 28 (.int .u64 (s i:Nat)) (.int .u64 (t i:Nat))).run Tryz.prog W= .ok ((s i:Int) == (t i:Int)) W:=by
     rw [show (9999:Nat)=9998+1 from rfl,run_equalIn_int W 9998 28 .u64 .u64 _ _ Tryz.underlying28]
    simp only [Op.eqItems,Sem.run_bind,part_wv s i hi W,part_wv t i hi W,pe,Result.andThen_ok,List.all_cons]
    have hb:((s i:Int) == (t i:Int))= (s i == t i):=by rw [zze]; simp; omega
    rw [hb]
    cases hc:(s i == t i)
    ·simp
    ·simp only [Bool.not_true,Bool.false_eq_true,if_false,zzo]
     exact ih fun j hj=>hl j (by simp [hj])
 rw [key]
 rfl
def mayB (n:Int):Bool:=decide (0≤n) && decide (n < 400)
theorem WMayN_any (n:Int) (w:World):Calls Tryz.prog 175 #[.int .i64 n] w fun e w'=>e= .returned (.bool (mayB n))∧w=w':=by
 unfold mayB
 by_cases h0:0≤n
 ·by_cases h1:n < 400
  ·go_enter Tryz.func175,Tryz.ntmps175
   go_wp2
   go_ret
   exact ⟨yaT (by rw [zze]; simp; omega),rfl⟩
  ·go_enter Tryz.func175,Tryz.ntmps175
   go_wp2
   go_ret
   exact ⟨yaT (by rw [zze]; simp; omega),rfl⟩
 ·go_enter Tryz.func175,Tryz.ntmps175
  go_wp2
  go_ret
  exact ⟨yaT (by rw [zze]; simp; omega),rfl⟩
abbrev BoxS (w:World) (s:Nat→Nat) (W:World):Prop:=
 W.cell? ⟨w.heap.size,0,none⟩=some (.int .u64 (s 0:Nat))∧W.cell? ⟨w.heap.size,1,none⟩=some (.int .u64 (s 1:Nat))∧W.cell? ⟨w.heap.size,2,none⟩=some (.int .u64 (s 2:Nat))∧W.cell? ⟨w.heap.size,3,none⟩=some (.int .u64 (s 3:Nat))∧
 W.cell? ⟨w.heap.size,4,none⟩=some (.int .u64 (s 4:Nat))∧W.cell? ⟨w.heap.size,5,none⟩=some (.int .u64 (s 5:Nat))∧W.cell? ⟨w.heap.size,6,none⟩=some (.int .u64 (s 6:Nat))∧Below w.heap.size w W∧w.heap.size < W.heap.size
theorem BoxS.keep {w W W':World} {s:Nat→Nat} (h:BoxS w s W) (hb:Below W.heap.size W W'):BoxS w s W':=by
 obtain ⟨h0,h1,h2,h3,h4,h5,h6,h7,h8⟩:=h
 exact ⟨(hb.cell (p:=⟨w.heap.size,0,none⟩) h8).trans h0,(hb.cell (p:=⟨w.heap.size,1,none⟩) h8).trans h1,(hb.cell (p:=⟨w.heap.size,2,none⟩) h8).trans h2,(hb.cell (p:=⟨w.heap.size,3,none⟩) h8).trans h3,
  (hb.cell (p:=⟨w.heap.size,4,none⟩) h8).trans h4,(hb.cell (p:=⟨w.heap.size,5,none⟩) h8).trans h5,(hb.cell (p:=⟨w.heap.size,6,none⟩) h8).trans h6,h7.trans (hb.mono (by omega)),zH h8 hb.size⟩
theorem WMay_any (s:Nat→Nat) (w:World) (hs:∀i,i < 7→s i < 18446744073709551616) :
  Calls Tryz.prog 36 #[wv s] w fun e w'=>e= .returned (.bool (eqW (inW s) s))∧Below w.heap.size w w':=by
 have c1:=hid (fun W=>ykm s W hs)
 have heq:=fun W=>yjJ (inW s) s W
 have hB0:Below w.heap.size w (w.alloc (.cells #[.int .u64 (s 0:Nat), .int .u64 (s 1:Nat), .int .u64 (s 2:Nat), .int .u64 (s 3:Nat), .int .u64 (s 4:Nat), .int .u64 (s 5:Nat), .int .u64 (s 6:Nat)] 32)):=yaa (Below.refl _ _) (zG _)
 have HS0:Hid (BoxS w s (w.alloc (.cells #[.int .u64 (s 0:Nat), .int .u64 (s 1:Nat), .int .u64 (s 2:Nat), .int .u64 (s 3:Nat), .int .u64 (s 4:Nat), .int .u64 (s 5:Nat), .int .u64 (s 6:Nat)] 32)).drew):=by
  obtain ⟨r0,r1,r2,r3,r4,r5,r6⟩:=(ydZ w s 32).all
  exact ⟨r0,r1,r2,r3,r4,r5,r6,hB0.drew,by simp [go_sem]⟩
 have c2:=hid (fun W (h:BoxS w s W)=>keep_of (c1.out W) (fun _=>h.keep))
 clear hB0
 go_enter Tryz.func36,Tryz.ntmps36
 go_wp2_with fail
 go_region_held3 (fun w'=>BoxS w s w') (first | exact HS0.out | assumption)
  (first
    | (go_at_call 78; refine (c2.out _ (by assumption)).mono ?_; rintro e w' ⟨rfl,hS⟩))
 go_wp2
 go_ret
 exact ⟨rfl,(‹BoxS w s _›).2.2.2.2.2.2.2.1⟩
def bitW (s:Nat→Nat) (k:Nat):Bool:=(s (k / 64)).testBit (k % 64)
def hasW (s:Nat→Nat) (n:Int):Bool:=mayB n && bitW s n.toNat
theorem WHas_any (s:Nat→Nat) (n:Int) (w:World) (hs:∀i,i < 7→s i < 18446744073709551616) :
  Calls Tryz.prog 138 #[wv s, .int .i64 n] w fun e w'=>e= .returned (.bool (hasW s n))∧Below w.heap.size w w':=by
 have c1:=hid (fun W=>WMayN_any n W)
 unfold hasW
 by_cases hb:mayB n=true
 ·rw [hb] at c1⊢
  rw [mayB] at hb
  simp at hb
  obtain ⟨k,rfl⟩:∃k:Nat,n=k:=⟨n.toNat,by omega⟩
  have hk:k < 400:=by omega
  have hc:=ydZ w s 32
  have e1:=hc (k / 64) (by omega)
  have c2:=hid (fun W=>yb9 (s (k / 64)) ((k % 64:Nat):Int) W (hs _ (by omega)))
  rw [ygq,show ((k % 64:Nat):Int)= (k:Int) % 64 by simp] at c2
  have hlt:k / 64 < 7:=by omega
  clear hb hc
  go_enter Tryz.func138,Tryz.ntmps138
  go_wp2_with fail
  refine (c1.out _).mono ?_
  rintro e w' ⟨rfl,rfl⟩
  go_wp2_with fail
  refine (c2.out _).mono ?_
  rintro e w' ⟨rfl,rfl⟩
  go_wp2
  go_ret
  exact ⟨by simp [bitW],yaa (Below.refl _ _) (zG _)⟩
 ·have hb':mayB n=false:=by simpa using hb
  rw [hb'] at c1⊢
  clear hb hb'
  go_enter Tryz.func138,Tryz.ntmps138
  go_wp2_with fail
  refine (c1.out _).mono ?_
  rintro e w' ⟨rfl,rfl⟩
  go_wp2
  go_ret
  exact ⟨rfl,yaa (Below.refl _ _) (zG _)⟩
def lenW (t:Nat→Nat):Nat→Nat
 | 0=>0
 | n+1=>lenW t n+Lib.popAux 64 (t n)
theorem lenW_succ (t:Nat→Nat) (n:Nat):lenW t (n+1)=lenW t n+Lib.popAux 64 (t n):=rfl
theorem lenW_le (t:Nat→Nat):∀n,lenW t n≤64 * n
 | 0=>zG _
 | n+1=>by
   have:=lenW_le t n
   have h:Lib.popAux 64 (t n)≤64:=by rw [←sel_pop]; exact yeU _ _
   rw [lenW]; omega
end
end Go.Proofs.YtjahgimnfliooaaGreatDoor
