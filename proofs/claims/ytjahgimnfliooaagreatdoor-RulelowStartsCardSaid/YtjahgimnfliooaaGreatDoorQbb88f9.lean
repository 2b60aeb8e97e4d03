/-
  A rule that is handed in: its numbers, its lists.
-/
import Derived.Test.YtjahgimnfliooaaGreatDoorQ6f5c7a
import Derived.Test.YtjahgimnfliooaaGreatDoorQf5abfa
import Derived.Deep.Fields
import Derived.ChangeSame
import Derived.SizedLaws
set_option maxRecDepth 100000
set_option maxHeartbeats 25600000
namespace Go.Proofs.YtjahgimnfliooaaGreatDoor
open Go.ChangeShapes Go.WideShapes Go.ChangeAt Go.RowKit Go.Deep
set_option linter.unusedVariables false
theorem yiY:∀{cells:List Value} {n:Nat},cells.length=n * 2→(∀i,i < n→oks [.int .i64, .int .i64] ((cells.drop (i * 2)).take 2))→∃l:List (Int × Int),cells=nths l∧l.length=n
 | cells,0,h,_=>⟨[],by cases cells; rfl; simp at h,rfl⟩
 | cells,n+1,h,hk=>by
   obtain ⟨l,e,hl⟩:=yiY (cells:=cells.drop 2) (n:=n) (by simp; omega) (fun i hi=>by
    have:=hk (i+1) (by omega)
    rw [List.drop_drop]
    rwa [show 2+i * 2= (i+1) * 2 by omega])
   have h0:=hk 0 (by omega)
   rw [Nat.zero_mul,List.drop_zero] at h0
   obtain ⟨x,y,ec,-,-⟩:=oks_two h0
   refine ⟨(x,y) :: l,?_,by simp [hl]⟩
   rw [show nths ((x,y) :: l)= [.int .i64 x, .int .i64 y] ++ nths l by simp [nths,nth2],←e,←ec,List.take_append_drop]
theorem ycg {H:Type} {enc:TypeId × Value→H} {W:World} {fuel:Nat} {v:Value} {y:DataW H × List MemPlace} (h:DataW.trod enc Tryz.prog W 0 (fun _=>true) true fuel 22 [v]=some y) :
  ∃(a:Option Addr) (cap:Nat) (l:List Int),v= .slice a l.length cap∧(l.length=0∨∃elems spare,y.1= .slice elems spare∧elems.length=l.length)∧Sl W a (ints l):=by
 obtain ⟨a,n,cap,cells,rfl,h1,h2,h3,h4,h6,h5⟩:=yhb (m:=1) (ks:= [.int .i64]) Tryz.underlying22 (by kernel_rfl) (by kernel_rfl) (by decide) h
 obtain ⟨l,rfl,rfl,-⟩:=yiZ h3 h5
 refine ⟨a,cap,l,rfl,?_,h4⟩
 rcases Go.Deep.open_slice Tryz.underlying22 h with ⟨e,-⟩ | ⟨a',len,cap',m,nn,D,Pl,e,-,-,-,-,rfl,-⟩
 ·left
  simp only [List.cons.injEq,Value.slice.injEq] at e
  exact e.1.2.1
 ·right
  simp only [List.cons.injEq,Value.slice.injEq] at e
  exact ⟨_,_,rfl,by rw [List.length_map,List.length_range]; exact e.1.2.1.symm⟩
theorem yjX {H:Type} {enc:TypeId × Value→H} {W:World} {fuel:Nat} {v:Value} {y:DataW H × List MemPlace} (h:DataW.trod enc Tryz.prog W 0 (fun _=>true) true fuel 23 [v]=some y) :
  ∃(a:Option Addr) (cap:Nat) (l:List (Int × Int)),v= .slice a l.length cap∧(l.length=0∨∃elems spare,y.1= .slice elems spare∧elems.length=l.length)∧Sl W a (nths l):=by
 obtain ⟨a,n,cap,cells,rfl,h1,h2,h3,h4,h6,h5⟩:=yhb (m:=3) (ks:= [.int .i64, .int .i64]) Tryz.underlying23 (by kernel_rfl) (by kernel_rfl) (by decide) h
 obtain ⟨l,rfl,rfl⟩:=yiY h3 h5
 refine ⟨a,cap,l,rfl,?_,h4⟩
 rcases Go.Deep.open_slice Tryz.underlying23 h with ⟨e,-⟩ | ⟨a',len,cap',m,nn,D,Pl,e,-,-,-,-,rfl,-⟩
 ·left
  simp only [List.cons.injEq,Value.slice.injEq] at e
  exact e.1.2.1
 ·right
  simp only [List.cons.injEq,Value.slice.injEq] at e
  exact ⟨_,_,rfl,by rw [List.length_map,List.length_range]; exact e.1.2.1.symm⟩
theorem ydI {H:Type} {enc:TypeId × Value→H} {W:World} {fuel:Nat} {v:Value} {y:DataW H × List MemPlace} (h:DataW.trod enc Tryz.prog W 0 (fun _=>true) true fuel 2 [v]=some y):∃n,v= .int .i64 n∧i64B n:=by
 obtain ⟨k,-⟩:=ycO 1 (show yev Tryz.prog 1 2=some [.int .i64] by kernel_rfl) h
 exact ok_i k
theorem open_rint {H:Type} {enc:TypeId × Value→H} {W:World} {fuel:Nat} {v:Value} {y:DataW H × List MemPlace} (h:DataW.trod enc Tryz.prog W 0 (fun _=>true) true fuel 3 [v]=some y):∃n,v= .int .i64 n∧i64B n:=by
 obtain ⟨k,-⟩:=ycO 1 (show yev Tryz.prog 1 3=some [.int .i64] by kernel_rfl) h
 exact ok_i k
theorem oneRule:∃fs,Tryz.prog.underlying 25=some (.struct fs)∧oneCellFields Tryz.prog fs=true∧(fs.map (·.type)).toList= [2,3,2,2,2,22,22,23,22,22,22]:=⟨_,Tryz.underlying25,by kernel_rfl,by kernel_rfl⟩
theorem cellsRule:Tryz.prog.cellsOf 25=11:=by kernel_rfl
theorem open_rule {H:Type} {enc:TypeId × Value→H} {W:World} {rc:Reach} {b0:Nat} {v:Value} {d:DataW H} {p:List MemPlace} (hv:Value.okWide Tryz.prog W rc b0 25 v) (h:DataW.Trod enc Tryz.prog W 0 (fun _=>true) true 25 v d p)
  (hz:(DataW.weights Tryz.prog 25 d).all (·≤reachBytes)=true) :
  ∃r:Ru,v=ruv r∧RuS W r∧r.Num∧r.Sm 281474976710656:=by
 obtain ⟨fs,hs,hone,hty⟩:=oneRule
 obtain ⟨cs,rfl,hsz⟩:=okWide_struct hs hv
 obtain ⟨l⟩:=cs
 match l,hsz.trans cellsRule with
 | [c0,c1,c2,c3,c4,c5,c6,c7,c8,c9,c10],_=>
   obtain ⟨fuel,hf⟩:=h
   obtain ⟨xs,n,_,hx,_,hlen,hg⟩:=DataW.trod_struct hs hf
   obtain rfl:d= .agg (xs.map (·.1)):=by injection hx
   have hw:(DataW.weightsEach Tryz.prog [2,3,2,2,2,22,22,23,22,22,22] (xs.map (·.1))).all (·≤reachBytes)=true:=by
    have e:fs.toList.map (·.type)= [2,3,2,2,2,22,22,23,22,22,22]:=by rw [←hty,Array.toList_map]
    rw [←e]
    simpa only [DataW.weights,hs] using hz
   have key:∀(i:Nat) (t:TypeId) (c:Value),[2,3,2,2,2,22,22,23,22,22,22][i]? =some t→ [c0,c1,c2,c3,c4,c5,c6,c7,c8,c9,c10][i]? =some c→∃y,DataW.trod enc Tryz.prog W 0 (fun _=>true) true n t [c]=some y∧(xs.map (·.1))[i]? =some y.1:=by
    intro i t c ht hc
    rw [←hty] at ht
    have hfi:∃f,fs[i]? =some f∧f.type=t:=by
     simp only [Array.toList_map,List.getElem?_map,Option.map_eq_some_iff] at ht
     obtain ⟨f,hf1,hf2⟩:=ht
     exact ⟨f,by simpa using hf1,hf2⟩
    obtain ⟨f,hf1,rfl⟩:=hfi
    obtain ⟨o,k⟩:=hone_of hone i f hf1
    have g:=hg i f hf1
    rw [o,k] at g
    have hil:i < fs.size:=(Array.getElem?_eq_some_iff.1 hf1).1
    have hxs:i < xs.length:=by omega
    refine ⟨xs[i],?_,by rw [List.getElem?_map,zzp hxs]; rfl⟩
    rw [zzp hxs] at g
    have e:(((Value.agg [c0,c1,c2,c3,c4,c5,c6,c7,c8,c9,c10].toArray).cells.toList.drop i).take 1)= [c]:=by
     show ([c0,c1,c2,c3,c4,c5,c6,c7,c8,c9,c10].drop i).take 1= [c]
     obtain ⟨hi',hce⟩:=zzq.1 hc
     rw [List.drop_eq_getElem_cons hi',hce]; rfl
    rw [e] at g
    exact g
   obtain ⟨z0,t0,u0⟩:=key 0 _ _ rfl rfl
   obtain ⟨z1,t1,u1⟩:=key 1 _ _ rfl rfl
   obtain ⟨z2,t2,u2⟩:=key 2 _ _ rfl rfl
   obtain ⟨z3,t3,u3⟩:=key 3 _ _ rfl rfl
   obtain ⟨z4,t4,u4⟩:=key 4 _ _ rfl rfl
   obtain ⟨z5,t5,u5⟩:=key 5 _ _ rfl rfl
   obtain ⟨z6,t6,u6⟩:=key 6 _ _ rfl rfl
   obtain ⟨z7,t7,u7⟩:=key 7 _ _ rfl rfl
   obtain ⟨z8,t8,u8⟩:=key 8 _ _ rfl rfl
   obtain ⟨z9,t9,u9⟩:=key 9 _ _ rfl rfl
   obtain ⟨z10,t10,u10⟩:=key 10 _ _ rfl rfl
   obtain ⟨n0,rfl,g0⟩:=ydI t0
   obtain ⟨n1,rfl,g1⟩:=open_rint t1
   obtain ⟨n2,rfl,g2⟩:=ydI t2
   obtain ⟨n3,rfl,g3⟩:=ydI t3
   obtain ⟨n4,rfl,g4⟩:=ydI t4
   obtain ⟨a5,k5,l5,rfl,q5,s5⟩:=ycg t5
   have g5:l5.length≤281474976710656:=by
    rcases q5 with q | ⟨elems,spare,q,qe⟩
    ·omega
    ·rw [q] at u5
     have:=sized_slice hw (j:=5) rfl u5 Tryz.underlying22
     rw [show Tryz.prog.bytesOf 3=8 by kernel_rfl] at this
     simp only [reachBytes] at this
     omega
   obtain ⟨a6,k6,l6,rfl,q6,s6⟩:=ycg t6
   have g6:l6.length≤281474976710656:=by
    rcases q6 with q | ⟨elems,spare,q,qe⟩
    ·omega
    ·rw [q] at u6
     have:=sized_slice hw (j:=6) rfl u6 Tryz.underlying22
     rw [show Tryz.prog.bytesOf 3=8 by kernel_rfl] at this
     simp only [reachBytes] at this
     omega
   obtain ⟨a7,k7,l7,rfl,q7,s7⟩:=yjX t7
   have g7:l7.length≤281474976710656:=by
    rcases q7 with q | ⟨elems,spare,q,qe⟩
    ·omega
    ·rw [q] at u7
     have:=sized_slice hw (j:=7) rfl u7 Tryz.underlying23
     rw [show Tryz.prog.bytesOf 72=16 by kernel_rfl] at this
     simp only [reachBytes] at this
     omega
   obtain ⟨a8,k8,l8,rfl,q8,s8⟩:=ycg t8
   have g8:l8.length≤281474976710656:=by
    rcases q8 with q | ⟨elems,spare,q,qe⟩
    ·omega
    ·rw [q] at u8
     have:=sized_slice hw (j:=8) rfl u8 Tryz.underlying22
     rw [show Tryz.prog.bytesOf 3=8 by kernel_rfl] at this
     simp only [reachBytes] at this
     omega
   obtain ⟨a9,k9,l9,rfl,q9,s9⟩:=ycg t9
   have g9:l9.length≤281474976710656:=by
    rcases q9 with q | ⟨elems,spare,q,qe⟩
    ·omega
    ·rw [q] at u9
     have:=sized_slice hw (j:=9) rfl u9 Tryz.underlying22
     rw [show Tryz.prog.bytesOf 3=8 by kernel_rfl] at this
     simp only [reachBytes] at this
     omega
   obtain ⟨a10,k10,l10,rfl,q10,s10⟩:=ycg t10
   have g10:l10.length≤281474976710656:=by
    rcases q10 with q | ⟨elems,spare,q,qe⟩
    ·omega
    ·rw [q] at u10
     have:=sized_slice hw (j:=10) rfl u10 Tryz.underlying22
     rw [show Tryz.prog.bytesOf 3=8 by kernel_rfl] at this
     simp only [reachBytes] at this
     omega
   exact ⟨{st:=n0,fq:=n1,iv:=n2,co:=n3,un:=n4,l5:=l5,a5:=a5,c5:=k5,l6:=l6,a6:=a6,c6:=k6,l7:=l7,a7:=a7,c7:=k7,l8:=l8,a8:=a8,c8:=k8,l9:=l9,a9:=a9,c9:=k9,lx:=l10,ax:=a10,cx:=k10},rfl,⟨s5,s6,s7,s8,s9,s10⟩,⟨g0,g1,g2,g3,g4⟩,⟨g5,g6,g7,g8,g9,g10⟩⟩
end Go.Proofs.YtjahgimnfliooaaGreatDoor
