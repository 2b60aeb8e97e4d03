/-
  feriaref32.week: is a day one of a rule's weekdays?
-/
import Derived.Test.YtjahgimnfliooaaGreatDoorQaeb5bd
import Derived.Test.YtjahgimnfliooaaGreatDoorQbd5244
set_option maxRecDepth 100000
set_option maxHeartbeats 25600000
namespace Go.Proofs.YtjahgimnfliooaaGreatDoor
open Go.RowKit
set_option linter.unusedVariables false
structure RkF (w:World) (r:Ru) (s:Nat→Int) (W:World):Prop where
 rb:RuB W w.heap.size r
 sh:ShS W (w.heap.size+1) s
 be:Below w.heap.size w W
 l:w.heap.size+1 < W.heap.size
theorem RkF.keep {w W W':World} {r:Ru} {s:Nat→Int} (h:RkF w r s W) (hb:Below W.heap.size W W'):RkF w r s W':=by
 have hs:=hb.size
 have hl:=h.l
 exact ⟨h.rb.below hb (by omega),h.sh.below hb hl,h.be.trans (hb.mono (by omega)),by omega⟩
abbrev RkS (w:World) (r:Ru) (s:Nat→Int) (W:World):Prop:=RuC W w.heap.size r∧ShS W (w.heap.size+1) s∧RkF w r s W
theorem RkF.sas {w W:World} {r:Ru} {s:Nat→Int} (k:RkF w r s W):RkS w r s W:=⟨k.rb.all,k.sh,k⟩
theorem rkF_new (w:World) (r:Ru) (s:Nat→Int) (t t':TypeId):RkF w r s ((w.alloc (.cells (yai r).toArray t)).alloc (.cells (yaV s).toArray t')):=by
 have h1:=(yaJ w r t).below (yaa (o:= .cells (yaV s).toArray t') (Below.refl _ _) (zG _)) (by simp)
 have h2:=ycF (w.alloc (.cells (yai r).toArray t)) t' (s 0) (s 1) (s 2) (s 3) (s 4) (s 5) (s 6) (s 7) (s 8) (s 9)
 rw [zzN] at h2
 exact ⟨h1,h2,yaa (yaa (Below.refl _ _) (zG _)) (by simp),by simp⟩
abbrev RgL (w:World) (r:Ru) (s:Nat→Int) (b o k:Nat) (x1 x2:Int) (W:World):Prop:=
 (W.cell? ⟨w.heap.size,7,none⟩=some (.slice (some ⟨b,o,none⟩) r.l7.length r.c7)∧W.cell? ⟨b,o+k * 2,none⟩=some (.int .i64 x1)∧W.cell? ⟨b,o+k * 2+1,none⟩=some (.int .i64 x2))∧ShS W (w.heap.size+1) s∧RkF w r s W
theorem RWeek_any (r:Ru) (s:Nat→Int) (w:World) (hr:RuS w r) (hm:r.Sm 1000000) (hst:winB r.st=true) (hs:∀i,0≤s i∧s i≤1000000):Calls Tryz.prog 89 #[ruv r,shq s] w fun e w'=>e= .returned (.bool (yjB r s))∧Below w.heap.size w w':=by
 obtain ⟨W0,hW0⟩:∃W0,(w.alloc (.cells (yai r).toArray 25)).alloc (.cells (yaV s).toArray 88)=W0:=⟨_,rfl⟩
 have HF:Hid (RkF w r s W0):=by rw [←hW0]; exact rkF_new w r s _ _
 have HF':Hid (RkF w r s W0.drew):=HF.out.keep (Below.refl _ _).drew
 have HW0:=hid hW0
 clear hW0
 obtain ⟨h0,h1⟩:=ydx hst
 have cD:=hid (fun W=>ygD (r.st / 86400) W (by omega) (by omega))
 rw [show (r.st / 86400 % 7+3) % 7+1=wdI (r.st / 86400) from rfl] at cD
 have hS6:=hid (hs 6)
 have hS7:=hid (hs 7)
 have hS8:=hid (hs 8)
 have hS9:=hid (hs 9)
 have hn7:=hid (IntWalk.i64_in (-s 7) (by have:=hs 7; omega))
 have hn9:=hid (IntWalk.i64_in (-s 9) (by have:=hs 9; omega))
 have hlI:(r.l7.length:Int)≤1000000:=by have:=hm.n7; omega
 have Hs:=hid hr.s7
 rw [yjB,shq]
 obtain ⟨D,hD⟩:∃D,wdI (r.st / 86400)=D:=⟨_,rfl⟩
 rw [hD] at cD⊢
 clear hD hs hm hr
 by_cases h7:r.l7.length=0
 ·rw [if_pos h7]
  have cb:((r.l7.length:Int) == 0)=true:=by simpa using h7
  clear h7 Hs hlI
  by_cases h4:r.fq=4
  rotate_left
  ·rw [zzZ (show r.fq≠4 from h4),Bool.true_or]
   have cb4:(r.fq != 4)=true:=by simpa using h4
   clear h4
   go_enter Tryz.func89,Tryz.ntmps89
   go_upto_region 1 with fail
   rw [HW0.out]
   obtain ⟨⟨⟨k0,k1,k2,k3,k4⟩,k5,k6,k7,k8,k9,kx⟩,⟨s0,s1,s2,s3,s4,s5,s6,s7,s8,s9⟩,-⟩:=HF.out.sas
   go_upto_region 2 with fail
   refine wp_region_held_drew (S:=fun w'=>RkS w r s w') (by kernel_rfl) HF'.out.sas (fun hHeld=>?_)
   refine zhB 0 ?_
   refine zhB 1 ?_
   refine zhB 2 ?_
   refine zhB 3 ?_
   refine zhS 4 ?_
   refine zhS 5 ?_
   refine zhS 6 ?_
   refine zhS 7 ?_
   refine zhS 8 ?_
   refine zhS 9 ?_
   refine zhS 10 ?_
   refine zhB 11 ?_
   refine zhB 12 ?_
   refine wpAnyH_done (by kernel_rfl) ?_ _
   have HV:=hid ‹RkS w r s _›
   go_wp2
   go_ret
   exact ⟨rfl,HV.out.2.2.be⟩
  ·rw [zzd (fun e=>e h4:¬r.fq≠4),Bool.false_or]
   have cb4:(r.fq != 4)=false:=by simpa using h4
   clear h4
   have hq:=hid (show IntKind.i64.wrap (r.st.tdiv 86400)=r.st / 86400 by rw [Int.tdiv_eq_ediv_of_nonneg h0]; exact IntWalk.i64_in _ (by omega))
   have hE:Hid (decide (s 5=D)= (s 5 == D)):=by show _ = _; rw [zze]; simp
   rw [hE.out]
   go_enter Tryz.func89,Tryz.ntmps89
   go_upto_region 1 with fail
   rw [HW0.out]
   obtain ⟨⟨⟨k0,k1,k2,k3,k4⟩,k5,k6,k7,k8,k9,kx⟩,⟨s0,s1,s2,s3,s4,s5,s6,s7,s8,s9⟩,-⟩:=HF.out.sas
   go_upto_region 2 with fail
   refine wp_region_held_drew (S:=fun w'=>RkS w r s w') (by kernel_rfl) HF'.out.sas (fun hHeld=>?_)
   refine zhB 0 ?_
   refine zhB 1 ?_
   refine zhB 2 ?_
   refine zhB 3 ?_
   refine zhB 4 ?_
   refine zhB 5 ?_
   refine zhB 6 ?_
   refine zhB 7 ?_
   refine zT 8 (v:=?_) ?_ ?_
   rotate_left
   ·intro w hSw; (try dsimp only [RMS] at hSw); go_simp; rw [hq.out]
   try simp only [zP]
   refine zzK 9 (fun K hK=>?_)
   go_simp
   refine (cD.out _).mono ?_; rintro e wr ⟨rfl,rfl⟩
   (try go_wp2_with fail)
   refine hK.out _ _ (by assumption) (fun hHeld=>?_)
   clear hK K
   try simp only [zP]
   refine zhB 10 ?_
   refine zhB 11 ?_
   refine zhB 12 ?_
   refine wpAnyH_done (by kernel_rfl) ?_ _
   have HV:=hid ‹RkS w r s _›
   go_wp2
   go_ret
   exact ⟨rfl,HV.out.2.2.be⟩
 ·rw [if_neg h7]
  have cb:((r.l7.length:Int) == 0)=false:=by simpa using h7
  clear h7 cD h0 h1
  go_enter Tryz.func89,Tryz.ntmps89
  go_upto_region 1 with fail
  rw [HW0.out]
  obtain ⟨⟨⟨k0,k1,k2,k3,k4⟩,k5,k6,k7,k8,k9,kx⟩,⟨s0,s1,s2,s3,s4,s5,s6,s7,s8,s9⟩,-⟩:=HF.out.sas
  go_wp2_with fail
  go_loopw [5] (fun i wr=>∃k:Nat,i= .int .i64 k∧k≤r.l7.length∧Hid ((r.l7.take k).any (fun x=>decide (x.2=s 5) && decide (x.1=atW r s x.1))=false)∧Hid (RkF w r s wr)) (fun i _=>r.l7.length - (intOf i).toNat)
  case atStart=>exact ⟨0,rfl,by omega,by show _ = _; rfl,HF⟩
  case round=>
   obtain ⟨k,rfl,hk,hI,HL⟩:=hrel
   clear k0 k1 k2 k3 k4 k5 k6 k7 k8 k9 kx s0 s1 s2 s3 s4 s5 s6 s7 s8 s9
   by_cases hlt:k < r.l7.length
   ·have hltI:(k:Int) < r.l7.length:=by omega
    obtain ⟨b',o7,ha,hb,hc⟩:=Hs.out.atNth hlt
    have e1:=(HL.out.be.cell (p:=⟨b',o7+k * 2,none⟩) hb).trans (hc k hlt).1
    have e2:=(HL.out.be.cell (p:=⟨b',o7+k * 2+1,none⟩) hb).trans (hc k hlt).2
    have ht:=hid (yam r.l7 k hlt)
    have hmem:=hid (zzr hlt)
    obtain ⟨⟨x1,x2⟩,hy⟩:∃q,r.l7[k]=q:=⟨_,rfl⟩
    rw [hy] at e1 e2 ht hmem
    obtain ⟨⟨⟨k0,k1,k2,k3,k4⟩,k5,k6,k7,k8,k9,kx⟩,⟨s0,s1,s2,s3,s4,s5,s6,s7,s8,s9⟩,-⟩:=HL.out.sas
    rw [ha] at k7
    have HG:Hid (RgL w r s b' o7 k x1 x2 wr.drew):=by
     have hd:Below wr.heap.size wr wr.drew:=(Below.refl _ _).drew
     have hb1:b' < wr.heap.size:=zH hb HL.out.be.size
     have hb2:w.heap.size < wr.heap.size:=by have:=HL.out.l; omega
     exact ⟨⟨(hd.cell (p:=⟨w.heap.size,7,none⟩) hb2).trans k7,(hd.cell (p:=⟨b',o7+k * 2,none⟩) hb1).trans e1,(hd.cell (p:=⟨b',o7+k * 2+1,none⟩) hb1).trans e2⟩,(HL.out.keep hd).sh,HL.out.keep hd⟩
    have hw7:=hn7.out
    have hw9:=hn9.out
    clear hc hy hb
    by_cases hx:0 < x1
    ·by_cases h6:r.fq=6
     rotate_left
     ·have cb6:(r.fq == 6)=false:=by simpa using h6
      have hat:Hid (atW r s x1=s 6):=by show _ = _; rw [atW]; rw [if_pos hx,if_neg (fun e=>h6 e.1)]
      clear h6
      go_upto_region 16 with fail
      refine wp_region_held_drew (S:=fun w'=>RgL w r s b' o7 k x1 x2 w') (by kernel_rfl) HG.out (fun hHeld=>?_)
      refine zhB 0 ?_
      refine zhB 1 ?_
      refine zhB 2 ?_
      refine zhB 3 ?_
      refine zhB 4 ?_
      refine zhB 5 ?_
      refine zhB 6 ?_
      refine zhB 7 ?_
      refine zhB 8 ?_
      refine zhB 9 ?_
      by_cases hd:x2=s 5
      rotate_left
      ·have cd:(x2 == s 5)=false:=by simpa using hd
       have hd':=hid hd
       clear hd
       rw [cd]
       clear cd
       refine zhS 10 ?_
       refine zhS 11 ?_
       refine zhS 12 ?_
       refine zhB 13 ?_
       refine wpAnyH_done (by kernel_rfl) ?_ _
       have HV:=hid ‹RgL w r s b' o7 k x1 x2 _›
       have hn:Hid ((r.l7.take (k+1)).any (fun x=>decide (x.2=s 5) && decide (x.1=atW r s x.1))=false):=by show _ = _; rw [ht.out,List.any_append,hI.out,List.any_cons,List.any_nil,zzd (p:=x2=s 5) hd'.out,Bool.false_and]; simp
       go_wp2
       exact ⟨⟨k+1,by go_num,by omega,hn,HV.out.2.2⟩,by simp [intOf]; omega⟩
      have cd:(x2 == s 5)=true:=by simpa using hd
      have hd':=hid hd
      clear hd
      rw [cd]
      clear cd
      refine zhB 10 ?_
      refine zhB 11 ?_
      refine zhB 12 ?_
      refine zhB 13 ?_
      refine wpAnyH_done (by kernel_rfl) ?_ _
      have HV:=hid ‹RgL w r s b' o7 k x1 x2 _›
      by_cases hp:x1=s 6
      rotate_left
      ·have cp:(x1 == s 6)=false:=by simpa using hp
       have hp':=hid hp
       clear hp
       have hn:Hid ((r.l7.take (k+1)).any (fun x=>decide (x.2=s 5) && decide (x.1=atW r s x.1))=false):=by show _ = _; rw [ht.out,List.any_append,hI.out,List.any_cons,List.any_nil,zzd (p:=x1=atW r s x1) (by rw [hat.out]; exact hp'.out),Bool.and_false]; simp
       go_wp2
       exact ⟨⟨k+1,by go_num,by omega,hn,HV.out.2.2⟩,by simp [intOf]; omega⟩
      have cp:(x1 == s 6)=true:=by simpa using hp
      have hall:Hid (r.l7.any (fun x=>decide (x.2=s 5) && decide (x.1=atW r s x.1))=true):=List.any_eq_true.2 ⟨(x1,x2),hmem.out,by show (decide (x2=s 5) && decide (x1=atW r s x1))=true; rw [zzZ hd'.out,zzZ (hp.trans hat.out.symm)]; rfl⟩
      clear hp
      go_wp2
      go_ret
      exact ⟨by rw [hall.out]; rfl,HV.out.2.2.be⟩
     by_cases h5:r.l5.length=0
     rotate_left
     ·have cb6:(r.fq == 6)=true:=by simpa using h6
      have cb5:((r.l5.length:Int) == 0)=false:=by simpa using h5
      have hat:Hid (atW r s x1=s 6):=by show _ = _; rw [atW]; rw [if_pos hx,if_neg (fun e=>h5 e.2)]
      clear h6 h5
      go_upto_region 16 with fail
      refine wp_region_held_drew (S:=fun w'=>RgL w r s b' o7 k x1 x2 w') (by kernel_rfl) HG.out (fun hHeld=>?_)
      refine zhB 0 ?_
      refine zhB 1 ?_
      refine zhB 2 ?_
      refine zhB 3 ?_
      refine zhB 4 ?_
      refine zhB 5 ?_
      refine zhB 6 ?_
      refine zhB 7 ?_
      refine zhB 8 ?_
      refine zhB 9 ?_
      by_cases hd:x2=s 5
      rotate_left
      ·have cd:(x2 == s 5)=false:=by simpa using hd
       have hd':=hid hd
       clear hd
       rw [cd]
       clear cd
       refine zhS 10 ?_
       refine zhS 11 ?_
       refine zhS 12 ?_
       refine zhB 13 ?_
       refine wpAnyH_done (by kernel_rfl) ?_ _
       have HV:=hid ‹RgL w r s b' o7 k x1 x2 _›
       have hn:Hid ((r.l7.take (k+1)).any (fun x=>decide (x.2=s 5) && decide (x.1=atW r s x.1))=false):=by show _ = _; rw [ht.out,List.any_append,hI.out,List.any_cons,List.any_nil,zzd (p:=x2=s 5) hd'.out,Bool.false_and]; simp
       go_wp2
       exact ⟨⟨k+1,by go_num,by omega,hn,HV.out.2.2⟩,by simp [intOf]; omega⟩
      have cd:(x2 == s 5)=true:=by simpa using hd
      have hd':=hid hd
      clear hd
      rw [cd]
      clear cd
      refine zhB 10 ?_
      refine zhB 11 ?_
      refine zhB 12 ?_
      refine zhB 13 ?_
      refine wpAnyH_done (by kernel_rfl) ?_ _
      have HV:=hid ‹RgL w r s b' o7 k x1 x2 _›
      by_cases hp:x1=s 6
      rotate_left
      ·have cp:(x1 == s 6)=false:=by simpa using hp
       have hp':=hid hp
       clear hp
       have hn:Hid ((r.l7.take (k+1)).any (fun x=>decide (x.2=s 5) && decide (x.1=atW r s x.1))=false):=by show _ = _; rw [ht.out,List.any_append,hI.out,List.any_cons,List.any_nil,zzd (p:=x1=atW r s x1) (by rw [hat.out]; exact hp'.out),Bool.and_false]; simp
       go_wp2
       exact ⟨⟨k+1,by go_num,by omega,hn,HV.out.2.2⟩,by simp [intOf]; omega⟩
      have cp:(x1 == s 6)=true:=by simpa using hp
      have hall:Hid (r.l7.any (fun x=>decide (x.2=s 5) && decide (x.1=atW r s x.1))=true):=List.any_eq_true.2 ⟨(x1,x2),hmem.out,by show (decide (x2=s 5) && decide (x1=atW r s x1))=true; rw [zzZ hd'.out,zzZ (hp.trans hat.out.symm)]; rfl⟩
      clear hp
      go_wp2
      go_ret
      exact ⟨by rw [hall.out]; rfl,HV.out.2.2.be⟩
     have cb6:(r.fq == 6)=true:=by simpa using h6
     have cb5:((r.l5.length:Int) == 0)=true:=by simpa using h5
     have hat:Hid (atW r s x1=s 8):=by show _ = _; rw [atW]; rw [if_pos hx,if_pos ⟨h6,h5⟩]
     clear h6 h5
     go_upto_region 16 with fail
     refine wp_region_held_drew (S:=fun w'=>RgL w r s b' o7 k x1 x2 w') (by kernel_rfl) HG.out (fun hHeld=>?_)
     refine zhB 0 ?_
     refine zhB 1 ?_
     refine zhB 2 ?_
     refine zhB 3 ?_
     refine zhB 4 ?_
     refine zhB 5 ?_
     refine zhB 6 ?_
     refine zhB 7 ?_
     refine zhB 8 ?_
     refine zhB 9 ?_
     by_cases hd:x2=s 5
     rotate_left
     ·have cd:(x2 == s 5)=false:=by simpa using hd
      have hd':=hid hd
      clear hd
      rw [cd]
      clear cd
      refine zhS 10 ?_
      refine zhS 11 ?_
      refine zhS 12 ?_
      refine zhB 13 ?_
      refine wpAnyH_done (by kernel_rfl) ?_ _
      have HV:=hid ‹RgL w r s b' o7 k x1 x2 _›
      have hn:Hid ((r.l7.take (k+1)).any (fun x=>decide (x.2=s 5) && decide (x.1=atW r s x.1))=false):=by show _ = _; rw [ht.out,List.any_append,hI.out,List.any_cons,List.any_nil,zzd (p:=x2=s 5) hd'.out,Bool.false_and]; simp
      go_wp2
      exact ⟨⟨k+1,by go_num,by omega,hn,HV.out.2.2⟩,by simp [intOf]; omega⟩
     have cd:(x2 == s 5)=true:=by simpa using hd
     have hd':=hid hd
     clear hd
     rw [cd]
     clear cd
     refine zhB 10 ?_
     refine zhB 11 ?_
     refine zhB 12 ?_
     refine zhB 13 ?_
     refine wpAnyH_done (by kernel_rfl) ?_ _
     have HV:=hid ‹RgL w r s b' o7 k x1 x2 _›
     by_cases hp:x1=s 8
     rotate_left
     ·have cp:(x1 == s 8)=false:=by simpa using hp
      have hp':=hid hp
      clear hp
      have hn:Hid ((r.l7.take (k+1)).any (fun x=>decide (x.2=s 5) && decide (x.1=atW r s x.1))=false):=by show _ = _; rw [ht.out,List.any_append,hI.out,List.any_cons,List.any_nil,zzd (p:=x1=atW r s x1) (by rw [hat.out]; exact hp'.out),Bool.and_false]; simp
      go_wp2
      exact ⟨⟨k+1,by go_num,by omega,hn,HV.out.2.2⟩,by simp [intOf]; omega⟩
     have cp:(x1 == s 8)=true:=by simpa using hp
     have hall:Hid (r.l7.any (fun x=>decide (x.2=s 5) && decide (x.1=atW r s x.1))=true):=List.any_eq_true.2 ⟨(x1,x2),hmem.out,by show (decide (x2=s 5) && decide (x1=atW r s x1))=true; rw [zzZ hd'.out,zzZ (hp.trans hat.out.symm)]; rfl⟩
     clear hp
     go_wp2
     go_ret
     exact ⟨by rw [hall.out]; rfl,HV.out.2.2.be⟩
    have hx0:=hx
    clear hx
    by_cases hx:x1 < 0
    ·by_cases h6:r.fq=6
     rotate_left
     ·have cb6:(r.fq == 6)=false:=by simpa using h6
      have hat:Hid (atW r s x1= -s 7):=by show _ = _; rw [atW]; rw [if_neg hx0,if_pos hx,if_neg (fun e=>h6 e.1)]
      clear h6
      go_upto_region 16 with fail
      refine wp_region_held_drew (S:=fun w'=>RgL w r s b' o7 k x1 x2 w') (by kernel_rfl) HG.out (fun hHeld=>?_)
      refine zhB 0 ?_
      refine zhB 1 ?_
      refine zhB 2 ?_
      refine zhB 3 ?_
      refine zhB 4 ?_
      refine zhB 5 ?_
      refine zhB 6 ?_
      refine zhB 7 ?_
      refine zhB 8 ?_
      refine zhB 9 ?_
      by_cases hd:x2=s 5
      rotate_left
      ·have cd:(x2 == s 5)=false:=by simpa using hd
       have hd':=hid hd
       clear hd
       rw [cd]
       clear cd
       refine zhS 10 ?_
       refine zhS 11 ?_
       refine zhS 12 ?_
       refine zhB 13 ?_
       refine wpAnyH_done (by kernel_rfl) ?_ _
       have HV:=hid ‹RgL w r s b' o7 k x1 x2 _›
       have hn:Hid ((r.l7.take (k+1)).any (fun x=>decide (x.2=s 5) && decide (x.1=atW r s x.1))=false):=by show _ = _; rw [ht.out,List.any_append,hI.out,List.any_cons,List.any_nil,zzd (p:=x2=s 5) hd'.out,Bool.false_and]; simp
       go_wp2
       exact ⟨⟨k+1,by go_num,by omega,hn,HV.out.2.2⟩,by simp [intOf]; omega⟩
      have cd:(x2 == s 5)=true:=by simpa using hd
      have hd':=hid hd
      clear hd
      rw [cd]
      clear cd
      refine zhB 10 ?_
      refine zhB 11 ?_
      refine zhB 12 ?_
      refine zhB 13 ?_
      refine wpAnyH_done (by kernel_rfl) ?_ _
      have HV:=hid ‹RgL w r s b' o7 k x1 x2 _›
      by_cases hp:x1= -s 7
      rotate_left
      ·have cp:(x1 == -s 7)=false:=by simpa using hp
       have hp':=hid hp
       clear hp
       have hn:Hid ((r.l7.take (k+1)).any (fun x=>decide (x.2=s 5) && decide (x.1=atW r s x.1))=false):=by show _ = _; rw [ht.out,List.any_append,hI.out,List.any_cons,List.any_nil,zzd (p:=x1=atW r s x1) (by rw [hat.out]; exact hp'.out),Bool.and_false]; simp
       go_wp2
       exact ⟨⟨k+1,by go_num,by omega,hn,HV.out.2.2⟩,by simp [intOf]; omega⟩
      have cp:(x1 == -s 7)=true:=by simpa using hp
      have hall:Hid (r.l7.any (fun x=>decide (x.2=s 5) && decide (x.1=atW r s x.1))=true):=List.any_eq_true.2 ⟨(x1,x2),hmem.out,by show (decide (x2=s 5) && decide (x1=atW r s x1))=true; rw [zzZ hd'.out,zzZ (hp.trans hat.out.symm)]; rfl⟩
      clear hp
      go_wp2
      go_ret
      exact ⟨by rw [hall.out]; rfl,HV.out.2.2.be⟩
     by_cases h5:r.l5.length=0
     rotate_left
     ·have cb6:(r.fq == 6)=true:=by simpa using h6
      have cb5:((r.l5.length:Int) == 0)=false:=by simpa using h5
      have hat:Hid (atW r s x1= -s 7):=by show _ = _; rw [atW]; rw [if_neg hx0,if_pos hx,if_neg (fun e=>h5 e.2)]
      clear h6 h5
      go_upto_region 16 with fail
      refine wp_region_held_drew (S:=fun w'=>RgL w r s b' o7 k x1 x2 w') (by kernel_rfl) HG.out (fun hHeld=>?_)
      refine zhB 0 ?_
      refine zhB 1 ?_
      refine zhB 2 ?_
      refine zhB 3 ?_
      refine zhB 4 ?_
      refine zhB 5 ?_
      refine zhB 6 ?_
      refine zhB 7 ?_
      refine zhB 8 ?_
      refine zhB 9 ?_
      by_cases hd:x2=s 5
      rotate_left
      ·have cd:(x2 == s 5)=false:=by simpa using hd
       have hd':=hid hd
       clear hd
       rw [cd]
       clear cd
       refine zhS 10 ?_
       refine zhS 11 ?_
       refine zhS 12 ?_
       refine zhB 13 ?_
       refine wpAnyH_done (by kernel_rfl) ?_ _
       have HV:=hid ‹RgL w r s b' o7 k x1 x2 _›
       have hn:Hid ((r.l7.take (k+1)).any (fun x=>decide (x.2=s 5) && decide (x.1=atW r s x.1))=false):=by show _ = _; rw [ht.out,List.any_append,hI.out,List.any_cons,List.any_nil,zzd (p:=x2=s 5) hd'.out,Bool.false_and]; simp
       go_wp2
       exact ⟨⟨k+1,by go_num,by omega,hn,HV.out.2.2⟩,by simp [intOf]; omega⟩
      have cd:(x2 == s 5)=true:=by simpa using hd
      have hd':=hid hd
      clear hd
      rw [cd]
      clear cd
      refine zhB 10 ?_
      refine zhB 11 ?_
      refine zhB 12 ?_
      refine zhB 13 ?_
      refine wpAnyH_done (by kernel_rfl) ?_ _
      have HV:=hid ‹RgL w r s b' o7 k x1 x2 _›
      by_cases hp:x1= -s 7
      rotate_left
      ·have cp:(x1 == -s 7)=false:=by simpa using hp
       have hp':=hid hp
       clear hp
       have hn:Hid ((r.l7.take (k+1)).any (fun x=>decide (x.2=s 5) && decide (x.1=atW r s x.1))=false):=by show _ = _; rw [ht.out,List.any_append,hI.out,List.any_cons,List.any_nil,zzd (p:=x1=atW r s x1) (by rw [hat.out]; exact hp'.out),Bool.and_false]; simp
       go_wp2
       exact ⟨⟨k+1,by go_num,by omega,hn,HV.out.2.2⟩,by simp [intOf]; omega⟩
      have cp:(x1 == -s 7)=true:=by simpa using hp
      have hall:Hid (r.l7.any (fun x=>decide (x.2=s 5) && decide (x.1=atW r s x.1))=true):=List.any_eq_true.2 ⟨(x1,x2),hmem.out,by show (decide (x2=s 5) && decide (x1=atW r s x1))=true; rw [zzZ hd'.out,zzZ (hp.trans hat.out.symm)]; rfl⟩
      clear hp
      go_wp2
      go_ret
      exact ⟨by rw [hall.out]; rfl,HV.out.2.2.be⟩
     have cb6:(r.fq == 6)=true:=by simpa using h6
     have cb5:((r.l5.length:Int) == 0)=true:=by simpa using h5
     have hat:Hid (atW r s x1= -s 9):=by show _ = _; rw [atW]; rw [if_neg hx0,if_pos hx,if_pos ⟨h6,h5⟩]
     clear h6 h5
     go_upto_region 16 with fail
     refine wp_region_held_drew (S:=fun w'=>RgL w r s b' o7 k x1 x2 w') (by kernel_rfl) HG.out (fun hHeld=>?_)
     refine zhB 0 ?_
     refine zhB 1 ?_
     refine zhB 2 ?_
     refine zhB 3 ?_
     refine zhB 4 ?_
     refine zhB 5 ?_
     refine zhB 6 ?_
     refine zhB 7 ?_
     refine zhB 8 ?_
     refine zhB 9 ?_
     by_cases hd:x2=s 5
     rotate_left
     ·have cd:(x2 == s 5)=false:=by simpa using hd
      have hd':=hid hd
      clear hd
      rw [cd]
      clear cd
      refine zhS 10 ?_
      refine zhS 11 ?_
      refine zhS 12 ?_
      refine zhB 13 ?_
      refine wpAnyH_done (by kernel_rfl) ?_ _
      have HV:=hid ‹RgL w r s b' o7 k x1 x2 _›
      have hn:Hid ((r.l7.take (k+1)).any (fun x=>decide (x.2=s 5) && decide (x.1=atW r s x.1))=false):=by show _ = _; rw [ht.out,List.any_append,hI.out,List.any_cons,List.any_nil,zzd (p:=x2=s 5) hd'.out,Bool.false_and]; simp
      go_wp2
      exact ⟨⟨k+1,by go_num,by omega,hn,HV.out.2.2⟩,by simp [intOf]; omega⟩
     have cd:(x2 == s 5)=true:=by simpa using hd
     have hd':=hid hd
     clear hd
     rw [cd]
     clear cd
     refine zhB 10 ?_
     refine zhB 11 ?_
     refine zhB 12 ?_
     refine zhB 13 ?_
     refine wpAnyH_done (by kernel_rfl) ?_ _
     have HV:=hid ‹RgL w r s b' o7 k x1 x2 _›
     by_cases hp:x1= -s 9
     rotate_left
     ·have cp:(x1 == -s 9)=false:=by simpa using hp
      have hp':=hid hp
      clear hp
      have hn:Hid ((r.l7.take (k+1)).any (fun x=>decide (x.2=s 5) && decide (x.1=atW r s x.1))=false):=by show _ = _; rw [ht.out,List.any_append,hI.out,List.any_cons,List.any_nil,zzd (p:=x1=atW r s x1) (by rw [hat.out]; exact hp'.out),Bool.and_false]; simp
      go_wp2
      exact ⟨⟨k+1,by go_num,by omega,hn,HV.out.2.2⟩,by simp [intOf]; omega⟩
     have cp:(x1 == -s 9)=true:=by simpa using hp
     have hall:Hid (r.l7.any (fun x=>decide (x.2=s 5) && decide (x.1=atW r s x.1))=true):=List.any_eq_true.2 ⟨(x1,x2),hmem.out,by show (decide (x2=s 5) && decide (x1=atW r s x1))=true; rw [zzZ hd'.out,zzZ (hp.trans hat.out.symm)]; rfl⟩
     clear hp
     go_wp2
     go_ret
     exact ⟨by rw [hall.out]; rfl,HV.out.2.2.be⟩
    by_cases h6:r.fq=6
    rotate_left
    ·have cb6:(r.fq == 6)=false:=by simpa using h6
     have hat:Hid (atW r s x1=0):=by show _ = _; rw [atW]; rw [if_neg hx0,if_neg hx]
     clear h6
     go_upto_region 16 with fail
     refine wp_region_held_drew (S:=fun w'=>RgL w r s b' o7 k x1 x2 w') (by kernel_rfl) HG.out (fun hHeld=>?_)
     refine zhB 0 ?_
     refine zhB 1 ?_
     refine zhB 2 ?_
     refine zhB 3 ?_
     refine zhB 4 ?_
     refine zhB 5 ?_
     refine zhB 6 ?_
     refine zhB 7 ?_
     refine zhB 8 ?_
     refine zhB 9 ?_
     by_cases hd:x2=s 5
     rotate_left
     ·have cd:(x2 == s 5)=false:=by simpa using hd
      have hd':=hid hd
      clear hd
      rw [cd]
      clear cd
      refine zhS 10 ?_
      refine zhS 11 ?_
      refine zhS 12 ?_
      refine zhB 13 ?_
      refine wpAnyH_done (by kernel_rfl) ?_ _
      have HV:=hid ‹RgL w r s b' o7 k x1 x2 _›
      have hn:Hid ((r.l7.take (k+1)).any (fun x=>decide (x.2=s 5) && decide (x.1=atW r s x.1))=false):=by show _ = _; rw [ht.out,List.any_append,hI.out,List.any_cons,List.any_nil,zzd (p:=x2=s 5) hd'.out,Bool.false_and]; simp
      go_wp2
      exact ⟨⟨k+1,by go_num,by omega,hn,HV.out.2.2⟩,by simp [intOf]; omega⟩
     have cd:(x2 == s 5)=true:=by simpa using hd
     have hd':=hid hd
     clear hd
     rw [cd]
     clear cd
     refine zhB 10 ?_
     refine zhB 11 ?_
     refine zhB 12 ?_
     refine zhB 13 ?_
     refine wpAnyH_done (by kernel_rfl) ?_ _
     have HV:=hid ‹RgL w r s b' o7 k x1 x2 _›
     by_cases hp:x1=0
     rotate_left
     ·exfalso; omega
     have cp:(x1 == 0)=true:=by simpa using hp
     have hall:Hid (r.l7.any (fun x=>decide (x.2=s 5) && decide (x.1=atW r s x.1))=true):=List.any_eq_true.2 ⟨(x1,x2),hmem.out,by show (decide (x2=s 5) && decide (x1=atW r s x1))=true; rw [zzZ hd'.out,zzZ (hp.trans hat.out.symm)]; rfl⟩
     clear hp
     go_wp2
     go_ret
     exact ⟨by rw [hall.out]; rfl,HV.out.2.2.be⟩
    by_cases h5:r.l5.length=0
    rotate_left
    ·have cb6:(r.fq == 6)=true:=by simpa using h6
     have cb5:((r.l5.length:Int) == 0)=false:=by simpa using h5
     have hat:Hid (atW r s x1=0):=by show _ = _; rw [atW]; rw [if_neg hx0,if_neg hx]
     clear h6 h5
     go_upto_region 16 with fail
     refine wp_region_held_drew (S:=fun w'=>RgL w r s b' o7 k x1 x2 w') (by kernel_rfl) HG.out (fun hHeld=>?_)
     refine zhB 0 ?_
     refine zhB 1 ?_
     refine zhB 2 ?_
     refine zhB 3 ?_
     refine zhB 4 ?_
     refine zhB 5 ?_
     refine zhB 6 ?_
     refine zhB 7 ?_
     refine zhB 8 ?_
     refine zhB 9 ?_
     by_cases hd:x2=s 5
     rotate_left
     ·have cd:(x2 == s 5)=false:=by simpa using hd
      have hd':=hid hd
      clear hd
      rw [cd]
      clear cd
      refine zhS 10 ?_
      refine zhS 11 ?_
      refine zhS 12 ?_
      refine zhB 13 ?_
      refine wpAnyH_done (by kernel_rfl) ?_ _
      have HV:=hid ‹RgL w r s b' o7 k x1 x2 _›
      have hn:Hid ((r.l7.take (k+1)).any (fun x=>decide (x.2=s 5) && decide (x.1=atW r s x.1))=false):=by show _ = _; rw [ht.out,List.any_append,hI.out,List.any_cons,List.any_nil,zzd (p:=x2=s 5) hd'.out,Bool.false_and]; simp
      go_wp2
      exact ⟨⟨k+1,by go_num,by omega,hn,HV.out.2.2⟩,by simp [intOf]; omega⟩
     have cd:(x2 == s 5)=true:=by simpa using hd
     have hd':=hid hd
     clear hd
     rw [cd]
     clear cd
     refine zhB 10 ?_
     refine zhB 11 ?_
     refine zhB 12 ?_
     refine zhB 13 ?_
     refine wpAnyH_done (by kernel_rfl) ?_ _
     have HV:=hid ‹RgL w r s b' o7 k x1 x2 _›
     by_cases hp:x1=0
     rotate_left
     ·exfalso; omega
     have cp:(x1 == 0)=true:=by simpa using hp
     have hall:Hid (r.l7.any (fun x=>decide (x.2=s 5) && decide (x.1=atW r s x.1))=true):=List.any_eq_true.2 ⟨(x1,x2),hmem.out,by show (decide (x2=s 5) && decide (x1=atW r s x1))=true; rw [zzZ hd'.out,zzZ (hp.trans hat.out.symm)]; rfl⟩
     clear hp
     go_wp2
     go_ret
     exact ⟨by rw [hall.out]; rfl,HV.out.2.2.be⟩
    have cb6:(r.fq == 6)=true:=by simpa using h6
    have cb5:((r.l5.length:Int) == 0)=true:=by simpa using h5
    have hat:Hid (atW r s x1=0):=by show _ = _; rw [atW]; rw [if_neg hx0,if_neg hx]
    clear h6 h5
    go_upto_region 16 with fail
    refine wp_region_held_drew (S:=fun w'=>RgL w r s b' o7 k x1 x2 w') (by kernel_rfl) HG.out (fun hHeld=>?_)
    refine zhB 0 ?_
    refine zhB 1 ?_
    refine zhB 2 ?_
    refine zhB 3 ?_
    refine zhB 4 ?_
    refine zhB 5 ?_
    refine zhB 6 ?_
    refine zhB 7 ?_
    refine zhB 8 ?_
    refine zhB 9 ?_
    by_cases hd:x2=s 5
    rotate_left
    ·have cd:(x2 == s 5)=false:=by simpa using hd
     have hd':=hid hd
     clear hd
     rw [cd]
     clear cd
     refine zhS 10 ?_
     refine zhS 11 ?_
     refine zhS 12 ?_
     refine zhB 13 ?_
     refine wpAnyH_done (by kernel_rfl) ?_ _
     have HV:=hid ‹RgL w r s b' o7 k x1 x2 _›
     have hn:Hid ((r.l7.take (k+1)).any (fun x=>decide (x.2=s 5) && decide (x.1=atW r s x.1))=false):=by show _ = _; rw [ht.out,List.any_append,hI.out,List.any_cons,List.any_nil,zzd (p:=x2=s 5) hd'.out,Bool.false_and]; simp
     go_wp2
     exact ⟨⟨k+1,by go_num,by omega,hn,HV.out.2.2⟩,by simp [intOf]; omega⟩
    have cd:(x2 == s 5)=true:=by simpa using hd
    have hd':=hid hd
    clear hd
    rw [cd]
    clear cd
    refine zhB 10 ?_
    refine zhB 11 ?_
    refine zhB 12 ?_
    refine zhB 13 ?_
    refine wpAnyH_done (by kernel_rfl) ?_ _
    have HV:=hid ‹RgL w r s b' o7 k x1 x2 _›
    by_cases hp:x1=0
    rotate_left
    ·exfalso; omega
    have cp:(x1 == 0)=true:=by simpa using hp
    have hall:Hid (r.l7.any (fun x=>decide (x.2=s 5) && decide (x.1=atW r s x.1))=true):=List.any_eq_true.2 ⟨(x1,x2),hmem.out,by show (decide (x2=s 5) && decide (x1=atW r s x1))=true; rw [zzZ hd'.out,zzZ (hp.trans hat.out.symm)]; rfl⟩
    clear hp
    go_wp2
    go_ret
    exact ⟨by rw [hall.out]; rfl,HV.out.2.2.be⟩
   ·have hke:r.l7.take k=r.l7:=List.take_of_length_le (by omega)
    rw [hke] at hI
    have hltI:¬(k:Int) < r.l7.length:=by omega
    clear hke
    obtain ⟨⟨⟨k0,k1,k2,k3,k4⟩,k5,k6,k7,k8,k9,kx⟩,⟨s0,s1,s2,s3,s4,s5,s6,s7,s8,s9⟩,-⟩:=HL.out.sas
    go_wp2
    go_ret
    exact ⟨by rw [hI.out]; rfl,HL.out.be⟩
end Go.Proofs.YtjahgimnfliooaaGreatDoor
