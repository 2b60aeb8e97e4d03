/- ferialaw38.ToruleSets -/
import Derived.Test.YtkdaiadfgfbgmaaGreatDoorQ9cec83
import Derived.Test.YtkdaiadfgfbgmaaGreatDoorQf3637b
set_option maxRecDepth 100000
set_option maxHeartbeats 25600000
set_option linter.unusedSimpArgs false
open Option renaming none -> N, some -> G
open Go.Value renaming int -> E, pointer -> R, slice -> Xs, bool -> Xb, func -> Xf, tuple -> Xt
open Go.IntKind renaming i64 -> T, u64 -> Y
open Go.Addr renaming mk -> Z
open Go renaming Calls -> H
open Go.Proofs.Tryz renaming prog -> I
open Go.Obj renaming cells -> J
open Go.Ending renaming returned -> Q
namespace Go.Proofs.YtkdaiadfgfbgmaaGreatDoor
open Go.RowKit Go.Maps
set_option linter.unusedVariables false
attribute [local irreducible] yal
attribute [local go_sem ↓] ya4 ya0
theorem yho (a:Option Addr) (cap:Nat) (l:List Cl) (w:World) (ag:l.length<=9223372036854775807) (ae:l.length<=cap) (hs:Sl w a (cls l)) (ad:a=N->cap=0) (ab:∀c∈l,c.Ok) (hT:Tab w) :
  H I 6 #[Xs a l.length cap] w λ e w'=>e=Q (Xb true)/\Bw w w':=by
 have cV:=hid (λ W (hB:Bw w W)=>yf1 W (hT.later hB));have H0:Hid (Bw w w):=Ye _ _;by_cases al:20<l.length
 ·have q:(20:Int)<l.length:=zo;clear al ag ae hs ad ab hT;go_enter Tryz.func6,Tryz.ntmps6
  go_wp2_with fail
  refine zm (cV _ H0) ?_;rintro wz hB;have HF:=hid (zu H0 hB);clear hB;go_wp2;go_ret;exact ⟨rfl,HF⟩
 have q:¬(20:Int)<l.length:=zo;have cR:=hid (yfE a cap l w zo ae hs ad ab hT);have cM:=hid (λ W (hB:Bw w W)=>yo8 a cap l W zo (hs.below hB) ab);have cO:=hid (λ W (hB:Bw w W)=>ymj a cap l W ag ae (hs.below hB) ad ab);have cL:=hid (λ r W (hB:Bw w W) hr hm hn hz=>ygn r W hr hm hn hz);have cE:=hid (λ g r W (hB:Bw w W) hf hg hn hG=>yfv a cap l g r W zo ae (hs.below hB) ad ab hf hg hn hG (hT.later hB));have cS:Hid (∀W,H I 18 #[ruv zRu, .agg zl0] W λ e w'=>e=Q (Xb true)/\Bw W w'):=λ W=>by
  have h:=yo4 zRu zRu W ⟨.inl rfl, .inl rfl, .inl rfl, .inl rfl, .inl rfl, .inl rfl⟩ ⟨.inl rfl, .inl rfl, .inl rfl, .inl rfl, .inl rfl, .inl rfl⟩ ydF.2.mil ydF.2.mil ydF.1 ydF.1;rwa [yol] at h
 rw [ycb] at cM;clear al ag ae hs ad ab hT;go_enter Tryz.func6,Tryz.ntmps6
 go_wp2_with fail
 refine cR.mono ?_;rintro e w1 ⟨hx,hB⟩;obtain ⟨r,Eq1,rfl,af,hn,hm,hE⟩:=ymR hx;have H1:=hid hB;have Hn:=hid hn;have Hm:=hid hm;have HE:=hid hE;clear hB hx cR hn hm hE;obtain ⟨st,hR,hb,hz⟩:=ycH w1 r;obtain ⟨w2,hn⟩:=zx ((w1.alloc (J zl0 25)).setCells w1.heap.size 0 (yad r));rw [hn] at st hR hb hz;obtain ⟨bx,ah⟩:=zx w1.heap.size;have H2:=hid (zu H1 hb);have HX:=hid hR;rw [ah] at st HX;have af:=af.below hb;have am:=hid af;have aq:=hid ah;clear hR hb hz hn ah af;go_upto_region 4 with (rw [aq])
 clear st;go_wp2_with fail
 refine zm (cM _ H2) ?_;rintro w3 hB;have H3:=hid (zu H2 hB);have ak:=HX.c.later hB;have ac:=am.below hB;have aj:=hid ak;have ai:=hid ac;clear hB cM ak ac am;have aa:∀{b:Prop},b->b:=λ h=>h;rcases HE.out with ⟨h1,h2,h3⟩ | ⟨h1,⟨h2,h3⟩ | ⟨h2,h3,-⟩⟩;focus
  subst h3;rw [zzd h1];obtain ⟨c,hc⟩:=zx (yag l);have an:=hid (cO _ H3);rw [h2];clear HE cO h1 h2 aa;go_wp2_with fail
  refine an.mono ?_;rintro e w4 ⟨⟨v,rfl,-⟩,hB⟩;rw [hc];have H4:=hid (zu H3 hB);have ld:=(aj.later hB).ldw;clear hB hc;go_wp2_with fail
  refine zm (cS _) ?_;rintro w5 hB;have H5:=hid (zu H4 hB)
 rotate_left
 ·subst h2;rw [zzZ h1];have ld:=aj.ldw;have ao:=hid (cL r w3 H3 ai Hm.mil Hn h3.co h3.e);have HG:=hid h3;have ar:=hid h1;clear HE aa h1 h3;go_wp2_with fail
  refine ao.mono ?_;rintro e w4 ⟨⟨g,rfl,hg⟩,hB⟩;have H4:=hid (zu H3 hB);have ap:=hid (cE g r w4 H4 ar hg Hn HG);clear hB hg ld;go_wp2_with fail
  refine zm ap ?_;rintro w5 hB;have H5:=hid (zu H4 hB);clear hB;have hv:=ygB w5 35;have hb:Bw w5 (w5.alloc (J #[Xb true,E T 0,Xb false] 35)):=yaa (Ye _ _) zg;go_upto_region 11 with fail
  generalize hw:w5.alloc (J #[Xb true,E T 0,Xb false] 35)=w6 at hv hb⊢
  have HY:=hid (zu H5 hb);clear hw hb;go_wp2_with fail
  refine zm (cV _ HY) ?_;rintro wz hB;have HF:=hid (zu HY hB);clear hB;go_wp2;go_ret;exact ⟨rfl,HF⟩
 focus
  subst h2;subst h3;rw [zzZ h1];have ld:=aj.ldw;clear HE aa h1;go_wp2_with fail
  refine zm (cS _) ?_;rintro w5 hB;have H5:=hid (zu H3 hB)
 rotate_left;all_goals
  clear hB ld;go_wp2_with fail
  refine zm (cV _ H5) ?_;rintro wz hB;have HF:=hid (zu H5 hB);clear hB;go_wp2;go_ret;exact ⟨rfl,HF⟩
