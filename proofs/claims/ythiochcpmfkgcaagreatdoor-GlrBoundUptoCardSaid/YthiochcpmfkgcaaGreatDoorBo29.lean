/- Walks and plain laws that the last text stands on: GlBLaw. -/
import Derived.Test.YthiochcpmfkgcaaGreatDoorBo22
import Derived.Test.YthiochcpmfkgcaaGreatDoorBo25
import Derived.Test.YthiochcpmfkgcaaGreatDoorBo28
set_option linter.unusedVariables false
set_option linter.unusedSimpArgs false
set_option maxRecDepth 100000
set_option maxHeartbeats 16000000
namespace Go.Proofs.YthiochcpmfkgcaaGreatDoor.Gl
open Go Go.RowKit Go.Proofs Go.Maps Go.WideMaps Mx Tb
theorem boundlaw_any (g:Gr) (N:Nat) (hN:N<=2000000) (w:World) (sv pv fv lv:Value) (hG:GramAt w N g sv pv fv lv) (txt:List UInt8) (htx:txt.length<=2000000) (n:Int) (he:EnvG w) :
  Calls Tryz.prog 8 #[.agg #[sv,pv,.int .i64 g.start,fv,lv],.string ⟨txt.toArray⟩,.int .i64 n] w fun e w'=>e=.returned (.bool true) /\ Below w.heap.size w w':=by
 obtain ⟨sa,sc,rfl⟩:=slice_shape hG.sorts;obtain ⟨pa,pc,rfl⟩:=prodsAt_shape hG.prodsAt;obtain ⟨fa,fc,rfl⟩:=slice_shape hG.forbid;obtain ⟨la,lc,rfl⟩:=slice_shape hG.follow;obtain ⟨tb,htb⟩:∃ tb:ByteArray,(⟨txt.toArray⟩:ByteArray)=tb:=⟨_,rfl⟩;have hts:tb.size=txt.length:=by rw [<- htb,ba_len]
 rw [htb];have H:=Hd (An hG (An he (An htx htb)));have HKN0:=Hd (show ∀ W,Below w.heap.size w W->Calls Tryz.prog 10 #[] W fun e w'=>e=.returned (.bool true) /\ Below W.heap.size W w' from fun W hW=>known_any W (he.below hW he.big))
 have hb0:=(Below.refl w.heap.size w).alloc (Nat.le_refl _) (.cells #[.slice sa g.sorts.length sc,.slice pa g.prods.length pc,.int .i64 g.start,.slice fa g.forbid.length fc,.slice la g.follow.length lc] 27);have hB0:=Blk.new w 27 #[.slice sa g.sorts.length sc,.slice pa g.prods.length pc,.int .i64 g.start,.slice fa g.forbid.length fc,.slice la g.follow.length lc];have H0:=Hd (An hb0 hB0);have hfw:=few_any g N hN _ _ _ _ _ (hG.keep hb0) tb (by omega)
 have HFW:=Hd hfw;clear hG he htb hb0 hB0 hfw
 go_enter Tryz.func8,Tryz.ntmps8
 go_wp2_with fail
 refine HFW.out.mono ?_;rintro e w1 ⟨rfl,hb1⟩;have hb1':=H0.out.1.trans (hb1.mono H0.out.1.size);have hB1:=H0.out.2.below hb1 H0.out.2.lt;have H1:=Hd (An hb1' hB1);clear hb1 hb1' hB1
 cases hf:fewB g tb.size with
 | false =>
  clear hf hts htx;go_wp2_with fail
  refine (HKN0.out _ H1.out.1).mono ?_;rintro e w2 ⟨rfl,hb1⟩;have HB:=Hd (H1.out.1.trans (hb1.mono H1.out.1.size));clear hb1;go_wp2_with fail
  go_ret
  exact ⟨rfl,HB.out⟩
 | true =>
  obtain ⟨hF,hl8⟩:=few_iff.1 hf;rw [hts] at hl8;obtain ⟨left,hleft⟩:∃ left,∀ l,(tabF g l).left=left:=⟨(tabF g []).left,fun _=>rfl⟩
  have hlaw:=bound_law hF (fun hc=>good_few H.out.1 hF.prods hc) hl8 n left
  have hgw:=fun W (hW:Below w.heap.size w W)=>grw_few hN (H.out.1.keep hW) hF.prods (H.out.2.1.below hW H.out.2.1.big) txt (by omega)
  have hr:=fun W (hW:Below w.heap.size w W) (bud:Int) (hb:bud<=20000)=>runall_any g _ bud W (hgw W hW) (lim_small hF (by show txt.length<=20;omega) hb) left hleft
  simp only [H.out.2.2.2] at hr;have hbd:=fun W (hW:Below w.heap.size w W) (m:Int)=>bound_any g _ W (hgw W hW) m
  have hmy:=fun W (hW:Below w.heap.size w W)=>many_any g _ W (hgw W hW)
  have hck:=fun W (hW:Below w.heap.size w W)=>r06check_any g N hN W _ _ _ _ (H.out.1.keep hW)
  simp only at hbd hmy;have HL:=Hd (An hr (An hbd (An hmy hck)));have HLAW:=Hd hlaw;clear hr hbd hmy hck hlaw hgw hleft hf hF;obtain ⟨B1,hB1⟩:∃ x,boundR g (txt.length:Int)=x:=⟨_,rfl⟩;obtain ⟨b1,e1⟩:=B1;obtain ⟨B2,hB2⟩:∃ x,boundR g n=x:=⟨_,rfl⟩;obtain ⟨b2,e2⟩:=B2;have HB12:=Hd (An hB1 hB2);have r1:=HL.out.2.1 w1 H1.out.1 (txt.length:Int);rw [hB1] at r1;have HR1:=Hd r1;clear hB1 hB2 r1;obtain ⟨z0,z1,z2,z3,z4,zf⟩:=gfacts5 H1.out.2;go_wp2_with fail
  refine HR1.out.mono ?_;rintro e w2 ⟨rfl,hb2⟩;have hb2':=H1.out.1.trans (hb2.mono H1.out.1.size);have hB2:=H1.out.2.below hb2 H1.out.2.lt;have H2:=Hd (An hb2' hB2);clear hb2 hb2' hB2 z0 z1 z2 z3 z4 zf;obtain ⟨z0,z1,z2,z3,z4,zf⟩:=gfacts5 H2.out.2;go_wp2_with fail
  refine (HL.out.2.2.2 w2 H2.out.1).mono ?_;rintro e w3 ⟨rfl,hb3⟩;obtain ⟨no,hno⟩:∃ x,chkN g=x:=⟨_,rfl⟩;rw [hno];have hb3':=H2.out.1.trans (hb3.mono H2.out.1.size);have hB3:=H2.out.2.below hb3 H2.out.2.lt;have r3:=HL.out.2.1 w3 hb3' n;rw [HB12.out.2] at r3;have H3:=Hd (An hb3' (An hB3 (An hno r3)));clear hb3 hb3' hB3 z0 z1 z2 z3 z4 zf hno r3;obtain ⟨z0,z1,z2,z3,z4,zf⟩:=gfacts5 H3.out.2.1;go_wp2_with fail
  refine H3.out.2.2.2.mono ?_;rintro e w4 ⟨rfl,hb4⟩;have hb4':=H3.out.1.trans (hb4.mono H3.out.1.size);have hB4:=H3.out.2.1.below hb4 H3.out.2.1.lt;have H4:=Hd (An hb4' hB4);clear hb4 hb4' hB4 z0 z1 z2 z3 z4 zf;have hl0:=HLAW.out;rw [HB12.out.1,HB12.out.2,H3.out.2.2.1] at hl0;obtain ⟨z0,z1,z2,z3,z4,zf⟩:=gfacts5 H4.out.2
  rcases hl0 with ⟨h1,h2,h3⟩ | ⟨h1,h2,h3,h4⟩ | ⟨h1,h2,b,c,h3,h4,h5,h6,h7,h8,h9⟩
  ·cases h2
   cases h3
   subst h1;clear z0 z1 z2 z3 z4 zf;go_wp2_with fail
   refine (HKN0.out _ H4.out.1).mono ?_;rintro e w5 ⟨rfl,hb5⟩;have HB:=Hd (H4.out.1.trans (hb5.mono H4.out.1.size));clear hb5;go_wp2_with fail
   go_ret
   exact ⟨rfl,HB.out⟩
  ·cases h3
   cases h4
   subst h1;have hm:=HL.out.2.2.1 w4 H4.out.1 H3.out.2.2.1;rw [h2] at hm;have HM:=Hd hm;clear hm h2;go_wp2_with fail
   refine HM.out.mono ?_;rintro e w5 ⟨rfl,hb5⟩;have hb5':=H4.out.1.trans (hb5.mono H4.out.1.size);have H5:=Hd hb5';clear hb5 hb5' z0 z1 z2 z3 z4 zf;go_wp2_with fail
   refine (HKN0.out _ H5.out).mono ?_;rintro e w6 ⟨rfl,hb6⟩;have HB:=Hd (H5.out.trans (hb6.mono H5.out.size));clear hb6;go_wp2_with fail
   go_ret
   exact ⟨rfl,HB.out⟩
  ·cases h3
   simp only at h7;subst h1;have hm:=HL.out.2.2.1 w4 H4.out.1 H3.out.2.2.1;rw [h2] at hm;have HM:=Hd hm;have HX:=Hd (An h4 (An h5 (An h6 (An h8 h9))));have HE2:=Hd h7;clear hm h2 h4 h5 h6 h7 h8 h9;go_wp2_with fail
   refine HM.out.mono ?_;rintro e w5 ⟨rfl,hb5⟩;have hb5':=H4.out.1.trans (hb5.mono H4.out.1.size);have hB5:=H4.out.2.below hb5 H4.out.2.lt;have H5:=Hd (An hb5' hB5);clear hb5 hb5' hB5 z0 z1 z2 z3 z4 zf;obtain ⟨z0,z1,z2,z3,z4,zf⟩:=gfacts5 H5.out.2;obtain ⟨bd,hbd⟩:∃ bd,decide (n<0∨4096<n)=bd:=⟨_,rfl⟩;have HBD:=Hd hbd;clear hbd
   go_upto_region 11 with fail
   go_cut [74] from 69 to 74 (fun s74 wx=>s74=.bool bd /\ w5=wx)
   case first =>
    by_cases c0:n<0
    ·have HD:=Hd (show bd=true by rw [<- HBD.out];exact decide_eq_true (.inl c0))
     go_wp2_with fail
     go_meet
     exact ⟨by rw [HD.out],rfl⟩
    ·by_cases c1:4096<n
     ·have HD:=Hd (show bd=true by rw [<- HBD.out];exact decide_eq_true (.inr c1))
      go_wp2_with fail
      go_meet
      exact ⟨by rw [HD.out],rfl⟩
     ·have HD:=Hd (show bd=false by rw [<- HBD.out];exact decide_eq_false (by omega))
      go_wp2_with fail
      go_meet
      exact ⟨by rw [HD.out],rfl⟩
   case rest =>
   obtain ⟨rfl,rfl⟩:=hcut
   go_upto_if 74 with fail
   go_cut [12] from 69 to 74 (fun s12 wx=>∃ x:Int,x=e2 /\ s12=.int .i64 x /\ w5=wx)
   case first =>
    cases bd with
    | true =>
     have h:=of_decide_eq_true HBD.out;have HD:=Hd h;clear h;go_wp2_with fail
     go_meet
     exact ⟨2,by rw [HE2.out,if_pos HD.out],rfl,rfl⟩
    | false =>
     have h:=of_decide_eq_false HBD.out;have HD:=Hd h;clear h;go_wp2_with fail
     go_meet
     exact ⟨0,by rw [HE2.out,if_neg HD.out],rfl,rfl⟩
   case rest =>
    obtain ⟨_,rfl,rfl,rfl⟩:=hcut
    by_cases hb:20000<b
    ·have d1:(20000:Int)<(b:Int):=by omega
     have HMN:=Hd (show min (b:Int) 20000=20000 by omega)
     have hrn:=HL.out.1 w5 H5.out.1 20000 (by decide)
     have hx0:=HX.out.2.2.2.1 hb;obtain ⟨X,hX⟩:∃ X,runF left g txt 20000=X:=⟨_,rfl⟩;rw [hX] at hx0;simp only [hX] at hrn;obtain ⟨xe,xs,xf,xm,XA⟩:=X;simp only at hrn hx0;have hx:(xe=200 /\ 20000<b)∨(xe=0 /\ xs<=(b:Int)):=hx0.elim (fun k=>.inl ⟨k,hb⟩) .inr
     clear hx0 hX hb;obtain ⟨xn,hxn⟩:∃ n,XA.length=n:=⟨_,rfl⟩;rw [hxn] at hrn;have HRN:=Hd (An hrn hx);clear hrn hx hxn;go_wp2_with fail
     rw [HMN.out];refine HRN.out.1.mono ?_;rintro e w6 ⟨va,xa,xc,rfl,_,hb6⟩;unfold waysC;have hb6':=H5.out.1.trans (hb6.mono H5.out.1.size);have hB6:=H5.out.2.below hb6 H5.out.2.lt;have H6:=Hd (An hb6' hB6);clear hb6 hb6' hB6 z0 z1 z2 z3 z4 zf
     go_upto_region 14 with fail
     have hX7:Blk (w6.alloc (.cells #[.slice xa xn xc,.int .i64 xs,.int .i64 xf,.int .u64 (wd xm 0),.int .u64 (wd xm 1),.int .u64 (wd xm 2),.int .u64 (wd xm 3)] 35)) w6.heap.size 35 #[.slice xa xn xc,.int .i64 xs,.int .i64 xf,.int .u64 (wd xm 0),.int .u64 (wd xm 1),.int .u64 (wd xm 2),.int .u64 (wd xm 3)]:=Blk.new _ _ _;have hB7:=H6.out.2.alloc (.cells #[.slice xa xn xc,.int .i64 xs,.int .i64 xf,.int .u64 (wd xm 0),.int .u64 (wd xm 1),.int .u64 (wd xm 2),.int .u64 (wd xm 3)] 35);have hb7:=H6.out.1.alloc H6.out.1.size (.cells #[.slice xa xn xc,.int .i64 xs,.int .i64 xf,.int .u64 (wd xm 0),.int .u64 (wd xm 1),.int .u64 (wd xm 2),.int .u64 (wd xm 3)] 35);generalize w6.alloc (.cells #[.slice xa xn xc,.int .i64 xs,.int .i64 xf,.int .u64 (wd xm 0),.int .u64 (wd xm 1),.int .u64 (wd xm 2),.int .u64 (wd xm 3)] 35)=w7 at hX7 hB7 hb7 ⊢;obtain ⟨x1,hx1⟩:∃ x1,w6.heap.size=x1:=⟨_,rfl⟩;rw [hx1] at hX7 ⊢;have r4:=HL.out.2.1 w7 hb7 ((txt.length:Int)+1);rw [HX.out.1] at r4;simp only at r4;have HR4:=Hd r4;have H7:=Hd (An hX7 hb7);obtain ⟨z0,z1,z2,z3,z4,zf⟩:=gfacts5 hB7;clear hX7 hB7 hb7 hx1 r4;go_wp2_with fail
     refine HR4.out.mono ?_;rintro e w8 ⟨rfl,hb8⟩;have hX8:=H7.out.1.below hb8 H7.out.1.lt;have hb8':=H7.out.2.trans (hb8.mono H7.out.2.size);have x11:=hX8.cell 1;simp only [List.getElem?_toArray,List.getElem?_cons_zero,List.getElem?_cons_succ] at x11;have H8:=Hd hb8';clear hb8 hX8 hb8' z0 z1 z2 z3 z4 zf d1;have d2:(b:Int)<=(c:Int):=by have:=HX.out.2.1;omega
     have d3:(b:Int)<=4611686018427387904:=by have:=HX.out.2.2.1;omega
     rcases HRN.out.2 with ⟨rfl,hb20⟩ | ⟨rfl,hxs⟩
     ·have d4:(20000:Int)<(b:Int):=by omega
      go_wp2_with fail
      refine (HKN0.out _ H8.out).mono ?_;rintro e w9 ⟨rfl,hb9⟩;have HB:=Hd (H8.out.trans (hb9.mono H8.out.size));clear hb9;go_wp2_with fail
      go_ret
      exact ⟨rfl,HB.out⟩
     ·go_wp2_with fail
      refine (HKN0.out _ H8.out).mono ?_;rintro e w9 ⟨rfl,hb9⟩;have HB:=Hd (H8.out.trans (hb9.mono H8.out.size));clear hb9;go_wp2_with fail
      go_ret
      exact ⟨rfl,HB.out⟩
    ·have d1:¬ (20000:Int)<(b:Int):=by omega
     have HMN:=Hd (show min (b:Int) 20000=(b:Int) by omega)
     have hrn:=HL.out.1 w5 H5.out.1 (b:Int) (by omega)
     have hx0:=HX.out.2.2.2.2 (by omega)
     obtain ⟨X,hX⟩:∃ X,runF left g txt (b:Int)=X:=⟨_,rfl⟩;rw [hX] at hx0;simp only [hX] at hrn;obtain ⟨xe,xs,xf,xm,XA⟩:=X;simp only at hrn hx0;have hx:(xe=200 /\ 20000<b)∨(xe=0 /\ xs<=(b:Int)):=.inr hx0;clear hx0 hX hb;obtain ⟨xn,hxn⟩:∃ n,XA.length=n:=⟨_,rfl⟩;rw [hxn] at hrn;have HRN:=Hd (An hrn hx);clear hrn hx hxn;go_wp2_with fail
     rw [HMN.out];refine HRN.out.1.mono ?_;rintro e w6 ⟨va,xa,xc,rfl,_,hb6⟩;unfold waysC;have hb6':=H5.out.1.trans (hb6.mono H5.out.1.size);have hB6:=H5.out.2.below hb6 H5.out.2.lt;have H6:=Hd (An hb6' hB6);clear hb6 hb6' hB6 z0 z1 z2 z3 z4 zf
     go_upto_region 14 with fail
     have hX7:Blk (w6.alloc (.cells #[.slice xa xn xc,.int .i64 xs,.int .i64 xf,.int .u64 (wd xm 0),.int .u64 (wd xm 1),.int .u64 (wd xm 2),.int .u64 (wd xm 3)] 35)) w6.heap.size 35 #[.slice xa xn xc,.int .i64 xs,.int .i64 xf,.int .u64 (wd xm 0),.int .u64 (wd xm 1),.int .u64 (wd xm 2),.int .u64 (wd xm 3)]:=Blk.new _ _ _;have hB7:=H6.out.2.alloc (.cells #[.slice xa xn xc,.int .i64 xs,.int .i64 xf,.int .u64 (wd xm 0),.int .u64 (wd xm 1),.int .u64 (wd xm 2),.int .u64 (wd xm 3)] 35);have hb7:=H6.out.1.alloc H6.out.1.size (.cells #[.slice xa xn xc,.int .i64 xs,.int .i64 xf,.int .u64 (wd xm 0),.int .u64 (wd xm 1),.int .u64 (wd xm 2),.int .u64 (wd xm 3)] 35);generalize w6.alloc (.cells #[.slice xa xn xc,.int .i64 xs,.int .i64 xf,.int .u64 (wd xm 0),.int .u64 (wd xm 1),.int .u64 (wd xm 2),.int .u64 (wd xm 3)] 35)=w7 at hX7 hB7 hb7 ⊢;obtain ⟨x1,hx1⟩:∃ x1,w6.heap.size=x1:=⟨_,rfl⟩;rw [hx1] at hX7 ⊢;have r4:=HL.out.2.1 w7 hb7 ((txt.length:Int)+1);rw [HX.out.1] at r4;simp only at r4;have HR4:=Hd r4;have H7:=Hd (An hX7 hb7);obtain ⟨z0,z1,z2,z3,z4,zf⟩:=gfacts5 hB7;clear hX7 hB7 hb7 hx1 r4;go_wp2_with fail
     refine HR4.out.mono ?_;rintro e w8 ⟨rfl,hb8⟩;have hX8:=H7.out.1.below hb8 H7.out.1.lt;have hb8':=H7.out.2.trans (hb8.mono H7.out.2.size);have x11:=hX8.cell 1;simp only [List.getElem?_toArray,List.getElem?_cons_zero,List.getElem?_cons_succ] at x11;have H8:=Hd hb8';clear hb8 hX8 hb8' z0 z1 z2 z3 z4 zf d1;have d2:(b:Int)<=(c:Int):=by have:=HX.out.2.1;omega
     have d3:(b:Int)<=4611686018427387904:=by have:=HX.out.2.2.1;omega
     rcases HRN.out.2 with ⟨rfl,hb20⟩ | ⟨rfl,hxs⟩
     ·have d4:(20000:Int)<(b:Int):=by omega
      go_wp2_with fail
      refine (HKN0.out _ H8.out).mono ?_;rintro e w9 ⟨rfl,hb9⟩;have HB:=Hd (H8.out.trans (hb9.mono H8.out.size));clear hb9;go_wp2_with fail
      go_ret
      exact ⟨rfl,HB.out⟩
     ·go_wp2_with fail
      refine (HKN0.out _ H8.out).mono ?_;rintro e w9 ⟨rfl,hb9⟩;have HB:=Hd (H8.out.trans (hb9.mono H8.out.size));clear hb9;go_wp2_with fail
      go_ret
      exact ⟨rfl,HB.out⟩
end Go.Proofs.YthiochcpmfkgcaaGreatDoor.Gl
