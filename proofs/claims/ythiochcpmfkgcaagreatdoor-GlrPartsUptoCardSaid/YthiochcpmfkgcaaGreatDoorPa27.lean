/- Walks and plain laws that the last text stands on: GlParts. -/
import Derived.Test.YthiochcpmfkgcaaGreatDoorPa22
import Derived.Test.YthiochcpmfkgcaaGreatDoorPa23
import Derived.Test.YthiochcpmfkgcaaGreatDoorPa26
import Derived.Test.YthiochcpmfkgcaaGreatDoorPa15
set_option linter.unusedVariables false
set_option linter.unusedSimpArgs false
set_option maxRecDepth 100000
set_option maxHeartbeats 16000000
namespace Go.Proofs.YthiochcpmfkgcaaGreatDoor.Gl
open Go Go.RowKit Go.Proofs Go.Maps Go.WideMaps Mx Tb
def paR (g:Gr) (sa pa fa la:Option Addr) (sc pc fc lc:Nat) (tb tk:ByteArray) (kk:Nat) (left:Nat->Int) (YA:List Al) (yn:Nat) (ys yf ye:Int) (ym B0:Nat) (j:Nat) (v:Value) (W:World):Prop :=
 match j with
 | 0=>v=.agg #[.slice sa g.sorts.length sc,.slice pa g.prods.length pc,.int .i64 g.start,.slice fa g.forbid.length fc,.slice la g.follow.length lc]
 | 1=>v=.string tb
 | 2=>v=.int .i64 (kk:Int)
 | 3=>v=.string tk
 | 4=>∃ vb ya yc,v=.tuple #[.agg #[.slice ya yn yc,.int .i64 ys,.int .i64 yf,.int .u64 (wd ym 0),.int .u64 (wd ym 1),.int .u64 (wd ym 2),.int .u64 (wd ym 3)],.int .i64 ye] /\ AltsAt left vb YA (.slice ya yn yc) W
 | 5=>∃ vb ya yc,v=.tuple #[.agg #[.slice ya yn yc,.int .i64 ys,.int .i64 yf,.int .u64 (wd ym 0),.int .u64 (wd ym 1),.int .u64 (wd ym 2),.int .u64 (wd ym 3)],.int .i64 ye] /\ AltsAt left vb YA (.slice ya yn yc) W
 | 6=>∃ vb ya yc,v=.agg #[.slice ya yn yc,.int .i64 ys,.int .i64 yf,.int .u64 (wd ym 0),.int .u64 (wd ym 1),.int .u64 (wd ym 2),.int .u64 (wd ym 3)] /\ AltsAt left vb YA (.slice ya yn yc) W
 | 7=>v=.int .i64 ye
 | 8=>∃ q,v=.pointer (some ⟨q,0,none⟩) /\ Blk W q 35 #[.slice none 0 0,.int .i64 0,.int .i64 0,.int .u64 0,.int .u64 0,.int .u64 0,.int .u64 0] /\ B0<=q
 | _=>True
def paS (q x1 xg xo yg yo i nn xn yn xc yc:Nat) (s:Int) (src til prod:Nat) (ca cb:Value) (j:Nat) (v:Value) (W:World):Prop :=
 match j with
 | 0=>v=.int .i64 (nn:Int)
 | 1=>v=.pointer (some ⟨q,0,none⟩)
 | 2=>v=.slice (some ⟨yg,yo,none⟩) yn yc
 | 3=>v=.int .i64 (yn:Int)
 | 4=>v=.bool false
 | 5=>v=.bool false
 | 6=>v=.pointer (some ⟨x1,0,none⟩)
 | 7=>v=.slice (some ⟨xg,xo,none⟩) xn xc
 | 8=>v=.int .i64 (i:Int)
 | 9=>v=.pointer (some ⟨xg,xo+i * 5,none⟩)
 | 10=>v=.agg #[.int .i64 s,.int .i64 (src:Int),.int .i64 (til:Int),.int .i64 (prod:Int),ca]
 | 11=>v=.pointer (some ⟨q,0,none⟩)
 | 12=>v=.slice (some ⟨yg,yo,none⟩) yn yc
 | 13=>v=.int .i64 (nn:Int)
 | 14=>v=.pointer (some ⟨yg,yo+nn * 5,none⟩)
 | 15=>v=.agg #[.int .i64 s,.int .i64 (src:Int),.int .i64 (til:Int),.int .i64 (prod:Int),cb]
 | 16=>v=.bool true
 | 17=>v=.bool false
 | 18=>v=.bool false
 | _=>True
theorem paR_low {g:Gr} {sa pa fa la:Option Addr} {sc pc fc lc:Nat} {tb tk:ByteArray} {kk:Nat} {left:Nat->Int} {YA:List Al} {yn:Nat} {ys yf ye:Int} {ym B0:Nat} (j:Nat) (v:Value) {W W':World} (h:paR g sa pa fa la sc pc fc lc tb tk kk left YA yn ys yf ye ym B0 j v W) (hb:Below W.heap.size W W'):paR g sa pa fa la sc pc fc lc tb tk kk left YA yn ys yf ye ym B0 j v W':=by
 unfold paR at h ⊢
 split at h <;> first | exact h | skip
 ·obtain ⟨vb,ya,yc,e,h⟩:=h;exact ⟨vb,ya,yc,e,h.below hb⟩
 ·obtain ⟨vb,ya,yc,e,h⟩:=h;exact ⟨vb,ya,yc,e,h.below hb⟩
 ·obtain ⟨vb,ya,yc,e,h⟩:=h;exact ⟨vb,ya,yc,e,h.below hb⟩
 ·obtain ⟨q,e,h1,h2⟩:=h;exact ⟨q,e,h1.below hb h1.lt,h2⟩
theorem ba_take (txt:List UInt8) (k:Nat):(⟨txt.toArray⟩:ByteArray).extract 0 k=⟨(txt.take k).toArray⟩:=by
 apply ByteArray.ext
 apply Array.toList_inj.1
 rw [ByteArray.data_extract,Array.toList_extract,List.extract_eq_take_drop];simp
theorem far_set7 (w:World) (g:Nat) (u0 u1 u2 u3 u4 u5 u6:Value) (b:Nat) (hb:b≠g) :
  (((((((w.setCell ⟨g,0,none⟩ u0).setCell ⟨g,1,none⟩ u1).setCell ⟨g,2,none⟩ u2).setCell ⟨g,3,none⟩ u3).setCell ⟨g,4,none⟩ u4).setCell ⟨g,5,none⟩ u5).setCell ⟨g,6,none⟩ u6).heap[b]?=w.heap[b]?:=by
 rw [Below.heap_setCell _ _ _ b hb,Below.heap_setCell _ _ _ b hb,Below.heap_setCell _ _ _ b hb,Below.heap_setCell _ _ _ b hb,Below.heap_setCell _ _ _ b hb,Below.heap_setCell _ _ _ b hb,Below.heap_setCell _ _ _ b hb]
theorem kk_ok (cut:Int) (n:Nat) (hn:n<=20):∃ kk:Nat,kk<=n /\ (wrap64 (wrap64 (cut.tmod ((n:Int)+1)+(n:Int))+1)).tmod ((n:Int)+1)=(kk:Int):=by
 have h1:cut.tmod ((n:Int)+1)<(n:Int)+1:=Int.tmod_lt_of_pos cut (by omega)
 have h2:-((n:Int)+1)<cut.tmod ((n:Int)+1):=by
  have h3:=Int.natAbs_tmod cut ((n:Int)+1);have h4:cut.natAbs % ((n:Int)+1).natAbs<((n:Int)+1).natAbs:=Nat.mod_lt _ (by omega)
  omega
 generalize cut.tmod ((n:Int)+1)=m at h1 h2;have h3:wrap64 (wrap64 (m+(n:Int))+1)=m+n+1:=by unfold wrap64;omega
 rw [h3,Int.tmod_eq_emod_of_nonneg (by omega)]
 have h4:=Int.emod_nonneg (m+n+1) (show (n:Int)+1≠0 by omega)
 have h5:=Int.emod_lt_of_pos (m+n+1) (show 0<(n:Int)+1 by omega)
 exact ⟨((m+n+1) % ((n:Int)+1)).toNat,by omega,by omega⟩
theorem parts_any (g:Gr) (N:Nat) (hN:N<=2000000) (w:World) (sv pv fv lv:Value) (hG:GramAt w N g sv pv fv lv) (txt:List UInt8) (htx:txt.length<=2000000) (cut:Int) (he:EnvG w) :
  Calls Tryz.prog 6 #[.agg #[sv,pv,.int .i64 g.start,fv,lv],.string ⟨txt.toArray⟩,.int .i64 cut] w fun e w'=>e=.returned (.bool true) /\ Below w.heap.size w w':=by
 obtain ⟨sa,sc,rfl⟩:=slice_shape hG.sorts;obtain ⟨pa,pc,rfl⟩:=prodsAt_shape hG.prodsAt;obtain ⟨fa,fc,rfl⟩:=slice_shape hG.forbid;obtain ⟨la,lc,rfl⟩:=slice_shape hG.follow;obtain ⟨tb,htb⟩:∃ tb:ByteArray,(⟨txt.toArray⟩:ByteArray)=tb:=⟨_,rfl⟩;have hts:tb.size=txt.length:=by rw [<- htb,ba_len]
 rw [htb];have H:=Hd (An hG (An he (An htx htb)));have HKN0:=Hd (show ∀ W,Below w.heap.size w W->Calls Tryz.prog 10 #[] W fun e w'=>e=.returned (.bool true) /\ Below W.heap.size W w' from fun W hW=>known_any W (he.below hW he.big))
 have hb0:=(Below.refl w.heap.size w).alloc (Nat.le_refl _) (.cells #[.slice sa g.sorts.length sc,.slice pa g.prods.length pc,.int .i64 g.start,.slice fa g.forbid.length fc,.slice la g.follow.length lc] 27);have hB0:=Blk.new w 27 #[.slice sa g.sorts.length sc,.slice pa g.prods.length pc,.int .i64 g.start,.slice fa g.forbid.length fc,.slice la g.follow.length lc];have H0:=Hd (An hb0 hB0);clear hG he htb hb0 hB0
 go_enter Tryz.func6,Tryz.ntmps6
 by_cases c1:20<txt.length
 ·have d1:(20:Int)<(tb.size:Int):=by omega
  clear c1 hts htx;go_wp2_with fail
  refine (HKN0.out _ H0.out.1).mono ?_;rintro e w1 ⟨rfl,hb1⟩;have HB:=Hd (H0.out.1.trans (hb1.mono H0.out.1.size));clear hb1;go_wp2_with fail
  go_ret
  exact ⟨rfl,HB.out⟩
 have d1:¬ (20:Int)<(tb.size:Int):=by omega
 go_wp2_with fail
 have hfw:=few_any g N hN _ _ _ _ _ (H.out.1.keep H0.out.1) ⟨#[]⟩ (by decide)
 rw [show (⟨#[]⟩:ByteArray).size=0 from rfl] at hfw;refine hfw.mono ?_;clear hfw;rintro e w1 ⟨rfl,hb1⟩;have hb1':=H0.out.1.trans (hb1.mono H0.out.1.size);have hB1:=H0.out.2.below hb1 H0.out.2.lt;have H1:=Hd (An hb1' hB1);clear hb1 hb1' hB1
 cases hf:fewB g 0 with
 | false =>
  clear hf c1 hts htx;go_wp2_with fail
  refine (HKN0.out _ H1.out.1).mono ?_;rintro e w2 ⟨rfl,hb1⟩;have HB:=Hd (H1.out.1.trans (hb1.mono H1.out.1.size));clear hb1;go_wp2_with fail
  go_ret
  exact ⟨rfl,HB.out⟩
 | true =>
  obtain ⟨hF,_⟩:=few_iff.1 hf;obtain ⟨z0,z1,z2,z3,z4,zf⟩:=gfacts5 H1.out.2;have HF:=Hd hF;clear hf hF;go_wp2_with fail
  refine (r06check_any g N hN w1 _ _ _ _ (H.out.1.keep H1.out.1)).mono ?_;rintro e w2 ⟨rfl,hb2⟩;have hb2':=H1.out.1.trans (hb2.mono H1.out.1.size);have hB2:=H1.out.2.below hb2 H1.out.2.lt;have H2:=Hd (An hb2' hB2);clear hb2 hb2' hB2 z0 z1 z2 z3 z4 zf
  rcases chk_two g with hc | hc
  case inr =>
   rw [hc];clear hc c1 hts htx;go_wp2_with fail
   refine (HKN0.out _ H2.out.1).mono ?_;rintro e w3 ⟨rfl,hb1⟩;have HB:=Hd (H2.out.1.trans (hb1.mono H2.out.1.size));clear hb1;go_wp2_with fail
   go_ret
   exact ⟨rfl,HB.out⟩
  rw [hc];have HCK:=Hd hc;clear hc;have hl20:txt.length<=20:=by omega
  obtain ⟨left,hleft⟩:∃ left,∀ l,(tabF g l).left=left:=⟨(tabF g []).left,fun _=>rfl⟩
  have HLE:=Hd hleft;clear hleft htx c1
  go_upto_if 30 with fail
  go_cut [7] from 14 to 43 (fun s7 wx=>∃ kk:Nat,kk<=txt.length /\ s7=.int .i64 (kk:Int) /\ w2=wx)
  case first =>
   by_cases h0:txt.length=0
   ·have d0:¬ (0:Int)<(tb.size:Int):=by omega
    clear h0;go_wp2_with fail
    go_meet
    exact ⟨0,Nat.zero_le _,by first | rfl | simp,by first | rfl | simp⟩
   ·have d0:(0:Int)<(tb.size:Int):=by omega
    have hnz:¬ (tb.size:Int)+1=0:=by omega
    have hsz:(tb.size:Int)<=20:=by omega
    obtain ⟨kk,hkl,hkv⟩:=kk_ok cut txt.length hl20;go_wp2_with fail
    go_meet
    exact ⟨kk,hkl,by first | rfl | simp,by first | rfl | simp⟩
  case rest =>
   obtain ⟨kk,hkl,rfl,rfl⟩:=hcut;obtain ⟨z0,z1,z2,z3,z4,zf⟩:=gfacts5 H2.out.2;clear d1
   go_upto_region 6 with fail
   have HTS:=Hd (An hts (An hl20 hkl));have hpl:=parts_law hkl hl20 HCK.out left;have hsx:=run_small (g:=g) (txt:=txt) (bud:=20000) (fun hc=>good_few H.out.1 HF.out.prods hc) (by decide) left
   have hsy:=run_small (g:=g) (txt:=txt.take kk) (bud:=20000) (fun hc=>good_few H.out.1 HF.out.prods hc) (by decide) left
   have r1:=runall_any g ⟨.slice sa g.sorts.length sc,.slice pa g.prods.length pc,g.start,.slice fa g.forbid.length fc,.slice la g.follow.length lc,.pointer none,txt⟩ 20000 w2 (grw_few hN (H.out.1.keep H2.out.1) HF.out.prods (H.out.2.1.below H2.out.1 H.out.2.1.big) txt (by omega)) (lim_small HF.out hl20 (by decide)) left HLE.out
   have r2:=fun W (hW:Below w.heap.size w W)=>runall_any g ⟨.slice sa g.sorts.length sc,.slice pa g.prods.length pc,g.start,.slice fa g.forbid.length fc,.slice la g.follow.length lc,.pointer none,txt.take kk⟩ 20000 W (grw_few hN (H.out.1.keep hW) HF.out.prods (H.out.2.1.below hW H.out.2.1.big) (txt.take kk) (by rw [List.length_take];omega)) (lim_small HF.out (by rw [List.length_take];omega) (by decide)) left HLE.out
   have r3:=fun W (hW:Below w.heap.size w W)=>many_any g ⟨.slice sa g.sorts.length sc,.slice pa g.prods.length pc,g.start,.slice fa g.forbid.length fc,.slice la g.follow.length lc,.pointer none,txt⟩ W (grw_few hN (H.out.1.keep hW) HF.out.prods (H.out.2.1.below hW H.out.2.1.big) txt (by omega)) HCK.out
   have hext:tb.extract 0 kk=⟨(txt.take kk).toArray⟩:=by rw [<- H.out.2.2.2,ba_take]
   have hkt:(kk:Int)<=(tb.size:Int):=by omega
   simp only [H.out.2.2.2] at r1 r3;obtain ⟨tk,htk⟩:∃ tk:ByteArray,(⟨(txt.take kk).toArray⟩:ByteArray)=tk:=⟨_,rfl⟩;simp only [htk] at r2 hext;obtain ⟨X,hX⟩:∃ X,runF left g txt 20000=X:=⟨_,rfl⟩;obtain ⟨Y,hY⟩:∃ Y,runF left g (txt.take kk) 20000=Y:=⟨_,rfl⟩;rw [hX] at hpl hsx;simp only [hX] at r1;rw [hY] at hpl hsy;simp only [hY] at r2;clear hX hY htk;obtain ⟨xe,xs,xf,xm,XA⟩:=X;obtain ⟨ye,ys,yf,ym,YA⟩:=Y;simp only at r1 r2 hpl hsx hsy;obtain ⟨xn,hxn⟩:∃ n,XA.length=n:=⟨_,rfl⟩;obtain ⟨yn,hyn⟩:∃ n,YA.length=n:=⟨_,rfl⟩;rw [hxn] at r1 hsx;simp only [hyn] at r2 hsy;obtain ⟨mk,hmk⟩:∃ mk,(makeF g).isNone=mk:=⟨_,rfl⟩;simp only [hmk] at r3 hpl;have HTK:=Hd hext;have HP:=Hd (An hpl (An hsx (An hsy (An hxn hyn))));have HR1:=Hd r1;have HRR:=Hd (An r2 r3);clear hpl hsx hsy hxn hyn r1 r2 r3 hext hmk hts hl20 hkl;have hkt0:(0:Int)<=(kk:Int):=by omega
   go_wp2_with fail
   refine HR1.out.mono ?_;rintro e w3 ⟨va,xa,xc,rfl,hA,hb3⟩;unfold waysC;have hb3':=H2.out.1.trans (hb3.mono H2.out.1.size);have hB3:=H2.out.2.below hb3 H2.out.2.lt;have H3:=Hd (An hb3' (An hB3 hA));clear hb3 hb3' hB3 hA z0 z1 z2 z3 z4 zf
   go_upto_region 7 with fail
   have hX4:Blk (w3.alloc (.cells #[.slice xa xn xc,.int .i64 xs,.int .i64 xf,.int .u64 (wd xm 0),.int .u64 (wd xm 1),.int .u64 (wd xm 2),.int .u64 (wd xm 3)] 35)) w3.heap.size 35 #[.slice xa xn xc,.int .i64 xs,.int .i64 xf,.int .u64 (wd xm 0),.int .u64 (wd xm 1),.int .u64 (wd xm 2),.int .u64 (wd xm 3)]:=Blk.new _ _ _;have hB4:Blk (w3.alloc (.cells #[.slice xa xn xc,.int .i64 xs,.int .i64 xf,.int .u64 (wd xm 0),.int .u64 (wd xm 1),.int .u64 (wd xm 2),.int .u64 (wd xm 3)] 35)) w.heap.size 27 #[.slice sa g.sorts.length sc,.slice pa g.prods.length pc,.int .i64 g.start,.slice fa g.forbid.length fc,.slice la g.follow.length lc]:=H3.out.2.1.alloc _;have hb4:Below w.heap.size w (w3.alloc (.cells #[.slice xa xn xc,.int .i64 xs,.int .i64 xf,.int .u64 (wd xm 0),.int .u64 (wd xm 1),.int .u64 (wd xm 2),.int .u64 (wd xm 3)] 35)):=H3.out.1.alloc H3.out.1.size _;have hA4:=H3.out.2.2.below ((Below.refl w3.heap.size w3).alloc (Nat.le_refl _) (.cells #[.slice xa xn xc,.int .i64 xs,.int .i64 xf,.int .u64 (wd xm 0),.int .u64 (wd xm 1),.int .u64 (wd xm 2),.int .u64 (wd xm 3)] 35));generalize w3.alloc (.cells #[.slice xa xn xc,.int .i64 xs,.int .i64 xf,.int .u64 (wd xm 0),.int .u64 (wd xm 1),.int .u64 (wd xm 2),.int .u64 (wd xm 3)] 35)=w4 at hX4 hB4 hb4 hA4 ⊢;obtain ⟨x1,hx1⟩:∃ x1,w3.heap.size=x1:=⟨_,rfl⟩;rw [hx1] at hX4 ⊢;clear hx1;have HC:=Hd (show ∀ W,Below w4.drew.heap.size w4.drew W->W.cell? ⟨w.heap.size,0,none⟩=some (.slice sa g.sorts.length sc) /\ W.cell? ⟨w.heap.size,1,none⟩=some (.slice pa g.prods.length pc) /\ W.cell? ⟨w.heap.size,2,none⟩=some (.int .i64 g.start) /\ W.cell? ⟨w.heap.size,3,none⟩=some (.slice fa g.forbid.length fc) /\ W.cell? ⟨w.heap.size,4,none⟩=some (.slice la g.follow.length lc) from fun W h=>by
    have a1:=hB4.drew.below h hB4.lt;exact ⟨a1.cell 0,a1.cell 1,a1.cell 2,a1.cell 3,a1.cell 4⟩)
   have hup:∀ W,Below w4.drew.heap.size w4.drew W->Below w4.heap.size w4 W:=fun W h=>(show Below w4.heap.size w4 w4.drew from (Below.refl _ _).drew).trans h
   have HR2:=Hd (fun W (hG:Below w4.drew.heap.size w4.drew W)=>HRR.out.1 W (hb4.trans ((hup W hG).mono hb4.size)))
   have HZ:=Hd (show ∀ W,Below w4.drew.heap.size w4.drew W->w4.heap.size<=W.heap.size from fun W hG=>hG.size)
   have H4:=Hd (An hX4 (An hB4 (An hb4 (An hA4 hup))));clear hX4 hB4 hb4 hA4 hup;unfold waysC at HR2;refine wp_region_concF 9 7 (paR g sa pa fa la sc pc fc lc tb tk kk left YA yn ys yf ye ym w4.heap.size) (fun A W=>Below A.heap.size A W) (by kernel_rfl) (by kernel_rfl) (by kernel_rfl) (by kernel_rfl) (Below.refl _ _) (fun h k=>h.trans (k.mono h.size)) ?_ (by intro c a v w h;exact h) ?_ ?_
   ·simp only [List.take_succ_cons,List.take_zero]
    refine ⟨?_,?_,?_,?_,?_,?_,?_,?_,?_,trivial⟩
    ·intro L T W hG hJ hLs hLi dq fq vq K hK
     have h1:=fq 3 (by decide)
     simp at h1;obtain ⟨z0,z1,z2,z3,z4⟩:=HC.out W hG;go_simp;exact hK _ _ (Below.refl _ W) (fun j u _ _ _ h=>h) trivial rfl
    ·intro L T W hG hJ hLs hLi dq fq vq K hK
     have h1:=fq 1 (by decide)
     simp at h1;go_simp;exact hK _ _ (Below.refl _ W) (fun j u _ _ _ h=>h) trivial rfl
    ·intro L T W hG hJ hLs hLi dq fq vq K hK
     have h1:=fq 7 (by decide)
     simp at h1;go_simp;exact hK _ _ (Below.refl _ W) (fun j u _ _ _ h=>h) trivial rfl
    ·intro L T W hG hJ hLs hLi dq fq vq K hK
     have h1:=vq ⟨1,.data⟩ (by simp) rfl 52 rfl
     simp only [paR] at h1;have h2:=vq ⟨2,.data⟩ (by simp) rfl 53 rfl
     simp only [paR] at h2;simp at h1 h2;go_simp;exact hK _ _ (Below.refl _ W) (fun j u _ _ _ h=>h) trivial (by show Value.string _=_;rw [HTK.out])
    ·intro L T W hG hJ hLs hLi dq fq vq K hK
     have h1:=vq ⟨0,.data⟩ (by simp) rfl 51 rfl
     simp only [paR] at h1;have h2:=vq ⟨3,.data⟩ (by simp) rfl 54 rfl
     simp only [paR] at h2;simp at h1 h2;have hcl:=HR2.out W hG;go_simp;refine hcl.mono ?_;rintro e W2 ⟨vb,ya,yc,rfl,hA,hb2⟩;exact hK _ _ hb2 (fun j u _ _ _ h=>paR_low j u h hb2) trivial ⟨vb,ya,yc,rfl,hA⟩
    ·intro L T W hG hJ hLs hLi dq fq vq K hK
     obtain ⟨vb,ya,yc,h1,hA⟩:=vq ⟨4,.data⟩ (by simp) rfl 55 rfl
     simp at h1;go_simp;exact hK _ _ (Below.refl _ W) (fun j u _ _ _ h=>h) trivial ⟨vb,ya,yc,rfl,hA⟩
    ·intro L T W hG hJ hLs hLi dq fq vq K hK
     obtain ⟨vb,ya,yc,h1,hA⟩:=vq ⟨5,.data⟩ (by simp) rfl 50 rfl
     simp at h1;go_simp;exact hK _ _ (Below.refl _ W) (fun j u _ _ _ h=>h) trivial ⟨vb,ya,yc,rfl,hA⟩
    ·intro L T W hG hJ hLs hLi dq fq vq K hK
     obtain ⟨vb,ya,yc,h1,hA⟩:=vq ⟨5,.data⟩ (by simp) rfl 50 rfl
     simp at h1;go_simp;exact hK _ _ (Below.refl _ W) (fun j u _ _ _ h=>h) trivial rfl
    ·intro L T W hG hJ hLs hLi dq fq vq K hK
     go_simp;have hb2:=(Below.refl W.heap.size W).alloc (Nat.le_refl _) (.cells #[.slice none 0 0,.int .i64 0,.int .i64 0,.int .u64 0,.int .u64 0,.int .u64 0,.int .u64 0] 35);exact hK _ _ hb2 (fun j u _ _ _ h=>paR_low j u h hb2) trivial ⟨_,rfl,Blk.new W _ _,HZ.out W hG⟩
   ·intro os T W hos hv
    obtain ⟨vb,ya,yc,h6,_⟩:=hv ⟨5,.data⟩ (by simp at hos;subst hos;simp) rfl 50 rfl
    simp at hos;subst hos;refine ⟨.int .i64 ye,.inl ⟨rfl,fun w=>?_⟩,rfl⟩
    simp [execOp,go_sem,h6]
   ·intro f9 w5 hG hR
    obtain ⟨vb,ya,yc,e6,hA⟩:=hR 6 56 (by decide) rfl
    have e7:=hR 7 57 (by decide) rfl
    obtain ⟨q,e8,hq,hqB⟩:=hR 8 10 (by decide) rfl
    simp only [concDsts,List.take_succ_cons,List.take_zero,List.drop_succ_cons,List.drop_zero,List.filterMap_cons,List.filterMap_nil,List.foldl_cons,List.foldl_nil,List.setIfInBounds_toArray,List.set_cons_zero,List.set_cons_succ];simp only [paR] at e7;rw [e6,e7,e8];clear e6 e7 e8 hR;generalize f9 51=v51;generalize f9 52=v52;generalize f9 53=v53;generalize f9 54=v54;generalize f9 55=v55;generalize f9 50=v50;clear f9;have hb5:=H4.out.2.2.2.2 w5 hG;have hA5:=H4.out.2.2.2.1.below hb5;obtain ⟨q0,q1,q2,q3,q4,q5,q6,qf⟩:=gfacts7 hq;have hql:=hq.lt;have H5:=Hd (An hq (An hqB (An hb5 (An hA5 hA))));clear hq hqB hb5 hA5 hA hG HC HR2 HZ
    go_upto_region 8 with fail
    have hxq:x1≠q:=by have:=H4.out.1.lt;have:=H5.out.2.1;omega
    have hwq:w.heap.size≠q:=by have:=H4.out.2.1.lt;have:=H5.out.2.1;omega
    have hfar:∀ b,b≠q->(((((((w5.setCell ⟨q,0,none⟩ (.slice ya yn yc)).setCell ⟨q,1,none⟩ (.int .i64 ys)).setCell ⟨q,2,none⟩ (.int .i64 yf)).setCell ⟨q,3,none⟩ (.int .u64 (wd ym 0))).setCell ⟨q,4,none⟩ (.int .u64 (wd ym 1))).setCell ⟨q,5,none⟩ (.int .u64 (wd ym 2))).setCell ⟨q,6,none⟩ (.int .u64 (wd ym 3))).heap[b]?=w5.heap[b]?:=fun b hb=>far_set7 _ _ _ _ _ _ _ _ _ b hb
    have hY6:Blk (((((((w5.setCell ⟨q,0,none⟩ (.slice ya yn yc)).setCell ⟨q,1,none⟩ (.int .i64 ys)).setCell ⟨q,2,none⟩ (.int .i64 yf)).setCell ⟨q,3,none⟩ (.int .u64 (wd ym 0))).setCell ⟨q,4,none⟩ (.int .u64 (wd ym 1))).setCell ⟨q,5,none⟩ (.int .u64 (wd ym 2))).setCell ⟨q,6,none⟩ (.int .u64 (wd ym 3))) q 35 #[.slice ya yn yc,.int .i64 ys,.int .i64 yf,.int .u64 (wd ym 0),.int .u64 (wd ym 1),.int .u64 (wd ym 2),.int .u64 (wd ym 3)]:=gset7 H5.out.1 _ _ _ _ _ _ _;have hX6:Blk (((((((w5.setCell ⟨q,0,none⟩ (.slice ya yn yc)).setCell ⟨q,1,none⟩ (.int .i64 ys)).setCell ⟨q,2,none⟩ (.int .i64 yf)).setCell ⟨q,3,none⟩ (.int .u64 (wd ym 0))).setCell ⟨q,4,none⟩ (.int .u64 (wd ym 1))).setCell ⟨q,5,none⟩ (.int .u64 (wd ym 2))).setCell ⟨q,6,none⟩ (.int .u64 (wd ym 3))) x1 35 #[.slice xa xn xc,.int .i64 xs,.int .i64 xf,.int .u64 (wd xm 0),.int .u64 (wd xm 1),.int .u64 (wd xm 2),.int .u64 (wd xm 3)]:=(hfar x1 hxq).trans (H4.out.1.below H5.out.2.2.1 H4.out.1.lt);have hB6:Blk (((((((w5.setCell ⟨q,0,none⟩ (.slice ya yn yc)).setCell ⟨q,1,none⟩ (.int .i64 ys)).setCell ⟨q,2,none⟩ (.int .i64 yf)).setCell ⟨q,3,none⟩ (.int .u64 (wd ym 0))).setCell ⟨q,4,none⟩ (.int .u64 (wd ym 1))).setCell ⟨q,5,none⟩ (.int .u64 (wd ym 2))).setCell ⟨q,6,none⟩ (.int .u64 (wd ym 3))) w.heap.size 27 #[.slice sa g.sorts.length sc,.slice pa g.prods.length pc,.int .i64 g.start,.slice fa g.forbid.length fc,.slice la g.follow.length lc]:=(hfar _ hwq).trans (H4.out.2.1.below H5.out.2.2.1 H4.out.2.1.lt);have hb6:Below w.heap.size w (((((((w5.setCell ⟨q,0,none⟩ (.slice ya yn yc)).setCell ⟨q,1,none⟩ (.int .i64 ys)).setCell ⟨q,2,none⟩ (.int .i64 yf)).setCell ⟨q,3,none⟩ (.int .u64 (wd ym 0))).setCell ⟨q,4,none⟩ (.int .u64 (wd ym 1))).setCell ⟨q,5,none⟩ (.int .u64 (wd ym 2))).setCell ⟨q,6,none⟩ (.int .u64 (wd ym 3))):=below_set7 (H4.out.2.2.1.trans (H5.out.2.2.1.mono H4.out.2.2.1.size)) (by have:=H4.out.2.2.1.size;have:=H5.out.2.1;omega) _ _ _ _ _ _ _
    have hA6:=H5.out.2.2.2.1.off H5.out.1 hfar;have hC6:=H5.out.2.2.2.2.off H5.out.1 hfar;generalize (((((((w5.setCell ⟨q,0,none⟩ (.slice ya yn yc)).setCell ⟨q,1,none⟩ (.int .i64 ys)).setCell ⟨q,2,none⟩ (.int .i64 yf)).setCell ⟨q,3,none⟩ (.int .u64 (wd ym 0))).setCell ⟨q,4,none⟩ (.int .u64 (wd ym 1))).setCell ⟨q,5,none⟩ (.int .u64 (wd ym 2))).setCell ⟨q,6,none⟩ (.int .u64 (wd ym 3)))=w6 at hY6 hX6 hB6 hb6 hA6 hC6 ⊢;clear q0 q1 q2 q3 q4 q5 q6 qf hql hfar hxq hwq;obtain ⟨z0,z1,z2,z3,z4,zf⟩:=gfacts5 hB6;have HM:=Hd (HRR.out.2 w6 hb6);have H6:=Hd (An hY6 (An hX6 (An hb6 (An hA6 hC6))));clear hY6 hX6 hB6 hb6 hA6 hC6 H4 H5;go_wp2_with fail
    refine HM.out.mono ?_;rintro e w7 ⟨rfl,hb7⟩;have hY7:=H6.out.1.below hb7 H6.out.1.lt;have hX7:=H6.out.2.1.below hb7 H6.out.2.1.lt;have hb7':=H6.out.2.2.1.trans (hb7.mono H6.out.2.2.1.size);have hA7:=H6.out.2.2.2.1.below hb7;have hC7:=H6.out.2.2.2.2.below hb7;have H7:=Hd (An hY7 (An hX7 (An hb7' (An hA7 hC7))));clear hb7 hY7 hX7 hb7' hA7 hC7 H6 HM z0 z1 z2 z3 z4 zf
    rcases HP.out.1 with ⟨h1,h2,h3⟩ | ⟨h1,h2,h3⟩ | ⟨h1,h2,h3,h4,h5,h6,h7⟩
    ·subst h1 h2 h3
     go_wp2_with fail
     refine (HKN0.out _ H7.out.2.2.1).mono ?_;rintro e w8 ⟨rfl,hb8⟩;have HB:=Hd (H7.out.2.2.1.trans (hb8.mono H7.out.2.2.1.size));clear hb8;go_wp2_with fail
     go_ret
     exact ⟨rfl,HB.out⟩
    ·subst h1 h2
     rcases h3 with h3 | h3
     ·subst h3
      go_wp2_with fail
      refine (HKN0.out _ H7.out.2.2.1).mono ?_;rintro e w8 ⟨rfl,hb8⟩;have HB:=Hd (H7.out.2.2.1.trans (hb8.mono H7.out.2.2.1.size));clear hb8;go_wp2_with fail
      go_ret
      exact ⟨rfl,HB.out⟩
     ·subst h3
      go_wp2_with fail
      refine (HKN0.out _ H7.out.2.2.1).mono ?_;rintro e w8 ⟨rfl,hb8⟩;have HB:=Hd (H7.out.2.2.1.trans (hb8.mono H7.out.2.2.1.size));clear hb8;go_wp2_with fail
      go_ret
      exact ⟨rfl,HB.out⟩
    ·subst h1 h2 h3
     have d4:¬ xs<ys:=by omega
     have d5:¬ xf<yf:=by omega
     have d6:¬ (kk:Int)<yf:=by omega
     have HYX:=Hd h7;obtain ⟨x10,x11,x12,x13,x14,x15,x16,x1f⟩:=gfacts7 H7.out.2.1;obtain ⟨y10,y11,y12,y13,y14,y15,y16,y1f⟩:=gfacts7 H7.out.1;clear h4 h5 h6 h7;go_wp2_with fail
     clear d4 d5 d6 x10 x11 x12 x13 x14 x15 x16 x1f y10 y11 y12 y13 y14 y15 y16 y1f;have hxl:=HP.out.2.1.1
     go_loopg [12,13] xn (fun m v12 v13 wr=>∃ i:Nat,i<=xn /\ m=xn - i /\ v13=.int .i64 (i:Int) /\ v12=.int .i64 ((((XA.take i).filter fun a=>decide (a.til<=kk)).length:Nat):Int) /\ Below w7.heap.size w7 wr)
     case atStart=>exact ⟨0,Nat.zero_le _,rfl,rfl,by simp,Below.refl _ _⟩
     case round =>
      obtain ⟨i,hi,hm,rfl,rfl,hbr⟩:=hrel;have hXr:=H7.out.2.1.below hbr H7.out.2.1.lt;have hYr:=H7.out.1.below hbr H7.out.1.lt;have hbr':=H7.out.2.2.1.trans (hbr.mono H7.out.2.2.1.size);have x10:=hXr.cell 0;have y10:=hYr.cell 0;simp only [List.getElem?_toArray,List.getElem?_cons_zero] at x10 y10;obtain ⟨nn,hnn⟩:∃ nn,((XA.take i).filter fun a=>decide (a.til<=kk)).length=nn:=⟨_,rfl⟩
      rw [hnn]
      by_cases hlt:i<xn
      ·obtain ⟨a,ha⟩:∃ a,XA[i]?=some a:=⟨_,List.getElem?_eq_getElem (by rw [HP.out.2.2.2.1];exact hlt)⟩
       have hAr:=H7.out.2.2.2.1.below hbr;have hCr:=H7.out.2.2.2.2.below hbr;obtain ⟨a1,c1,e1,_,_,hk⟩:=id hAr.row;injection e1 with e1 ez e3;clear ez;subst e1 e3;obtain ⟨xg,xo,rfl,_,hrk⟩:=hk (by intro h;rw [h] at ha;simp at ha)
       have k2:=hrk.cells i a ha 2 _ rfl;have hi0:(0:Int)<=(i:Int):=by omega
       have hi1:(i:Int)<(xn:Int):=by omega
       have hil:i<=20000:=by omega
       have HR:=Hd (An hm (An hnn (An ha (An hbr (An hbr' (An hXr (An hYr (An hAr (An hCr hrk)))))))));clear hm hnn ha hbr hbr' hXr hYr hAr hCr hrk hk
       by_cases ht:a.til<=kk
       ·have d7:¬ (kk:Int)<(a.til:Int):=by omega
        have hya:YA[nn]?=some a:=by
         rw [HYX.out,<- HR.out.2.1];exact filter_at _ XA i a HR.out.2.2.1 (decide_eq_true ht)
        have hny:nn<yn:=by rw [<- HP.out.2.2.2.2];exact (List.getElem?_eq_some_iff.1 hya).1
        have hnl:nn<=20000:=by have:=HP.out.2.2.1.1;omega
        obtain ⟨a2,c2,e2,_,_,hk2⟩:=id HR.out.2.2.2.2.2.2.2.2.1.row;injection e2 with f1 f2 f3;clear f2;subst f1 f3;obtain ⟨yg,yo,rfl,_,hrk2⟩:=hk2 (by intro h;rw [h] at hya;simp at hya)
        have hup:∀ W,Below wr.drew.heap.size wr.drew W->Below wr.heap.size wr W:=fun W h=>(show Below wr.heap.size wr wr.drew from (Below.refl _ _).drew).trans h
        have hcc:∀ (p:Addr) (u:Value),wr.cell? p=some u->∀ W,Below wr.drew.heap.size wr.drew W->W.cell? p=some u:=fun p u k W h=>((hup W h).cell (World.block_lt_of_cell? _ _ k)).trans k
        have HC:=Hd (show ∀ W,Below wr.drew.heap.size wr.drew W->W.cell? ⟨q,0,none⟩=some (.slice (some ⟨yg,yo,none⟩) yn yc) /\ W.cell? ⟨x1,0,none⟩=some (.slice (some ⟨xg,xo,none⟩) xn xc) /\ W.cell? ⟨xg,xo+i * 5,none⟩=some (.int .i64 (left a.prod)) /\ W.cell? ⟨xg,xo+i * 5+1,none⟩=some (.int .i64 (a.src:Int)) /\ W.cell? ⟨xg,xo+i * 5+2,none⟩=some (.int .i64 (a.til:Int)) /\ W.cell? ⟨xg,xo+i * 5+3,none⟩=some (.int .i64 (a.prod:Int)) /\ W.cell? ⟨xg,xo+i * 5+4,none⟩=some (va a) /\ W.cell? ⟨yg,yo+nn * 5,none⟩=some (.int .i64 (left a.prod)) /\ W.cell? ⟨yg,yo+nn * 5+1,none⟩=some (.int .i64 (a.src:Int)) /\ W.cell? ⟨yg,yo+nn * 5+2,none⟩=some (.int .i64 (a.til:Int)) /\ W.cell? ⟨yg,yo+nn * 5+3,none⟩=some (.int .i64 (a.prod:Int)) /\ W.cell? ⟨yg,yo+nn * 5+4,none⟩=some (vb a) from fun W h=>by
         have hx:=HR.out.2.2.2.2.2.2.2.2.2;have ha:=HR.out.2.2.1;exact ⟨hcc _ _ y10 W h,hcc _ _ x10 W h,hcc _ _ (hx.cells i a ha 0 _ rfl) W h,hcc _ _ (hx.cells i a ha 1 _ rfl) W h,hcc _ _ (hx.cells i a ha 2 _ rfl) W h,hcc _ _ (hx.cells i a ha 3 _ rfl) W h,hcc _ _ (hx.cells i a ha 4 _ rfl) W h,hcc _ _ (hrk2.cells nn a hya 0 _ rfl) W h,hcc _ _ (hrk2.cells nn a hya 1 _ rfl) W h,hcc _ _ (hrk2.cells nn a hya 2 _ rfl) W h,hcc _ _ (hrk2.cells nn a hya 3 _ rfl) W h,hcc _ _ (hrk2.cells nn a hya 4 _ rfl) W h⟩)
        have hsm:∀ W,Below wr.drew.heap.size wr.drew W->Calls Tryz.prog 19 #[.agg #[.int .i64 (left a.prod),.int .i64 (a.src:Int),.int .i64 (a.til:Int),.int .i64 (a.prod:Int),va a],.agg #[.int .i64 (left a.prod),.int .i64 (a.src:Int),.int .i64 (a.til:Int),.int .i64 (a.prod:Int),vb a]] W fun e w'=>e=.returned (.bool true) /\ Below W.heap.size W w':=fun W h=>by
         have hax:=List.mem_of_getElem? HR.out.2.2.1;have hay:=List.mem_of_getElem? hya;have h1:=same_any (left a.prod) (left a.prod) a a (va a) (vb a) W (((HR.out.2.2.2.2.2.2.2.1.below (hup W h)).cuts a hax).imp fun _ _ _=>trivial) (((HR.out.2.2.2.2.2.2.2.2.1.below (hup W h)).cuts a hay).imp fun _ _ _=>trivial) (HP.out.2.1.2 a hax) (HP.out.2.1.2 a hax)
         simpa using h1
        have HSM:=Hd hsm;have HUP:=Hd (An hup ht);obtain ⟨vaa,hvaa⟩:∃ vaa,va a=vaa:=⟨_,rfl⟩;obtain ⟨vbb,hvbb⟩:∃ vbb,vb a=vbb:=⟨_,rfl⟩;rw [hvaa,hvbb] at HC HSM;obtain ⟨s,hs⟩:∃ s,left a.prod=s:=⟨_,rfl⟩;rw [hs] at HC HSM;have hn0:(0:Int)<=(nn:Int):=by omega
        have hn1:(nn:Int)<(yn:Int):=by omega
        have hn2:¬ (yn:Int)<=(nn:Int):=by omega
        clear hya hrk2 hk2 hcc hsm hup ht hvaa hvbb hs x10 y10;have x10:=HR.out.2.2.2.2.2.1.cell 0;simp only [List.getElem?_toArray,List.getElem?_cons_zero] at x10
        go_upto_region 19 with fail
        clear x10 k2 d7;refine wp_region_concG 19 (paS q x1 xg xo yg yo i nn xn yn xc yc s a.src a.til a.prod vaa vbb) (fun A W=>Below A.heap.size A W) (fun _ _=>True) [5] (fun j=>match j with | _=>false) (by kernel_rfl) (by kernel_rfl) (by kernel_rfl) (by kernel_rfl) (Below.refl _ _) trivial (fun h k=>h.trans (k.mono h.size)) ⟨fun v w h=>h,trivial⟩ ?_ ?_
        ·simp only [List.take_succ_cons,List.take_zero]
         refine ⟨?_,?_,?_,?_,?_,?_,?_,?_,?_,?_,?_,?_,?_,?_,?_,?_,?_,?_,?_,trivial⟩
         ·refine ⟨fun _=>?_,fun h=>absurd h (by decide)⟩
          intro L T W hG hJ hLs hLi dq fq vq K hK;have h1:=fq 12 (by decide)
          simp at h1;go_simp;exact hK _ _ (Below.refl _ W) (fun j u _ _ _ h=>h) trivial rfl
         ·refine ⟨fun _=>?_,fun h=>absurd h (by decide)⟩
          intro L T W hG hJ hLs hLi dq fq vq K hK;have h1:=fq 10 (by decide)
          simp at h1;go_simp;exact hK _ _ (Below.refl _ W) (fun j u _ _ _ h=>h) trivial rfl
         ·refine ⟨fun _=>?_,fun h=>absurd h (by decide)⟩
          intro L T W hG hJ hLs hLi dq fq vq K hK;have h1:=vq ⟨1,.data⟩ (by simp) rfl 122 rfl
          simp only [paS] at h1;simp at h1;obtain ⟨c0,c1,k0,k1,k2,k3,k4,m0,m1,m2,m3,m4⟩:=HC.out W hG;go_simp;exact hK _ _ (Below.refl _ W) (fun j u _ _ _ h=>h) trivial rfl
         ·refine ⟨fun _=>?_,fun h=>absurd h (by decide)⟩
          intro L T W hG hJ hLs hLi dq fq vq K hK;have h1:=vq ⟨2,.data⟩ (by simp) rfl 123 rfl
          simp only [paS] at h1;simp at h1;go_simp;exact hK _ _ (Below.refl _ W) (fun j u _ _ _ h=>h) trivial rfl
         ·refine ⟨fun _=>?_,fun h=>absurd h (by decide)⟩
          intro L T W hG hJ hLs hLi dq fq vq K hK;have h1:=vq ⟨0,.data⟩ (by simp) rfl 121 rfl
          simp only [paS] at h1;have h2:=vq ⟨3,.data⟩ (by simp) rfl 124 rfl
          simp only [paS] at h2;simp at h1 h2;go_simp;exact hK _ _ (Below.refl _ W) (fun j u _ _ _ h=>h) trivial rfl
         ·refine ⟨fun _=>?_,fun h=>absurd h (by decide)⟩
          intro L T W hG hJ hLs hLi dq fq vq K hK;have h1:=vq ⟨4,.data⟩ (by simp) rfl 125 rfl
          simp only [paS] at h1;simp at h1;go_simp;exact hK _ _ (Below.refl _ W) (fun j u _ _ _ h=>h) trivial rfl
         ·refine ⟨fun _=>?_,fun h=>absurd h (by decide)⟩
          intro L T W hG hJ hLs hLi dq fq vq K hK;have h1:=fq 8 (by decide)
          simp at h1;go_simp;exact hK _ _ (Below.refl _ W) (fun j u _ _ _ h=>h) trivial rfl
         ·refine ⟨fun _=>?_,fun h=>absurd h (by decide)⟩
          intro L T W hG hJ hLs hLi dq fq vq K hK;have h1:=vq ⟨6,.data⟩ (by simp) rfl 127 rfl
          simp only [paS] at h1;simp at h1;obtain ⟨c0,c1,k0,k1,k2,k3,k4,m0,m1,m2,m3,m4⟩:=HC.out W hG;go_simp;exact hK _ _ (Below.refl _ W) (fun j u _ _ _ h=>h) trivial rfl
         ·refine ⟨fun _=>?_,fun h=>absurd h (by decide)⟩
          intro L T W hG hJ hLs hLi dq fq vq K hK;have h1:=fq 13 (by decide)
          simp at h1;go_simp;exact hK _ _ (Below.refl _ W) (fun j u _ _ _ h=>h) trivial rfl
         ·refine ⟨fun _=>?_,fun h=>absurd h (by decide)⟩
          intro L T W hG hJ hLs hLi dq fq vq K hK;have h1:=vq ⟨7,.data⟩ (by simp) rfl 128 rfl
          simp only [paS] at h1;have h2:=vq ⟨8,.data⟩ (by simp) rfl 129 rfl
          simp only [paS] at h2;simp at h1 h2;go_simp;exact hK _ _ (Below.refl _ W) (fun j u _ _ _ h=>h) trivial rfl
         ·refine ⟨fun _=>?_,fun h=>absurd h (by decide)⟩
          intro L T W hG hJ hLs hLi dq fq vq K hK;have h1:=vq ⟨9,.data⟩ (by simp) rfl 130 rfl
          simp only [paS] at h1;simp at h1;obtain ⟨c0,c1,k0,k1,k2,k3,k4,m0,m1,m2,m3,m4⟩:=HC.out W hG;go_simp;exact hK _ _ (Below.refl _ W) (fun j u _ _ _ h=>h) trivial rfl
         ·refine ⟨fun _=>?_,fun h=>absurd h (by decide)⟩
          intro L T W hG hJ hLs hLi dq fq vq K hK;have h1:=fq 10 (by decide)
          simp at h1;go_simp;exact hK _ _ (Below.refl _ W) (fun j u _ _ _ h=>h) trivial rfl
         ·refine ⟨fun _=>?_,fun h=>absurd h (by decide)⟩
          intro L T W hG hJ hLs hLi dq fq vq K hK;have h1:=vq ⟨11,.data⟩ (by simp) rfl 132 rfl
          simp only [paS] at h1;simp at h1;obtain ⟨c0,c1,k0,k1,k2,k3,k4,m0,m1,m2,m3,m4⟩:=HC.out W hG;go_simp;exact hK _ _ (Below.refl _ W) (fun j u _ _ _ h=>h) trivial rfl
         ·refine ⟨fun _=>?_,fun h=>absurd h (by decide)⟩
          intro L T W hG hJ hLs hLi dq fq vq K hK;have h1:=fq 12 (by decide)
          simp at h1;go_simp;exact hK _ _ (Below.refl _ W) (fun j u _ _ _ h=>h) trivial rfl
         ·refine ⟨fun _=>?_,fun h=>absurd h (by decide)⟩
          intro L T W hG hJ hLs hLi dq fq vq K hK;have h1:=vq ⟨12,.data⟩ (by simp) rfl 133 rfl
          simp only [paS] at h1;have h2:=vq ⟨13,.data⟩ (by simp) rfl 134 rfl
          simp only [paS] at h2;simp at h1 h2;go_simp;exact hK _ _ (Below.refl _ W) (fun j u _ _ _ h=>h) trivial rfl
         ·refine ⟨fun _=>?_,fun h=>absurd h (by decide)⟩
          intro L T W hG hJ hLs hLi dq fq vq K hK;have h1:=vq ⟨14,.data⟩ (by simp) rfl 135 rfl
          simp only [paS] at h1;simp at h1;obtain ⟨c0,c1,k0,k1,k2,k3,k4,m0,m1,m2,m3,m4⟩:=HC.out W hG;go_simp;exact hK _ _ (Below.refl _ W) (fun j u _ _ _ h=>h) trivial rfl
         ·refine ⟨fun _=>?_,fun h=>absurd h (by decide)⟩
          intro L T W hG hJ hLs hLi dq fq vq K hK;have h1:=vq ⟨10,.data⟩ (by simp) rfl 131 rfl
          simp only [paS] at h1;have h2:=vq ⟨15,.data⟩ (by simp) rfl 136 rfl
          simp only [paS] at h2;simp at h1 h2;go_simp;refine (HSM.out W hG).mono ?_;rintro e W2 ⟨rfl,hb2⟩;exact hK _ _ hb2 (fun j u _ _ _ h=>h) trivial rfl
         ·refine ⟨fun _=>?_,fun h=>absurd h (by decide)⟩
          intro L T W hG hJ hLs hLi dq fq vq K hK;have h1:=vq ⟨16,.data⟩ (by simp) rfl 137 rfl
          simp only [paS] at h1;simp at h1;go_simp;exact hK _ _ (Below.refl _ W) (fun j u _ _ _ h=>h) trivial rfl
         ·refine ⟨fun _=>?_,fun h=>absurd h (by decide)⟩
          intro L T W hG hJ hLs hLi dq fq vq K hK;have h1:=vq ⟨5,.data⟩ (by simp) rfl 126 rfl
          simp only [paS] at h1;have h2:=vq ⟨17,.data⟩ (by simp) rfl 138 rfl
          simp only [paS] at h2;simp at h1 h2;go_simp;exact hK _ _ (Below.refl _ W) (fun j u _ _ _ h=>h) trivial rfl
        ·intro f9 w9 hG hJe hR
         have e18:=hR 18 139 (by decide) rfl
         simp only [concDsts,List.take_succ_cons,List.take_zero,List.drop_succ_cons,List.drop_zero,List.filterMap_cons,List.filterMap_nil,List.foldl_cons,List.foldl_nil,List.setIfInBounds_toArray,List.set_cons_zero,List.set_cons_succ];simp only [paS] at e18;rw [e18];clear e18 hR;generalize f9 121=v121;generalize f9 122=v122;generalize f9 123=v123;generalize f9 124=v124;generalize f9 125=v125;generalize f9 126=v126;generalize f9 127=v127;generalize f9 128=v128;generalize f9 129=v129;generalize f9 130=v130;generalize f9 131=v131;generalize f9 132=v132;generalize f9 133=v133;generalize f9 134=v134;generalize f9 135=v135;generalize f9 136=v136;generalize f9 137=v137;generalize f9 138=v138;clear f9;have hb9:=HUP.out.1 w9 hG;have hbz:=HR.out.2.2.2.1.trans (hb9.mono HR.out.2.2.2.1.size);have HB9:=Hd hbz;clear hb9 hbz hG hJe HC HSM;go_wp2_with fail
         go_roundg (xn - (i+1))
         case measure=>have:=HR.out.1;omega
         case rel =>
          refine ⟨i+1,by omega,rfl,rfl,?_,HB9.out⟩
          rw [filter_take _ HR.out.2.2.1,HR.out.2.1,if_pos (decide_eq_true HUP.out.2)]
          rfl
       ·have d7:(kk:Int)<(a.til:Int):=by omega
        have HT:=Hd ht;clear ht;go_wp2_with fail
        go_roundg (xn - (i+1))
        case measure=>have:=HR.out.1;omega
        case rel =>
         refine ⟨i+1,by omega,rfl,rfl,?_,HR.out.2.2.2.1⟩
         rw [filter_take _ HR.out.2.2.1,HR.out.2.1,if_neg (by simpa using HT.out)]
         rfl
      ·obtain rfl:i=xn:=by omega
       rw [<- HP.out.2.2.2.1,List.take_length,<- HYX.out,HP.out.2.2.2.2] at hnn;subst hnn;have HKK:=Hd (HKN0.out wr hbr');have HB0:=Hd hbr';clear hm hbr hbr' hXr hYr;go_wp2_with fail
       refine HKK.out.mono ?_;rintro e w8 ⟨rfl,hb8⟩;have HB:=Hd (HB0.out.trans (hb8.mono HB0.out.size));clear hb8;go_wp2_with fail
       go_ret
       exact ⟨rfl,HB.out⟩
end Go.Proofs.YthiochcpmfkgcaaGreatDoor.Gl
