/-
  GlrSorts,where what it reads is of modest bulk: the card.
-/
import Derived.Test.YthiochcpmfkgcaaGreatDoorSo22
import Derived.Test.YthiochcpmfkgcaaGreatDoorSo25
import Derived.Test.YthiochcpmfkgcaaGreatDoorSo28
import Derived.Test.YthiochcpmfkgcaaGreatDoorSo4
import Derived.Deep.DeepWitnessRowRef
set_option linter.unusedVariables false
set_option linter.unusedSimpArgs false
set_option maxRecDepth 100000
set_option maxHeartbeats 16000000
namespace Go.Proofs.YthiochcpmfkgcaaGreatDoor.Gl
open Go Go.RowKit Go.Proofs Go.Maps Go.WideMaps Mx Tb
def slR (lg lo lc qg qo qc LL i x:Nat) (j:Nat) (v:Value) (W:World):Prop :=
 match j with
 | 0=>v=.slice (some ⟨lg,lo,none⟩) LL lc
 | 1=>v=.int .i64 i
 | 2=>v=.pointer (some ⟨lg,lo+i,none⟩)
 | 3=>v=.int .i64 x
 | 4=>v=.slice (some ⟨qg,qo,none⟩) LL qc
 | 5=>v=.int .i64 i
 | 6=>v=.pointer (some ⟨qg,qo+i,none⟩)
 | 7=>v=.int .i64 x
 | 8=>v=.bool false
 | _=>True
theorem sortslaw_any (g:Gr) (N:Nat) (hN:N<=2000000) (w:World) (sv pv fv lv:Value) (hG:GramAt w N g sv pv fv lv) (txt:List UInt8) (htx:txt.length<=2000000) (he:EnvG w) :
  Calls Tryz.prog 7 #[.agg #[sv,pv,.int .i64 g.start,fv,lv],.string ⟨txt.toArray⟩] w fun e w'=>e=.returned (.bool true) /\ Below w.heap.size w w':=by
 obtain ⟨sa,sc,rfl⟩:=slice_shape hG.sorts;obtain ⟨pa,pc,rfl⟩:=prodsAt_shape hG.prodsAt;obtain ⟨fa,fc,rfl⟩:=slice_shape hG.forbid;obtain ⟨la,lc,rfl⟩:=slice_shape hG.follow;obtain ⟨tb,htb⟩:∃ tb:ByteArray,(⟨txt.toArray⟩:ByteArray)=tb:=⟨_,rfl⟩;have hts:tb.size=txt.length:=by rw [<- htb,ba_len]
 rw [htb];have H:=Z4.mk hG he htx htb;have HKN0:=Hd (show ∀ W,Below w.heap.size w W->Calls Tryz.prog 10 #[] W fun e w'=>e=.returned (.bool true) /\ Below W.heap.size W w' from fun W hW=>known_any W (he.below hW he.big));have hb0:=(bR w.heap.size w).alloc (nR _) (.cells #[.slice sa g.sorts.length sc,.slice pa g.prods.length pc,.int .i64 g.start,.slice fa g.forbid.length fc,.slice la g.follow.length lc] 27);have hB0:=Blk.new w 27 #[.slice sa g.sorts.length sc,.slice pa g.prods.length pc,.int .i64 g.start,.slice fa g.forbid.length fc,.slice la g.follow.length lc];have H0:=Z2.mk hb0 hB0;have hfw:=few_any g N hN _ _ _ _ _ (hG.keep hb0) tb (by omega);have HFW:=Hd hfw;clear hG he htb hb0 hB0 hfw;go_enter Tryz.func7,Tryz.ntmps7;go_wp2_with fail
 refine HFW.out.mono ?_;rintro e w1 ⟨rfl,hb1⟩;have hb1':=H0.o1.trans (hb1.mono H0.o1.size);have hB1:=H0.o2.below hb1 H0.o2.lt;have H1:=Z2.mk hb1' hB1;clear hb1 hb1' hB1
 cases hf:fewB g tb.size with
 | false =>
  clear hf hts htx;go_wp2_with fail
  refine (HKN0.out _ H1.o1).mono ?_;rintro e w2 ⟨rfl,hb1⟩;have HB:=Hd (H1.o1.trans (hb1.mono H1.o1.size));clear hb1;go_wp2_with fail
  go_ret;exact ⟨rfl,HB.out⟩
 | true =>
  obtain ⟨hF,hl8⟩:=few_iff.1 hf;rw [hts] at hl8;have hlaw:=sorts_law (g:=g) (txt:=txt) (fun hc=>good_few H.o1 hF.prods hc) (by omega) (bud:=20000) (by decide);have hgw:=fun W (hW:Below w.heap.size w W)=>grw_few hN (H.o1.keep hW) hF.prods (H.o2.below hW H.o2.big) txt (by omega);have hr:=fun W (hW:Below w.heap.size w W)=>gsorts_any g _ 20000 W (hgw W hW) (lim_small hF (by show txt.length<=20;omega) (by decide));simp only [H.o4] at hr;have hmy:=fun W (hW:Below w.heap.size w W)=>many_any g _ W (hgw W hW);have hck:=fun W (hW:Below w.heap.size w W)=>r06check_any g N hN W _ _ _ _ (H.o1.keep hW)
  simp only at hmy;have hmay:∀ (f:Nat->Bool),chkN g=0->(∀ (t:Tbl) (a:Tba),RefOk g txt t a->∀ s:Nat,mayR g txt t a (s:Int)=f s)->∀ W,Below w.heap.size w W->∀ s:Nat,Calls Tryz.prog 21 #[.agg #[.slice sa g.sorts.length sc,.slice pa g.prods.length pc,.int .i64 g.start,.slice fa g.forbid.length fc,.slice la g.follow.length lc],.string tb,.int .i64 s] W fun e w'=>e=.returned (.bool (f s)) /\ Below W.heap.size W w':=fun f hc hfm W hW s=>by
   have h:=may_any g (good_few H.o1 hF.prods hc) txt (by omega) (s:Int) _ _ (.slice fa g.forbid.length fc) (.slice la g.follow.length lc) W (H.o1.keep hW).sorts (H.o1.keep hW).prodsAt;rw [H.o4] at h;refine h.mono ?_;rintro e w' ⟨t,a,hrf,rfl,hb⟩;exact ⟨by rw [hfm t a hrf s],hb⟩
  have hS12:=hF.sorts;have HL:=Z4.mk hr hmay hmy hck;have HLAW:=Hd hlaw;clear hr hmay hmy hck hlaw hgw hf hF;obtain ⟨Q,hQ⟩:=eX (sortsF g txt 20000);obtain ⟨se,L⟩:=Q;have r1:=HL.o1 w1 H1.o1;rw [hQ] at r1;have HQ:=Hd hQ;have HR1:=Hd r1;clear hQ r1;obtain ⟨z0,z1,z2,z3,z4,zf⟩:=gfacts5 H1.o2;go_wp2_with fail
  refine HR1.out.mono ?_;rintro e w2 ⟨v,rfl,hown,hb2⟩;obtain ⟨va,vc,rfl⟩:=own_shape hown;have hb2':=H1.o1.trans (hb2.mono H1.o1.size);have hB2:=H1.o2.below hb2 H1.o2.lt;have hsl:SliceK (fun _=>True) encN 1 w2 (.slice va L.length vc) L:=(own_sliceK encN_len hown).imp fun _ _ _=>trivial;have H2:=Z3.mk hb2' hB2 hsl;clear hb2 hb2' hB2 z0 z1 z2 z3 z4 zf hown hsl;obtain ⟨z0,z1,z2,z3,z4,zf⟩:=gfacts5 H2.o2;simp only;go_wp2_with fail
  refine (HL.o4 w2 H2.o1).mono ?_;rintro e w3 ⟨rfl,hb3⟩;obtain ⟨no,hno⟩:=eX (chkN g);rw [hno];have hb3':=H2.o1.trans (hb3.mono H2.o1.size);have hB3:=H2.o2.below hb3 H2.o2.lt;have H3:=Z4.mk hb3' hB3 hno (H2.o3.all hb3);clear hb3 hb3' hB3 z0 z1 z2 z3 z4 zf hno;have hl0:=HLAW.out;rw [HQ.out,H3.o3] at hl0;obtain ⟨z0,z1,z2,z3,z4,zf⟩:=gfacts5 H3.o2
  rcases hl0 with ⟨h1,h2⟩ | ⟨h1,h2,h3⟩ | ⟨h1,h2,h3⟩ | ⟨h1,h2,f,h3,h4⟩
  ·cases h2
   subst h1;clear z0 z1 z2 z3 z4 zf;simp only [List.length_nil];go_wp2_with fail
   refine (HKN0.out _ H3.o1).mono ?_;rintro e w5 ⟨rfl,hb5⟩;have HB:=Hd (H3.o1.trans (hb5.mono H3.o1.size));clear hb5;go_wp2_with fail
   go_ret;exact ⟨rfl,HB.out⟩
  ·cases h3
   subst h1;have hm:=HL.o3 w3 H3.o1 H3.o3;rw [h2] at hm;have HM:=Hd hm;clear hm h2;simp only [List.length_nil];go_wp2_with fail
   refine HM.out.mono ?_;rintro e w5 ⟨rfl,hb5⟩;have H5:=Hd (H3.o1.trans (hb5.mono H3.o1.size));clear hb5 z0 z1 z2 z3 z4 zf;go_wp2_with fail
   refine (HKN0.out _ H5.out).mono ?_;rintro e w6 ⟨rfl,hb6⟩;have HB:=Hd (H5.out.trans (hb6.mono H5.out.size));clear hb6;go_wp2_with fail
   go_ret;exact ⟨rfl,HB.out⟩
  ·cases h3
   subst h1;have hm:=HL.o3 w3 H3.o1 H3.o3;rw [h2] at hm;have HM:=Hd hm;clear hm h2;simp only [List.length_nil];go_wp2_with fail
   refine HM.out.mono ?_;rintro e w5 ⟨rfl,hb5⟩;have H5:=Hd (H3.o1.trans (hb5.mono H3.o1.size));clear hb5 z0 z1 z2 z3 z4 zf;go_wp2_with fail
   refine (HKN0.out _ H5.out).mono ?_;rintro e w6 ⟨rfl,hb6⟩;have HB:=Hd (H5.out.trans (hb6.mono H5.out.size));clear hb6;go_wp2_with fail
   go_ret;exact ⟨rfl,HB.out⟩
  ·cases h3
   subst h1;have hm:=HL.o3 w3 H3.o1 H3.o3;rw [h2] at hm;have HM:=Hd hm;have HMAY:=Hd (HL.o2 f H3.o3 h4);obtain ⟨LW,hLW⟩:=eX ((List.range g.sorts.length).filter f);obtain ⟨LL,hLL⟩:=eX LW.length;have hLN:LL<=g.sorts.length:=by
    rw [<- hLL,<- hLW];exact Nat.le_trans (List.length_filter_le _ _) (by rw [List.length_range];exact nR _)
   have HLW:=Z2.mk hLW hLL;rw [hLW,hLL];clear hm h2 h4 hLW hLL;go_wp2_with fail
   refine HM.out.mono ?_;rintro e w5 ⟨rfl,hb5⟩;have hb35:=H3.o1.trans (hb5.mono H3.o1.size);have hB5:=H3.o2.below hb5 H3.o2.lt;have hs5:=H3.o4.all hb5;rw [HLW.o1,HLW.o2] at hs5;have H5:=Z3.mk hb35 hB5 hs5;clear hb5 hb35 hB5 hs5 z0 z1 z2 z3 z4 zf;go_upto_region 13 with fail
   go_loopg [8,9] g.sorts.length (fun mm v8 v9 wr=>∃ (i:Nat),i<=g.sorts.length /\ mm=g.sorts.length - i /\ v9=.int .i64 i /\ wr.ownsRow w5.heap.size 3 1 v8 ((List.range i).filter f).length (flatK encN ((List.range i).filter f)) /\ Below w5.heap.size w5 wr)
   case atStart=>exact ⟨0,by omega,rfl,rfl,World.ownsRow_nil _ _ _ _,bR _ _⟩
   case round =>
    obtain ⟨i,hi,hm,rfl,hown,hbr⟩:=hrel;have hBr:=H5.o2.below hbr H5.o2.lt;have hbw:Below w.heap.size w wr:=H5.o1.trans (hbr.mono H5.o1.size);obtain ⟨z0,z1,z2,z3,z4,zf⟩:=gfacts5 hBr
    by_cases hlt:i<g.sorts.length
    ·have hi0:(0:Int)<=i:=by omega
     have hi1:(i:Int)<g.sorts.length:=by omega
     obtain ⟨b,hb⟩:=eX (f i);obtain ⟨S,hS⟩:=eX ((List.range i).filter f);have hmi:=HMAY.out wr hbw i;rw [hb] at hmi;rw [hS] at hown;have HA:=Z6.mk hown hbr hm hb hS hmi;clear hown hbr hm hbw hBr hb hmi hS;go_wp2_with fail
     refine HA.o6.mono ?_;rintro e w6 ⟨rfl,hb6⟩;have HB6:=Hd hb6;clear hb6 z0 z1 z2 z3 z4 zf
     cases b with
     | false =>
      go_wp2_with fail
      go_roundg (g.sorts.length - (i+1))
      case measure=>have h1:=HA.o3;omega
      case rel =>
       refine ⟨i+1,by omega,rfl,rfl,?_,HA.o2.trans (HB6.out.mono HA.o2.size)⟩;rw [List.range_succ,List.filter_append,HA.o5,List.filter_cons_of_neg (by rw [HA.o4];decide)]
       simpa using Mx.row_below HA.o1 HB6.out
     | true =>
      obtain ⟨i0,hi9,hz0,hz1,hz2⟩:=info_parts infoIntG;obtain ⟨SL,hSL⟩:=eX S.length;have hSLn:SL<=12:=by
       have h1:=HA.o5;rw [<- hSL,<- h1];refine Nat.le_trans (List.length_filter_le _ _) ?_;rw [List.length_range];omega
      have hro5:=Mx.row_below HA.o1 HB6.out;have hb35:=HA.o2.trans (HB6.out.mono HA.o2.size);have hsz5:=hb35.size;rw [hSL] at hro5;have HR:=Z4.mk hro5 hSL hSLn hb35;clear hro5 hSL hb35;go_wp2_with (at_builtin;go_loud (refine wpList_append_ownF _ rfl _ _ 57 rfl w5.heap.size 3 i0 (.int .i64 0) 1 8 Tryz.underlying57 hi9 hz0 hz1 hz2 rfl (by decide) _ SL _ rfl (HR.o1.alloc _) ⟨w6.heap.size,0,none⟩ 1 1 [.int .i64 i] rfl rfl ?c1 ?c2 ?c3 ?c4 ?c5 ?_))
      case c1=>exact cells_newS w6 _ _
      case c2=>first | (intro u hu;simp at hu;subst hu;rfl) | rfl
      case c3=>unfold maxLen;omega
      case c4=>omega
      case c5=>first | (simp;omega) | omega
      intro v' w8 hown8 hg8 hfr8;have hb8:=(HR.o4.alloc hsz5 (.cells #[.int .i64 i] 3)).grown hg8 (by simp;omega) (fun b hb=>(HR.o1.lt b hb).1);have ez:flatK encN S++[.int .i64 i]=flatK encN (S++[i]):=by rw [<- flatK_snoc];rfl
      rw [ez] at hown8;have S8:=Z2.mk hown8 hb8;clear hown8 hg8 hfr8 hb8 hi9 hz0 hz1 hz2 ez;go_wp2_with fail
      go_roundg (g.sorts.length - (i+1))
      case measure=>have h1:=HA.o3;omega
      case rel =>
       refine ⟨i+1,by omega,rfl,rfl,?_,S8.o2⟩;rw [List.range_succ,List.filter_append,HA.o5,List.filter_cons_of_pos (by rw [HA.o4]),List.length_append];rw [<- HR.o2] at S8;exact S8.o1
    ·obtain rfl:i=g.sorts.length:=by omega
     have hiz:¬ ((g.sorts.length:Int)<g.sorts.length):=by omega
     rw [HLW.o1] at hown;obtain ⟨qa,qc,rfl⟩:=own_shape hown;have hqs:SliceK (fun _=>True) encN 1 wr (.slice qa LW.length qc) LW:=(own_sliceK encN_len hown).imp fun _ _ _=>trivial;rw [HLW.o2] at hqs ⊢;have HF:=Z3.mk hqs (H5.o3.all hbr) hbw;clear hown hbr hm hbw hBr hqs;go_upto_region 20 with fail
     clear z0 z1 z2 z3 z4 zf hiz
     go_loopg [10] LL (fun mm v10 wy=>∃ (i:Nat),i<=LL /\ mm=LL - i /\ v10=.int .i64 i /\ Below wr.heap.size wr wy)
     case atStart=>exact ⟨0,by omega,rfl,rfl,bR _ _⟩
     case round =>
      obtain ⟨i,hi,hm,rfl,hbr⟩:=hrel
      by_cases hlt:i<LL
      ·obtain ⟨x,hx⟩:∃ x,LW[i]?=some x:=⟨_,gE (by rw [HLW.o2];exact hlt)⟩;obtain ⟨a1,c1,e1,_,_,hk1⟩:=HF.o2.all hbr;obtain ⟨a2,c2,e2,_,_,hk2⟩:=HF.o1.all hbr;injection e1 with e1 e3 e4;injection e2 with e2 e5 e6;subst e1 e2 e4 e6;clear e3 e5;obtain ⟨lg,lo,rfl,_,hrx⟩:=hk1 (by intro h;rw [h] at hx;simp at hx)
       obtain ⟨qg,qo,rfl,_,hry⟩:=hk2 (by intro h;rw [h] at hx;simp at hx)
       have g0:=hrx.cells i x hx 0 _ rfl;have g1:=hry.cells i x hx 0 _ rfl;rw [Nat.add_zero,Nat.mul_one] at g0 g1;have HC:=Hd (show ∀ W,Below wr.drew.heap.size wr.drew W->W.cell? ⟨lg,lo+i,none⟩=some (.int .i64 x) /\ W.cell? ⟨qg,qo+i,none⟩=some (.int .i64 x) from fun W h=>by
        have h2:Below wr.heap.size wr W:=(show Below wr.heap.size wr wr.drew from (bR _ _).drew).trans h;exact ⟨(h2.cell (wL _ _ g0)).trans g0,(h2.cell (wL _ _ g1)).trans g1⟩)
       have hi0:(0:Int)<=i:=by omega
       have hi1:(i:Int)<LL:=by omega
       have HR:=Z2.mk hm hbr;clear hm hbr hk1 hk2 hrx hry g0 g1 hx;go_upto_region 22 with fail
       refine wp_region_concT 9 (slR lg lo vc qg qo qc LL i x) (fun A W=>Below A.heap.size A W) (fun _ _=>True) (by kernel_rfl) (by kernel_rfl) (by kernel_rfl) (by kernel_rfl) (bR _ _) trivial (fun h k=>h.trans (k.mono h.size)) ?_ ?_
       ·simp only [List.take_succ_cons,List.take_zero];refine ⟨?_,?_,?_,?_,?_,?_,?_,?_,?_,trivial⟩
        all_goals intro L T W hG hJ hLs hLi dq fq vq K hK
        all_goals try have zk:=fun v=>hK v W (bR _ W) (fun j u _ _ _ h=>h) trivial
        all_goals try have zv:=fun i h=>vq ⟨i,.data⟩ h rfl
        ·have h1:=fq 5 (by decide);simp at h1;go_simp;exact zk _ rfl
        ·have h1:=fq 10 (by decide);simp at h1;go_simp;exact zk _ rfl
        ·have h1:=zv 0 (by simp) 87 rfl;have h2:=zv 1 (by simp) 88 rfl;simp [slR] at h1 h2;go_simp;exact zk _ rfl
        ·have h1:=zv 2 (by simp) 89 rfl;simp [slR] at h1;obtain ⟨c0,c1⟩:=HC.out W hG;go_simp;exact zk _ rfl
        ·have h1:=fq 8 (by decide);simp at h1;go_simp;exact zk _ rfl
        ·have h1:=fq 10 (by decide);simp at h1;go_simp;exact zk _ rfl
        ·have h1:=zv 4 (by simp) 91 rfl;have h2:=zv 5 (by simp) 92 rfl;simp [slR] at h1 h2;go_simp;exact zk _ rfl
        ·have h1:=zv 6 (by simp) 93 rfl;simp [slR] at h1;obtain ⟨c0,c1⟩:=HC.out W hG;go_simp;exact zk _ rfl
        ·have h1:=zv 3 (by simp) 90 rfl;have h2:=zv 7 (by simp) 94 rfl;simp [slR] at h1 h2;go_simp;exact zk _ rfl
       ·intro f9 w9 hG hJe hR;have e8:=hR 8 95 (by decide) rfl;simp only [concDsts,qZ];simp only [slR] at e8;rw [e8];clear e8 hR;generalize f9 87=v87;generalize f9 88=v88;generalize f9 89=v89;generalize f9 90=v90;generalize f9 91=v91;generalize f9 92=v92;generalize f9 93=v93;generalize f9 94=v94;clear f9;have hb9:=HR.o2.trans (((show Below wr.heap.size wr wr.drew from (bR _ _).drew).trans hG).mono HR.o2.size);have HB9:=Hd hb9;clear hb9 hG hJe HC;go_wp2_with fail
        go_roundg (LL - (i+1))
        case measure=>have:=HR.o1;omega
        case rel=>exact ⟨i+1,by omega,rfl,rfl,HB9.out⟩
      ·obtain rfl:i=LL:=by omega
       have hiz:¬ ((i:Int)<i):=by omega
       have hbw:=HF.o3.trans (hbr.mono HF.o3.size);have HB:=Hd hbw;clear hbr hm hbw;go_wp2_with fail
       refine (HKN0.out _ HB.out).mono ?_;rintro e w9 ⟨rfl,hb9⟩;have HE:=Hd (HB.out.trans (hb9.mono HB.out.size));clear hb9;go_wp2_with fail
       go_ret;exact ⟨rfl,HE.out⟩
end Go.Proofs.YthiochcpmfkgcaaGreatDoor.Gl
namespace Go.Proofs.YthiochcpmfkgcaaGreatDoor.GlCardGlrSorts
open Go.ChangeShapes Go.WideShapes Go.ChangeAt Go.RowKit Go.WideMaps Go.WideElems
open Go.ChangeMaps (open_string shut_string)
open GlCard (own laidOut env_of_laid)
theorem small_part {H:Type} {d0 d1:DataW H} (hk:Rows.uptoSmall H [d0,d1]=true):Rows.uptoBulk d0<=1048576 /\ Rows.uptoBulk d1<=1048576:=by
 have h:Rows.uptoBulkAll [d0,d1]<=1048576:=of_decide_eq_true hk;simp only [Rows.uptoBulkAll] at h;omega
theorem door_met (os:Os) (args:Array Value):laidMetH Tryz.prog Rows.glrSortsUptoRow.laid ((World.doorLaid Tryz.prog 24 os).forCall (fun _ _=>0) ⟨#[],args,[]⟩).memory :=
 laidMetH_of_parts3 (fuel:=8) (laidMet_of_run' 8 (by kernel_rfl) (by kernel_rfl)) (by kernel_rfl) (by kernel_rfl)
theorem reads (os:Os) {H:Type} (enc:TypeId × Value->H):∃ x,DataW.whole enc Tryz.prog ((World.doorLaid Tryz.prog 24 os).forCall (fun _ _=>0) ⟨#[],#[.agg #[.slice none 0 0,.slice none 0 0,.int .i64 0,.slice none 0 0,.slice none 0 0],.string ⟨#[]⟩],[]⟩).memory Tryz.f7.params.toList Rows.glrSortsSpec.vars false #[Value.agg #[.slice none 0 0,.slice none 0 0,.int .i64 0,.slice none 0 0,.slice none 0 0],.string ⟨#[]⟩].toList 8=some x /\ Rows.uptoSmall H (x.1++x.2.1)=true:=by
 have h:((DataW.whole enc Tryz.prog ((World.doorLaid Tryz.prog 24 os).forCall (fun _ _=>0) ⟨#[],#[.agg #[.slice none 0 0,.slice none 0 0,.int .i64 0,.slice none 0 0,.slice none 0 0],.string ⟨#[]⟩],[]⟩).memory Tryz.f7.params.toList Rows.glrSortsSpec.vars false #[Value.agg #[.slice none 0 0,.slice none 0 0,.int .i64 0,.slice none 0 0,.slice none 0 0],.string ⟨#[]⟩].toList 8).map (fun x=>Rows.uptoSmall H (x.1++x.2.1)))=some true:=by kernel_rfl
 cases hx:DataW.whole enc Tryz.prog ((World.doorLaid Tryz.prog 24 os).forCall (fun _ _=>0) ⟨#[],#[.agg #[.slice none 0 0,.slice none 0 0,.int .i64 0,.slice none 0 0,.slice none 0 0],.string ⟨#[]⟩],[]⟩).memory Tryz.f7.params.toList Rows.glrSortsSpec.vars false #[Value.agg #[.slice none 0 0,.slice none 0 0,.int .i64 0,.slice none 0 0,.slice none 0 0],.string ⟨#[]⟩].toList 8 with
 | none=>rw [hx] at h;cases h
 | some x=>rw [hx] at h;exact ⟨x,rfl,by simpa using h⟩

theorem lifted (os:Os) (started:os.Started) (H:Type) (enc:TypeId × Value->H) (F:Stop.Interp) :
  ReturnsInHanded {} Tryz.checked os 7 .any ((Rows.OpenSpec.upto Rows.glrSortsSpec).preRow enc Tryz.prog Tryz.f7 Rows.glrSortsUptoRow.domain false Rows.glrSortsUptoRow.laid) (((Rows.OpenSpec.upto Rows.glrSortsSpec).at F).post enc Tryz.prog Tryz.f7 false true false false):=by
 obtain ⟨x0,hx,hsm⟩:=reads os enc;refine returnsInHanded_of_row (C:=Tryz.checked) (s:=Rows.OpenSpec.upto Rows.glrSortsSpec) own started (by kernel_rfl) Tryz.func7
  (witness_row_atRef (enc:=enc) (C:=Tryz.checked) false (World.doorLaid Tryz.prog 24 os) #[.agg #[.slice none 0 0,.slice none 0 0,.int .i64 0,.slice none 0 0,.slice none 0 0],.string ⟨#[]⟩] rfl (by kernel_rfl) (by kernel_rfl) (by kernel_rfl)
   (OpenSpec.preRow_of_cond 8 hx (by kernel_rfl) (fun k hk=>by cases hk;exact hsm) (by kernel_rfl) (door_met os _))) ?_
 intro W base args ds gs before hval0 hW _ hcond _ hL _ _;have hval:∀ (j:Nat) t v,Tryz.f7.params[j]?=some t->args[j]?=some v->Value.okWide Tryz.prog W .any base t v:=hval0;have hk:=hcond _ rfl;have hW':=hW;obtain ⟨p,q,hA0,hV,rfl,hfz,hnd⟩:=hW;have hA:DataW.TrodAll enc Tryz.prog W 0 (fun _=>true) true Tryz.f7.params.toList args.toList ds p:=hA0;rw [Tryz.params7] at hA hval;obtain ⟨v0,v1,d0,d1,p0,p1,rfl,rfl,rfl,h0,h1⟩:=trodAll_two hA;obtain ⟨rfl,rfl⟩:=trodVars_none hV;obtain ⟨cs,rfl,_⟩:=okWide_struct Tryz.underlying27 (hval 0 27 v0 rfl rfl);obtain ⟨a1,rfl,rfl,rfl,w1⟩:=open_string Tryz.underlying9 (hval 1 9 v1 rfl rfl) h1;obtain ⟨fuel,hf⟩:=id h0;obtain ⟨g,sv,pv,fv,lv,hcs,hG⟩:=Tb.gram_open hf;clear hA0 hval0;simp only [List.append_nil] at hk;replace hk:=small_part hk
 have hE:=env_of_laid hL;obtain rfl:cs=#[sv,pv,.int .i64 g.start,fv,lv]:=by
  have e:cs.toList=[sv,pv,.int .i64 g.start,fv,lv]:=hcs;rw [<- Array.toArray_toList (xs:=cs),e]
 refine (Gl.sortslaw_any g _ (Nat.le_trans hk.1 (by decide)) W sv pv fv lv hG a1.data.toList (by have:=hk.2;simp only [Rows.uptoBulk] at this;omega) hE).mono fun e W' ⟨he,bel⟩=>?_;subst he;exact ⟨_,rfl,_,_,_,[],_,[],hW',trodAll_mk1 (shut_bool Tryz.underlying4 _),(trodAll_cons_mk (Below.trod laidOut (by kernel_rfl) (of_decide_eq_true (by kernel_rfl)) h0 bel (fun x hx=>h0.elim fun fuel hf=>DataW.trod_lt fuel _ _ _ hf x hx)) (trodAll_cons_mk (shut_string Tryz.underlying9 w1) trodAll_mk0)),rfl,bel.frame _,fun h=>by cases h⟩

theorem said:Rows.GlrSortsUptoSaid :=
 OpenClaim.holds_of_cond 7 Tryz.f7 rfl rfl rfl rfl rfl rfl rfl ⟨rfl,rfl,rfl,rfl,rfl⟩ rfl rfl rfl rfl rfl (by kernel_rfl) Tryz.func7 (by kernel_rfl)
  (of_decide_eq_true (by kernel_rfl)) (by unfold Func.isWrapper;first | (rw [if_pos (by decide +kernel)];kernel_rfl) | (rw [if_neg (by decide +kernel)];exact ⟨rfl,rfl⟩))
  (fun os started H enc _ F=>by rw [OpenClaim.pre_eq_preRow];exact lifted os started H enc F)

theorem plain (f:FuncId) (fn:Func) (hf:Tryz.pinned.checked.prog.funcNamed Rows.glrSortsUptoRow.func=some f) (hfn:Tryz.pinned.checked.prog.funcs[f]?=some fn) :
  true=Tryz.pinned.checked.prog.looks [] /\ ∀ (j:Nat) t,fn.params[j]?=some t->Tryz.pinned.checked.prog.wantsStandIn t=false:=by
 obtain rfl:f=7:=Option.some.inj ((show Tryz.prog.funcNamed Rows.glrSortsUptoRow.func=some 7 by kernel_rfl).symm.trans hf) |>.symm
 obtain rfl:fn=Tryz.f7:=(Option.some.inj (Tryz.func7.symm.trans hfn)).symm;refine ⟨by kernel_rfl,fun j t ht=>?_⟩;rw [Tryz.params7] at ht;have hm:t∈[27,9]:=by simpa using Array.mem_of_getElem? ht
 have hall:([27,9].all fun u=>!Tryz.prog.wantsStandIn u)=true:=by kernel_rfl
 exact (show Tryz.prog.wantsStandIn t=false by simpa using List.all_eq_true.1 hall t hm)

theorem glrSortsUpto_card:Rows.GlrSortsUptoCardSaid :=
 Claim7.holds_tied_plain_at .later [] _ _ _ _ said (fun _ h=>by cases h) (by kernel_rfl) (fun _ h=>by cases h) glrSortsUpto_row_tie rfl ⟨rfl,rfl⟩ (by kernel_rfl) rfl plain (by kernel_rfl)
#print axioms glrSortsUpto_card
end Go.Proofs.YthiochcpmfkgcaaGreatDoor.GlCardGlrSorts
