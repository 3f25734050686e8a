/-
  GlrPrefix,where what it reads is of modest bulk: the card.
-/
import Derived.Test.YthiochcpmfkgcaaGreatDoorPx22
import Derived.Test.YthiochcpmfkgcaaGreatDoorPx25
import Derived.Test.YthiochcpmfkgcaaGreatDoorPx28
import Derived.Test.YthiochcpmfkgcaaGreatDoorPx4
import Derived.Deep.DeepWitnessRowRef
set_option linter.unusedVariables false
set_option linter.unusedSimpArgs false
set_option maxRecDepth 100000
set_option maxHeartbeats 16000000
namespace Go.Proofs.YthiochcpmfkgcaaGreatDoor.Gl
open Go Go.RowKit Go.Proofs Go.Maps Go.WideMaps Mx Tb
attribute [local go_sem] eqSet
theorem prefixlaw_any (g:Gr) (N:Nat) (hN:N<=2000000) (w:World) (sv pv fv lv:Value) (hG:GramAt w N g sv pv fv lv) (txt:List UInt8) (htx:txt.length<=2000000) (he:EnvG w) :
  Calls Tryz.prog 4 #[.agg #[sv,pv,.int .i64 g.start,fv,lv],.string ⟨txt.toArray⟩] w fun e w'=>e=.returned (.bool true) /\ Below w.heap.size w w':=by
 obtain ⟨sa,sc,rfl⟩:=slice_shape hG.sorts;obtain ⟨pa,pc,rfl⟩:=prodsAt_shape hG.prodsAt;obtain ⟨fa,fc,rfl⟩:=slice_shape hG.forbid;obtain ⟨la,lc,rfl⟩:=slice_shape hG.follow;obtain ⟨tb,htb⟩:∃ tb:ByteArray,(⟨txt.toArray⟩:ByteArray)=tb:=⟨_,rfl⟩;have hts:tb.size=txt.length:=by rw [<- htb,ba_len]
 rw [htb];have H:=Z4.mk hG he htx htb;have HKN0:=Hd (show ∀ W,Below w.heap.size w W->Calls Tryz.prog 10 #[] W fun e w'=>e=.returned (.bool true) /\ Below W.heap.size W w' from fun W hW=>known_any W (he.below hW he.big));have hb0:=(bR w.heap.size w).alloc (nR _) (.cells #[.slice sa g.sorts.length sc,.slice pa g.prods.length pc,.int .i64 g.start,.slice fa g.forbid.length fc,.slice la g.follow.length lc] 27);have hB0:=Blk.new w 27 #[.slice sa g.sorts.length sc,.slice pa g.prods.length pc,.int .i64 g.start,.slice fa g.forbid.length fc,.slice la g.follow.length lc];have H0:=Z2.mk hb0 hB0;have hfw:=few_any g N hN _ _ _ _ _ (hG.keep hb0) tb (by omega);have HFW:=Hd hfw;clear hG he htb hb0 hB0 hfw;go_enter Tryz.func4,Tryz.ntmps4;go_wp2_with fail
 refine HFW.out.mono ?_;rintro e w1 ⟨rfl,hb1⟩;have hb1':=H0.o1.trans (hb1.mono H0.o1.size);have hB1:=H0.o2.below hb1 H0.o2.lt;have H1:=Z2.mk hb1' hB1;clear hb1 hb1' hB1
 cases hf:fewB g tb.size with
 | false =>
  clear hf hts htx;go_wp2_with fail
  refine (HKN0.out _ H1.o1).mono ?_;rintro e w2 ⟨rfl,hb1⟩;have HB:=Hd (H1.o1.trans (hb1.mono H1.o1.size));clear hb1;go_wp2_with fail
  go_ret;exact ⟨rfl,HB.out⟩
 | true =>
  obtain ⟨hF,hl8⟩:=few_iff.1 hf;rw [hts] at hl8;have hlaw:=pre_law (g:=g) (txt:=txt) (fun hc=>good_few H.o1 hF.prods hc) (by omega) (bud:=20000) (by decide);have hgw:=fun W (hW:Below w.heap.size w W)=>grw_few hN (H.o1.keep hW) hF.prods (H.o2.below hW H.o2.big) txt (by omega);have hr:=fun W (hW:Below w.heap.size w W) (bud:Int) (hb:bud<=20000)=>prefix_any g _ bud W (hgw W hW) (lim_small hF (by show txt.length<=20;omega) hb);simp only [H.o4] at hr;have hmy:=fun W (hW:Below w.heap.size w W)=>many_any g _ W (hgw W hW);have hck:=fun W (hW:Below w.heap.size w W)=>r06check_any g N hN W _ _ _ _ (H.o1.keep hW)
  simp only at hmy;have hnext:∀ (M:Nat) (b:Bool),chkN g=0->(∀ (t:Tbl) (a:Tba),RefOk g txt t a->nextR g txt t a=(M,b))->∀ W,Below w.heap.size w W->Calls Tryz.prog 16 #[.agg #[.slice sa g.sorts.length sc,.slice pa g.prods.length pc,.int .i64 g.start,.slice fa g.forbid.length fc,.slice la g.follow.length lc],.string tb] W fun e w'=>e=.returned (.tuple #[setV M,.bool b]) /\ Below W.heap.size W w':=fun M b hc hfm W hW=>by
   have h:=nextr_any g (good_few H.o1 hF.prods hc) txt (by omega) _ _ (.slice fa g.forbid.length fc) (.slice la g.follow.length lc) W (H.o1.keep hW).sorts (H.o1.keep hW).prodsAt;rw [H.o4] at h;refine h.mono ?_;rintro e w' ⟨t,a,hrf,rfl,hb⟩;exact ⟨by rw [hfm t a hrf],hb⟩
  have HL:=Z4.mk hr hnext hmy hck;have HLAW:=Hd hlaw;clear hr hnext hmy hck hlaw hgw hf hF;have hz0:wd 0 0=0:=by decide
  have hz1:wd 0 1=0:=by decide
  have hz2:wd 0 2=0:=by decide
  have hz3:wd 0 3=0:=by decide
  have HZ:=Z4.mk hz0 hz1 hz2 hz3;clear hz0 hz1 hz2 hz3;obtain ⟨Q,hQ⟩:=eX (preF g txt 20000);obtain ⟨M,bv,n⟩:=Q;obtain ⟨Q2,hQ2⟩:=eX (preF g txt (-1));obtain ⟨M2,bv2,n2⟩:=Q2;have r1:=HL.o1 w1 H1.o1 20000 (by decide);rw [hQ] at r1;have HQ:=Z2.mk hQ hQ2;have HR1:=Hd r1;clear hQ hQ2 r1;obtain ⟨z0,z1,z2,z3,z4,zf⟩:=gfacts5 H1.o2;go_wp2_with fail
  refine HR1.out.mono ?_;rintro e w2 ⟨rfl,hb2⟩;have hb2':=H1.o1.trans (hb2.mono H1.o1.size);have hB2:=H1.o2.below hb2 H1.o2.lt;have H2:=Z2.mk hb2' hB2;clear hb2 hb2' hB2 z0 z1 z2 z3 z4 zf;unfold setV;simp only;go_upto_region 4 with fail
  have hS3:Blk (w2.alloc (.cells #[.int .u64 (wd M 0),.int .u64 (wd M 1),.int .u64 (wd M 2),.int .u64 (wd M 3)] 33)) w2.heap.size 33 #[.int .u64 (wd M 0),.int .u64 (wd M 1),.int .u64 (wd M 2),.int .u64 (wd M 3)]:=Blk.new _ _ _;have hb3:Below w2.heap.size w2 (w2.alloc (.cells #[.int .u64 (wd M 0),.int .u64 (wd M 1),.int .u64 (wd M 2),.int .u64 (wd M 3)] 33)):=(bR _ _).alloc (nR _) _;generalize w2.alloc (.cells #[.int .u64 (wd M 0),.int .u64 (wd M 1),.int .u64 (wd M 2),.int .u64 (wd M 3)] 33)=w3 at hS3 hb3 ⊢;obtain ⟨sb,hsb⟩:=eX w2.heap.size;rw [hsb] at hS3 ⊢;have hb3':=H2.o1.trans (hb3.mono H2.o1.size);have r2:=HL.o1 w3 hb3' (-1) (by decide);rw [HQ.o2] at r2;have H3:=Z4.mk hb3' (H2.o2.below hb3 H2.o2.lt) hS3 r2;clear hS3 hb3 hb3' r2 hsb;obtain ⟨z0,z1,z2,z3,z4,zf⟩:=gfacts5 H3.o2;go_wp2_with fail
  refine H3.o4.mono ?_;rintro e w4 ⟨rfl,hb4⟩;have hb4':=H3.o1.trans (hb4.mono H3.o1.size);have H4:=Z3.mk hb4' (H3.o2.below hb4 H3.o2.lt) (H3.o3.below hb4 H3.o3.lt);clear hb4 hb4' z0 z1 z2 z3 z4 zf;unfold setV;simp only;go_upto_region 5 with fail
  have hb5:Below w4.heap.size w4 (w4.alloc (.cells #[.int .u64 (wd M2 0),.int .u64 (wd M2 1),.int .u64 (wd M2 2),.int .u64 (wd M2 3)] 33)):=(bR _ _).alloc (nR _) _;generalize w4.alloc (.cells #[.int .u64 (wd M2 0),.int .u64 (wd M2 1),.int .u64 (wd M2 2),.int .u64 (wd M2 3)] 33)=w5 at hb5 ⊢;have hb5':=H4.o1.trans (hb5.mono H4.o1.size);have H5:=Z3.mk hb5' (H4.o2.below hb5 H4.o2.lt) (H4.o3.below hb5 H4.o3.lt);clear hb5 hb5';obtain ⟨tq,htq⟩:=eX w4.heap.size;rw [htq];clear htq;obtain ⟨z0,z1,z2,z3,z4,zf⟩:=gfacts5 H5.o2;go_wp2_with fail
  refine (HL.o4 w5 H5.o1).mono ?_;rintro e w6 ⟨rfl,hb6⟩;obtain ⟨no,hno⟩:=eX (chkN g);rw [hno];have hb6':=H5.o1.trans (hb6.mono H5.o1.size);have H6:=Z4.mk hb6' (H5.o2.below hb6 H5.o2.lt) (H5.o3.below hb6 H5.o3.lt) hno;clear hb6 hb6' z0 z1 z2 z3 z4 zf hno;have hl0:=HLAW.out;rw [HQ.o1,HQ.o2,H6.o4] at hl0;obtain ⟨z0,z1,z2,z3,z4,zf⟩:=gfacts5 H6.o2
  rcases hl0 with ⟨h1,h2,h3⟩ | ⟨h1,h2,h3,h4⟩ | ⟨h1,h2,h3,h4⟩ | ⟨h1,h2,h3,MM,bb,h4,h5⟩
  ·cases h2
   cases h3
   subst h1;clear z0 z1 z2 z3 z4 zf;obtain ⟨s0,s1,s2,s3,sf⟩:=H6.o3.facts4;rw [HZ.o1] at s0;rw [HZ.o2] at s1;rw [HZ.o3] at s2;rw [HZ.o4] at s3;go_wp2_with fail
   refine (HKN0.out _ H6.o1).mono ?_;rintro e w7 ⟨rfl,hb7⟩;have HB:=Hd (H6.o1.trans (hb7.mono H6.o1.size));clear hb7 s0 s1 s2 s3 sf;go_wp2_with fail
   go_ret;exact ⟨rfl,HB.out⟩
  ·cases h3
   cases h4
   subst h1;have hm:=HL.o3 w6 H6.o1 H6.o4;rw [h2] at hm;have HM:=Hd hm;clear hm h2;go_wp2_with fail
   refine HM.out.mono ?_;rintro e w7 ⟨rfl,hb7⟩;have hb7':=H6.o1.trans (hb7.mono H6.o1.size);obtain ⟨s0,s1,s2,s3,sf⟩:=(H6.o3.below hb7 H6.o3.lt).facts4;rw [HZ.o1] at s0;rw [HZ.o2] at s1;rw [HZ.o3] at s2;rw [HZ.o4] at s3;have H7:=Hd hb7';clear hb7 hb7' z0 z1 z2 z3 z4 zf;go_wp2_with fail
   refine (HKN0.out _ H7.out).mono ?_;rintro e w8 ⟨rfl,hb8⟩;have HB:=Hd (H7.out.trans (hb8.mono H7.out.size));clear hb8 s0 s1 s2 s3 sf;go_wp2_with fail
   go_ret;exact ⟨rfl,HB.out⟩
  ·cases h3
   cases h4
   subst h1;have hm:=HL.o3 w6 H6.o1 H6.o4;rw [h2] at hm;have HM:=Hd hm;clear hm h2;go_wp2_with fail
   refine HM.out.mono ?_;rintro e w7 ⟨rfl,hb7⟩;have hb7':=H6.o1.trans (hb7.mono H6.o1.size);obtain ⟨s0,s1,s2,s3,sf⟩:=(H6.o3.below hb7 H6.o3.lt).facts4;rw [HZ.o1] at s0;rw [HZ.o2] at s1;rw [HZ.o3] at s2;rw [HZ.o4] at s3;have H7:=Hd hb7';clear hb7 hb7' z0 z1 z2 z3 z4 zf;go_wp2_with fail
   refine (HKN0.out _ H7.out).mono ?_;rintro e w8 ⟨rfl,hb8⟩;have HB:=Hd (H7.out.trans (hb8.mono H7.out.size));clear hb8 s0 s1 s2 s3 sf;go_wp2_with fail
   go_ret;exact ⟨rfl,HB.out⟩
  ·cases h3
   cases h4
   subst h1;have hm:=HL.o3 w6 H6.o1 H6.o4;rw [h2] at hm;have HM:=Hd hm;have HNX:=Hd (HL.o2 M bv H6.o4 h5);clear hm h2 h5;go_wp2_with fail
   refine HM.out.mono ?_;rintro e w7 ⟨rfl,hb7⟩;have hb7':=H6.o1.trans (hb7.mono H6.o1.size);have H7:=Z3.mk hb7' (H6.o2.below hb7 H6.o2.lt) (H6.o3.below hb7 H6.o3.lt);clear hb7 hb7' z0 z1 z2 z3 z4 zf;obtain ⟨z0,z1,z2,z3,z4,zf⟩:=gfacts5 H7.o2;go_wp2_with fail
   refine (HNX.out w7 H7.o1).mono ?_;rintro e w8 ⟨rfl,hb8⟩;have hb8':=H7.o1.trans (hb8.mono H7.o1.size);have H8:=Z2.mk hb8' (H7.o3.below hb8 H7.o3.lt);clear hb8 hb8' z0 z1 z2 z3 z4 zf;unfold setV;go_upto_region 13 with fail
   have hS9:Blk (w8.alloc (.cells #[.int .u64 (wd M 0),.int .u64 (wd M 1),.int .u64 (wd M 2),.int .u64 (wd M 3)] 33)) w8.heap.size 33 #[.int .u64 (wd M 0),.int .u64 (wd M 1),.int .u64 (wd M 2),.int .u64 (wd M 3)]:=Blk.new _ _ _;have hb9:Below w8.heap.size w8 (w8.alloc (.cells #[.int .u64 (wd M 0),.int .u64 (wd M 1),.int .u64 (wd M 2),.int .u64 (wd M 3)] 33)):=(bR _ _).alloc (nR _) _;generalize w8.alloc (.cells #[.int .u64 (wd M 0),.int .u64 (wd M 1),.int .u64 (wd M 2),.int .u64 (wd M 3)] 33)=w9 at hS9 hb9 ⊢;obtain ⟨nb2,hnb2⟩:=eX w8.heap.size;rw [hnb2] at hS9 ⊢;obtain ⟨t0,t1,t2,t3,tf⟩:=hS9.facts4;obtain ⟨s0,s1,s2,s3,sf⟩:=(H8.o2.below hb9 H8.o2.lt).facts4;have H9:=Hd (H8.o1.trans (hb9.mono H8.o1.size));clear hS9 hb9 hnb2
   cases bv
   all_goals
    go_wp2_with fail
    refine (HKN0.out _ H9.out).mono ?_;rintro e w10 ⟨rfl,hb10⟩;have HB:=Hd (H9.out.trans (hb10.mono H9.out.size));clear hb10 t0 t1 t2 t3 tf s0 s1 s2 s3 sf;go_wp2_with fail
    go_ret;exact ⟨rfl,HB.out⟩
end Go.Proofs.YthiochcpmfkgcaaGreatDoor.Gl
namespace Go.Proofs.YthiochcpmfkgcaaGreatDoor.GlCardGlrPrefix
open Go.ChangeShapes Go.WideShapes Go.ChangeAt Go.RowKit Go.WideMaps Go.WideElems
open Go.ChangeMaps (open_string shut_string)
open GlCard (own laidOut env_of_laid)
theorem small_part {H:Type} {d0 d1:DataW H} (hk:Rows.uptoSmall H [d0,d1]=true):Rows.uptoBulk d0<=1048576 /\ Rows.uptoBulk d1<=1048576:=by
 have h:Rows.uptoBulkAll [d0,d1]<=1048576:=of_decide_eq_true hk;simp only [Rows.uptoBulkAll] at h;omega
theorem door_met (os:Os) (args:Array Value):laidMetH Tryz.prog Rows.glrPrefixUptoRow.laid ((World.doorLaid Tryz.prog 24 os).forCall (fun _ _=>0) ⟨#[],args,[]⟩).memory :=
 laidMetH_of_parts3 (fuel:=8) (laidMet_of_run' 8 (by kernel_rfl) (by kernel_rfl)) (by kernel_rfl) (by kernel_rfl)
theorem reads (os:Os) {H:Type} (enc:TypeId × Value->H):∃ x,DataW.whole enc Tryz.prog ((World.doorLaid Tryz.prog 24 os).forCall (fun _ _=>0) ⟨#[],#[.agg #[.slice none 0 0,.slice none 0 0,.int .i64 0,.slice none 0 0,.slice none 0 0],.string ⟨#[]⟩],[]⟩).memory Tryz.f4.params.toList Rows.glrPrefixSpec.vars false #[Value.agg #[.slice none 0 0,.slice none 0 0,.int .i64 0,.slice none 0 0,.slice none 0 0],.string ⟨#[]⟩].toList 8=some x /\ Rows.uptoSmall H (x.1++x.2.1)=true:=by
 have h:((DataW.whole enc Tryz.prog ((World.doorLaid Tryz.prog 24 os).forCall (fun _ _=>0) ⟨#[],#[.agg #[.slice none 0 0,.slice none 0 0,.int .i64 0,.slice none 0 0,.slice none 0 0],.string ⟨#[]⟩],[]⟩).memory Tryz.f4.params.toList Rows.glrPrefixSpec.vars false #[Value.agg #[.slice none 0 0,.slice none 0 0,.int .i64 0,.slice none 0 0,.slice none 0 0],.string ⟨#[]⟩].toList 8).map (fun x=>Rows.uptoSmall H (x.1++x.2.1)))=some true:=by kernel_rfl
 cases hx:DataW.whole enc Tryz.prog ((World.doorLaid Tryz.prog 24 os).forCall (fun _ _=>0) ⟨#[],#[.agg #[.slice none 0 0,.slice none 0 0,.int .i64 0,.slice none 0 0,.slice none 0 0],.string ⟨#[]⟩],[]⟩).memory Tryz.f4.params.toList Rows.glrPrefixSpec.vars false #[Value.agg #[.slice none 0 0,.slice none 0 0,.int .i64 0,.slice none 0 0,.slice none 0 0],.string ⟨#[]⟩].toList 8 with
 | none=>rw [hx] at h;cases h
 | some x=>rw [hx] at h;exact ⟨x,rfl,by simpa using h⟩

theorem lifted (os:Os) (started:os.Started) (H:Type) (enc:TypeId × Value->H) (F:Stop.Interp) :
  ReturnsInHanded {} Tryz.checked os 4 .any ((Rows.OpenSpec.upto Rows.glrPrefixSpec).preRow enc Tryz.prog Tryz.f4 Rows.glrPrefixUptoRow.domain false Rows.glrPrefixUptoRow.laid) (((Rows.OpenSpec.upto Rows.glrPrefixSpec).at F).post enc Tryz.prog Tryz.f4 false true false false):=by
 obtain ⟨x0,hx,hsm⟩:=reads os enc;refine returnsInHanded_of_row (C:=Tryz.checked) (s:=Rows.OpenSpec.upto Rows.glrPrefixSpec) own started (by kernel_rfl) Tryz.func4
  (witness_row_atRef (enc:=enc) (C:=Tryz.checked) false (World.doorLaid Tryz.prog 24 os) #[.agg #[.slice none 0 0,.slice none 0 0,.int .i64 0,.slice none 0 0,.slice none 0 0],.string ⟨#[]⟩] rfl (by kernel_rfl) (by kernel_rfl) (by kernel_rfl)
   (OpenSpec.preRow_of_cond 8 hx (by kernel_rfl) (fun k hk=>by cases hk;exact hsm) (by kernel_rfl) (door_met os _))) ?_
 intro W base args ds gs before hval0 hW _ hcond _ hL _ _;have hval:∀ (j:Nat) t v,Tryz.f4.params[j]?=some t->args[j]?=some v->Value.okWide Tryz.prog W .any base t v:=hval0;have hk:=hcond _ rfl;have hW':=hW;obtain ⟨p,q,hA0,hV,rfl,hfz,hnd⟩:=hW;have hA:DataW.TrodAll enc Tryz.prog W 0 (fun _=>true) true Tryz.f4.params.toList args.toList ds p:=hA0;rw [Tryz.params4] at hA hval;obtain ⟨v0,v1,d0,d1,p0,p1,rfl,rfl,rfl,h0,h1⟩:=trodAll_two hA;obtain ⟨rfl,rfl⟩:=trodVars_none hV;obtain ⟨cs,rfl,_⟩:=okWide_struct Tryz.underlying27 (hval 0 27 v0 rfl rfl);obtain ⟨a1,rfl,rfl,rfl,w1⟩:=open_string Tryz.underlying9 (hval 1 9 v1 rfl rfl) h1;obtain ⟨fuel,hf⟩:=id h0;obtain ⟨g,sv,pv,fv,lv,hcs,hG⟩:=Tb.gram_open hf;clear hA0 hval0;simp only [List.append_nil] at hk;replace hk:=small_part hk
 have hE:=env_of_laid hL;obtain rfl:cs=#[sv,pv,.int .i64 g.start,fv,lv]:=by
  have e:cs.toList=[sv,pv,.int .i64 g.start,fv,lv]:=hcs;rw [<- Array.toArray_toList (xs:=cs),e]
 refine (Gl.prefixlaw_any g _ (Nat.le_trans hk.1 (by decide)) W sv pv fv lv hG a1.data.toList (by have:=hk.2;simp only [Rows.uptoBulk] at this;omega) hE).mono fun e W' ⟨he,bel⟩=>?_;subst he;exact ⟨_,rfl,_,_,_,[],_,[],hW',trodAll_mk1 (shut_bool Tryz.underlying4 _),(trodAll_cons_mk (Below.trod laidOut (by kernel_rfl) (of_decide_eq_true (by kernel_rfl)) h0 bel (fun x hx=>h0.elim fun fuel hf=>DataW.trod_lt fuel _ _ _ hf x hx)) (trodAll_cons_mk (shut_string Tryz.underlying9 w1) trodAll_mk0)),rfl,bel.frame _,fun h=>by cases h⟩

theorem said:Rows.GlrPrefixUptoSaid :=
 OpenClaim.holds_of_cond 4 Tryz.f4 rfl rfl rfl rfl rfl rfl rfl ⟨rfl,rfl,rfl,rfl,rfl⟩ rfl rfl rfl rfl rfl (by kernel_rfl) Tryz.func4 (by kernel_rfl)
  (of_decide_eq_true (by kernel_rfl)) (by unfold Func.isWrapper;first | (rw [if_pos (by decide +kernel)];kernel_rfl) | (rw [if_neg (by decide +kernel)];exact ⟨rfl,rfl⟩))
  (fun os started H enc _ F=>by rw [OpenClaim.pre_eq_preRow];exact lifted os started H enc F)

theorem plain (f:FuncId) (fn:Func) (hf:Tryz.pinned.checked.prog.funcNamed Rows.glrPrefixUptoRow.func=some f) (hfn:Tryz.pinned.checked.prog.funcs[f]?=some fn) :
  true=Tryz.pinned.checked.prog.looks [] /\ ∀ (j:Nat) t,fn.params[j]?=some t->Tryz.pinned.checked.prog.wantsStandIn t=false:=by
 obtain rfl:f=4:=Option.some.inj ((show Tryz.prog.funcNamed Rows.glrPrefixUptoRow.func=some 4 by kernel_rfl).symm.trans hf) |>.symm
 obtain rfl:fn=Tryz.f4:=(Option.some.inj (Tryz.func4.symm.trans hfn)).symm;refine ⟨by kernel_rfl,fun j t ht=>?_⟩;rw [Tryz.params4] at ht;have hm:t∈[27,9]:=by simpa using Array.mem_of_getElem? ht
 have hall:([27,9].all fun u=>!Tryz.prog.wantsStandIn u)=true:=by kernel_rfl
 exact (show Tryz.prog.wantsStandIn t=false by simpa using List.all_eq_true.1 hall t hm)

theorem glrPrefixUpto_card:Rows.GlrPrefixUptoCardSaid :=
 Claim7.holds_tied_plain_at .later [] _ _ _ _ said (fun _ h=>by cases h) (by kernel_rfl) (fun _ h=>by cases h) glrPrefixUpto_row_tie rfl ⟨rfl,rfl⟩ (by kernel_rfl) rfl plain (by kernel_rfl)
#print axioms glrPrefixUpto_card
end Go.Proofs.YthiochcpmfkgcaaGreatDoor.GlCardGlrPrefix
