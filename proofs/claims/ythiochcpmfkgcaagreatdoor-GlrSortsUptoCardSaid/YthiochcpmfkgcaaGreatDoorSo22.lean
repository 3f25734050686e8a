/- Walks and plain laws that the last text stands on: GlKnown. -/
import Derived.Test.YthiochcpmfkgcaaGreatDoorSo21
set_option linter.unusedVariables false
set_option linter.unusedSimpArgs false
set_option maxRecDepth 100000
set_option maxHeartbeats 16000000
namespace Go.Proofs.YthiochcpmfkgcaaGreatDoor.Gl
open Go Go.RowKit Go.Proofs Go.Maps Go.WideMaps Mx Tb
def kS:Sy:=⟨1,0,0⟩
def kA:Sy:=⟨0,2 ^ 97,0⟩
def kP (r:List Sy):Pr:=⟨0,r,[],0,false,false,-1⟩
theorem kn_prods:knG.prods=[kP [kS,kS],kP [kA]]:=rfl
theorem sliceK_built {α:Type} {enc:α->List Value} {k:Nat} (hk:∀ x,(enc x).length=k) (W:World) (t:TypeId) (l:List α) (n:Nat) (hn:n=l.length) (hm:n<=maxLen) {B:Nat} (hB:B<=W.heap.size) :
  SliceK (fun b=>B<=b) enc k (W.alloc (.cells (flatK enc l).toArray t)) (.slice (some ⟨W.heap.size,0,none⟩) n n) l:=by
 subst hn;refine ⟨_,l.length,rfl,nR _,hm,fun _=>⟨_,_,rfl,hB,by simp,fun i x hx j u hu=>?_⟩⟩;have hb:Blk (W.alloc (.cells (flatK enc l).toArray t)) W.heap.size t (flatK enc l).toArray:=Blk.new W _ _;rw [Nat.zero_add,hb.cell];have:=flatK_get hk l i x j u hx hu
 simpa using this
theorem low_slice {α:Type} {enc:α->List Value} {k:Nat} {B:Nat} {w w':World} {v:Value} {l:List α} (h:SliceK (fun b=>B<=b) enc k w v l) (hb:Below w.heap.size w w'):SliceK (fun b=>B<=b) enc k w' v l:=h.all hb
theorem low_prods {B:Nat} {w w':World} {v:Value} {l:List Pr} (h:ProdsAt (fun b=>B<=b) w v l) (hb:Below w.heap.size w w'):ProdsAt (fun b=>B<=b) w' v l:=h.keep (fun g hg hl=>⟨hg,hb.block g hl⟩)
theorem slice_off {α:Type} {enc:α->List Value} {k q:Nat} {t:TypeId} {cs:Array Value} {D:Nat->Prop} {w:World} {v:Value} {l:List α} (hb:Blk w q t cs) (h:SliceK D enc k w v l) (x:α) (hx:l[0]?=some x) (j:Nat) (u:Value) (hu:(enc x)[j]?=some u) (hn:∀ i:Nat,cs[i]?≠some u):SliceK (fun b=>b≠q) enc k w v l:=by
 obtain ⟨a,c,rfl,h1,h2,h3⟩:=h;refine ⟨a,c,rfl,h1,h2,fun hne=>?_⟩;obtain ⟨g,o,rfl,hd,hr⟩:=h3 hne;refine ⟨g,o,rfl,?_,hr⟩;rintro rfl;have h4:=hr.cells 0 x hx j u hu;rw [hb.cell] at h4;exact hn _ h4
theorem zero_cells (u:Value) (h1:u≠.slice none 0 0) (h2:u≠.int .i64 0):∀ i:Nat,(#[.slice none 0 0,.slice none 0 0,.int .i64 0,.slice none 0 0,.slice none 0 0]:Array Value)[i]?≠some u:=fun i hi=>by
 have:=Array.mem_of_getElem? hi;simp only [List.mem_toArray,List.mem_cons,List.not_mem_nil,or_false] at this
 rcases this with h | h | h | h | h <;> first | exact h1 h | exact h2 h
theorem gset5 {w:World} {g:Nat} {t:TypeId} {v0 v1 v2 v3 v4:Value} (h:Blk w g t #[v0,v1,v2,v3,v4]) (u0 u1 u2 u3 u4:Value) :
  Blk (((((w.setCell ⟨g,0,none⟩ u0).setCell ⟨g,1,none⟩ u1).setCell ⟨g,2,none⟩ u2).setCell ⟨g,3,none⟩ u3).setCell ⟨g,4,none⟩ u4) g t #[u0,u1,u2,u3,u4]:=by
 have h0:Blk _ g t #[u0,v1,v2,v3,v4]:=h.set_ 0 u0;have h1:Blk _ g t #[u0,u1,v2,v3,v4]:=h0.set_ 1 u1;have h2:Blk _ g t #[u0,u1,u2,v3,v4]:=h1.set_ 2 u2;have h3:Blk _ g t #[u0,u1,u2,u3,v4]:=h2.set_ 3 u3;have h4:Blk _ g t #[u0,u1,u2,u3,u4]:=h3.set_ 4 u4;exact h4
theorem far_set5 (w:World) (g:Nat) (u0 u1 u2 u3 u4:Value) (b:Nat) (hb:b≠g) :
  (((((w.setCell ⟨g,0,none⟩ u0).setCell ⟨g,1,none⟩ u1).setCell ⟨g,2,none⟩ u2).setCell ⟨g,3,none⟩ u3).setCell ⟨g,4,none⟩ u4).heap[b]?=w.heap[b]?:=by
 rw [Below.heap_setCell _ _ _ b hb,Below.heap_setCell _ _ _ b hb,Below.heap_setCell _ _ _ b hb,Below.heap_setCell _ _ _ b hb,Below.heap_setCell _ _ _ b hb]
theorem below_set5 {w w':World} {n g:Nat} (h:Below n w w') (hg:n<=g) (u0 u1 u2 u3 u4:Value) :
  Below n w (((((w'.setCell ⟨g,0,none⟩ u0).setCell ⟨g,1,none⟩ u1).setCell ⟨g,2,none⟩ u2).setCell ⟨g,3,none⟩ u3).setCell ⟨g,4,none⟩ u4) :=
 ((((h.setCell (p:=⟨g,0,none⟩) hg u0).setCell (p:=⟨g,1,none⟩) hg u1).setCell (p:=⟨g,2,none⟩) hg u2).setCell (p:=⟨g,3,none⟩) hg u3).setCell (p:=⟨g,4,none⟩) hg u4
def knV (s:Sy):Value:=.agg #[.int .i64 s.kind,.int .u64 (wd s.set 0),.int .u64 (wd s.set 1),.int .u64 (wd s.set 2),.int .u64 (wd s.set 3),.int .i64 s.sort]
def knP (v:Value) (p:Pr):Value:=.agg (encPr (v,p)).toArray
def knR (B:Nat) (i:Nat) (v:Value) (W:World):Prop :=
 match i with
 | 0=>SliceK (fun b=>B<=b) Tb.encS 1 W v [[83]]
 | 1=>v=knV kS
 | 2=>v=knV kS
 | 3=>SliceK (fun b=>B<=b) encSy 6 W v [kS,kS]
 | 4=>∃ u,v=knP u (kP [kS,kS]) /\ SliceK (fun b=>B<=b) encSy 6 W u [kS,kS]
 | 5=>v=setV (2 ^ 97)
 | 6=>v=knV kA
 | 7=>SliceK (fun b=>B<=b) encSy 6 W v [kA]
 | 8=>∃ u,v=knP u (kP [kA]) /\ SliceK (fun b=>B<=b) encSy 6 W u [kA]
 | 9=>ProdsAt (fun b=>B<=b) W v knG.prods
 | 10=>∃ sv pv,v=.agg #[sv,pv,.int .i64 0,.slice none 0 0,.slice none 0 0] /\ SliceK (fun b=>B<=b) Tb.encS 1 W sv knG.sorts /\ ProdsAt (fun b=>B<=b) W pv knG.prods
 | 11=>∃ q,v=.pointer (some ⟨q,0,none⟩) /\ Blk W q 27 #[.slice none 0 0,.slice none 0 0,.int .i64 0,.slice none 0 0,.slice none 0 0] /\ B<=q
 | _=>True
theorem knR_low (B i:Nat) (v:Value) (w w':World) (h:knR B i v w) (hb:Below w.heap.size w w'):knR B i v w':=by
 unfold knR at h ⊢
 split at h
 ·exact low_slice h hb
 ·exact h
 ·exact h
 ·exact low_slice h hb
 ·obtain ⟨u,e,h⟩:=h;exact ⟨u,e,low_slice h hb⟩
 ·exact h
 ·exact h
 ·exact low_slice h hb
 ·obtain ⟨u,e,h⟩:=h;exact ⟨u,e,low_slice h hb⟩
 ·exact low_prods h hb
 ·obtain ⟨sv,pv,e,h1,h2⟩:=h;exact ⟨sv,pv,e,low_slice h1 hb,low_prods h2 hb⟩
 ·obtain ⟨q,e,h1,h2⟩:=h;exact ⟨q,e,h1.below hb h1.lt,h2⟩
 ·trivial
def knZ (x1 x2:Nat) (wa:Option Addr) (wc:Nat) (M1:Nat) (j:Nat) (v:Value) (W:World):Prop :=
 match j with
 | 0=>v=.int .i64 0
 | 1=>v=.bool true
 | 2=>v=.bool true
 | 3=>v=.pointer (some ⟨x1,0,none⟩)
 | 4=>v=.slice wa 3 wc
 | 5=>v=.int .i64 3
 | 6=>v=.bool true
 | 7=>v=.bool true
 | 8=>v=.bool true
 | 9=>v=.pointer (some ⟨x1,2,none⟩)
 | 10=>v=.int .i64 2
 | 11=>v=.bool true
 | 12=>v=.bool true
 | 13=>v=.bool true
 | 14=>v=.pointer (some ⟨x1,3,none⟩)
 | 15=>v=.agg #[.int .u64 (wd M1 0),.int .u64 (wd M1 1),.int .u64 (wd M1 2),.int .u64 (wd M1 3)]
 | 16=>v=.agg #[.int .u64 (wd M1 0),.int .u64 (wd M1 1),.int .u64 (wd M1 2),.int .u64 (wd M1 3)]
 | 17=>v=.bool true
 | 18=>v=.bool true
 | 19=>v=.bool true
 | 20=>v=.int .i64 0
 | 21=>v=.bool true
 | 22=>v=.bool true
 | 23=>v=.bool true
 | 24=>v=.pointer (some ⟨x2,2,none⟩)
 | 25=>v=.int .i64 1
 | 26=>v=.bool true
 | 27=>v=.bool true
 | 28=>v=.bool true
 | 29=>v=.int .i64 200
 | 30=>v=.bool true
 | 31=>v=.bool true
 | 32=>v=.bool true
 | 33=>v=.agg #[.int .u64 (wd M1 0),.int .u64 (wd M1 1),.int .u64 (wd M1 2),.int .u64 (wd M1 3)]
 | 34=>v=.agg #[.int .u64 (wd M1 0),.int .u64 (wd M1 1),.int .u64 (wd M1 2),.int .u64 (wd M1 3)]
 | 35=>v=.bool true
 | 36=>v=.bool true
 | 37=>v=.bool true
 | 38=>v=.bool true
 | 39=>v=.bool true
 | 40=>v=.bool true
 | 41=>v=.int .i64 0
 | 42=>v=.bool true
 | 43=>v=.bool true
 | 44=>v=.bool true
 | 45=>v=.agg #[.int .u64 0,.int .u64 0,.int .u64 0,.int .u64 0]
 | 46=>v=.agg #[.int .u64 0,.int .u64 0,.int .u64 0,.int .u64 0]
 | 47=>v=.bool true
 | 48=>v=.bool true
 | 49=>v=.bool true
 | 50=>v=.bool false
 | 51=>v=.bool true
 | 52=>v=.bool true
 | 53=>v=.bool true
 | 54=>v=.int .i64 0
 | 55=>v=.bool true
 | 56=>v=.bool true
 | _=>True
theorem wd_zero_ (j:Nat):wd 0 j=0:=by simp [wd]
attribute [local go_sem] eqSet
theorem known_any (w:World) (he:EnvG w) :
  Calls Tryz.prog 10 #[] w fun e w'=>e=.returned (.bool true) /\ Below w.heap.size w w':=by
 have HE:=Hd he;clear he;go_enter Tryz.func10,Tryz.ntmps10;go_upto_region 2 with fail
 have hB1:Blk (w.alloc (.cells #[.int .i64 1,.int .u64 0,.int .u64 0,.int .u64 0,.int .u64 0,.int .i64 0] 49)) w.heap.size 49 #[.int .i64 1,.int .u64 0,.int .u64 0,.int .u64 0,.int .u64 0,.int .i64 0]:=Blk.new_ rfl _ _;have hbl:Below w.heap.size w (w.alloc (.cells #[.int .i64 1,.int .u64 0,.int .u64 0,.int .u64 0,.int .u64 0,.int .i64 0] 49)):=(bR _ _).alloc (nR _) _;generalize (w.alloc (.cells #[.int .i64 1,.int .u64 0,.int .u64 0,.int .u64 0,.int .u64 0,.int .i64 0] 49))=W1 at hB1 hbl ⊢;have HF:=Hd (show ∀ W,Below W1.drew.heap.size W1.drew W->W.cell? ⟨w.heap.size,0,none⟩=some (.int .i64 1) /\ W.cell? ⟨w.heap.size,1,none⟩=some (.int .u64 0) /\ W.cell? ⟨w.heap.size,2,none⟩=some (.int .u64 0) /\ W.cell? ⟨w.heap.size,3,none⟩=some (.int .u64 0) /\ W.cell? ⟨w.heap.size,4,none⟩=some (.int .u64 0) /\ W.cell? ⟨w.heap.size,5,none⟩=some (.int .i64 0) from fun W h=>by
  have h1:=(hB1.drew).below h hB1.lt;exact ⟨h1.cell 0,h1.cell 1,h1.cell 2,h1.cell 3,h1.cell 4,h1.cell 5⟩)
 have HZ:=Hd (show ∀ W,Below W1.drew.heap.size W1.drew W->w.heap.size+1<=W.heap.size from fun W h=>Nat.le_trans hB1.lt h.size);have HB:=Z2.mk hB1 hbl;clear hB1 hbl;refine wp_region_concT 12 (knR (w.heap.size+1)) (fun A W=>Below A.heap.size A W) (fun _ _=>True) (by kernel_rfl) (by kernel_rfl) (by kernel_rfl) (by kernel_rfl) (bR _ _) trivial (fun h k=>h.trans (k.mono h.size)) ?_ ?_
 ·simp only [List.take_succ_cons,List.take_zero];refine ⟨?_,?_,?_,?_,?_,?_,?_,?_,?_,?_,?_,?_,trivial⟩
  all_goals intro L T W hG hJ hLs hLi dq fq vq K hK
  all_goals try have zk:=fun v=>hK v W (bR _ W) (fun j u _ _ _ h=>h) trivial
  all_goals try have zv:=fun i h=>vq ⟨i,.data⟩ h rfl
  ·go_simp;exact hK _ _ ((bR _ W).alloc (nR _) _) (fun j u _ _ _ h=>knR_low _ j u _ _ h ((bR _ W).alloc (nR _) _)) trivial (sliceK_built Tb.encS_len W 9 [[83]] 1 rfl (by decide) (HZ.out W hG))
  ·have h1:=fq 1 (by decide);simp at h1;obtain ⟨f0,f1,f2,f3,f4,f5⟩:=HF.out W hG;go_simp;exact zk _ rfl
  ·have h1:=fq 1 (by decide);simp at h1;obtain ⟨f0,f1,f2,f3,f4,f5⟩:=HF.out W hG;go_simp;exact zk _ rfl
  ·have h1:=zv 1 (by simp) 17 rfl;have h2:=zv 2 (by simp) 18 rfl;simp only [knR,knV,kS] at h1 h2;simp at h1 h2;go_simp;exact hK _ _ ((bR _ W).alloc (nR _) _) (fun j u _ _ _ h=>knR_low _ j u _ _ h ((bR _ W).alloc (nR _) _)) trivial (sliceK_built encSy_len W 49 [kS,kS] 2 rfl (by decide) (HZ.out W hG))
  ·have h1:=zv 3 (by simp) 19 rfl;have H1:=Hd h1;obtain ⟨ua,uc,e1,_⟩:=h1;simp at e1;go_simp;refine hK _ _ (bR _ W) (fun j u _ _ _ h=>h) trivial ⟨_,rfl,?_⟩;have:=H1.out;simp only [knR] at this;rw [<- e1]
   simpa using this
  ·have hcl:=letter_any W;go_simp;refine hcl.mono ?_;rintro e W2 ⟨rfl,hb2⟩;exact hK _ _ hb2 (fun j u _ _ _ h=>knR_low _ j u _ _ h hb2) trivial rfl
  ·have h1:=zv 5 (by simp) 21 rfl;simp only [knR,setV] at h1;simp at h1;go_simp;exact zk _ rfl
  ·have h1:=zv 6 (by simp) 22 rfl;simp only [knR,knV,kA] at h1;simp at h1;go_simp;exact hK _ _ ((bR _ W).alloc (nR _) _) (fun j u _ _ _ h=>knR_low _ j u _ _ h ((bR _ W).alloc (nR _) _)) trivial (sliceK_built encSy_len W 49 [kA] 1 rfl (by decide) (HZ.out W hG))
  ·have h1:=zv 7 (by simp) 23 rfl;have H1:=Hd h1;obtain ⟨ua,uc,e1,_⟩:=h1;simp at e1;go_simp;refine hK _ _ (bR _ W) (fun j u _ _ _ h=>h) trivial ⟨_,rfl,?_⟩;have:=H1.out;simp only [knR] at this;rw [<- e1]
   simpa using this
  ·obtain ⟨u0,h0,k0⟩:=zv 4 (by simp) 20 rfl;obtain ⟨u1,h1,k1⟩:=zv 8 (by simp) 24 rfl;have HK:=Z2.mk k0 k1;clear k0 k1;simp only [knP,encPr,kP] at h0 h1;simp at h0 h1;go_simp;have hbn:=(bR W.heap.size W).alloc (nR _) (.cells (flatK encPr [(u0,kP [kS,kS]),(u1,kP [kA])]).toArray 53);refine hK _ _ hbn (fun j u _ _ _ h=>knR_low _ j u _ _ h hbn) trivial ⟨[(u0,kP [kS,kS]),(u1,kP [kA])],⟨sliceK_built encPr_len W 53 _ 2 rfl (by decide) (HZ.out W hG),?_⟩,rfl⟩;intro x hx;simp only [List.mem_cons,List.not_mem_nil,or_false] at hx
   rcases hx with rfl | rfl
   ·exact low_slice HK.o1 hbn
   ·exact low_slice HK.o2 hbn
  ·have h1:=zv 0 (by simp) 16 rfl;have h2:=zv 9 (by simp) 25 rfl;have H:=Z2.mk h1 h2;obtain ⟨ua,uc,e1,_⟩:=h1;obtain ⟨pl,hpl,_⟩:=h2;obtain ⟨pa,pc,e2,_⟩:=hpl.row;simp at e1 e2;clear hpl;go_simp;refine hK _ _ (bR _ W) (fun j u _ _ _ h=>h) trivial ⟨_,_,rfl,?_,?_⟩
   ·rw [<- e1];have:=H.o1;simp only [knR] at this;simp at this;exact this
   ·rw [<- e2];have:=H.o2;simp only [knR] at this
    simpa using this
  ·go_simp;have hbn:=(bR W.heap.size W).alloc (nR _) (.cells #[.slice none 0 0,.slice none 0 0,.int .i64 0,.slice none 0 0,.slice none 0 0] 27);exact hK _ _ hbn (fun j u _ _ _ h=>knR_low _ j u _ _ h hbn) trivial ⟨_,rfl,Blk.new W _ _,HZ.out W hG⟩
 ·intro f9 W2 hG _ hR;obtain ⟨sv,pv,e10,h1,h2⟩:=hR 10 26 (by decide) rfl;obtain ⟨q,e11,k1,k2⟩:=hR 11 2 (by decide) rfl;have hs1:=slice_off k1 h1 [83] rfl 0 (.string ⟨#[83]⟩) rfl (zero_cells _ (by intro h;cases h) (by intro h;cases h))
  have hp1:ProdsAt (fun b=>b≠q) W2 pv knG.prods:=by
   obtain ⟨pl,hpl,he⟩:=h2;refine ⟨pl,⟨?_,fun x hx=>?_⟩,he⟩
   ·cases pl with
    | nil=>cases he
    | cons y ys =>
     have hy:y.2=kP [kS,kS]:=by rw [kn_prods] at he;simp only [List.map_cons,List.cons.injEq] at he;exact he.1
     exact slice_off k1 hpl.row y rfl 4 (.bool false) (by obtain ⟨y1,y2⟩:=y;simp only at hy;subst hy;rfl) (zero_cells _ (by intro h;cases h) (by intro h;cases h))
   ·have hx2:x.2∈knG.prods:=by rw [<- he];exact List.mem_map.2 ⟨x,hx,rfl⟩
    rw [kn_prods] at hx2;simp only [List.mem_cons,List.not_mem_nil,or_false] at hx2;have hr:=hpl.right x hx
    rcases hx2 with h | h
    ·rw [h] at hr ⊢;exact slice_off k1 hr kS rfl 1 (.int .u64 (wd 0 0)) rfl (zero_cells _ (by intro h;cases h) (by intro h;cases h))
    ·rw [h] at hr ⊢;exact slice_off k1 hr kA rfl 1 (.int .u64 (wd (2 ^ 97) 0)) rfl (zero_cells _ (by intro h;cases h) (by intro h;cases h))
  obtain ⟨sa,sc,rfl⟩:=slice_shape h1;obtain ⟨pa,pc,rfl⟩:=prodsAt_shape h2;simp only [concDsts,qZ];rw [e10,e11];clear e10 e11 hR;generalize f9 16=v16;generalize f9 17=v17;generalize f9 18=v18;generalize f9 19=v19;generalize f9 20=v20;generalize f9 21=v21;generalize f9 22=v22;generalize f9 23=v23;generalize f9 24=v24;generalize f9 25=v25;clear f9;obtain ⟨z0,z1,z2,z3,z4,zf⟩:=gfacts5 k1;have hql:=k1.lt;have hbW:Below w.heap.size w W2:=HB.o2.trans (((show Below W1.heap.size W1 W1.drew from (bR _ _).drew).trans hG).mono HB.o2.size);have H2:=Z5.mk k1 k2 hs1 hp1 hbW;clear k1 k2 hs1 hp1 hbW h1 h2 hG HB HF HZ;go_upto_region 3 with fail
  have hQ:=gset5 H2.o1 (.slice sa knG.sorts.length sc) (.slice pa knG.prods.length pc) (.int .i64 0) (.slice none 0 0) (.slice none 0 0);have hb3:=below_set5 H2.o5 (show w.heap.size<=q by have:=H2.o2;omega) (.slice sa knG.sorts.length sc) (.slice pa knG.prods.length pc) (.int .i64 0) (.slice none 0 0) (.slice none 0 0);have hs3:SliceK (fun b=>b≠q) Tb.encS 1 (((((W2.setCell ⟨q,0,none⟩ (.slice sa knG.sorts.length sc)).setCell ⟨q,1,none⟩ (.slice pa knG.prods.length pc)).setCell ⟨q,2,none⟩ (.int .i64 0)).setCell ⟨q,3,none⟩ (.slice none 0 0)).setCell ⟨q,4,none⟩ (.slice none 0 0)) (.slice sa knG.sorts.length sc) knG.sorts:=H2.o3.keep fun b hb hl=>⟨hb,far_set5 _ _ _ _ _ _ _ b hb⟩;have hp3:ProdsAt (fun b=>b≠q) (((((W2.setCell ⟨q,0,none⟩ (.slice sa knG.sorts.length sc)).setCell ⟨q,1,none⟩ (.slice pa knG.prods.length pc)).setCell ⟨q,2,none⟩ (.int .i64 0)).setCell ⟨q,3,none⟩ (.slice none 0 0)).setCell ⟨q,4,none⟩ (.slice none 0 0)) (.slice pa knG.prods.length pc) knG.prods:=H2.o4.keep fun b hb hl=>⟨hb,far_set5 _ _ _ _ _ _ _ b hb⟩
  generalize (((((W2.setCell ⟨q,0,none⟩ (.slice sa knG.sorts.length sc)).setCell ⟨q,1,none⟩ (.slice pa knG.prods.length pc)).setCell ⟨q,2,none⟩ (.int .i64 0)).setCell ⟨q,3,none⟩ (.slice none 0 0)).setCell ⟨q,4,none⟩ (.slice none 0 0))=w3 at hQ hb3 hs3 hp3 ⊢;clear z0 z1 z2 z3 z4 zf hql;have HG:=Hd (show ∀ (txt:List UInt8),txt.length<=20->∀ W,Below w3.heap.size w3 W->GrW knG ⟨.slice sa knG.sorts.length sc,.slice pa knG.prods.length pc,0,.slice none 0 0,.slice none 0 0,.pointer none,txt⟩ W from fun txt ht W hW =>
   kn_grw (hs3.all hW) (hp3.keep fun b hb hl=>⟨hb,hW.block b hl⟩) ((HE.out.below hb3 HE.out.big).below hW (HE.out.below hb3 HE.out.big).big) (by omega))
  have HX:=Z3.mk hQ hb3 HE.out;obtain ⟨z0,z1,z2,z3,z4,zf⟩:=gfacts5 hQ;clear hs3 hp3 hb3 H2 HE;have r1:=run_any knG ⟨.slice sa knG.sorts.length sc,.slice pa knG.prods.length pc,0,.slice none 0 0,.slice none 0 0,.pointer none,[97,97]⟩ 100 w3 (HG.out _ (by decide) w3 (bR _ _)) (kn_lim (txt:=[97,97]) (by decide) (by decide)) (tabF knG []).left kn_left;obtain ⟨l1,rr1,hw1,ha1,hf1,hm1⟩:=runS_some kn_aa (by decide);rw [hw1] at r1;have HR1:=Z4.mk r1 ha1 hf1 hm1;clear r1 hw1 ha1 hf1 hm1;go_wp2_with fail
  refine HR1.o1.mono ?_;rintro e w4 ⟨v1,va1,rfl,hrow1,hcut1,hb4⟩;have hl1:(sortAl (tabF knG []).left rr1.alts).length=3:=by rw [(sortAl_perm _ _).length_eq];exact HR1.o2
  rw [hl1] at hrow1;obtain ⟨wa,wc,rfl⟩:=own_shape hrow1;rw [HR1.o4,HR1.o3];obtain ⟨M1,hM1⟩:∃ M,(2:Nat) ^ 97=M:=⟨_,rfl⟩;have HM1:=Hd hM1;rw [hM1];clear hM1;obtain ⟨st1,hst1⟩:∃ st:Int,(rr1.edges.length:Int)+(rr1.alts.length:Int)=st:=⟨_,rfl⟩;rw [hst1];unfold waysC;have hQ4:=hQ.below hb4 hQ.lt;have H4:=Z2.mk hb4 hQ4;clear hst1 hrow1 hcut1 hb4 hl1 z0 z1 z2 z3 z4 zf;obtain ⟨z0,z1,z2,z3,z4,zf⟩:=gfacts5 hQ4;clear hQ4 hQ;go_upto_region 4 with fail
  have hX1:Blk (w4.alloc (.cells #[.slice wa 3 wc,.int .i64 st1,.int .i64 2,.int .u64 (wd M1 0),.int .u64 (wd M1 1),.int .u64 (wd M1 2),.int .u64 (wd M1 3)] 35)) w4.heap.size 35 #[.slice wa 3 wc,.int .i64 st1,.int .i64 2,.int .u64 (wd M1 0),.int .u64 (wd M1 1),.int .u64 (wd M1 2),.int .u64 (wd M1 3)]:=Blk.new_ rfl _ _;have hb5:Below w3.heap.size w3 (w4.alloc (.cells #[.slice wa 3 wc,.int .i64 st1,.int .i64 2,.int .u64 (wd M1 0),.int .u64 (wd M1 1),.int .u64 (wd M1 2),.int .u64 (wd M1 3)] 35)):=H4.o1.alloc H4.o1.size _;have hQ5:=H4.o2.alloc (.cells #[.slice wa 3 wc,.int .i64 st1,.int .i64 2,.int .u64 (wd M1 0),.int .u64 (wd M1 1),.int .u64 (wd M1 2),.int .u64 (wd M1 3)] 35);generalize w4.alloc (.cells #[.slice wa 3 wc,.int .i64 st1,.int .i64 2,.int .u64 (wd M1 0),.int .u64 (wd M1 1),.int .u64 (wd M1 2),.int .u64 (wd M1 3)] 35)=w5 at hX1 hb5 hQ5 ⊢;obtain ⟨x1,hx1⟩:=eX w4.heap.size;rw [hx1] at hX1 ⊢;clear z0 z1 z2 z3 z4 zf hx1;obtain ⟨z0,z1,z2,z3,z4,zf⟩:=gfacts5 hQ5;have r2:=run_any knG ⟨.slice sa knG.sorts.length sc,.slice pa knG.prods.length pc,0,.slice none 0 0,.slice none 0 0,.pointer none,[97,98]⟩ 100 w5 (HG.out _ (by decide) w5 hb5) (kn_lim (txt:=[97,98]) (by decide) (by decide)) (tabF knG []).left kn_left;obtain ⟨l2,rr2,hw2,ha2,hf2,hm2⟩:=runS_some (f:=1) (a:=(runS knG [97,98] 100).2.1) (M:=(runS knG [97,98] 100).2.2.2) (Prod.ext kn_ab.1 (Prod.ext rfl (Prod.ext kn_ab.2 rfl))) (by decide);rw [hw2] at r2;have HR2:=Z2.mk r2 hf2;have H5:=Z3.mk hX1 hb5 hQ5;clear r2 hw2 ha2 hf2 hm2 hX1 hb5 hQ5;go_wp2_with fail
  refine HR2.o1.mono ?_;rintro e w6 ⟨v2,va2,rfl,hrow2,hcut2,hb6⟩;obtain ⟨wa2,wc2,rfl⟩:=own_shape hrow2;rw [HR2.o2];obtain ⟨st2,hst2⟩:∃ st:Int,(rr2.edges.length:Int)+(rr2.alts.length:Int)=st:=⟨_,rfl⟩;rw [hst2];obtain ⟨M2,hM2⟩:=eX (nextL l2 (rowF rr2 1));rw [hM2];obtain ⟨n2,hn2⟩:=eX ((sortAl (tabF knG []).left rr2.alts).length);rw [hn2];unfold waysC;have hX6:=H5.o1.below hb6 H5.o1.lt;have hQ6:=H5.o3.below hb6 H5.o3.lt;have hb7:=H5.o2.trans (hb6.mono H5.o2.size);have H6:=Z3.mk hX6 hb7 hQ6;clear hst2 hM2 hn2 hrow2 hcut2 hb6 z0 z1 z2 z3 z4 zf;obtain ⟨z0,z1,z2,z3,z4,zf⟩:=gfacts5 hQ6;clear hQ6 hX6 hb7;go_upto_region 5 with fail
  have hX2:Blk (w6.alloc (.cells #[.slice wa2 n2 wc2,.int .i64 st2,.int .i64 1,.int .u64 (wd M2 0),.int .u64 (wd M2 1),.int .u64 (wd M2 2),.int .u64 (wd M2 3)] 35)) w6.heap.size 35 #[.slice wa2 n2 wc2,.int .i64 st2,.int .i64 1,.int .u64 (wd M2 0),.int .u64 (wd M2 1),.int .u64 (wd M2 2),.int .u64 (wd M2 3)]:=Blk.new_ rfl _ _;have hb7:Below w3.heap.size w3 (w6.alloc (.cells #[.slice wa2 n2 wc2,.int .i64 st2,.int .i64 1,.int .u64 (wd M2 0),.int .u64 (wd M2 1),.int .u64 (wd M2 2),.int .u64 (wd M2 3)] 35)):=H6.o2.alloc H6.o2.size _;have hQ7:=H6.o3.alloc (.cells #[.slice wa2 n2 wc2,.int .i64 st2,.int .i64 1,.int .u64 (wd M2 0),.int .u64 (wd M2 1),.int .u64 (wd M2 2),.int .u64 (wd M2 3)] 35);have hX7:=H6.o1.alloc (.cells #[.slice wa2 n2 wc2,.int .i64 st2,.int .i64 1,.int .u64 (wd M2 0),.int .u64 (wd M2 1),.int .u64 (wd M2 2),.int .u64 (wd M2 3)] 35);generalize w6.alloc (.cells #[.slice wa2 n2 wc2,.int .i64 st2,.int .i64 1,.int .u64 (wd M2 0),.int .u64 (wd M2 1),.int .u64 (wd M2 2),.int .u64 (wd M2 3)] 35)=w7 at hX2 hb7 hQ7 hX7 ⊢;obtain ⟨x2,hx2⟩:=eX w6.heap.size;rw [hx2] at hX2 ⊢;clear z0 z1 z2 z3 z4 zf hx2;obtain ⟨z0,z1,z2,z3,z4,zf⟩:=gfacts5 hQ7;have r3:=run_any knG ⟨.slice sa knG.sorts.length sc,.slice pa knG.prods.length pc,0,.slice none 0 0,.slice none 0 0,.pointer none,[97,97]⟩ 1 w7 (HG.out _ (by decide) w7 hb7) (kn_lim (txt:=[97,97]) (by decide) (by decide)) (tabF knG []).left kn_left;rw [runS_none kn_1 (by decide)] at r3;have HR3:=Hd r3;have H7:=Z4.mk hX7 hX2 hb7 hQ7;clear r3 hX7 hX2 hb7 hQ7;go_wp2_with fail
  refine HR3.out.mono ?_;rintro e w8 ⟨rfl,hb8⟩;have hX8:=H7.o1.below hb8 H7.o1.lt;have hY8:=H7.o2.below hb8 H7.o2.lt;have hQ8:=H7.o4.below hb8 H7.o4.lt;have hb9:=H7.o3.trans (hb8.mono H7.o3.size);have H8:=Z4.mk hX8 hY8 hb9 hQ8;clear hb8 z0 z1 z2 z3 z4 zf;obtain ⟨z0,z1,z2,z3,z4,zf⟩:=gfacts5 hQ8;clear hQ8 hX8 hY8 hb9;unfold waysC;go_upto_region 6 with fail
  have hb10:Below w3.heap.size w3 (w8.alloc (.cells #[.slice none 0 0,.int .i64 0,.int .i64 0,.int .u64 (wd 0 0),.int .u64 (wd 0 1),.int .u64 (wd 0 2),.int .u64 (wd 0 3)] 35)):=H8.o3.alloc H8.o3.size _;have hQ9:=H8.o4.alloc (.cells #[.slice none 0 0,.int .i64 0,.int .i64 0,.int .u64 (wd 0 0),.int .u64 (wd 0 1),.int .u64 (wd 0 2),.int .u64 (wd 0 3)] 35);have hX9:=H8.o1.alloc (.cells #[.slice none 0 0,.int .i64 0,.int .i64 0,.int .u64 (wd 0 0),.int .u64 (wd 0 1),.int .u64 (wd 0 2),.int .u64 (wd 0 3)] 35);have hY9:=H8.o2.alloc (.cells #[.slice none 0 0,.int .i64 0,.int .i64 0,.int .u64 (wd 0 0),.int .u64 (wd 0 1),.int .u64 (wd 0 2),.int .u64 (wd 0 3)] 35);generalize w8.alloc (.cells #[.slice none 0 0,.int .i64 0,.int .i64 0,.int .u64 (wd 0 0),.int .u64 (wd 0 1),.int .u64 (wd 0 2),.int .u64 (wd 0 3)] 35)=w9 at hb10 hQ9 hX9 hY9 ⊢;obtain ⟨x3,hx3⟩:=eX w8.heap.size;rw [hx3];clear z0 z1 z2 z3 z4 zf hx3;obtain ⟨z0,z1,z2,z3,z4,zf⟩:=gfacts5 hQ9;have r4:=prefix_any knG ⟨.slice sa knG.sorts.length sc,.slice pa knG.prods.length pc,0,.slice none 0 0,.slice none 0 0,.pointer none,[97]⟩ 100 w9 (HG.out _ (by decide) w9 hb10) (kn_lim (txt:=[97]) (by decide) (by decide));simp only [kn_a] at r4;rw [HM1.out] at r4;unfold setV at r4;have HR4:=Hd r4;have H9:=Z4.mk hX9 hY9 hb10 hQ9;clear r4 hX9 hY9 hb10 hQ9;go_wp2_with fail
  refine HR4.out.mono ?_;rintro e w10 ⟨rfl,hb11⟩;have hX10:=H9.o1.below hb11 H9.o1.lt;have hY10:=H9.o2.below hb11 H9.o2.lt;have hQ10:=H9.o4.below hb11 H9.o4.lt;have hb12:=H9.o3.trans (hb11.mono H9.o3.size);have H10:=Z4.mk hX10 hY10 hb12 hQ10;clear hb11 z0 z1 z2 z3 z4 zf;obtain ⟨z0,z1,z2,z3,z4,zf⟩:=gfacts5 hQ10;clear hQ10 hX10 hY10 hb12;go_upto_region 7 with fail
  have hX4:Blk (w10.alloc (.cells #[.int .u64 (wd M1 0),.int .u64 (wd M1 1),.int .u64 (wd M1 2),.int .u64 (wd M1 3)] 33)) w10.heap.size 33 #[.int .u64 (wd M1 0),.int .u64 (wd M1 1),.int .u64 (wd M1 2),.int .u64 (wd M1 3)]:=Blk.new_ rfl _ _;have hb13:Below w3.heap.size w3 (w10.alloc (.cells #[.int .u64 (wd M1 0),.int .u64 (wd M1 1),.int .u64 (wd M1 2),.int .u64 (wd M1 3)] 33)):=H10.o3.alloc H10.o3.size _;have hQ11:=H10.o4.alloc (.cells #[.int .u64 (wd M1 0),.int .u64 (wd M1 1),.int .u64 (wd M1 2),.int .u64 (wd M1 3)] 33);have hX11:=H10.o1.alloc (.cells #[.int .u64 (wd M1 0),.int .u64 (wd M1 1),.int .u64 (wd M1 2),.int .u64 (wd M1 3)] 33);have hY11:=H10.o2.alloc (.cells #[.int .u64 (wd M1 0),.int .u64 (wd M1 1),.int .u64 (wd M1 2),.int .u64 (wd M1 3)] 33);generalize w10.alloc (.cells #[.int .u64 (wd M1 0),.int .u64 (wd M1 1),.int .u64 (wd M1 2),.int .u64 (wd M1 3)] 33)=w11 at hX4 hb13 hQ11 hX11 hY11 ⊢;obtain ⟨x4,hx4⟩:=eX w10.heap.size;rw [hx4] at hX4 ⊢;clear z0 z1 z2 z3 z4 zf hx4;obtain ⟨z0,z1,z2,z3,z4,zf⟩:=gfacts5 hQ11;have r5:=prefix_any knG ⟨.slice sa knG.sorts.length sc,.slice pa knG.prods.length pc,0,.slice none 0 0,.slice none 0 0,.pointer none,[98]⟩ 100 w11 (HG.out _ (by decide) w11 hb13) (kn_lim (txt:=[98]) (by decide) (by decide));simp only [kn_b] at r5;unfold setV at r5;simp only [wd_zero_] at r5;have HR5:=Hd r5;have H11:=Z4.mk hX11 hY11 hX4 hb13;clear r5 hX11 hY11 hX4 hb13 hQ11;go_wp2_with fail
  refine HR5.out.mono ?_;rintro e w12 ⟨rfl,hb14⟩;have hX12:=H11.o1.below hb14 H11.o1.lt;have hY12:=H11.o2.below hb14 H11.o2.lt;have hZ12:=H11.o3.below hb14 H11.o3.lt;have hb15:=H11.o4.trans (hb14.mono H11.o4.size);have H12:=Z4.mk hX12 hY12 hZ12 hb15;clear hb14 z0 z1 z2 z3 z4 zf hX12 hY12 hZ12 hb15;go_upto_region 8 with fail
  have hX13:Blk (w12.alloc (.cells #[.int .u64 0,.int .u64 0,.int .u64 0,.int .u64 0] 33)) x1 35 #[.slice wa 3 wc,.int .i64 st1,.int .i64 2,.int .u64 (wd M1 0),.int .u64 (wd M1 1),.int .u64 (wd M1 2),.int .u64 (wd M1 3)]:=H12.o1.alloc _;have hY13:Blk (w12.alloc (.cells #[.int .u64 0,.int .u64 0,.int .u64 0,.int .u64 0] 33)) x2 35 #[.slice wa2 n2 wc2,.int .i64 st2,.int .i64 1,.int .u64 (wd M2 0),.int .u64 (wd M2 1),.int .u64 (wd M2 2),.int .u64 (wd M2 3)]:=H12.o2.alloc _;have hZ13:Blk (w12.alloc (.cells #[.int .u64 0,.int .u64 0,.int .u64 0,.int .u64 0] 33)) x4 33 #[.int .u64 (wd M1 0),.int .u64 (wd M1 1),.int .u64 (wd M1 2),.int .u64 (wd M1 3)]:=H12.o3.alloc _;have hT13:Blk (w12.alloc (.cells #[.int .u64 0,.int .u64 0,.int .u64 0,.int .u64 0] 33)) w12.heap.size 33 #[.int .u64 0,.int .u64 0,.int .u64 0,.int .u64 0]:=Blk.new _ _ _;have hb16:Below w3.heap.size w3 (w12.alloc (.cells #[.int .u64 0,.int .u64 0,.int .u64 0,.int .u64 0] 33)):=H12.o4.alloc H12.o4.size _;generalize w12.alloc (.cells #[.int .u64 0,.int .u64 0,.int .u64 0,.int .u64 0] 33)=w13 at hX13 hY13 hZ13 hT13 hb16 ⊢;obtain ⟨x5,hx5⟩:=eX w12.heap.size;rw [hx5] at hT13 ⊢;clear hx5;have HC:=Hd (show ∀ W,Below w13.drew.heap.size w13.drew W->W.cell? ⟨x1,0,none⟩=some (.slice wa 3 wc) /\ W.cell? ⟨x1,2,none⟩=some (.int .i64 2) /\ W.cell? ⟨x1,3,none⟩=some (.int .u64 (wd M1 0)) /\ W.cell? ⟨x1,4,none⟩=some (.int .u64 (wd M1 1)) /\ W.cell? ⟨x1,5,none⟩=some (.int .u64 (wd M1 2)) /\ W.cell? ⟨x1,6,none⟩=some (.int .u64 (wd M1 3)) /\ W.cell? ⟨x2,2,none⟩=some (.int .i64 1) /\ W.cell? ⟨x4,0,none⟩=some (.int .u64 (wd M1 0)) /\ W.cell? ⟨x4,1,none⟩=some (.int .u64 (wd M1 1)) /\ (W.cell? ⟨x4,2,none⟩=some (.int .u64 (wd M1 2)) /\ W.cell? ⟨x4,3,none⟩=some (.int .u64 (wd M1 3))) /\ W.cell? ⟨x5,0,none⟩=some (.int .u64 0) /\ W.cell? ⟨x5,1,none⟩=some (.int .u64 0) /\ W.cell? ⟨x5,2,none⟩=some (.int .u64 0) /\ W.cell? ⟨x5,3,none⟩=some (.int .u64 0) from fun W h=>by
   have a1:=hX13.drew.below h hX13.lt;have a2:=hY13.drew.below h hY13.lt;have a3:=hZ13.drew.below h hZ13.lt;have a4:=hT13.drew.below h hT13.lt;exact ⟨a1.cell 0,a1.cell 2,a1.cell 3,a1.cell 4,a1.cell 5,a1.cell 6,a2.cell 2,a3.cell 0,a3.cell 1,⟨a3.cell 2,a3.cell 3⟩,a4.cell 0,a4.cell 1,a4.cell 2,a4.cell 3⟩)
  have H13:=Hd hb16;clear hX13 hY13 hZ13 hT13 hb16;refine wp_region_concG 57 (knZ x1 x2 wa wc M1) (fun A W=>Below A.heap.size A W) (fun _ _=>True) [2,8,13,19,23,28,32,37,40,44,49,53] (fun j=>match j with | _=>true) (by kernel_rfl) (by kernel_rfl) (by kernel_rfl) (by kernel_rfl) (bR _ _) trivial (fun h k=>h.trans (k.mono h.size)) ⟨fun v w h=>h,fun v w h=>h,fun v w h=>h,fun v w h=>h,fun v w h=>h,fun v w h=>h,fun v w h=>h,fun v w h=>h,fun v w h=>h,fun v w h=>h,fun v w h=>h,fun v w h=>h,trivial⟩ ?_ ?_
  ·simp only [List.take_succ_cons,List.take_zero];refine ⟨?_,?_,?_,?_,?_,?_,?_,?_,?_,?_,?_,?_,?_,?_,?_,?_,?_,?_,?_,?_,?_,?_,?_,?_,?_,?_,?_,?_,?_,?_,?_,?_,?_,?_,?_,?_,?_,?_,?_,?_,?_,?_,?_,?_,?_,?_,?_,?_,?_,?_,?_,?_,?_,?_,?_,?_,?_,trivial⟩
   all_goals try (refine ⟨fun _=>?_,fun h=>absurd h (by decide)⟩;intro L T W hG hJ hLs hLi dq fq vq K hK)
   all_goals try have zk:=fun v=>hK v W (bR _ W) (fun j u _ _ _ h=>h) trivial
   all_goals try have zv:=fun i h=>vq ⟨i,.data⟩ h rfl
   ·have h1:=fq 4 (by decide);simp at h1;go_simp;exact zk _ rfl
   ·have h1:=zv 0 (by simp) 54 rfl;simp [knZ] at h1;go_simp;exact zk _ rfl
   ·have h1:=zv 1 (by simp) 55 rfl;simp [knZ] at h1;go_simp;exact zk _ rfl
   ·have h1:=fq 3 (by decide);simp at h1;go_simp;exact zk _ rfl
   ·have h1:=zv 3 (by simp) 57 rfl;simp [knZ] at h1;obtain ⟨c0,c1,c2,c3,c4,c5,c6,c7,c8,⟨c9,c10⟩,d0,d1,d2,d3⟩:=HC.out W hG;go_simp;exact zk _ rfl
   ·have h1:=zv 4 (by simp) 58 rfl;simp [knZ] at h1;go_simp;exact zk _ rfl
   ·have h1:=zv 5 (by simp) 59 rfl;simp [knZ] at h1;go_simp;exact zk _ rfl
   ·have h1:=zv 2 (by simp) 56 rfl;have h2:=zv 6 (by simp) 60 rfl;simp [knZ] at h1 h2;go_simp;exact zk _ rfl
   ·have h1:=zv 7 (by simp) 61 rfl;simp [knZ] at h1;go_simp;exact zk _ rfl
   ·have h1:=fq 3 (by decide);simp at h1;go_simp;exact zk _ rfl
   ·have h1:=zv 9 (by simp) 63 rfl;simp [knZ] at h1;obtain ⟨c0,c1,c2,c3,c4,c5,c6,c7,c8,⟨c9,c10⟩,d0,d1,d2,d3⟩:=HC.out W hG;go_simp;exact zk _ rfl
   ·have h1:=zv 10 (by simp) 64 rfl;simp [knZ] at h1;go_simp;exact zk _ rfl
   ·have h1:=zv 8 (by simp) 62 rfl;have h2:=zv 11 (by simp) 65 rfl;simp [knZ] at h1 h2;go_simp;exact zk _ rfl
   ·have h1:=zv 12 (by simp) 66 rfl;simp [knZ] at h1;go_simp;exact zk _ rfl
   ·have h1:=fq 3 (by decide);simp at h1;go_simp;exact zk _ rfl
   ·have h1:=zv 14 (by simp) 68 rfl;simp [knZ] at h1;obtain ⟨c0,c1,c2,c3,c4,c5,c6,c7,c8,⟨c9,c10⟩,d0,d1,d2,d3⟩:=HC.out W hG;go_simp;exact zk _ rfl
   ·go_simp;have hl:=letter_any W;rw [HM1.out] at hl;unfold setV at hl;refine hl.mono ?_;rintro e W2 ⟨rfl,hb2⟩;exact hK _ _ hb2 (fun j u _ _ _ h=>h) trivial rfl
   ·have h1:=zv 15 (by simp) 69 rfl;have h2:=zv 16 (by simp) 70 rfl;simp [knZ] at h1 h2;go_simp;exact zk _ rfl
   ·have h1:=zv 13 (by simp) 67 rfl;have h2:=zv 17 (by simp) 71 rfl;simp [knZ] at h1 h2;go_simp;exact zk _ rfl
   ·have h1:=zv 18 (by simp) 72 rfl;simp [knZ] at h1;go_simp;exact zk _ rfl
   ·have h1:=fq 6 (by decide);simp at h1;go_simp;exact zk _ rfl
   ·have h1:=zv 20 (by simp) 74 rfl;simp [knZ] at h1;go_simp;exact zk _ rfl
   ·have h1:=zv 19 (by simp) 73 rfl;have h2:=zv 21 (by simp) 75 rfl;simp [knZ] at h1 h2;go_simp;exact zk _ rfl
   ·have h1:=zv 22 (by simp) 76 rfl;simp [knZ] at h1;go_simp;exact zk _ rfl
   ·have h1:=fq 5 (by decide);simp at h1;go_simp;exact zk _ rfl
   ·have h1:=zv 24 (by simp) 78 rfl;simp [knZ] at h1;obtain ⟨c0,c1,c2,c3,c4,c5,c6,c7,c8,⟨c9,c10⟩,d0,d1,d2,d3⟩:=HC.out W hG;go_simp;exact zk _ rfl
   ·have h1:=zv 25 (by simp) 79 rfl;simp [knZ] at h1;go_simp;exact zk _ rfl
   ·have h1:=zv 23 (by simp) 77 rfl;have h2:=zv 26 (by simp) 80 rfl;simp [knZ] at h1 h2;go_simp;exact zk _ rfl
   ·have h1:=zv 27 (by simp) 81 rfl;simp [knZ] at h1;go_simp;exact zk _ rfl
   ·have h1:=fq 8 (by decide);simp at h1;go_simp;exact zk _ rfl
   ·have h1:=zv 29 (by simp) 83 rfl;simp [knZ] at h1;go_simp;exact zk _ rfl
   ·have h1:=zv 28 (by simp) 82 rfl;have h2:=zv 30 (by simp) 84 rfl;simp [knZ] at h1 h2;go_simp;exact zk _ rfl
   ·have h1:=zv 31 (by simp) 85 rfl;simp [knZ] at h1;go_simp;exact zk _ rfl
   ·have h1:=fq 9 (by decide);simp at h1;obtain ⟨c0,c1,c2,c3,c4,c5,c6,c7,c8,⟨c9,c10⟩,d0,d1,d2,d3⟩:=HC.out W hG;go_simp;exact zk _ rfl
   ·go_simp;have hl:=letter_any W;rw [HM1.out] at hl;unfold setV at hl;refine hl.mono ?_;rintro e W2 ⟨rfl,hb2⟩;exact hK _ _ hb2 (fun j u _ _ _ h=>h) trivial rfl
   ·have h1:=zv 33 (by simp) 87 rfl;have h2:=zv 34 (by simp) 88 rfl;simp [knZ] at h1 h2;go_simp;exact zk _ rfl
   ·have h1:=zv 32 (by simp) 86 rfl;have h2:=zv 35 (by simp) 89 rfl;simp [knZ] at h1 h2;go_simp;exact zk _ rfl
   ·have h1:=zv 36 (by simp) 90 rfl;simp [knZ] at h1;go_simp;exact zk _ rfl
   ·have h1:=fq 10 (by decide);simp at h1;go_simp;exact zk _ rfl
   ·have h1:=zv 37 (by simp) 91 rfl;have h2:=zv 38 (by simp) 92 rfl;simp [knZ] at h1 h2;go_simp;exact zk _ rfl
   ·have h1:=zv 39 (by simp) 93 rfl;simp [knZ] at h1;go_simp;exact zk _ rfl
   ·have h1:=fq 11 (by decide);simp at h1;go_simp;exact zk _ rfl
   ·have h1:=zv 41 (by simp) 95 rfl;simp [knZ] at h1;go_simp;exact zk _ rfl
   ·have h1:=zv 40 (by simp) 94 rfl;have h2:=zv 42 (by simp) 96 rfl;simp [knZ] at h1 h2;go_simp;exact zk _ rfl
   ·have h1:=zv 43 (by simp) 97 rfl;simp [knZ] at h1;go_simp;exact zk _ rfl
   ·have h1:=fq 12 (by decide);simp at h1;obtain ⟨c0,c1,c2,c3,c4,c5,c6,c7,c8,⟨c9,c10⟩,d0,d1,d2,d3⟩:=HC.out W hG;go_simp;exact zk _ rfl
   ·go_simp;exact zk _ rfl
   ·have h1:=zv 45 (by simp) 99 rfl;have h2:=zv 46 (by simp) 100 rfl;simp [knZ] at h1 h2;go_simp;exact zk _ rfl
   ·have h1:=zv 44 (by simp) 98 rfl;have h2:=zv 47 (by simp) 101 rfl;simp [knZ] at h1 h2;go_simp;exact zk _ rfl
   ·have h1:=zv 48 (by simp) 102 rfl;simp [knZ] at h1;go_simp;exact zk _ rfl
   ·have h1:=fq 13 (by decide);simp at h1;go_simp;exact zk _ rfl
   ·have h1:=zv 50 (by simp) 104 rfl;simp [knZ] at h1;go_simp;exact zk _ rfl
   ·have h1:=zv 49 (by simp) 103 rfl;have h2:=zv 51 (by simp) 105 rfl;simp [knZ] at h1 h2;go_simp;exact zk _ rfl
   ·have h1:=zv 52 (by simp) 106 rfl;simp [knZ] at h1;go_simp;exact zk _ rfl
   ·have h1:=fq 14 (by decide);simp at h1;go_simp;exact zk _ rfl
   ·have h1:=zv 54 (by simp) 108 rfl;simp [knZ] at h1;go_simp;exact zk _ rfl
   ·have h1:=zv 53 (by simp) 107 rfl;have h2:=zv 55 (by simp) 109 rfl;simp [knZ] at h1 h2;go_simp;exact zk _ rfl
  ·intro f9 w14 hG hJe hR;have e56:=hR 56 110 (by decide) rfl;simp only [concDsts,qZ];simp only [knZ] at e56;rw [e56];clear e56 hR;generalize f9 54=v54;generalize f9 55=v55;generalize f9 56=v56;generalize f9 57=v57;generalize f9 58=v58;generalize f9 59=v59;generalize f9 60=v60;generalize f9 61=v61;generalize f9 62=v62;generalize f9 63=v63;generalize f9 64=v64;generalize f9 65=v65;generalize f9 66=v66;generalize f9 67=v67;generalize f9 68=v68;generalize f9 69=v69;generalize f9 70=v70;generalize f9 71=v71;generalize f9 72=v72;generalize f9 73=v73;generalize f9 74=v74;generalize f9 75=v75;generalize f9 76=v76;generalize f9 77=v77;generalize f9 78=v78;generalize f9 79=v79;generalize f9 80=v80;generalize f9 81=v81;generalize f9 82=v82;generalize f9 83=v83;generalize f9 84=v84;generalize f9 85=v85;generalize f9 86=v86;generalize f9 87=v87;generalize f9 88=v88;generalize f9 89=v89;generalize f9 90=v90;generalize f9 91=v91;generalize f9 92=v92;generalize f9 93=v93;generalize f9 94=v94;generalize f9 95=v95;generalize f9 96=v96;generalize f9 97=v97;generalize f9 98=v98;generalize f9 99=v99;generalize f9 100=v100;generalize f9 101=v101;generalize f9 102=v102;generalize f9 103=v103;generalize f9 104=v104;generalize f9 105=v105;generalize f9 106=v106;generalize f9 107=v107;generalize f9 108=v108;generalize f9 109=v109;clear f9;have hbe:=H13.out.trans ((show Below w13.heap.size w13 w13.drew from (bR _ _).drew).trans hG |>.mono H13.out.size);clear hG hJe HC;go_wp2_with fail
   go_ret;exact ⟨rfl,(HX.o2.trans (hbe.mono HX.o2.size))⟩
end Go.Proofs.YthiochcpmfkgcaaGreatDoor.Gl
