/- Walks and plain laws that the last text stands on: TbAhead. -/
import Derived.Test.YthiochcpmfkgcaaGreatDoorSo3
set_option linter.unusedVariables false
set_option linter.unusedSimpArgs false
set_option maxRecDepth 100000
set_option maxHeartbeats 16000000
namespace Go.Proofs.YthiochcpmfkgcaaGreatDoor.Tb
open Go Go.RowKit Go.Proofs Mx Go.Shelf
attribute [local go_sem] Oper.semAt_some
structure KeepD (D:Nat->Prop) (A B:World):Prop where
 size:A.heap.size<=B.heap.size
 block:∀ g,D g->g<A.heap.size->B.heap[g]?=A.heap[g]?
section
variable {D:Nat → Prop} {A B C:World}
theorem KeepD.refl (D:Nat->Prop) (A:World):KeepD D A A:=⟨nR _,fun _ _ _=>rfl⟩
theorem KeepD.trans (h:KeepD D A B) (k:KeepD D B C):KeepD D A C:=⟨Nat.le_trans h.size k.size,fun g hg hl=>(k.block g hg (nL hl h.size)).trans (h.block g hg hl)⟩
theorem KeepD.below (h:Below A.heap.size A B):KeepD D A B:=⟨h.size,fun g _ hl=>h.block g hl⟩
theorem KeepD.putObj {w W:World} (hD:∀ g,D g->g<w.heap.size) (l:Nat) (o o':Obj) (hl:w.heap.size<=l) (ho:W.heap[l]?=some o) (h1:o.isCells=false) (h2:o.isWalk=false):KeepD D W (W.putObj l o') :=
 ⟨by simp [World.putObj],fun g hg _=>World.putObj_heap_other (by have:=hD g hg;omega)⟩
theorem KeepD.cell (h:KeepD D A B) {g i:Nat} (hg:D g) (hl:g<A.heap.size):B.cell? ⟨g,i,none⟩=A.cell? ⟨g,i,none⟩:=wB (h.block g hg hl)
end
def aheadL (g:Gr) (l:List It):List (It × Sy):=l.filterMap fun x=>(aheadF g x).map fun s=>((x.1,x.2+1),s)
def aK (L:List (It × Sy)) (k:Nat):It × Sy:=L.getD k ((0,0),⟨0,0,0⟩)
def encA (q:It × Sy):Array Value:=#[.agg #[.int .i64 q.1.1,.int .i64 q.1.2],.agg #[.int .i64 q.2.kind,.int .u64 (wd q.2.set 0),.int .u64 (wd q.2.set 1),.int .u64 (wd q.2.set 2),.int .u64 (wd q.2.set 3),.int .i64 q.2.sort]]
theorem aheadL_snoc (g:Gr) (l:List It) (x:It):aheadL g (l++[x])=aheadL g l++(match aheadF g x with | some s=>[((x.1,x.2+1),s)] | none=>[]):=by
 unfold aheadL;rw [List.filterMap_append]
 cases h:aheadF g x <;> simp [h]
theorem aheadL_take (g:Gr) (l:List It) (i:Nat) (x:It) (h:l[i]?=some x):aheadL g (l.take (i+1))=aheadL g (l.take i)++(match aheadF g x with | some s=>[((x.1,x.2+1),s)] | none=>[]):=by
 rw [List.take_add_one,h];exact aheadL_snoc g _ x
theorem aheadL_split (g:Gr) (l:List It) (i:Nat):aheadL g l=aheadL g (l.take i)++aheadL g (l.drop i):=by
 unfold aheadL;rw [<- List.filterMap_append,List.take_append_drop]
theorem aheadL_at (g:Gr) (l:List It) (i:Nat) (x:It) (s:Sy) (h:l[i]?=some x) (hs:aheadF g x=some s):(aheadL g l)[(aheadL g (l.take i)).length]?=some ((x.1,x.2+1),s):=by
 rw [aheadL_split g l (i+1),aheadL_take g l i x h,hs];simp
theorem ahead_any (mb:Nat) (va:Option Addr) (vn vc:Nat) (w:World) :
  Calls Tryz.prog 85 #[.pointer (some ⟨mb,0,none⟩),.slice va vn vc] w fun e w'=>e=.returned (.func (.func 112) #[] #[.pointer (some ⟨w.heap.size+1,0,none⟩),.pointer (some ⟨w.heap.size,0,none⟩)]) /\
   w'=(w.alloc (.cells #[.pointer (some ⟨mb,0,none⟩)] 127)).alloc (.cells #[.slice va vn vc] 132):=by
 have hmf:∀ (fn:Fn) (first cap:Array Value) (w:World),(Instr.makeFunc fn first cap).run Tryz.prog w=.ok (.func fn first cap) w:=fun _ _ _ _=>rfl;go_enter Tryz.func85,Tryz.ntmps85
 go_wp2
 go_ret;exact ⟨rfl,rfl⟩
theorem ahead_iter (D D2:Nat->Prop) (g:Gr) (mb:Nat) (l:List It) (hl:∀ x∈l,itemOk g x=true) (hn30:∀ p∈g.prods,p.right.length<=1000) (v:Value) (n:Nat) (hn:1<=n) (w:World) (hm:MkR D w mb g) (hmb:D mb) (hv:SliceK D encIt 2 w v l) (b1 b2:Nat)
  (hb1:Blk w b1 132 #[v]) (hb2:Blk w b2 127 #[.pointer (some ⟨mb,0,none⟩)]) (hD1:D b1) (hD2:D b2) :
  SeqO Fence.wide n Tryz.prog 112 #[.pointer (some ⟨b1,0,none⟩),.pointer (some ⟨b2,0,none⟩)] (fun k=>encA (aK (aheadL g l) k)) (KeepD D) (aheadL g l).length w:=by
 intro lp J Jx W hW' hJ hJx hY h0;obtain ⟨va,vc,rfl,hc1,hc2,hk⟩:=hv;have hmx:l.length<=9223372036854775807:=by unfold maxLen at hc2;omega
 have hK0:KeepD D w W:=KeepD.below hW';have hB1:=hb1.below hW' hb1.lt;have x1:=hB1.cell 0;have hro:Fence.wide.round=none:=rfl;have HC:=Z5.mk hm hk hb2 hl hK0;clear hm hk hb2 hl hK0 hW' hB1;refine callsIn_of_wp Tryz.func112 rfl trivial ?_ hro;simp only [Tryz.ntmps112,List.size_toArray,List.length_cons,List.length_nil,Nat.reduceAdd,Nat.reduceSub,Array.replicate_succ,Array.replicate_zero,List.push_toArray,List.append_toArray,List.nil_append,List.cons_append];simp at x1
 gi_wp2
 gi_loopw [9] (fun i wr=>∃ k:Nat,k<=l.length /\ i=.int .i64 k /\ J (aheadL g (l.take k)).length wr /\ KeepD D w wr) (fun i _=>l.length - (intOf i).toNat)
 case atStart=>exact ⟨0,Nat.zero_le _,rfl,h0,HC.o5⟩
 case round =>
  obtain ⟨i,hi,rfl,hJi,hKi⟩:=hrel;clear h0 x1
  by_cases hlt:i<l.length
  ·obtain ⟨⟨nn,d⟩,hx⟩:∃ x,l[i]?=some x:=⟨_,gE hlt⟩;obtain ⟨kg,ko,rfl,hkD,hkr⟩:=HC.o2 (by rintro rfl;simp at hlt);have k0:=hkr.cells i _ hx 0 _ rfl;have k1:=hkr.cells i _ hx 1 _ rfl;simp only [Nat.add_zero] at k0;have k0:=(hKi.cell hkD hkr.lt).trans k0;have k1:=(hKi.cell hkD hkr.lt).trans k1;have hok:=(itemOk_iff g (nn,d)).1 (HC.o4 _ (gM hx));obtain ⟨p,hp⟩:∃ p,g.prods[nn]?=some p:=⟨_,gE hok.1⟩;have hrt:rightOf g nn=p.right:=by unfold rightOf;rw [hp];rfl
   obtain ⟨hnP,hdl⟩:=hok;have hpm:=gM hp;have hp30:=hn30 p hpm;simp only [hrt] at hdl;have hMr:MkR D wr mb g:=HC.o1.keep (fun g' hg' hl'=>⟨hg',hKi.block g' hg' hl'⟩) hKi.size (hKi.cell hmb HC.o1.lt) (hKi.cell hmb HC.o1.lt);obtain ⟨_,cp,b,o,vr,m1,rfl,hvr,hpc⟩:=hMr.prod hp;obtain ⟨ra,rc,rfl,hrc1,hrc2,hrk⟩:=hvr;have f0:=hpc 0 _ rfl;have f1:=hpc 1 _ rfl;have f2:=hpc 2 _ rfl;have f3:=hpc 3 _ rfl;have f4:=hpc 4 _ rfl;have f5:=hpc 5 _ rfl;have f6:=hpc 6 _ rfl;simp only [Nat.add_zero] at f0;have hb2c:=(hKi.cell (i:=0) hD2 HC.o3.lt).trans (HC.o3.cell 0);simp at hb2c;have hlt1:(i:Int)<l.length:=by omega
   have hi0:(0:Int)<=i:=by omega
   have hn0:(0:Int)<=nn:=by omega
   have hnP1:(nn:Int)<g.prods.length:=by omega
   have HX:=Z5.mk hx hp hrt hJi hKi;clear hx hp hrt hpc hpm hJi hKi hkr hMr
   gi_wp2
   have hbW:Below wr.heap.size wr (wr.alloc (.cells #[.int .i64 nn,.int .i64 d] 134)):=(bR _ wr).alloc (nR _) _;have hIB:Blk (wr.alloc (.cells #[.int .i64 nn,.int .i64 d] 134)) wr.heap.size 134 #[.int .i64 nn,.int .i64 d]:=Blk.new _ _ _;have up:∀ {bb i:Nat} {u:Value},wr.cell? ⟨bb,i,none⟩=some u->(wr.alloc (.cells #[.int .i64 nn,.int .i64 d] 134)).cell? ⟨bb,i,none⟩=some u:=fun h=>cell_alloc_ h _;have m1:=up m1;have hb2c:=up hb2c;have f0:=up f0;have f1:=up f1;have f2:=up f2;have f3:=up f3;have f4:=up f4;have f5:=up f5;have f6:=up f6;obtain ⟨w0,hw0⟩:=eX ((wr.alloc (.cells #[.int .i64 nn,.int .i64 d] 134)));rw [hw0] at hbW hIB m1 hb2c f0 f1 f2 f3 f4 f5 f6 ⊢;clear up hw0;obtain ⟨ib,hib⟩:=eX wr.heap.size;rw [hib] at hIB ⊢;obtain ⟨x0,x1,_⟩:=hIB.facts2;have m1a:=fun o=>cell_alloc_ m1 o;have b2a:=fun o=>cell_alloc_ hb2c o;have x0a:=fun o=>cell_alloc_ x0 o;have f0a:=fun o=>cell_alloc_ f0 o;have f1a:=fun o=>cell_alloc_ f1 o;have f2a:=fun o=>cell_alloc_ f2 o;have f3a:=fun o=>cell_alloc_ f3 o;have f4a:=fun o=>cell_alloc_ f4 o;have f5a:=fun o=>cell_alloc_ f5 o;have f6a:=fun o=>cell_alloc_ f6 o;have HW:=Z3.mk hbW hIB hib;clear hbW hIB hib k0 k1;refine wpIn_wide.2 ?_
   go_region
   all_goals (try go_simp)
   have hPB:Blk (w0.alloc (.cells #[.int .i64 p.left,.slice ra p.right.length rc,.string ⟨p.cons.toArray⟩,.int .i64 p.role,.bool p.prefer,.bool p.avoid,.int .i64 p.made] 53)).drew w0.heap.size 53 #[.int .i64 p.left,.slice ra p.right.length rc,.string ⟨p.cons.toArray⟩,.int .i64 p.role,.bool p.prefer,.bool p.avoid,.int .i64 p.made]:=Blk.new _ _ _;have hb02:Below w0.heap.size w0 (w0.alloc (.cells #[.int .i64 p.left,.slice ra p.right.length rc,.string ⟨p.cons.toArray⟩,.int .i64 p.role,.bool p.prefer,.bool p.avoid,.int .i64 p.made] 53)).drew:=((bR _ w0).alloc (nR _) _).drew;obtain ⟨w2,hw2⟩:=eX ((w0.alloc (.cells #[.int .i64 p.left,.slice ra p.right.length rc,.string ⟨p.cons.toArray⟩,.int .i64 p.role,.bool p.prefer,.bool p.avoid,.int .i64 p.made] 53)).drew);rw [hw2] at hPB hb02 ⊢;have hIB2:=HW.o2.below hb02 HW.o2.lt;have hbr2:Below wr.heap.size wr w2:=HW.o1.trans (hb02.mono HW.o1.size);obtain ⟨pb,hpb⟩:=eX w0.heap.size;rw [hpb] at hPB ⊢;obtain ⟨y0,y1,_⟩:=hIB2.facts2;have z1:=hPB.cell 1;simp at z1;have HV:=Hd hbr2;clear hw2 hPB hb02 hIB2 hbr2 hpb m1 hb2c f0 f1 f2 f3 f4 f5 f6 m1a b2a x0a f0a f1a f2a f3a f4a f5a f6a x0 x1
   gi_wp2
   by_cases hd:d<p.right.length
   ·obtain ⟨sy,hs⟩:∃ s,p.right[d]?=some s:=⟨_,gE hd⟩;obtain ⟨rg,ro,rfl,_,hrr⟩:=hrk (by rintro e;rw [e] at hd;simp at hd);have q0:=hrr.cells d sy hs 0 _ rfl;have q1:=hrr.cells d sy hs 1 _ rfl;have q2:=hrr.cells d sy hs 2 _ rfl;have q3:=hrr.cells d sy hs 3 _ rfl;have q4:=hrr.cells d sy hs 4 _ rfl;have q5:=hrr.cells d sy hs 5 _ rfl;simp only [Nat.add_zero] at q0;have q0:=(HV.out.cell (p:=⟨rg,ro+d * 6,none⟩) (wL _ _ q0)).trans q0;have q1:=(HV.out.cell (p:=⟨rg,ro+d * 6+1,none⟩) (wL _ _ q1)).trans q1;have q2:=(HV.out.cell (p:=⟨rg,ro+d * 6+2,none⟩) (wL _ _ q2)).trans q2;have q3:=(HV.out.cell (p:=⟨rg,ro+d * 6+3,none⟩) (wL _ _ q3)).trans q3;have q4:=(HV.out.cell (p:=⟨rg,ro+d * 6+4,none⟩) (wL _ _ q4)).trans q4;have q5:=(HV.out.cell (p:=⟨rg,ro+d * 6+5,none⟩) (wL _ _ q5)).trans q5;have hah:aheadF g (nn,d)=some sy:=by unfold aheadF;rw [HX.o3];exact hs
    have hget:=aheadL_at g l i (nn,d) sy HX.o1 hah;have hkl:(aheadL g (l.take i)).length<(aheadL g l).length:=(gS.1 hget).1;have hak:aK (aheadL g l) (aheadL g (l.take i)).length=((nn,d+1),sy):=by unfold aK;simp [List.getD,hget]
    have hnext:(aheadL g (l.take (i+1))).length=(aheadL g (l.take i)).length+1:=by rw [aheadL_take g l i _ HX.o1,hah];simp
    have hd0:(0:Int)<=d:=by omega
    have hd1:(d:Int)<((p.right.length:Nat):Int):=by omega
    have hJ2:J (aheadL g (l.take i)).length w2.drew:=abides_below hJ HX.o4 HV.out.drew;have hyk:=hY _ _ hJ2 hkl;rw [hak] at hyk;unfold encA at hyk;simp only at hyk;have hdc:((d+1:Nat):Int)=(d:Int)+1:=by omega
    rw [hdc] at hyk;obtain ⟨fn,tmps,assign,body,hyr,hR⟩:=hyk;have HI:=Z2.mk hkl hnext;clear hJ2 hs hrr hah hget hak hkl hnext hd;refine wpIn_region_still_tail wideF_wide 20 (by kernel_rfl) (by kernel_rfl) (by kernel_rfl) ?_;simp only [List.take_succ_cons,List.take_zero,List.drop_succ_cons,List.drop_zero]
    repeat still_step
    try refine wpStill_nil ?_
    gi_wp2
    rw [hyr,Oper.uponIn_round];refine An (by intro h;cases h) (hR.mono ?_);rintro e W' h;obtain ⟨b,rfl,hb⟩:=yield_bool h;clear hR hyr
    cases b
    ·gi_wp2
     refine bodyPost_ret (results_none rfl _ _ _) rfl ?_;exact ⟨⟨_,rfl⟩,.inr ⟨(aheadL g (l.take i)).length+1,HI.o1,hb.out.2 (by trivial)⟩⟩
    ·gi_wp2
     have hnn:=hb.out.1 (by trivial)
     go_roundw
     case rel =>
      refine ⟨i+1,by omega,rfl,?_,?_⟩
      ·rw [HI.o2];exact hnn.1
      ·exact (HX.o5.trans (KeepD.below HV.out.drew)).trans hnn.2
     case measure=>simp [intOf];omega
   ·have hah:aheadF g (nn,d)=none:=by unfold aheadF;rw [HX.o3];exact List.getElem?_eq_none (by omega)
    have hnext:aheadL g (l.take (i+1))=aheadL g (l.take i):=by rw [aheadL_take g l i _ HX.o1,hah];simp
    obtain rfl:d=p.right.length:=by omega
    have HE:=Hd hnext;clear hd hah hnext;refine wpIn_wide.2 ?_
    go_quiet (fail)
    gi_wp2
    go_roundw
    case rel =>
     refine ⟨i+1,by omega,rfl,?_,?_⟩
     ·rw [HE.out];exact abides_below hJ HX.o4 (below_drewN HV.out _)
     ·exact HX.o5.trans (KeepD.below (below_drewN HV.out _))
    case measure=>simp [intOf];omega
  ·obtain rfl:i=l.length:=by omega
   rw [List.take_length] at hJi;have HJ:=Hd hJi;clear hJi hKi
   gi_wp2
   refine bodyPost_end (results_none rfl _ _ _) rfl ?_;exact ⟨⟨_,rfl⟩,.inl HJ.out⟩
end Go.Proofs.YthiochcpmfkgcaaGreatDoor.Tb
