/- Walks and plain laws that the last text stands on: GlLink, TbOpen, ConcF. -/
import Derived.Test.YthiochcpmfkgcaaGreatDoorSo14
import Derived.Test.YthiochcpmfkgcaaGreatDoorRows
import Derived.Deep.Slices
set_option linter.unusedVariables false
set_option linter.unusedSimpArgs false
set_option maxRecDepth 100000
set_option maxHeartbeats 16000000
namespace Go.Proofs.YthiochcpmfkgcaaGreatDoor.Gl
open Go Go.RowKit Go.Proofs Go.Maps Go.WideMaps Mx Tb
theorem infoNd:(Tryz.prog.info? 150).map (fun i=>(i.zero,i.size,i.bytes))=some (some (.agg #[.int .i64 0,.int .i64 0]),2,16):=by kernel_rfl
structure GB (bb:Nat) (own:Option Nat) (A W:World):Prop where
 os:W.os=A.os
 tape:W.tape=A.tape
 output:W.output=A.output
 size:A.heap.size<=W.heap.size
 block:∀ b,b<A.heap.size->b≠bb->own≠some b->W.heap[b]?=A.heap[b]?
section
variable {bb:Nat} {own:Option Nat} {A W W':World}
theorem GB.refl (bb:Nat) (own:Option Nat) (W:World):GB bb own W W:=⟨rfl,rfl,rfl,nR _,fun _ _ _ _=>rfl⟩
theorem GB.trans (h:GB bb own A W) (k:GB bb own W W'):GB bb own A W':=⟨k.os.trans h.os,k.tape.trans h.tape,k.output.trans h.output,Nat.le_trans h.size k.size,fun b hb h1 h2=>(k.block b (nL hb h.size) h1 h2).trans (h.block b hb h1 h2)⟩
theorem GB.of_below (h:Below W.heap.size W W'):GB bb own W W':=⟨h.os,h.tape,h.output,h.size,fun b hb _ _=>h.block b hb⟩
theorem GB.of_grown (h:W.grownBy W' (some bb)):GB bb own W W':=⟨h.os,h.tape,h.output,h.size,fun b hb h1 _=>h.block b hb (fun e=>by injection e with e;exact h1 e)⟩
theorem GB.of_own (h:W.grownBy W' own):GB bb own W W':=⟨h.os,h.tape,h.output,h.size,fun b hb _ h1=>h.block b hb (Ne.symm h1)⟩
theorem GB.blk {g:Nat} {t:TypeId} {cs:Array Value} (h:GB bb own A W) (hb:Blk A g t cs) (h1:g≠bb) (h2:own≠some g):Blk W g t cs:=(h.block g hb.lt h1 h2).trans hb
end
def StoreOk (C:RC) (k:Nat) (fb:Lit->Option Value) (kx:Lit) (st:Int) (o1:Obj):Prop :=
 ∀ W,W.heap[C.bb]?=some o1->∀ val,∃ w2,(Instr.entryStore 76 (.map (some C.bb)) (.int .i64 st) val).run Tryz.prog W=.ok () w2 /\ MapS Tryz.prog 150 w2 C.bb (if (fb kx).isSome then k else k+1) (putV fb kx val) /\ W.grownBy w2 (some C.bb)
def liR (C:RC) (x y:Nd) (gs:Value) (B0 k:Nat) (xs:List Value) (St:Int->Obj->Prop) (j:Nat) (v:Value) (W:World):Prop :=
 match j with
 | 0=>v=.pointer (some ⟨C.rb,0,none⟩)
 | 1=>v=.pointer (some ⟨C.rb,0,none⟩)
 | 2=>v=.pointer (some ⟨C.rb,8,none⟩)
 | 3=>v=.map (some C.bb)
 | 4=>v=.agg #[.int .i64 x.1,.int .i64 x.2]
 | 5=>v=.agg #[.int .i64 y.1,.int .i64 y.2]
 | 6=>∃ q,v=.slice (some ⟨q,0,none⟩) 1 1 /\ W.cell? ⟨q,0,none⟩=some (.int .i64 y.1) /\ W.cell? ⟨q,1,none⟩=some (.int .i64 y.2) /\ B0<=q /\ q<W.heap.size
 | 7=>∃ st o1,v=.tuple #[gs,.int .i64 st] /\ W.heap[C.bb]?=some o1 /\ St st o1
 | 8=>v=gs
 | 9=>W.ownsRow 0 150 2 v (k+1) (xs++encNd y) /\ ∀ b,v.ownBlock=some b->gs.ownBlock=some b∨B0<=b
 | 10=>∃ st o1,v=.int .i64 st /\ W.heap[C.bb]?=some o1 /\ St st o1
 | _=>True
section
variable {C:RC} {x y:Nd} {gs:Value} {B0 k:Nat} {xs:List Value} {St:Int → Obj → Prop}
theorem liR_low (j:Nat) (v:Value) {W W':World} (h:liR C x y gs B0 k xs St j v W) (hne:gs.ownBlock≠some C.bb) (hb:Below W.heap.size W W'):liR C x y gs B0 k xs St j v W':=by
 unfold liR at h ⊢
 split at h <;> first | exact h | skip
 ·obtain ⟨q,e,h1,h2,h3,h4⟩:=h;exact ⟨q,e,(hb.cell (p:=⟨q,0,none⟩) h4).trans h1,(hb.cell (p:=⟨q,1,none⟩) h4).trans h2,h3,nL h4 hb.size⟩
 ·obtain ⟨st,o1,e,h1,h2⟩:=h;exact ⟨st,o1,e,(hb.block _ (heap_lt h1)).trans h1,h2⟩
 ·exact ⟨row_below h.1 hb,h.2⟩
 ·obtain ⟨st,o1,e,h1,h2⟩:=h;exact ⟨st,o1,e,(hb.block _ (heap_lt h1)).trans h1,h2⟩
theorem liR_grown (j:Nat) (v:Value) {W W':World} (h:liR C x y gs B0 k xs St j v W) (h7:j≠7) (h10:j≠10) (hB:C.bb<B0) (hne:gs.ownBlock≠some C.bb) (hb:W.grownBy W' (some C.bb)):liR C x y gs B0 k xs St j v W':=by
 unfold liR at h ⊢
 split at h <;> first | exact h | exact absurd rfl h7 | exact absurd rfl h10 | skip
 ·obtain ⟨q,e,h1,h2,h3,h4⟩:=h;have e2:=hb.block q h4 (by intro e;injection e with e;omega);exact ⟨q,e,(wB (w:=W) (a:=⟨q,0,none⟩) e2).trans h1,(wB (w:=W) (a:=⟨q,1,none⟩) e2).trans h2,h3,nL h4 hb.size⟩
 ·refine ⟨own_of_block h.1 fun b e=>hb.block b (own_lt h.1 e) (fun e2=>?_),h.2⟩;injection e2 with e2;subst e2
  rcases h.2 _ e with h3 | h3
  ·exact hne h3
  ·omega
theorem liR_own (j:Nat) (v:Value) {W W':World} (h:liR C x y gs B0 k xs St j v W) (h9:j≠9) (hne:gs.ownBlock≠some C.bb) (hb:W.grownBy W' gs.ownBlock) (hlt:∀ b,gs.ownBlock=some b->b<B0):liR C x y gs B0 k xs St j v W':=by
 unfold liR at h ⊢
 split at h <;> first | exact h | exact absurd rfl h9 | skip
 ·obtain ⟨q,e,h1,h2,h3,h4⟩:=h;have e2:=hb.block q h4 (by intro e;have:=hlt q e.symm;omega);exact ⟨q,e,(wB (w:=W) (a:=⟨q,0,none⟩) e2).trans h1,(wB (w:=W) (a:=⟨q,1,none⟩) e2).trans h2,h3,nL h4 hb.size⟩
 ·obtain ⟨st,o1,e,h1,h2⟩:=h;exact ⟨st,o1,e,(hb.block _ (heap_lt h1) (Ne.symm hne)).trans h1,h2⟩
 ·obtain ⟨st,o1,e,h1,h2⟩:=h;exact ⟨st,o1,e,(hb.block _ (heap_lt h1) (Ne.symm hne)).trans h1,h2⟩
end
def LinkT (C:RC) (p:RP) (left:Nat->Int) (w0:World) (ρ:Nat->Option Role) (w:World) (e:Ending) (w':World):Out (Rn × Bool)->Prop
 | .ok (r',f)=>e=.returned (.bool f) /\ ∃ ρ',RunW C p left w0 ρ' r' w' /\ KeepR ρ w w' /\ Roles w.heap.size ρ ρ'
 | .stop _=>e=.panicked stopP /\ KeepR ρ w w'
theorem link_any (C:RC) (p:RP) (left:Nat->Int) (w0:World) (ρ:Nat->Option Role) (r:Rn) (w:World) (h:RunW C p left w0 ρ r w) (x y:Nd) (hx:NdOk x) (hy:NdOk y) (ht:r.tries.count (x,y)<4611686018427387904) :
    Calls Tryz.prog 93 #[.pointer (some ⟨C.rb,0,none⟩),ndV x,ndV y] w fun e w'=>LinkT C p left w0 ρ w e w' (linkF r x y):=by
  have HH:=Z4.mk h hx hy ht;clear h hx hy ht;unfold ndV;go_enter Tryz.func93,Tryz.ntmps93;go_upto_region 2 with fail
  have hXB:Blk (((w.alloc (.cells #[.int .i64 x.1,.int .i64 x.2] 150)).alloc (.cells #[.int .i64 y.1,.int .i64 y.2] 150)).alloc (.cells #[.int .i64 x.1,.int .i64 x.2,.int .i64 y.1,.int .i64 y.2] 213)) w.heap.size 150 #[.int .i64 x.1,.int .i64 x.2]:=((Blk.new_ rfl _ _).alloc _).alloc _;have hYB:Blk (((w.alloc (.cells #[.int .i64 x.1,.int .i64 x.2] 150)).alloc (.cells #[.int .i64 y.1,.int .i64 y.2] 150)).alloc (.cells #[.int .i64 x.1,.int .i64 x.2,.int .i64 y.1,.int .i64 y.2] 213)) (w.heap.size+1) 150 #[.int .i64 y.1,.int .i64 y.2]:=(Blk.new_ (by simp) _ _).alloc _;have hEB:Blk (((w.alloc (.cells #[.int .i64 x.1,.int .i64 x.2] 150)).alloc (.cells #[.int .i64 y.1,.int .i64 y.2] 150)).alloc (.cells #[.int .i64 x.1,.int .i64 x.2,.int .i64 y.1,.int .i64 y.2] 213)) (w.heap.size+1+1) 213 #[.int .i64 x.1,.int .i64 x.2,.int .i64 y.1,.int .i64 y.2]:=Blk.new_ (by simp) _ _;have hb0:Below w.heap.size w (((w.alloc (.cells #[.int .i64 x.1,.int .i64 x.2] 150)).alloc (.cells #[.int .i64 y.1,.int .i64 y.2] 150)).alloc (.cells #[.int .i64 x.1,.int .i64 x.2,.int .i64 y.1,.int .i64 y.2] 213)):=(((bR _ _).alloc (nR _) _).alloc (by simp) _).alloc (by simp;omega) _;generalize (((w.alloc (.cells #[.int .i64 x.1,.int .i64 x.2] 150)).alloc (.cells #[.int .i64 y.1,.int .i64 y.2] 150)).alloc (.cells #[.int .i64 x.1,.int .i64 x.2,.int .i64 y.1,.int .i64 y.2] 213))=wa at hXB hYB hEB hb0 ⊢;have hM0:=HH.o1.mem.below hb0;obtain ⟨f,hm1,hf⟩:=hM0.edges;simp only [rmOf] at hm1 hf;have hkey:keyOf Tryz.prog 213 (.agg #[.int .i64 x.1,.int .i64 x.2,.int .i64 y.1,.int .i64 y.2])=some (kEd x y):=keyOf_ed x y HH.o2 HH.o3;have htot:=HH.o1.tot;unfold sumF at htot;have hln:r.edges.length<maxLen:=by unfold maxLen;omega
  obtain ⟨st,o1,W1,he1,hg1,ho1,hsz1,hW⟩:=(show MapS Tryz.prog 213 wa.drew C.be r.edges.length f from hm1).entry edLaw Tryz.underlying77 (z:=.int .i64 0) (fun u=>Tryz.zeroValue3 u) hln hkey
  have hl0:=(show MapS Tryz.prog 213 wa.drew C.be r.edges.length f from hm1).lookup (Keyed.of_law edLaw) Tryz.underlying77 (Tryz.zeroValue3 wa.drew) hkey;obtain ⟨hl1,hst⟩:=hW W1 ho1;have hval:(f (kEd x y)).getD (.int .i64 0)=.int .i64 (r.tries.count (x,y):Int):=by
    rw [hf _ _ HH.o2 HH.o3]
    by_cases h0:(x,y)∈r.edges
    · simp [h0]
    · have:r.tries.count (x,y)=0:=List.count_eq_zero.2 (fun h=>h0 ((HH.o1.te _).1 h))
      simp [h0,this]
  rw [hval] at hl0 hl1 he1;obtain ⟨cn,hcn⟩:=eX (r.tries.count (x,y));have hcl:cn<4611686018427387904:=by rw [<- hcn];exact HH.o4
  have hcm:cn=0↔(x,y) ∉ r.edges:=by rw [<- hcn,List.count_eq_zero];exact not_congr (HH.o1.te _)
  rw [hcn] at hl0 hl1 he1;obtain ⟨W2,he2,hm2,hg2⟩:=hst (.int .i64 ((cn:Int)+1));obtain ⟨nb,hnb⟩:=eX w.heap.size;rw [hnb] at hXB hYB hEB ⊢;obtain ⟨_,_,b9,_,_,_,bz⟩:=box_cells hM0.box;have hbl:=HH.o1.mem.lt C.be (by rw [HH.o1.mem.roles.be];simp);have hne1:C.rb≠C.be:=by intro e;have h1:=hM0.roles.rb;rw [e,hM0.roles.be] at h1;cases h1
  have hne2:nb+1+1≠C.be:=by omega
  obtain ⟨x0,x1,x2,x3,_⟩:=hEB.facts4;have s1:∀ {q i:Nat} {u:Value},q≠C.be->wa.cell? ⟨q,i,none⟩=some u->W1.cell? ⟨q,i,none⟩=some u:=fun {q i u} hq hc=>by
    have hlt:q<wa.heap.size:=wL _ _ hc;exact (wB (hg1.block q hlt (by intro e;injection e with e;exact hq e))).trans hc
  have y9:=s1 hne1 b9;have y0:=s1 hne2 x0;have y1:=s1 hne2 x1;have y2:=s1 hne2 x2;have y3:=s1 hne2 x3;have hcw:IntKind.i64.wrap ((cn:Int)+1)=(cn:Int)+1:=IntWalk.i64_in _ (by omega);have hE2:EdgesW C (if (x,y)∈r.edges then r.edges else r.edges++[(x,y)]) (r.tries++[(x,y)]) W2:=EdgesW.tried HH.o2 HH.o3 HH.o1.mem.eok HH.o1.te hf (by rw [hcn];exact hm2)
  have hgg:=grown_trans hg1 hg2;have hga:wa.grownBy W2 (some C.be):=⟨hgg.os,hgg.tape,hgg.output,hgg.size,hgg.block⟩;obtain ⟨hM2,hk2⟩:=hM0.setEdges hga hE2 (fun e he=>by
    by_cases h0:(x,y)∈r.edges
    · rw [if_pos h0] at he;exact HH.o1.mem.eok e he
    · rw [if_neg h0] at he
      rcases List.mem_append.1 he with he | he
      · exact HH.o1.mem.eok e he
      · rw [List.mem_singleton] at he;subst he;exact ⟨HH.o2,HH.o3⟩) (by split <;> (try rw [List.length_append,List.length_singleton]) <;> omega)
  have hrn:∀ q,nb<=q->ρ q=none:=fun q hq=>by
    cases hr:ρ q with
    | none=>rfl
    | some R=>have:=HH.o1.mem.lt q (by rw [hr];simp);omega
  have hX2:=hk2.blk (hrn nb (by omega)) hXB;have hY2:=hk2.blk (hrn (nb+1) (by omega)) hYB;have hE2b:=hk2.blk (hrn (nb+1+1) (by omega)) hEB
  have hkw:KeepR ρ w W2:=(KeepR.of (ρ:=ρ) hb0).same hk2;have hlk2:∀ k,(Instr.lookup 77 (.map (some C.be)) (.agg #[.int .i64 x.1,.int .i64 x.2,.int .i64 y.1,.int .i64 y.2]) false).run Tryz.prog (W2.drewN k)=.ok (.int .i64 (cn+1)) (W2.drewN k):=fun k=>by
    have h1:=(hm2.drewN k).lookup (Keyed.of_law edLaw) Tryz.underlying77 (Tryz.zeroValue3 (W2.drewN k)) hkey;rw [putV_same f _ ((Keyed.of_law edLaw).key hkey)] at h1;exact h1
  have H2:=Z9.mk hM2 hkw hX2 hY2 hE2b hcm hnb hrn hlk2;clear hM0 hb0 hXB hYB hEB hm2 hg1 hg2 hcn hf hval hW hst hm1 s1 hsz1 hM2 hk2 hX2 hY2 hE2b hkw hE2 hgg hga hlk2 hcm hnb hrn;apply via
  · intro KV
    go_region
    all_goals (try go_simp)
    all_goals exact KV.out
  intros
  clear hl0 hl1 he1 he2 x0 x1 x2 x3 y0 y1 y2 y3 y9 b9 bz;obtain ⟨_,_,b9,_,_,_,bz⟩:=box_cells H2.o1.box;obtain ⟨x0,x1,x2,x3,_⟩:=H2.o5.facts4;have hlk2:=H2.o9;go_upto_region 3 with fail
  by_cases hc0:cn=0
  · subst hc0
    have hnm:(x,y) ∉ r.edges:=H2.o6.1 rfl;have H3:=Hd hnm;clear hnm
    go_quiet (fail)
    go_wp2_with fail
    have hM3:=H2.o1.below (show Below W2.heap.size W2 (W2.drewN nq) from below_drewN (bR _ _) nq);have hk3:=H2.o2.same (KeepR.of (below_drewN (bR _ _) nq));have hX3:=H2.o3.drewN nq;have hY3:=H2.o4.drewN nq;rw [if_neg H3.out] at hM3;clear hlk2 x0 x1 x2 x3 b9 bz;generalize W2.drewN nq=W3 at hM3 hk3 hX3 hY3 ⊢
    cases hl:r.left with
    | zero =>
      have hbx:Blk W3 C.rb 81 (boxC C p 0):=by have h1:=hM3.box;simp only [rmOf,hl] at h1;exact h1
      refine (step_stop C p W3 hbx).mono ?_;rintro e w4 ⟨rfl,rfl⟩;have hkk:=hk3.same (KeepR.grown (ρ:=ρ) (grown_set (grown_refl W3 (some C.rb)) (p:=⟨C.rb,7,none⟩) rfl (.int .i64 (-1))) (fun b e=>by injection e with e;subst e;rw [hM3.roles.rb];simp));refine An rfl ?_;unfold linkF;rw [if_neg H3.out,if_pos hl];exact An rfl hkk
    | succ k =>
      have hbx:Blk W3 C.rb 81 (boxC C p (k+1)):=by have h1:=hM3.box;simp only [rmOf,hl] at h1;exact h1
      have htot:=HH.o1.tot;unfold sumF at htot;have hkl:k<=4398046511104:=by omega
      refine (step_go C p k (by omega) W3 hbx).mono ?_;rintro e w4 ⟨rfl,rfl⟩;obtain ⟨hM4,hk4⟩:=hM3.setLeft k hkl;have hX4:=hk4.blk (H2.o8 nb (nR _)) hX3;have hY4:=hk4.blk (H2.o8 (nb+1) (by omega)) hY3;have hkw4:=hk3.same hk4;clear hk4 hX3 hY3 hk3 hM3 hbx;generalize W3.setCell ⟨C.rb,7,none⟩ (.int .i64 k)=W4 at hM4 hX4 hY4 hkw4 ⊢;obtain ⟨x0,x1,_⟩:=hX4.facts2;have H4:=Z4.mk hM4 hkw4 hX4 hY4;clear hM4 hkw4 hX4 hY4;go_wp2_with fail
      have hnl:r.nodes.length<4398046511104:=by have:=HH.o1.nn;omega
      refine (push_any C p left w0 ρ _ W4 H4.o1 x HH.o2 rfl hnl (by simp only [rmOf];omega)).mono ?_;rintro e W3 ⟨rfl,ρ5,hM5,hk5,hr5⟩;simp only [rmOf] at hM5;have hnbw:=H2.o7;have hX5:=hk5.blk (H2.o8 nb (nR _)) H4.o3;have hY5:=hk5.blk (H2.o8 (nb+1) (by omega)) H4.o4;have hρX:ρ5 nb=none:=(hr5 nb H4.o3.lt).trans (H2.o8 nb (nR _));have hρY:ρ5 (nb+1)=none:=(hr5 (nb+1) H4.o4.lt).trans (H2.o8 (nb+1) (by omega))
      obtain ⟨k,fb,vb,h1,h2,h3,h4⟩:=hM5.back;simp only at h1 h2 h3 h4;obtain ⟨gs,hgs⟩:=eX (vb x);have hh:=h4 x;rw [hgs] at hh;have hkb:keyOf Tryz.prog 150 (.agg #[.int .i64 x.1,.int .i64 x.2])=some (kNd x):=keyOf_nd x HH.o2;have hnv:(fb (kNd x)).getD (.slice none 0 0)=gs:=by
        rw [h3 x HH.o2]
        by_cases hr:backF r.edges x=[]
        · rw [if_pos hr];exact (hh.2.2 hr).symm
        · rw [if_neg hr];simpa using hgs
      have hrl:(backF r.edges x).length<4398046511104:=by
        unfold backF;rw [List.length_map];have:=List.length_filter_le (fun e:Nd × Nd=>e.1==x) r.edges;omega
      have hnbb:gs.ownBlock≠some C.bb:=fun e=>by have:=hh.2.1 _ e;rw [hM5.roles.bb] at this;cases this
      have hbbl:C.bb<W3.heap.size:=h1.lt;have hrbb:C.rb≠C.bb:=fun e=>by have h5:=hM5.roles.rb;rw [e,hM5.roles.bb] at h5;cases h5
      have hrg:gs.ownBlock≠some C.rb:=fun e=>by have:=hh.2.1 _ e;rw [hM5.roles.rb] at this;cases this
      have hxb:nb≠C.bb:=fun e=>by rw [e,hM5.roles.bb] at hρX;cases hρX
      have hyb:nb+1≠C.bb:=fun e=>by rw [e,hM5.roles.bb] at hρY;cases hρY
      have hxg:gs.ownBlock≠some nb:=fun e=>by have:=hh.2.1 _ e;rw [hρX] at this;cases this
      have hyg:gs.ownBlock≠some (nb+1):=fun e=>by have:=hh.2.1 _ e;rw [hρY] at this;cases this
      have HC:=Hd (show ∀ W,GB C.bb gs.ownBlock W3.drew W->W.cell? ⟨C.rb,8,none⟩=some (.map (some C.bb)) /\ W.cell? ⟨nb,0,none⟩=some (.int .i64 x.1) /\ W.cell? ⟨nb,1,none⟩=some (.int .i64 x.2) /\ W.cell? ⟨nb+1,0,none⟩=some (.int .i64 y.1) /\ W.cell? ⟨nb+1,1,none⟩=some (.int .i64 y.2) from fun W hG =>
        ⟨(hG.blk hM5.box.drew hrbb hrg).cell 8,(hG.blk hX5.drew hxb hxg).cell 0,(hG.blk hX5.drew hxb hxg).cell 1,(hG.blk hY5.drew hyb hyg).cell 0,(hG.blk hY5.drew hyb hyg).cell 1⟩)
      have HZ:=Hd (show ∀ W,GB C.bb gs.ownBlock W3.drew W->W3.heap.size<=W.heap.size from fun W hG=>hG.size);have HP:=Z7.mk hh.1 hrl (show ∀ b,gs.ownBlock=some b->∀ W,GB C.bb gs.ownBlock W3.drew W->b<W.heap.size from fun b hb W hG=>nL (own_lt hh.1 hb) hG.size) hnbb (show ∀ W,GB C.bb gs.ownBlock W3.drew W->C.bb<W.heap.size from fun W hG=>nL hbbl hG.size) (show ∀ b,gs.ownBlock=some b->b<W3.heap.size from fun b hb=>own_lt hh.1 hb) hbbl;have HM:=Z4.mk h1 (show k<=4398046511104 by omega) hkb hnv;have H5:=Z3.mk hM5 (H4.o2.same hk5) (fun b (hb:b<w.heap.size)=>hr5 b (by have:=H4.o2.size;omega));have HR:=Hd h4;clear hM5 hk5 hr5 hX5 hY5 hρX hρY hh hkb hnv hrl hnbb hbbl hrbb hrg hxb hyb hxg hyg h4 x0 x1;go_upto_region 7 with fail
      refine wp_region_concT 11 (liR C x y gs W3.heap.size (backF r.edges x).length (flatK encNd (backF r.edges x)) (StoreOk C k fb (kNd x))) (fun A W=>GB C.bb gs.ownBlock A W) (fun L W=>(L.getD 9 false=false->∀ b,gs.ownBlock=some b->W.heap[b]?=W3.heap[b]?) /\ (L.getD 7 false=false->W.heap[C.bb]?=W3.heap[C.bb]?) /\ (L.getD 7 false=false->L.getD 10 false=false)) (by kernel_rfl) (by kernel_rfl) (by kernel_rfl) (by kernel_rfl) (GB.refl _ _ _) ⟨fun _ b hb=>rfl,fun _=>rfl,fun _=>rfl⟩ (fun h k=>h.trans k) ?_ ?_
      · simp only [List.take_succ_cons,List.take_zero]
        refine ⟨?_,?_,?_,?_,?_,?_,?_,?_,?_,?_,?_,trivial⟩
        · intro L T W hG hJ hLs hLi dq fq vq K hK
          have h1:=fq 0 (by decide);simp at h1;go_simp;exact hK _ _ (GB.refl _ _ W) (fun j u _ _ _ h=>h) ⟨fun e=>hJ.1 (by rwa [getD_set_ne false (by decide)] at e),fun e=>hJ.2.1 (by rwa [getD_set_ne false (by decide)] at e),fun e=>by rw [getD_set_ne false (by decide)];exact hJ.2.2 (by rwa [getD_set_ne false (by decide)] at e)⟩ rfl
        · intro L T W hG hJ hLs hLi dq fq vq K hK
          have h1:=vq ⟨0,.data⟩ (by simp) rfl 32 rfl;simp only [liR] at h1;simp at h1;go_simp;exact hK _ _ (GB.refl _ _ W) (fun j u _ _ _ h=>h) ⟨fun e=>hJ.1 (by rwa [getD_set_ne false (by decide)] at e),fun e=>hJ.2.1 (by rwa [getD_set_ne false (by decide)] at e),fun e=>by rw [getD_set_ne false (by decide)];exact hJ.2.2 (by rwa [getD_set_ne false (by decide)] at e)⟩ rfl
        · intro L T W hG hJ hLs hLi dq fq vq K hK
          have h1:=vq ⟨1,.data⟩ (by simp) rfl 33 rfl;simp only [liR] at h1;simp at h1;go_simp;exact hK _ _ (GB.refl _ _ W) (fun j u _ _ _ h=>h) ⟨fun e=>hJ.1 (by rwa [getD_set_ne false (by decide)] at e),fun e=>hJ.2.1 (by rwa [getD_set_ne false (by decide)] at e),fun e=>by rw [getD_set_ne false (by decide)];exact hJ.2.2 (by rwa [getD_set_ne false (by decide)] at e)⟩ rfl
        · intro L T W hG hJ hLs hLi dq fq vq K hK
          have h1:=vq ⟨2,.data⟩ (by simp) rfl 34 rfl;simp only [liR] at h1;simp at h1;obtain ⟨c0,c1,c2,c3,c4⟩:=HC.out W hG;go_simp;exact hK _ _ (GB.refl _ _ W) (fun j u _ _ _ h=>h) ⟨fun e=>hJ.1 (by rwa [getD_set_ne false (by decide)] at e),fun e=>hJ.2.1 (by rwa [getD_set_ne false (by decide)] at e),fun e=>by rw [getD_set_ne false (by decide)];exact hJ.2.2 (by rwa [getD_set_ne false (by decide)] at e)⟩ rfl
        · intro L T W hG hJ hLs hLi dq fq vq K hK
          have h1:=fq 4 (by decide);simp at h1;obtain ⟨c0,c1,c2,c3,c4⟩:=HC.out W hG;go_simp;exact hK _ _ (GB.refl _ _ W) (fun j u _ _ _ h=>h) ⟨fun e=>hJ.1 (by rwa [getD_set_ne false (by decide)] at e),fun e=>hJ.2.1 (by rwa [getD_set_ne false (by decide)] at e),fun e=>by rw [getD_set_ne false (by decide)];exact hJ.2.2 (by rwa [getD_set_ne false (by decide)] at e)⟩ rfl
        · intro L T W hG hJ hLs hLi dq fq vq K hK
          have h1:=fq 5 (by decide);simp at h1;obtain ⟨c0,c1,c2,c3,c4⟩:=HC.out W hG;go_simp;exact hK _ _ (GB.refl _ _ W) (fun j u _ _ _ h=>h) ⟨fun e=>hJ.1 (by rwa [getD_set_ne false (by decide)] at e),fun e=>hJ.2.1 (by rwa [getD_set_ne false (by decide)] at e),fun e=>by rw [getD_set_ne false (by decide)];exact hJ.2.2 (by rwa [getD_set_ne false (by decide)] at e)⟩ rfl
        · intro L T W hG hJ hLs hLi dq fq vq K hK
          have h1:=vq ⟨5,.data⟩ (by simp) rfl 38 rfl;simp only [liR] at h1;simp at h1;go_simp;have hbn:=(bR W.heap.size W).alloc (nR _) (.cells #[.int .i64 y.1,.int .i64 y.2] 150);exact hK _ _ (GB.of_below hbn) (fun j u _ _ _ h=>liR_low j u h HP.o4 hbn) ⟨fun e b hb=>(hbn.block b (HP.o3 b hb W hG)).trans (hJ.1 (by rwa [getD_set_ne false (by decide)] at e) b hb),fun e=>(hbn.block C.bb (HP.o5 W hG)).trans (hJ.2.1 (by rwa [getD_set_ne false (by decide)] at e)),fun e=>by rw [getD_set_ne false (by decide)];exact hJ.2.2 (by rwa [getD_set_ne false (by decide)] at e)⟩ ⟨_,rfl,(Blk.new W _ _).cell 0,(Blk.new W _ _).cell 1,HZ.out W hG,by simp⟩
        · intro L T W hG hJ hLs hLi dq fq vq K hK
          have h1:=vq ⟨3,.data⟩ (by simp) rfl 35 rfl;have h2:=vq ⟨4,.data⟩ (by simp) rfl 36 rfl;simp only [liR] at h1 h2;simp at h1 h2;have hLi':L.getD 7 false=false:=by rw [<- getD_flip (by rw [hLs];decide)];exact hLi
          have hJb:=hJ.2.1 hLi';obtain ⟨st,o1,w1,hr1,hg1,ho1,hs1,hst⟩:=(HM.o1.of_block hJb).entry ndLaw Tryz.underlying76 (z:=.slice none 0 0) (fun u=>Tryz.zeroValue214 u) (by have:=HM.o2;unfold maxLen;omega) HM.o3;rw [HM.o4] at hr1;go_simp;refine hK _ _ (GB.of_grown hg1) (fun j u _ hji hLj h=>liR_grown j u h hji (fun e=>by subst e;rw [hJ.2.2 hLi'] at hLj;cases hLj) HP.o7 HP.o4 hg1) ⟨fun e b hb=>(hg1.block b (HP.o3 b hb W hG) (fun e2=>by injection e2 with e2;exact HP.o4 (e2 ▸ hb))).trans (hJ.1 (by rwa [getD_set_ne false (by decide)] at e) b hb),fun e=>?_,fun e=>?_⟩ ⟨st,o1,rfl,ho1,fun W' hW' val=>(hst W' hW').2 val⟩
          all_goals rw [getD_set_self (by rw [hLs];decide)] at e;cases e
        · intro L T W hG hJ hLs hLi dq fq vq K hK
          obtain ⟨st,o1,h1,k1,k2⟩:=vq ⟨7,.data⟩ (by simp) rfl 40 rfl;simp at h1;go_simp;exact hK _ _ (GB.refl _ _ W) (fun j u _ _ _ h=>h) ⟨fun e=>hJ.1 (by rwa [getD_set_ne false (by decide)] at e),fun e=>hJ.2.1 (by rwa [getD_set_ne false (by decide)] at e),fun e=>by rw [getD_set_ne false (by decide)];exact hJ.2.2 (by rwa [getD_set_ne false (by decide)] at e)⟩ rfl
        · intro L T W hG hJ hLs hLi dq fq vq K hK
          have h1:=vq ⟨8,.data⟩ (by simp) rfl 37 rfl;obtain ⟨q,h2,k1,k2,k3,k4⟩:=vq ⟨6,.data⟩ (by simp) rfl 39 rfl;have hJ':=hJ.1 (by rw [<- getD_flip (by rw [hLs];decide)];exact hLi);have hown:=own_of_block (w':=W) HP.o1 hJ';obtain ⟨i0,hi,hz0,hz1,hz2⟩:=info_parts infoNd;refine wp_append_ownF W _ _ 214 rfl 0 150 i0 (.agg #[.int .i64 0,.int .i64 0]) 2 16 Tryz.underlying214 hi hz0 hz1 hz2 rfl (by decide) _ _ _ h1 hown ⟨q,0,none⟩ 1 1 (encNd y) h2 rfl ?_ ?_ ?_ ?_ ?_ ?_
          · intro j u hj
            match j,hj with
            | 0,hj=>obtain rfl:Value.int .i64 y.1=u:=by simpa [encNd] using hj
                    exact k1
            | 1,hj=>obtain rfl:Value.int .i64 y.2=u:=by simpa [encNd] using hj
                    exact k2
          · intro u hu;simp [encNd] at hu;rcases hu with rfl | rfl <;> rfl
          · have:=HP.o2;unfold maxLen;omega
          · have:=HP.o2;omega
          · omega
          intro v' W' hown' hg' hfr;refine hK _ _ (GB.of_own hg') (fun j u _ hj _ h=>liR_own j u h hj HP.o4 hg' HP.o6) ⟨fun e=>?_,fun e=>(hg'.block C.bb (HP.o5 W hG) (fun e2=>HP.o4 e2.symm)).trans (hJ.2.1 (by rwa [getD_set_ne false (by decide)] at e)),fun e=>by rw [getD_set_ne false (by decide)];exact hJ.2.2 (by rwa [getD_set_ne false (by decide)] at e)⟩ ⟨hown',fun b hb=>(hfr b hb).imp id (fun h=>Nat.le_trans (HZ.out W hG) h)⟩;rw [getD_set_self (by rw [hLs];decide)] at e
          cases e
        · intro L T W hG hJ hLs hLi dq fq vq K hK
          obtain ⟨st,o1,h1,k1,k2⟩:=vq ⟨7,.data⟩ (by simp) rfl 40 rfl;simp at h1;have hd7:=dq ⟨7,.data⟩ (by simp) rfl;go_simp;exact hK _ _ (GB.refl _ _ W) (fun j u _ _ _ h=>h) ⟨fun e=>hJ.1 (by rwa [getD_set_ne false (by decide)] at e),fun e=>hJ.2.1 (by rwa [getD_set_ne false (by decide)] at e),fun e=>by rw [getD_set_ne false (by decide)] at e;simp only at hd7;rw [hd7] at e;cases e⟩ ⟨st,o1,rfl,k1,k2⟩
      · intro f9 W5 hG hJe hR
        have e3:=hR 3 35 (by decide) rfl;obtain ⟨e9,f9x⟩:=hR 9 41 (by decide) rfl;obtain ⟨st,o1,e10,k1,k2⟩:=hR 10 42 (by decide) rfl;simp only [concDsts,qZ];simp only [liR] at e3;rw [e3,e10];clear e3 e10 hR;obtain ⟨va,vc,hv5⟩:=own_shape e9;obtain ⟨u41,hu41⟩:=eX (f9 41);rw [hu41] at e9 f9x hv5 ⊢;clear hu41;generalize f9 32=v32;generalize f9 33=v33;generalize f9 34=v34;generalize f9 36=v36;generalize f9 38=v38;generalize f9 39=v39;generalize f9 40=v40;generalize f9 37=v37;clear f9;obtain ⟨W6,hrun6,hm6,hg6⟩:=k2 W5 k1 u41;obtain ⟨ρ',r1,r2,r3⟩:=RunM.pushBack H5.o1 HH.o2 HH.o3 (by have:=HH.o1.nn;simp only;omega) h1 h2 h3 HR.out hG.size (fun q hq hn1 hn2=>hG.block q hq hn2 (by rw [<- hgs];exact hn1)) ⟨hG.os,hG.tape,hG.output⟩ e9 (by rw [hgs];exact f9x) hg6 (by split <;> omega) hm6;have H6:=Z3.mk r1 r2 r3;rw [hv5] at hrun6 ⊢;clear e9 f9x hv5 hm6 hg6 r1 r2 r3 hG hJe k1 k2;go_wp2_with fail
        go_ret;unfold linkF;rw [if_neg H3.out,if_neg (by rw [hl];omega)];have hk6:=H5.o2.trans H6.o2 H5.o3;have hr6:Roles w.heap.size ρ ρ':=Roles.trans H5.o3 H6.o3 (by have:=H5.o2.size;omega);have hM6:=H6.o1;refine ⟨rfl,ρ',⟨?_,?_,?_,fun e=>?_⟩,hk6,hr6⟩
        · simp only [rmOf,hl,Nat.add_sub_cancel]
          unfold pushF;unfold pushN at hM6
          by_cases hxn:x∈r.nodes
          · simp only [if_pos hxn] at hM6 ⊢
            simpa using hM6
          · simp only [if_neg hxn] at hM6 ⊢
            simpa using hM6
        · have:=HH.o1.nn
          unfold pushF
          by_cases hxn:x∈r.nodes <;> simp [hxn] <;> omega
        · unfold sumF
          unfold pushF
          by_cases hxn:x∈r.nodes <;> simp [hxn,hl] <;> omega
        · simp only [List.mem_append,List.mem_singleton,HH.o1.te e]
  · have hm:(x,y)∈r.edges:=Classical.byContradiction fun h=>hc0 (H2.o6.2 h)
    have hd:decide (1<(cn:Int)+1)=true:=decide_eq_true (by omega);have H3:=Hd hm;clear hm
    go_quiet (fail)
    go_wp2_with fail
    go_ret;unfold linkF;rw [if_pos H3.out];have hM3:=H2.o1.below (show Below W2.heap.size W2 (W2.drewN nq) from below_drewN (bR _ _) nq);rw [if_pos H3.out] at hM3;refine ⟨rfl,ρ,⟨hM3,HH.o1.nn,HH.o1.tot,fun e=>?_⟩,H2.o2.same (KeepR.of (below_drewN (bR _ _) nq)),Roles.refl _ _⟩;rw [List.mem_append,HH.o1.te e,List.mem_singleton];exact ⟨fun h=>h.elim id (fun h=>h ▸ H3.out),.inl⟩
end Go.Proofs.YthiochcpmfkgcaaGreatDoor.Gl
namespace Go.Proofs.YthiochcpmfkgcaaGreatDoor.Tb
open Go Go.RowKit Go.Proofs Mx
open Go.ChangeShapes Go.WideShapes Go.ChangeAt Go.WideMaps Go.WideElems
theorem bulk_part {H:Type} {d:DataW H} {l:List (DataW H)} (h:d∈l):Rows.uptoBulk d<=Rows.uptoBulkAll l:=by
 induction l with
 | nil=>cases h
 | cons x r ih =>
  simp only [Rows.uptoBulkAll]
  cases List.mem_cons.1 h with
  | inl e=>subst e;omega
  | inr e=>have:=ih e;omega
theorem bulk_pos {H:Type} (d:DataW H):1<=Rows.uptoBulk d:=by
 cases d with
 | lit l=>cases l <;> simp [Rows.uptoBulk]
 | _=>simp [Rows.uptoBulk]
theorem bulk_len {H:Type}:∀ l:List (DataW H),l.length<=Rows.uptoBulkAll l
 | []=>by simp
 | x::r=>by
  have:=bulk_len r;have:=bulk_pos x;simp only [Rows.uptoBulkAll,List.length_cons];omega
theorem spot_none {w:World} {a:Addr} {v:Value} (h:w.cell? a=some v):a.spot=none:=by
 unfold World.cell? at h
 split at h
 ·cases hs:a.spot with
  | none=>rfl
  | some s=>rw [hs] at h;simp at h
 ·cases h
section
variable {H:Type} {enc:TypeId × Value → H} {w:World} {base:Nat} {sp:Nat → Bool} {held:Bool}
theorem slice_openK {α:Type} [Inhabited α] {en:α->List Value} {k:Nat} (hk0:0<k) (hk:∀ x,(en x).length=k) {t E:TypeId} (ht:Tryz.prog.underlying t=some (.slice E)) (hE:Tryz.prog.cellsOf E=k) (P:α->DataW H->Prop)
  (elem:∀ {fuel:Nat} {cs:List Value} {x:DataW H × List MemPlace},DataW.trod enc Tryz.prog w base sp held fuel E cs=some x->∃ a,cs=en a /\ P a x.1)
  {fuel:Nat} {cs:List Value} {x:DataW H × List MemPlace} (h:DataW.trod enc Tryz.prog w base sp held fuel t cs=some x) :
  ∃ (v:Value) (l:List α),cs=[v] /\ SliceK (fun _=>True) en k w v l /\ l.length<=Rows.uptoBulk x.1 /\ ∀ a∈l,∃ d,P a d /\ Rows.uptoBulk d<=Rows.uptoBulk x.1:=by
 rcases Go.Deep.open_slice ht h with ⟨rfl,rfl⟩ | ⟨a,len,cap,m,n,D,Pl,rfl,_,hl,hm,hmm,rfl,hx⟩
 ·exact ⟨_,[],rfl,SliceK.nil,by simp,fun a ha=>by cases ha⟩
 ·have hlm:len<=m:=by rw [hmm];split <;> omega
  have each:∀ i,i<len->∃ q:α,P q (D i) /\ ∀ j u,(en q)[j]?=some u->w.cell? ((a.add (i * k)).add j)=some u:=by
   intro i hi;obtain ⟨cs',h1,h2⟩:=hx i (by omega);rw [hE] at h1;obtain ⟨_,hlen,hcell⟩:=World.cells?_some h1;obtain ⟨q,rfl,hq⟩:=elem h2;refine ⟨q,hq,fun j u hu=>?_⟩;rw [hcell j (by rw [<- hk q];exact (gS.1 hu).1),hu]
  obtain ⟨Q,hQ⟩:=Go.Deep.choose_lt each;have hll:((List.range len).map Q).length=len:=by simp
  have hbD:∀ i,i<len->Rows.uptoBulk (D i)<=Rows.uptoBulk (DataW.slice ((List.range len).map D) ((List.range (m - len)).map fun j=>D (len+j))):=by
   intro i hi;have:=bulk_part (List.mem_map_of_mem (f:=D) (show i∈List.range len by simpa using hi));simp only [Rows.uptoBulk];omega
  refine ⟨_,(List.range len).map Q,rfl,⟨some a,cap,by rw [hll],by rw [hll];exact hl,hm,fun hne=>?_⟩,?_,?_⟩
  ·have hpos:0<len:=by
    rcases Nat.eq_zero_or_pos len with h0 | h0
    ·subst h0;exact absurd rfl hne
    ·exact h0
   have h0:=(hQ 0 hpos).2 0 ((en (Q 0))[0]'(by rw [hk];exact hk0)) (gE _);have e0:(a.add (0 * k)).add 0=a:=by rw [Nat.zero_mul];simp [Addr.add]
   rw [e0] at h0;have hs:=spot_none h0;obtain ⟨g,o,s⟩:=a;simp only at hs;subst hs;refine ⟨g,o,rfl,trivial,wL _ _ h0,fun i y hy j u hu=>?_⟩;obtain ⟨hi,hi2⟩:=gS.1 hy;simp at hi hi2;subst hi2;have:=(hQ i hi).2 j u hu;rw [addr_add,addr_add] at this;exact this
  ·rw [hll];have:=bulk_len ((List.range len).map D);simp only [Rows.uptoBulk];simp at this;omega
  ·intro q hq;obtain ⟨j,hj,rfl⟩:=List.mem_map.1 hq;have hjl:j<len:=by simpa using hj
   exact ⟨D j,(hQ j hjl).1,hbD j hjl⟩
theorem cwSym:Tryz.prog.cellsOf 49=6:=by kernel_rfl
theorem cwKind:Tryz.prog.cellsOf 47=1:=by kernel_rfl
theorem cwInt:Tryz.prog.cellsOf 3=1:=by kernel_rfl
theorem cwStr:Tryz.prog.cellsOf 9=1:=by kernel_rfl
theorem cwSet:Tryz.prog.cellsOf 33=4:=by kernel_rfl
theorem cwU64:Tryz.prog.cellsOf 31=1:=by kernel_rfl
theorem cwProd:Tryz.prog.cellsOf 53=7:=by kernel_rfl
theorem cwRole:Tryz.prog.cellsOf 51=1:=by kernel_rfl
theorem cwBool:Tryz.prog.cellsOf 4=1:=by kernel_rfl
theorem cwSyms:Tryz.prog.cellsOf 50=1:=by kernel_rfl
theorem cwStrs:Tryz.prog.cellsOf 22=1:=by kernel_rfl
theorem cwProds:Tryz.prog.cellsOf 23=1:=by kernel_rfl
theorem cwForbid:Tryz.prog.cellsOf 95=3:=by kernel_rfl
theorem cwFollow:Tryz.prog.cellsOf 97=5:=by kernel_rfl
theorem cwForbids:Tryz.prog.cellsOf 24=1:=by kernel_rfl
theorem cwFollows:Tryz.prog.cellsOf 25=1:=by kernel_rfl
theorem cwGram:Tryz.prog.cellsOf 27=5:=by kernel_rfl
theorem wd_of (s0 s1 s2 s3:Int) (h0:0<=s0 /\ s0<18446744073709551616) (h1:0<=s1 /\ s1<18446744073709551616) (h2:0<=s2 /\ s2<18446744073709551616) (h3:0<=s3 /\ s3<18446744073709551616) :
  ∃ M:Nat,M<2 ^ 256 /\ wd M 0=s0 /\ wd M 1=s1 /\ wd M 2=s2 /\ wd M 3=s3:=by
 obtain ⟨a0,rfl⟩:=Int.eq_ofNat_of_zero_le h0.1;obtain ⟨a1,rfl⟩:=Int.eq_ofNat_of_zero_le h1.1;obtain ⟨a2,rfl⟩:=Int.eq_ofNat_of_zero_le h2.1;obtain ⟨a3,rfl⟩:=Int.eq_ofNat_of_zero_le h3.1;refine ⟨a0+18446744073709551616 * (a1+18446744073709551616 * (a2+18446744073709551616 * a3)),?_,?_,?_,?_,?_⟩
 ·have:(2:Nat) ^ 256=18446744073709551616 * (18446744073709551616 * (18446744073709551616 * 18446744073709551616)):=by decide
  omega
 ·unfold wd;rw [show (2:Nat) ^ (64 * 0)=1 by decide];omega
 ·unfold wd;rw [show (2:Nat) ^ (64 * 1)=18446744073709551616 by decide];omega
 ·unfold wd;rw [show (2:Nat) ^ (64 * 2)=18446744073709551616 * 18446744073709551616 by decide,<- Nat.div_div_eq_div_mul];omega
 ·unfold wd;rw [show (2:Nat) ^ (64 * 3)=18446744073709551616 * (18446744073709551616 * 18446744073709551616) by decide,<- Nat.div_div_eq_div_mul,<- Nat.div_div_eq_div_mul];omega
theorem u64_wf {s:Int} (h:(Lit.int IntKind.u64 s).wf=true):0<=s /\ s<18446744073709551616:=by
 simp [Lit.wf] at h;have h1:IntKind.u64.min=0:=rfl;have h2:IntKind.u64.max=18446744073709551615:=rfl;omega
def I64 (s:Int):Prop:=-9223372036854775808<=s /\ s<=9223372036854775807
theorem i64_wf {s:Int} (h:(Lit.int IntKind.i64 s).wf=true):I64 s:=by
 simp [Lit.wf] at h;have h1:IntKind.i64.min=-9223372036854775808:=rfl;have h2:IntKind.i64.max=9223372036854775807:=rfl;unfold I64;omega
theorem set_open {fuel:Nat} {c0 c1 c2 c3:Value} {x:DataW H × List MemPlace} (h:DataW.trod enc Tryz.prog w base sp held fuel 33 [c0,c1,c2,c3]=some x):∃ M:Nat,M<2 ^ 256 /\ [c0,c1,c2,c3]=encSet M:=by
 obtain ⟨ys,m,_,_,_,hyl,hy⟩:=DataW.trod_array Tryz.underlying33 h;have a0:=hy 0 (by decide);have a1:=hy 1 (by decide);have a2:=hy 2 (by decide);have a3:=hy 3 (by decide);simp only [cwU64,Nat.zero_mul,Nat.one_mul,Nat.mul_one,List.drop_succ_cons,List.drop_zero,List.take_succ_cons,List.take_zero] at a0 a1 a2 a3;rw [gE (by rw [hyl];decide)] at a0 a1 a2 a3;obtain ⟨s0,f0,_,w0⟩:=DataW.trod_int Tryz.underlying31 a0;obtain ⟨s1,f1,_,w1⟩:=DataW.trod_int Tryz.underlying31 a1;obtain ⟨s2,f2,_,w2⟩:=DataW.trod_int Tryz.underlying31 a2;obtain ⟨s3,f3,_,w3⟩:=DataW.trod_int Tryz.underlying31 a3;obtain ⟨M,hM,m0,m1,m2,m3⟩:=wd_of s0 s1 s2 s3 (u64_wf w0) (u64_wf w1) (u64_wf w2) (u64_wf w3);refine ⟨M,hM,?_⟩;injection f0 with f0;injection f1 with f1;injection f2 with f2;injection f3 with f3;subst f0;subst f1;subst f2;subst f3;rw [<- m0,<- m1,<- m2,<- m3]
 rfl
def SymOk (s:Sy):Prop:=s.set<2 ^ 256 /\ I64 s.kind /\ I64 s.sort
theorem sym_open {fuel:Nat} {cs:List Value} {x:DataW H × List MemPlace} (h:DataW.trod enc Tryz.prog w base sp held fuel 49 cs=some x):∃ s:Sy,cs=encSy s /\ SymOk s:=by
 obtain ⟨xs,k,_,_,hl,hxl,hf⟩:=DataW.trod_struct Tryz.underlying49 h;rw [cwSym] at hl;obtain ⟨c0,c1,c2,c3,c4,c5,rfl⟩:∃ c0 c1 c2 c3 c4 c5,cs=[c0,c1,c2,c3,c4,c5]:=by
  match cs,hl with
  | [c0,c1,c2,c3,c4,c5],_=>exact ⟨_,_,_,_,_,_,rfl⟩
 have g0:=hf 0 _ rfl;have g1:=hf 1 _ rfl;have g2:=hf 2 _ rfl;clear hf h;simp only [List.getElem_toArray,List.getElem_cons_succ,List.getElem_cons_zero,cwKind,cwInt,cwSet,List.drop_succ_cons,List.drop_zero,List.take_succ_cons,List.take_zero] at g0 g1 g2;rw [gE (by rw [hxl];decide)] at g0 g1 g2;obtain ⟨k0,e0,_,w0⟩:=DataW.trod_int Tryz.underlying47 g0;obtain ⟨k2,e2,_,w2⟩:=DataW.trod_int Tryz.underlying3 g2;obtain ⟨M,hM,e1⟩:=set_open g1;injection e0 with e0;injection e2 with e2;simp only [encSet,List.cons.injEq,and_true] at e1;obtain ⟨rfl,rfl,rfl,rfl⟩:=e1;subst e0;subst e2;exact ⟨⟨k0,M,k2⟩,rfl,hM,i64_wf w0,i64_wf w2⟩
structure ProdOk (w:World) (B:Nat) (x:Value × Pr):Prop where
 right:SliceK (fun _=>True) encSy 6 w x.1 x.2.right
 len:x.2.right.length<=B
 cons:x.2.cons.length<=B
 sym:∀ s∈x.2.right,SymOk s
 left:I64 x.2.left
 role:I64 x.2.role
 made:I64 x.2.made
theorem prod_open {fuel:Nat} {cs:List Value} {x:DataW H × List MemPlace} (h:DataW.trod enc Tryz.prog w base sp held fuel 53 cs=some x):∃ a:Value × Pr,cs=encPr a /\ ProdOk w (Rows.uptoBulk x.1) a:=by
 haveI:Inhabited Sy:=⟨⟨0,0,0⟩⟩
 obtain ⟨xs,k,_,rfl,hl,hxl,hf⟩:=DataW.trod_struct Tryz.underlying53 h;rw [cwProd] at hl;obtain ⟨c0,c1,c2,c3,c4,c5,c6,rfl⟩:∃ c0 c1 c2 c3 c4 c5 c6,cs=[c0,c1,c2,c3,c4,c5,c6]:=by
  match cs,hl with
  | [c0,c1,c2,c3,c4,c5,c6],_=>exact ⟨_,_,_,_,_,_,_,rfl⟩
 have g0:=hf 0 _ rfl;have g1:=hf 1 _ rfl;have g2:=hf 2 _ rfl;have g3:=hf 3 _ rfl;have g4:=hf 4 _ rfl;have g5:=hf 5 _ rfl;have g6:=hf 6 _ rfl;clear hf h;simp only [List.getElem_toArray,List.getElem_cons_succ,List.getElem_cons_zero,cwRole,cwBool,cwStr,cwSyms,cwInt,cwSet,List.drop_succ_cons,List.drop_zero,List.take_succ_cons,List.take_zero] at g0 g1 g2 g3 g4 g5 g6;have hm:∀ i (hi:i<xs.length),Rows.uptoBulk xs[i].1<=Rows.uptoBulkAll (xs.map (·.1)):=fun i hi=>bulk_part (List.mem_map_of_mem (List.getElem_mem hi));have hx7:xs.length=7:=hxl;rw [gE (by rw [hx7];decide)] at g0 g1 g2 g3 g4 g5 g6;obtain ⟨k0,e0,_,w0⟩:=DataW.trod_int Tryz.underlying3 g0;obtain ⟨v1,l1,e1,s1,b1,p1⟩:=slice_openK (k:=6) (by decide) encSy_len Tryz.underlying50 cwSym (fun s _=>SymOk s) (fun h=>sym_open h) g1;obtain ⟨k2,e2,x2,_⟩:=DataW.trod_string Tryz.underlying9 g2;obtain ⟨k3,e3,_,w3⟩:=DataW.trod_int Tryz.underlying51 g3;obtain ⟨k4,e4,_⟩:=DataW.trod_bool Tryz.underlying4 g4;obtain ⟨k5,e5,_⟩:=DataW.trod_bool Tryz.underlying4 g5;obtain ⟨k6,e6,_,w6⟩:=DataW.trod_int Tryz.underlying3 g6;have b2:=hm 2 (by rw [hx7];decide);rw [x2] at b2;have b1':=hm 1 (by rw [hx7];decide);simp only [List.cons.injEq,and_true] at e0 e1 e2 e3 e4 e5 e6;subst e0 e1 e2 e3 e4 e5 e6;simp only [Rows.uptoBulk] at b2;refine ⟨(c1,⟨k0,l1,k2.data.toList,k3,k4,k5,k6⟩),rfl,s1,?_,?_,fun s hs=>?_,i64_wf w0,i64_wf w3,i64_wf w6⟩
 ·simp only [Rows.uptoBulk];exact Nat.le_trans b1 (Nat.le_trans b1' (Nat.le_succ _))
 ·simp only [Rows.uptoBulk];omega
 ·obtain ⟨d,hd,_⟩:=p1 s hs;exact hd
def encFb (f:Int × Int × Int):List Value:=[.int .i64 f.1,.int .i64 f.2.1,.int .i64 f.2.2]
theorem encFb_len (f:Int × Int × Int):(encFb f).length=3:=rfl
def encFo (f:Int × Nat):List Value:=.int .i64 f.1::encSet f.2
theorem encFo_len (f:Int × Nat):(encFo f).length=5:=rfl
def FbOk (f:Int × Int × Int):Prop:=I64 f.1 /\ I64 f.2.1 /\ I64 f.2.2
def FoOk (f:Int × Nat):Prop:=I64 f.1 /\ f.2<2 ^ 256
theorem fb_open {fuel:Nat} {cs:List Value} {x:DataW H × List MemPlace} (h:DataW.trod enc Tryz.prog w base sp held fuel 95 cs=some x):∃ s,cs=encFb s /\ FbOk s:=by
 obtain ⟨xs,k,_,_,hl,hxl,hf⟩:=DataW.trod_struct Tryz.underlying95 h;rw [cwForbid] at hl;obtain ⟨c0,c1,c2,rfl⟩:∃ c0 c1 c2,cs=[c0,c1,c2]:=by
  match cs,hl with
  | [c0,c1,c2],_=>exact ⟨_,_,_,rfl⟩
 have g0:=hf 0 _ rfl;have g1:=hf 1 _ rfl;have g2:=hf 2 _ rfl;clear hf h;simp only [List.getElem_toArray,List.getElem_cons_succ,List.getElem_cons_zero,cwInt,List.drop_succ_cons,List.drop_zero,List.take_succ_cons,List.take_zero] at g0 g1 g2;rw [gE (by rw [hxl];decide)] at g0 g1 g2;obtain ⟨k0,e0,_,w0⟩:=DataW.trod_int Tryz.underlying3 g0;obtain ⟨k1,e1,_,w1⟩:=DataW.trod_int Tryz.underlying3 g1;obtain ⟨k2,e2,_,w2⟩:=DataW.trod_int Tryz.underlying3 g2;simp only [List.cons.injEq,and_true] at e0 e1 e2;subst e0 e1 e2;exact ⟨(k0,k1,k2),rfl,i64_wf w0,i64_wf w1,i64_wf w2⟩
theorem fo_open {fuel:Nat} {cs:List Value} {x:DataW H × List MemPlace} (h:DataW.trod enc Tryz.prog w base sp held fuel 97 cs=some x):∃ s,cs=encFo s /\ FoOk s:=by
 obtain ⟨xs,k,_,_,hl,hxl,hf⟩:=DataW.trod_struct Tryz.underlying97 h;rw [cwFollow] at hl;obtain ⟨c0,c1,c2,c3,c4,rfl⟩:∃ c0 c1 c2 c3 c4,cs=[c0,c1,c2,c3,c4]:=by
  match cs,hl with
  | [c0,c1,c2,c3,c4],_=>exact ⟨_,_,_,_,_,rfl⟩
 have g0:=hf 0 _ rfl;have g1:=hf 1 _ rfl;clear hf h;simp only [List.getElem_toArray,List.getElem_cons_succ,List.getElem_cons_zero,cwInt,cwSet,List.drop_succ_cons,List.drop_zero,List.take_succ_cons,List.take_zero] at g0 g1;rw [gE (by rw [hxl];decide)] at g0 g1;obtain ⟨k0,e0,_,w0⟩:=DataW.trod_int Tryz.underlying3 g0;obtain ⟨M,hM,e1⟩:=set_open g1;simp only [List.cons.injEq,and_true] at e0;subst e0;exact ⟨(k0,M),by rw [e1];rfl,i64_wf w0,hM⟩
theorem str_open {fuel:Nat} {cs:List Value} {x:DataW H × List MemPlace} (h:DataW.trod enc Tryz.prog w base sp held fuel 9 cs=some x):∃ s:List UInt8,cs=encS s /\ s.length<=Rows.uptoBulk x.1:=by
 obtain ⟨k2,e2,x2,_⟩:=DataW.trod_string Tryz.underlying9 h;subst e2 x2;exact ⟨k2.data.toList,rfl,by simp only [Rows.uptoBulk];omega⟩
structure GramAt (w:World) (N:Nat) (g:Gr) (sv pv fv lv:Value):Prop where
 sorts:SliceK (fun _=>True) encS 1 w sv g.sorts
 prods:∃ l,SliceK (fun _=>True) encPr 7 w pv l /\ (∀ x∈l,ProdOk w N x) /\ l.map (·.2)=g.prods
 forbid:SliceK (fun _=>True) encFb 3 w fv g.forbid
 follow:SliceK (fun _=>True) encFo 5 w lv g.follow
 nsorts:g.sorts.length<=N
 str:∀ s∈g.sorts,s.length<=N
 nprods:g.prods.length<=N
 nforbid:g.forbid.length<=N
 nfollow:g.follow.length<=N
 fb:∀ f∈g.forbid,FbOk f
 fo:∀ f∈g.follow,FoOk f
 start:I64 g.start
theorem gram_open {fuel:Nat} {cs:List Value} {x:DataW H × List MemPlace} (h:DataW.trod enc Tryz.prog w base sp held fuel 27 cs=some x):∃ g sv pv fv lv,cs=[sv,pv,.int .i64 g.start,fv,lv] /\ GramAt w (Rows.uptoBulk x.1) g sv pv fv lv:=by
 haveI:Inhabited Pr:=⟨⟨0,[],[],0,false,false,0⟩⟩
 obtain ⟨xs,k,_,rfl,hl,hxl,hf⟩:=DataW.trod_struct Tryz.underlying27 h;rw [cwGram] at hl;obtain ⟨c0,c1,c2,c3,c4,rfl⟩:∃ c0 c1 c2 c3 c4,cs=[c0,c1,c2,c3,c4]:=by
  match cs,hl with
  | [c0,c1,c2,c3,c4],_=>exact ⟨_,_,_,_,_,rfl⟩
 have g0:=hf 0 _ rfl;have g1:=hf 1 _ rfl;have g2:=hf 2 _ rfl;have g3:=hf 3 _ rfl;have g4:=hf 4 _ rfl;clear hf h;simp only [List.getElem_toArray,List.getElem_cons_succ,List.getElem_cons_zero,cwStrs,cwProds,cwForbids,cwFollows,cwInt,List.drop_succ_cons,List.drop_zero,List.take_succ_cons,List.take_zero] at g0 g1 g2 g3 g4;have hm:∀ i (hi:i<xs.length),Rows.uptoBulk xs[i].1<=Rows.uptoBulkAll (xs.map (·.1)):=fun i hi=>bulk_part (List.mem_map_of_mem (List.getElem_mem hi));have hx5:xs.length=5:=hxl;rw [gE (by rw [hx5];decide)] at g0 g1 g2 g3 g4;obtain ⟨v0,l0,e0,s0,b0,p0⟩:=slice_openK (k:=1) (by decide) encS_len Tryz.underlying22 cwStr (fun s d=>s.length<=Rows.uptoBulk d) (fun h=>str_open h) g0;obtain ⟨v1,l1,e1,s1,b1,p1⟩:=slice_openK (k:=7) (by decide) encPr_len Tryz.underlying23 cwProd (fun s d=>ProdOk w (Rows.uptoBulk d) s) (fun h=>prod_open h) g1;obtain ⟨k2,e2,_,w2⟩:=DataW.trod_int Tryz.underlying3 g2;obtain ⟨v3,l3,e3,s3,b3,p3⟩:=slice_openK (k:=3) (by decide) encFb_len Tryz.underlying24 cwForbid (fun s _=>FbOk s) (fun h=>fb_open h) g3;obtain ⟨v4,l4,e4,s4,b4,p4⟩:=slice_openK (k:=5) (by decide) encFo_len Tryz.underlying25 cwFollow (fun s _=>FoOk s) (fun h=>fo_open h) g4;have q0:=hm 0 (by rw [hx5];decide);have q1:=hm 1 (by rw [hx5];decide);have q3:=hm 3 (by rw [hx5];decide);have q4:=hm 4 (by rw [hx5];decide);simp only [List.cons.injEq,and_true] at e0 e1 e2 e3 e4;subst e0 e1 e2 e3 e4;simp only [Rows.uptoBulk];refine ⟨⟨l0,l1.map (·.2),k2,l3,l4⟩,c0,c1,c3,c4,rfl,s0,⟨l1,s1,fun x hx=>?_,rfl⟩,s3,s4,by show l0.length<=_;omega,fun s hs=>?_,by show (l1.map (·.2)).length<=_;rw [List.length_map];omega,by show l3.length<=_;omega,by show l4.length<=_;omega,fun f hf=>?_,fun f hf=>?_,i64_wf w2⟩
 ·obtain ⟨d,hd,hd2⟩:=p1 x hx;exact ⟨hd.right,by have:=hd.len;omega,by have:=hd.cons;omega,hd.sym,hd.left,hd.role,hd.made⟩
 ·obtain ⟨d,hd,hd2⟩:=p0 s hs;omega
 ·obtain ⟨d,hd,_⟩:=p3 f hf;exact hd
 ·obtain ⟨d,hd,_⟩:=p4 f hf;exact hd
end
section
variable {w w':World} {N:Nat} {g:Gr} {sv pv fv lv:Value}
theorem ProdOk.keep {x:Value × Pr} (h:ProdOk w N x) (hb:Below w.heap.size w w'):ProdOk w' N x:=⟨h.right.all hb,h.len,h.cons,h.sym,h.left,h.role,h.made⟩
theorem GramAt.keep (h:GramAt w N g sv pv fv lv) (hb:Below w.heap.size w w'):GramAt w' N g sv pv fv lv:=by
 obtain ⟨l,h1,h2,h3⟩:=h.prods;exact ⟨h.sorts.all hb,⟨l,h1.all hb,fun x hx=>(h2 x hx).keep hb,h3⟩,h.forbid.all hb,h.follow.all hb,h.nsorts,h.str,h.nprods,h.nforbid,h.nfollow,h.fb,h.fo,h.start⟩
theorem GramAt.prodsAt (h:GramAt w N g sv pv fv lv):ProdsAt (fun _=>True) w pv g.prods:=by
 obtain ⟨l,h1,h2,h3⟩:=h.prods;exact ⟨l,⟨h1,fun x hx=>(h2 x hx).right⟩,h3⟩
theorem GramAt.ok (h:GramAt w N g sv pv fv lv):∀ p∈g.prods,p.right.length<=N /\ p.cons.length<=N /\ (∀ s∈p.right,SymOk s) /\ I64 p.left /\ I64 p.role /\ I64 p.made:=by
 obtain ⟨l,h1,h2,h3⟩:=h.prods;intro p hp;rw [<- h3] at hp;obtain ⟨x,hx,rfl⟩:=List.mem_map.1 hp;have:=h2 x hx;exact ⟨this.len,this.cons,this.sym,this.left,this.role,this.made⟩
theorem slice_shape {α:Type} {D:Nat->Prop} {en:α->List Value} {k:Nat} {v:Value} {l:List α} (h:SliceK D en k w v l):∃ a c,v=.slice a l.length c:=by
 obtain ⟨a,c,e,_⟩:=h;exact ⟨a,c,e⟩
theorem prodsAt_shape {D:Nat->Prop} {ps:List Pr} (h:ProdsAt D w pv ps):∃ a c,pv=.slice a ps.length c:=by
 obtain ⟨l,hl,e⟩:=h;obtain ⟨a,c,e1,_⟩:=hl.row;exact ⟨a,c,by rw [e1,<- e,List.length_map]⟩
end
end Go.Proofs.YthiochcpmfkgcaaGreatDoor.Tb
namespace Go.Proofs.YthiochcpmfkgcaaGreatDoor.Mx
open Go.RowKit
section
variable {P:Program} {md:Region.Mode}
def lateL (len n s:Nat):Array Bool:=((Array.replicate n true)++(Array.replicate (len - n) false)).setIfInBounds s false
def concFB (md:Region.Mode) (l:List Oper) (n s:Nat):Bool :=
 decide (n<=l.length)&&(l.take n).all (fun o=>o.guard.isNone&&o.dst.isSome)&&decide (concDsts l n).Nodup &&
 ((List.range n).all fun i=>((l[i]?).map fun o=>o.after.all fun e=>!Region.binds md e || decide (e.on<i)).getD false) &&
 ((List.range l.length).all fun j=>decide (j<n) || ((List.range n).all fun i=>i==s || ((l[j]?).map fun o=>o.after.any fun e=>Region.binds md e&&e.on==i).getD false)) &&
 (decide (s<n)&&Region.noSelect l.toArray&&Region.free md l.toArray (lateL l.length n s) s&&(Region.ready md l.toArray (lateL l.length n s)).contains s)
structure ConcFOk (md:Region.Mode) (l:List Oper) (n s:Nat):Prop where
 le:n<=l.length
 guard:∀ (i:Nat) (o:Oper),i<n->l[i]?=some o->o.guard=none
 dst:∀ (i:Nat) (o:Oper),i<n->l[i]?=some o->∃ s,o.dst=some s
 apart:∀ (i j:Nat) (oi oj:Oper) (s:Nat),i<n->j<n->l[i]?=some oi->l[j]?=some oj->oi.dst=some s->oj.dst=some s->i=j
 back:∀ (i:Nat) (o:Oper),i<n->l[i]?=some o->∀ e∈o.after,Region.binds md e=true->e.on<i
 waits:∀ (j:Nat) (o:Oper),n<=j->l[j]?=some o->∀ i,i<n->i≠s->∃ e∈o.after,Region.binds md e=true /\ e.on=i
 lt:s<n
 noSel:Region.noSelect l.toArray=true
 free:Region.free md l.toArray (lateL l.length n s) s=true
 rdy:(Region.ready md l.toArray (lateL l.length n s)).contains s=true
theorem concFB_ok {l:List Oper} {n s:Nat} (h:concFB md l n s=true):ConcFOk md l n s:=by
 unfold concFB at h;simp only [Bool.and_eq_true,decide_eq_true_eq,List.all_eq_true,Bool.or_eq_true] at h;obtain ⟨⟨⟨⟨⟨h1,h2⟩,h3⟩,h4⟩,h5⟩,⟨⟨h6,h7⟩,h8⟩,h9⟩:=h;have tk:∀ (i:Nat) (o:Oper),i<n->l[i]?=some o->(l.take n)[i]?=some o:=fun i o hi ho=>by rw [List.getElem?_take_of_lt hi];exact ho
 refine ⟨h1,?_,?_,?_,?_,?_,h6,h7,h8,h9⟩
 ·intro i o hi ho;have:=(h2 o (gM (tk i o hi ho))).1
  simpa using this
 ·intro i o hi ho;have:=(h2 o (gM (tk i o hi ho))).2;exact Option.isSome_iff_exists.1 this
 ·intro i j oi oj s' hi hj hoi hoj hsi hsj;exact nodup_filterMap h3 (tk i oi hi hoi) (tk j oj hj hoj) hsi hsj
 ·intro i o hi ho e he;have:=h4 i (List.mem_range.2 hi);rw [ho] at this;simp only [Option.map_some,Option.getD_some,Array.all_eq_true_iff_forall_mem,decide_eq_true_eq,Bool.or_eq_true,Bool.not_eq_true'] at this;intro hb
  rcases this e he with h | h
  ·rw [hb] at h;cases h
  ·exact h
 ·intro j o hj ho i hi his;have hjl:=(gS.1 ho).1;have:=((h5 j (List.mem_range.2 hjl)).resolve_left (by omega) i (List.mem_range.2 hi)).resolve_left (by simpa using his);rw [ho] at this;simp only [Option.map_some,Option.getD_some] at this;rw [Array.any_eq_true] at this;obtain ⟨k,hk,h⟩:=this;simp only [Bool.and_eq_true,beq_iff_eq] at h;exact ⟨_,Array.getElem_mem hk,h.1,h.2⟩
theorem wpAny_concF {l:List Oper} {n s:Nat} {R:Nat->Value->World->Prop} {G:World->World->Prop} {Q:Exit->Act->World->Prop} {a0:Act} {w0:World}
  (hB:concFB md l n s=true) (hsz:∀ s∈concDsts l n,s<a0.tmps.size) (htrans:∀ {w1 w2:World},G w0 w1->G w1 w2->G w0 w2)
  (hop:ConcObs P md l n R G (fun _ _=>True) Q a0 w0 (l.take n) 0)
  (hQ:∀ c a v w,Q (.panic c) (Act.put a ((l[s]?).bind (·.dst)) v) w->Q (.panic c) a w)
  (hpure:∀ (os:Oper) (T:Array Value) (w:World),l[s]?=some os->(∀ e∈os.after,Region.binds md e=true->∀ s',(l[e.on]?).bind (·.dst)=some s'->R e.on (T.getD s' undef) w)->∃ v,Yields P l.toArray os v { tmps:=T,defers:=a0.defers } /\ R s v w)
  (hend:∀ (f:Nat->Value) (w:World),G w0 w->(∀ i s,i<n->(l[i]?).bind (·.dst)=some s->R i (f s) w) ->
   wpAny P md l.toArray Q (l.length - n) ((Array.replicate n true)++(Array.replicate (l.length - n) false)) { tmps:=(concDsts l n).foldl (fun x s=>x.setIfInBounds s (f s)) a0.tmps,defers:=a0.defers } w) :
  ∀ (m:Nat) (L:Array Bool) (a:Act) (w:World),ConcInv md l n R G (fun _ _=>True) a0 w0 L a w->(List.range n).countP (fun i=>!L.getD i true)=m->wpAny P md l.toArray Q (m+(l.length - n)) L a w:=by
 have ok:=concFB_ok hB;have hle:=ok.le;intro m
 induction m with
 | zero =>
  intro L a w inv hc;have hall:∀ i,i<n->L.getD i false=true:=fun i hi=>by
   rw [List.countP_eq_zero] at hc;have:=hc i (List.mem_range.2 hi);rw [getD_flip (by rw [inv.size];omega)] at this
   simpa using this
  have hL:L=(Array.replicate n true)++(Array.replicate (l.length - n) false):=by
   apply Array.ext (by simp [inv.size];omega);intro i h1 h2
   by_cases hi:i<n
   ·have:=hall i hi;simp [h1] at this;rw [this,Array.getElem_append_left (by simpa using hi)];simp
   ·have:=inv.tail i (by omega);simp [h1] at this;rw [this,Array.getElem_append_right (by simp;omega)];simp
  rw [Nat.zero_add];have h1:=hend (fun s=>a.tmps.getD s undef) w inv.grow (fun i s hi hs=>inv.vals i (hall i hi) s hs)
  rw [hL];have ha:a={ tmps:=(concDsts l n).foldl (fun x s=>x.setIfInBounds s (a.tmps.getD s undef)) a0.tmps,defers:=a0.defers }:=by
   obtain ⟨t,d⟩:=a;have e1:d=a0.defers:=inv.defers;subst e1;congr 1;exact conc_rebuild _ _ _ inv.tmps inv.frame
  rw [ha];exact h1
 | succ m ih =>
  intro L a w inv hc
  by_cases hlate:∀ k,k<n->k≠s->L.getD k true=true
  ·-- all but the late one
   have hsL:L.getD s true=false:=by
    have:0<(List.range n).countP (fun i=>!L.getD i true):=by omega
    rw [List.countP_pos_iff] at this;obtain ⟨k,h1,h2⟩:=this;have h2:L.getD k true=false:=by simpa using h2
    by_cases hks:k=s
    ·rw [<- hks];exact h2
    ·rw [hlate k (List.mem_range.1 h1) hks] at h2;cases h2
   have hsn:=ok.lt;have hLe:L=lateL l.length n s:=by
    unfold lateL;apply Array.ext (by simp [inv.size];omega);intro i h1 h2;have hsz2:i<(Array.replicate n true++Array.replicate (l.length - n) false).size:=by simp;have:=inv.size;omega
    rw [Array.getElem_setIfInBounds hsz2]
    by_cases his:s=i
    ·subst his;rw [if_pos rfl];simp [h1] at hsL;exact hsL
    ·rw [if_neg his]
     by_cases hi:i<n
     ·have:=hlate i hi (Ne.symm his);simp [h1] at this;rw [this,Array.getElem_append_left (by simpa using hi)];simp
     ·have:=inv.tail i (by omega);simp [h1] at this;rw [this,Array.getElem_append_right (by simp;omega)];simp
   obtain ⟨os,hos⟩:∃ os,l[s]?=some os:=⟨_,gE (show s<l.length by omega)⟩
   obtain ⟨d,hd⟩:=ok.dst s os hsn hos;have hdone:∀ e∈os.after,Region.binds md e=true->L.getD e.on false=true:=fun e he hbd=>by
    have hb:=ok.back s os hsn hos e he hbd;rw [<- getD_flip (by rw [inv.size];omega)];exact hlate e.on (by omega) (by omega)
   obtain ⟨v,hy,hRv⟩:=hpure os a.tmps w hos (fun e he hb s' hs'=>inv.vals e.on (hdone e he hb) s' hs')
   have ea:a={ tmps:=a.tmps,defers:=a0.defers }:=by
    have:=inv.defers;obtain ⟨t,d⟩:=a;have e1:d=a0.defers:=this;subst e1
    rfl
   rw [<- ea] at hy;have hdm:d∈concDsts l n:=List.mem_filterMap.2 ⟨os,gM (show (l.take n)[s]?=some os by rw [List.getElem?_take_of_lt hsn];exact hos),hd⟩;rw [show m+1+(l.length - n)=(m+(l.length - n))+1 by omega];refine wpAny_take (oi:=os) (v:=v) (by simpa using hos) ok.noSel (hLe ▸ ok.free) (hLe ▸ ok.rdy) (fun c a w h=>hQ c a v w (by rw [hos];exact h)) hy ?_;refine ih _ _ _ ⟨by simp [inv.size],?_,inv.grow,trivial,by rw [hd];exact inv.defers,?_,?_,?_⟩ ?_
   ·intro j hj;rw [getD_set_ne false (by omega)];exact inv.tail j hj
   ·rw [hd];simp [Act.put,inv.tmps]
   ·intro s' hs;have hne:d≠s':=by rintro rfl;exact hs hdm
    rw [hd];show (a.tmps.setIfInBounds d v).getD s' undef=_;rw [<- inv.frame s' hs];simp [Array.getElem?_setIfInBounds_ne hne]
   ·intro j hj s' hs;rw [hd];show R j ((a.tmps.setIfInBounds d v).getD s' undef) w
    by_cases hji:j=s
    ·subst hji;rw [hos] at hs;simp at hs;rw [hd] at hs;injection hs with hs;subst hs;have hlt:d<a.tmps.size:=by rw [inv.tmps];exact hsz d hdm
     rw [show (a.tmps.setIfInBounds d v).getD d undef=v by simp [hlt]];exact hRv
    ·have hj':L.getD j false=true:=by rwa [getD_set_ne false (Ne.symm hji)] at hj
     have hjn:j<n:=by
      rcases Nat.lt_or_ge j n with h | h
      ·exact h
      ·rw [inv.tail j h] at hj';cases hj'
     obtain ⟨oj,hoj⟩:∃ oj,l[j]?=some oj:=⟨_,gE (show j<l.length by omega)⟩;have hsj:oj.dst=some s':=by rw [hoj] at hs;simpa using hs
     have hne:d≠s':=by
      rintro rfl;exact hji (ok.apart j s oj os d hjn hsn hoj hos hsj hd)
     have hv:=inv.vals j hj' s' hs;have e:(a.tmps.setIfInBounds d v).getD s' undef=a.tmps.getD s' undef:=by simp [Array.getElem?_setIfInBounds_ne hne]
     rw [e];exact hv
   ·have h0:(List.range n).countP (fun x=>!(L.setIfInBounds s true).getD x true)=0:=by
     rw [List.countP_eq_zero];intro x hx
     by_cases hxs:x=s
     ·subst hxs;rw [getD_flip (by simp [inv.size];omega),getD_set_self (by rw [inv.size];omega)];simp
     ·rw [getD_set_ne true (Ne.symm hxs),hlate x (List.mem_range.1 hx) hxs];simp
    have h1:(List.range n).countP (fun x=>!L.getD x true)=1:=by
     rw [List.countP_congr (q:=fun x=>x==s) (fun x hx=>by
      by_cases hxs:x=s
      ·subst hxs;rw [hsL];simp
      ·rw [hlate x (List.mem_range.1 hx) hxs];simp [hxs])]
     have:=List.Nodup.count (a:=s) (List.nodup_range (n:=n));rw [if_pos (List.mem_range.2 hsn)] at this
     simpa [List.count] using this
    omega
  ·obtain ⟨k,hk,hks,hkL⟩:∃ k,k<n /\ k≠s /\ L.getD k true=false:=by
    apply Classical.byContradiction;intro hno;refine hlate fun k h1 h2=>?_
    cases h3:L.getD k true with
    | true=>rfl
    | false=>exact absurd ⟨k,h1,h2,h3⟩ hno
   rw [show m+1+(l.length - n)=(m+(l.length - n))+1 by omega,wpAny]
   constructor
   ·intro hr;exfalso
    obtain ⟨i,hin,hiL,hmin⟩:∃ i,i<n /\ L.getD i true=false /\ ∀ j,j<i->L.getD j true=true:=by
     have h:∃ i,i<n /\ L.getD i true=false:=⟨k,hk,hkL⟩;have:∀ b i,i<=b->i<n->L.getD i true=false->∃ i,i<n /\ L.getD i true=false /\ ∀ j,j<i->L.getD j true=true:=by
      intro b
      induction b with
      | zero=>intro i hi h1 h2;exact ⟨i,h1,h2,fun j hj=>by omega⟩
      | succ b ihb =>
       intro i hi h1 h2
       by_cases hx:∃ j,j<i /\ L.getD j true=false
       ·obtain ⟨j,hj,h3⟩:=hx;exact ihb j (by omega) (by omega) h3
       ·refine ⟨i,h1,h2,fun j hj=>?_⟩
        cases h4:L.getD j true with
        | true=>rfl
        | false=>exact absurd ⟨j,hj,h4⟩ hx
     exact this k k (nR _) hk hkL
    have hil:i<l.length:=by omega
    have ho:l[i]?=some l[i]:=gE hil;have hmem:i∈Region.ready md l.toArray L:=by
     rw [mem_ready];refine ⟨hiL,l[i],by simp,fun e he hbd=>?_⟩;have hb:=ok.back i _ hin ho e he hbd;rw [<- getD_flip (by rw [inv.size];omega)];exact hmin e.on hb
    rw [hr] at hmem
    cases hmem
   ·intro i hi;obtain ⟨hiL,o,ho,hdep⟩:=mem_ready.1 hi;have ho':l[i]?=some o:=by simpa using ho
    have hin:i<n:=by
     rcases Nat.lt_or_ge i n with h | h
     ·exact h
     ·exfalso;obtain ⟨e,he,hb,hon⟩:=ok.waits i o h ho' k hk hks;have:=hdep e he hb;rw [hon,<- getD_flip (by rw [inv.size];omega)] at this;rw [hkL] at this
      cases this
    have hob:=concObs_at _ 0 hop i o (by rw [List.getElem?_take_of_lt hin];exact ho');rw [Nat.zero_add] at hob;obtain ⟨d,hd⟩:=ok.dst i o hin ho';have hdm:d∈concDsts l n:=List.mem_filterMap.2 ⟨o,gM (show (l.take n)[i]?=some o by rw [List.getElem?_take_of_lt hin];exact ho'),hd⟩;unfold wpOp;rw [ho];have hg:=ok.guard i o hin ho';have hw:Region.wanted o (yielded l.toArray a.tmps)=true:=by unfold Region.wanted;rw [hg]
    simp only [hw,if_true];have ea:a={ tmps:=a.tmps,defers:=a0.defers }:=by
     have:=inv.defers;obtain ⟨t,d⟩:=a;have e1:d=a0.defers:=this;subst e1
     rfl
    have key:=hob L a.tmps w inv.grow trivial inv.size hiL hdep inv.frame (fun e he hb s' hs=>inv.vals e.on (hdep e he hb) s' hs) (wpAny P md l.toArray Q (m+(l.length - n)) (L.setIfInBounds i true));rw [<- ea] at key;refine .inl (key ?_);intro v w' hG hst hJ hR;refine ih _ _ _ ⟨by simp [inv.size],?_,htrans inv.grow hG,hJ,by rw [hd];exact inv.defers,?_,?_,?_⟩ ?_
    ·intro j hj;rw [getD_set_ne false (by omega)];exact inv.tail j hj
    ·rw [hd];simp [Act.put,inv.tmps]
    ·intro s' hs;have hne:d≠s':=by rintro rfl;exact hs hdm
     rw [hd];show (a.tmps.setIfInBounds d v).getD s' undef=_;rw [<- inv.frame s' hs];simp [Array.getElem?_setIfInBounds_ne hne]
    ·intro j hj s hs;rw [hd];show R j ((a.tmps.setIfInBounds d v).getD s undef) w'
     by_cases hji:j=i
     ·subst hji;rw [ho'] at hs;simp at hs;rw [hd] at hs;injection hs with hs;subst hs;have hlt:d<a.tmps.size:=by rw [inv.tmps];exact hsz d hdm
      rw [show (a.tmps.setIfInBounds d v).getD d undef=v by simp [hlt]];exact hR
     ·have hj':L.getD j false=true:=by rwa [getD_set_ne false (Ne.symm hji)] at hj
      have hjn:j<n:=by
       rcases Nat.lt_or_ge j n with h | h
       ·exact h
       ·rw [inv.tail j h] at hj';cases hj'
      obtain ⟨oj,hoj⟩:∃ oj,l[j]?=some oj:=⟨_,gE (show j<l.length by omega)⟩;have hsj:oj.dst=some s:=by rw [hoj] at hs;simpa using hs
      have hne:d≠s:=by
       rintro rfl;exact hji (ok.apart j i oj o d hjn hin hoj ho' hsj hd)
      have hv:=inv.vals j hj' s hs;have e:(a.tmps.setIfInBounds d v).getD s undef=a.tmps.getD s undef:=by simp [Array.getElem?_setIfInBounds_ne hne]
      rw [e];exact hst j _ hjn hji hj' hv
    ·have hcnt:∀ (r:List Nat),r.Nodup->i∈r->r.countP (fun x=>!(L.setIfInBounds i true).getD x true)+1=r.countP (fun x=>!L.getD x true):=by
      intro r
      induction r with
      | nil=>intro _ h;cases h
      | cons x r ihr =>
       intro hn hm;rw [List.nodup_cons] at hn;rw [List.countP_cons,List.countP_cons]
       by_cases hx:x=i
       ·subst hx;have h0:∀ y∈r,(L.setIfInBounds x true).getD y true=L.getD y true:=fun y hy=>getD_set_ne true (by rintro rfl;exact hn.1 hy)
        have h1:r.countP (fun y=>!(L.setIfInBounds x true).getD y true)=r.countP (fun y=>!L.getD y true):=by
         apply List.countP_congr;intro y hy;rw [h0 y hy]
        rw [h1,hiL];have h2:(L.setIfInBounds x true).getD x true=true:=by rw [getD_flip (by simp [inv.size];omega)];exact getD_set_self (by rw [inv.size];omega)
        rw [h2];simp
       ·have h2:=ihr hn.2 (by rcases List.mem_cons.1 hm with h | h;exact absurd h.symm hx;exact h);rw [getD_set_ne true (Ne.symm hx)];omega
     have:=hcnt (List.range n) List.nodup_range (List.mem_range.2 hin);omega
theorem wp_region_concF {id:Nat} {l:List Oper} (n s:Nat) {Q:Exit->Act->World->Prop} {a0:Act} {w:World} (R:Nat->Value->World->Prop) (G:World->World->Prop)
  (hm:P.follows .mixedOrders=true) (hB:concFB .any l n s=true) (hS:Region.seqB .any l.toArray (l.length - n) n ((Array.replicate n true)++(Array.replicate (l.length - n) false))=true)
  (hsz:((concDsts l n).all fun s=>decide (s<a0.tmps.size))=true) (h0:G w.drew w.drew)
  (htrans:∀ {w1 w2:World},G w.drew w1->G w1 w2->G w.drew w2)
  (hop:ConcObs P .any l n R G (fun _ _=>True) Q a0 w.drew (l.take n) 0)
  (hQ:∀ c a v w,Q (.panic c) (Act.put a ((l[s]?).bind (·.dst)) v) w->Q (.panic c) a w)
  (hpure:∀ (os:Oper) (T:Array Value) (w:World),l[s]?=some os->(∀ e∈os.after,Region.binds .any e=true->∀ s',(l[e.on]?).bind (·.dst)=some s'->R e.on (T.getD s' undef) w)->∃ v,Yields P l.toArray os v { tmps:=T,defers:=a0.defers } /\ R s v w)
  (hend:∀ (f:Nat->Value) (w1:World),G w.drew w1->(∀ i s,i<n->(l[i]?).bind (·.dst)=some s->R i (f s) w1) ->
   wpList P l.toArray Q (l.drop n) { tmps:=(concDsts l n).foldl (fun x s=>x.setIfInBounds s (f s)) a0.tmps,defers:=a0.defers } w1) :
  (Code.region id l.toArray true).wp P Q a0 w:=by
 refine wp_region_any hm ?_;have hle:=(concFB_ok hB).le;have hrep:∀ j,(Array.replicate l.length false).getD j false=false:=fun j=>by
  by_cases h:j<l.length <;> simp [h]
 have hd:(l.drop n).length=l.length - n:=by simp
 have key:=wpAny_concF (P:=P) (md:=.any) (Q:=Q) (a0:=a0) (w0:=w.drew) hB (by simpa using hsz) htrans hop hQ hpure (fun f w1 h1 h3=>by
  have:=wpAny_of_seq (P:=P) (md:=.any) (Q':=Q) (l.drop n) n _ _ w1 (fun j=>by simp [List.getElem?_drop]) (by rw [hd];exact hS) (hend f w1 h1 h3)
  rwa [hd] at this) n (Array.replicate l.length false) a0 w.drew
  ⟨by simp,fun j _=>hrep j,h0,trivial,rfl,rfl,fun _ _=>rfl,fun i hi=>by rw [hrep] at hi;cases hi⟩ (by
   rw [List.countP_eq_length.2 (fun i hi=>by
    have h:=List.mem_range.1 hi;rw [getD_flip (by simp;omega),hrep];rfl)]
   simp)
 have e:n+(l.length - n)=l.toArray.size:=by simp;omega
 rw [e] at key;have e2:l.toArray.size=l.length:=by simp
 rw [<- e2] at key;exact key
end
end Go.Proofs.YthiochcpmfkgcaaGreatDoor.Mx
