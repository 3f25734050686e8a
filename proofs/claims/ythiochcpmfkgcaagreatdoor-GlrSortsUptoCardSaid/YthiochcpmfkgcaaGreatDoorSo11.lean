/- Walks and plain laws that the last text stands on: TbLead3. -/
import Derived.Test.YthiochcpmfkgcaaGreatDoorSo10
set_option linter.unusedVariables false
set_option linter.unusedSimpArgs false
set_option maxRecDepth 100000
set_option maxHeartbeats 16000000
namespace Go.Proofs.YthiochcpmfkgcaaGreatDoor.Tb
open Go Go.RowKit Go.Proofs Go.Maps Mx Go.Shelf
theorem laidF_self (tm:Array Value):∀ S:List Nat,laidF tm S (fun i=>tm.getD i undef)=tm
 | []=>rfl
 | i::S=>by
  have h:tm.setIfInBounds i (tm.getD i undef)=tm:=by
   apply Array.ext_getElem?;intro j;rw [Array.getElem?_setIfInBounds]
   by_cases hij:i=j
   ·subst hij
    by_cases hi:i<tm.size
    ·simp [hi,Array.getD]
    ·simp [hi]
   ·rw [if_neg hij]
  show S.foldl (fun t i=>t.setIfInBounds i (tm.getD i undef)) (tm.setIfInBounds i (tm.getD i undef))=tm;rw [h];exact laidF_self tm S
attribute [local go_sem] Oper.semAt_some
structure ClassI (b:Nat) (w0:World) (cm:Nat) (l:List It) (W:World):Prop where
 set:Blk W b 33 #[.int .u64 (wd cm 0),.int .u64 (wd cm 1),.int .u64 (wd cm 2),.int .u64 (wd cm 3)]
 box:∃ v,Blk W (b+1) 132 #[v] /\ W.ownsRow (b+4) 134 2 v l.length (flatK encIt l)
 below:Below b w0 W
 size:b+4<=W.heap.size
theorem classI_own (b n0:Nat) (w0:World) (cm:Nat) {β:Type} (l:β->List It) (hn:b+4<=n0):OwnFrom n0 (fun k W=>ClassI b w0 cm (l k) W):=by
 rintro k W W' row h hg hr;have hcells:∀ {g:Nat} {t:TypeId} {cs:Array Value},Blk W g t cs->some g≠row:=fun {g t cs} hB e=>by
  obtain ⟨_,o,ho,hc⟩:=hr g e.symm;unfold Blk at hB;rw [hB] at ho;injection ho with ho;subst ho
  cases hc
 have hrow:∀ {B:Nat} {e:TypeId} {z:Nat} {v:Value} {n:Nat} {xs:List Value},W.ownsRow B e z v n xs->W'.ownsRow B e z v n xs:=fun {B e z v n xs} ho=>by
  refine ho.kept hg ?_
  cases hv:v.ownBlock with
  | none=>exact .inl rfl
  | some x =>
   refine .inr (fun e2=>?_);obtain ⟨_,c',fz,e3⟩:=own_ty ho x hv;obtain ⟨_,o,h1,h2⟩:=hr x e2.symm;rw [e3] at h1;injection h1 with h1;subst h1
   cases h2
 obtain ⟨v,o1,o2⟩:=h.box;exact ⟨h.set.grown hg (hcells h.set),⟨v,o1.grown hg (hcells o1),hrow o2⟩,h.below.trans ⟨hg.os,hg.tape,hg.output,hg.size,fun q hq=>hg.block q (by have:=h.size;omega) (fun e=>by have:=(hr q e.symm).1;omega)⟩,Nat.le_trans h.size hg.size⟩
theorem ClassI.up {b:Nat} {w0 W W':World} {cm:Nat} {l:List It} (h:ClassI b w0 cm l W) (hb:Below W.heap.size W W'):ClassI b w0 cm l W':=by
 obtain ⟨v,o1,o2⟩:=h.box;exact ⟨h.set.below hb h.set.lt,⟨v,o1.below hb o1.lt,row_below o2 hb⟩,h.below.trans (hb.mono (by have:=h.size;omega)),Nat.le_trans h.size hb.size⟩
theorem ClassI.push {b:Nat} {w0 W w3:World} {cm:Nat} {l:List It} (h:ClassI b w0 cm l W) {v v':Value} {x:It} (hb:Blk W (b+1) 132 #[v]) (hr:W.ownsRow (b+4) 134 2 v l.length (flatK encIt l))
  (hg:W.grownBy w3 v.ownBlock) (hr':w3.ownsRow (b+4) 134 2 v' (l.length+1) (flatK encIt l++encIt x)):ClassI b w0 cm (l++[x]) (w3.setCell ⟨b+1,0,none⟩ v'):=by
 have kr:∀ {t:TypeId} {z n:Nat} {u:Value} {xs:List Value},w3.ownsRow (b+4) t z u n xs->(w3.setCell ⟨b+1,0,none⟩ v').ownsRow (b+4) t z u n xs:=fun hu=>hu.kept (grown_set (grown_refl w3 (some (b+1))) (p:=⟨b+1,0,none⟩) rfl v') (row_ne_low hu (by omega));have hsz:=h.size;refine ⟨(h.set.grown hg (blk_ne_row h.set hr (by decide))).far (by simp) _,⟨v',(hb.grown hg (blk_ne_row hb hr (by decide))).set_ 0 v',?_⟩,?_,?_⟩
 ·have:=kr hr';rw [flatK_snoc] at this
  simpa using this
 ·refine (h.below.trans ⟨hg.os,hg.tape,hg.output,hg.size,fun q hq=>hg.block q (by omega) (fun e=>by have:=(hr.lt q e.symm).1;omega)⟩).setCell (p:=⟨b+1,0,none⟩) (by simp) _
 ·have:=hg.size;simpa using (by omega:b+4<=w3.heap.size)
theorem it_two3 (w:World) (a b:Nat):∀ j u,(encIt (a,b))[j]?=some u->(w.alloc (.cells #[.int .i64 a,.int .i64 b] 134)).cell? ((⟨w.heap.size,0,none⟩:Addr).add j)=some u:=by
 intro j u hj;have hb:Blk (w.alloc (.cells #[.int .i64 a,.int .i64 b] 134)) w.heap.size 134 #[.int .i64 a,.int .i64 b]:=Blk.new w _ _;rw [addr_add_,Nat.zero_add,hb.cell j]
 simpa [encIt] using hj
def Round2 (b:Nat) (w0:World) (cm:Nat) (L:List (It × Sy)) (tm:Array Value) (k:Nat) (a':Act) (W:World):Prop :=
 ∃ x8 x9:Nat,a'={ tmps:=((((tm.setIfInBounds 93 (.agg #[.int .i64 ((aK L k).1.1:Int),.int .i64 ((aK L k).1.2:Int)])).setIfInBounds 94 (.agg #[.int .i64 (aK L k).2.kind,.int .u64 (wd (aK L k).2.set 0),.int .u64 (wd (aK L k).2.set 1),.int .u64 (wd (aK L k).2.set 2),.int .u64 (wd (aK L k).2.set 3),.int .i64 (aK L k).2.sort])).setIfInBounds 16 (.pointer (some ⟨x8,0,none⟩))).setIfInBounds 17 (.pointer (some ⟨x9,0,none⟩))),defers:=[] } /\
  (Blk W x8 134 #[.int .i64 ((aK L k).1.1:Int),.int .i64 ((aK L k).1.2:Int)] /\ Blk W x9 49 #[.int .i64 (aK L k).2.kind,.int .u64 (wd (aK L k).2.set 0),.int .u64 (wd (aK L k).2.set 1),.int .u64 (wd (aK L k).2.set 2),.int .u64 (wd (aK L k).2.set 3),.int .i64 (aK L k).2.sort]) /\
  (b+4<=x8 /\ b+4<=x9) /\ ClassI b w0 cm (setL (L.take k) cm) W
theorem round2_own (b n0:Nat) (w0:World) (cm:Nat) (L:List (It × Sy)) (tm:Array Value) (a':Act) (hn:b+4<=n0):OwnFrom n0 (fun k W=>Round2 b w0 cm L tm k a' W):=by
 rintro k W W' row ⟨x8,x9,e,⟨h8,h9⟩,hc,h⟩ hg hr;have hcells:∀ {g:Nat} {t:TypeId} {cs:Array Value},Blk W g t cs->some g≠row:=fun {g t cs} hB e=>by
  obtain ⟨_,o,ho,hc⟩:=hr g e.symm;unfold Blk at hB;rw [hB] at ho;injection ho with ho;subst ho
  cases hc
 exact ⟨x8,x9,e,⟨h8.grown hg (hcells h8),h9.grown hg (hcells h9)⟩,hc,classI_own b n0 w0 cm (fun k=>setL (L.take k) cm) hn k W W' row h hg hr⟩
theorem cell4 {w:World} {g i0 i1 i2 i3:Nat} {u0 u1 u2 u3:Value} {b o:Nat} {v:Value} (h:w.cell? ⟨b,o,none⟩=some v) (hne:b≠g):((((w.setCell ⟨g,i0,none⟩ u0).setCell ⟨g,i1,none⟩ u1).setCell ⟨g,i2,none⟩ u2).setCell ⟨g,i3,none⟩ u3).cell? ⟨b,o,none⟩=some v:=by
 have k:∀ {W:World} (i:Nat) (u:Value),W.cell? ⟨b,o,none⟩=some v->(W.setCell ⟨g,i,none⟩ u).cell? ⟨b,o,none⟩=some v:=fun {W} i u hW=>(wB (Below.heap_setCell W ⟨g,i,none⟩ u b hne)).trans hW;exact k _ _ (k _ _ (k _ _ (k _ _ h)))
structure LeadC (g:Gr) (B mb bm:Nat) (sm:List SM) (n:Nat) (s:SM) (w w2:World) (c1:Nat) (vC:Value) (C:List Nat) (todo:List (Sy × List It)) (es:List (Sy × Nat)) (sm':List SM) (ve:Value) (dl:List Nat) (W:World):Prop where
 e:LeadE g B mb bm (sm.set n (nx s (nextF es))) w2 w2.heap.size todo sm' es ve W
 rowc:W.ownsRow c1 33 4 vC C.length (flatK encSet C)
 marks:MarksAt dl W
 high:∀ d∈dl,w.heap.size<=d
theorem LeadE.up {g:Gr} {B mb bm:Nat} {sm sm':List SM} {w2 W W':World} {c2:Nat} {todo:List (Sy × List It)} {es:List (Sy × Nat)} {ve:Value} (h:LeadE g B mb bm sm w2 c2 todo sm' es ve W) (hb:Below W.heap.size W W'):LeadE g B mb bm sm w2 c2 todo sm' es ve W' :=
 ⟨h.num,h.mkw.below hb,h.keep.trans (KeepM.of hb),row_below h.row hb,h.old,h.new,Nat.le_trans h.size hb.size,h.len,h.more⟩
section
variable {g:Gr} {B mb bm:Nat} {sm:List SM} {n:Nat} {s:SM} {w w2 W W':World} {c1:Nat} {vC:Value} {C:List Nat} {todo:List (Sy × List It)} {es:List (Sy × Nat)} {sm':List SM} {ve:Value} {dl:List Nat}
theorem LeadC.up (h:LeadC g B mb bm sm n s w w2 c1 vC C todo es sm' ve dl W) (hb:Below W.heap.size W W'):LeadC g B mb bm sm n s w w2 c1 vC C todo es sm' ve dl W' :=
 ⟨h.e.up hb,row_below h.rowc hb,marks_up h.marks hb,h.high⟩
theorem LeadE.putNext {M M':Nat} {c2:Nat} (h:LeadE g B mb bm (sm.set n (nx s M)) w2 c2 todo sm' es ve W) (hn:sm[n]?=some s) (hk:KeepM mb bm W W') (hm:MkW g B mb bm (sm'.set n (nx s M')) W') (h1:mb<c2) (h2:bm<c2) :
  LeadE g B mb bm (sm.set n (nx s M')) w2 c2 todo (sm'.set n (nx s M')) es ve W':=by
 have hnl:=(gS.1 hn).1;have hl:(sm.set n (nx s M)).length=sm.length:=List.length_set;have hl':(sm.set n (nx s M')).length=sm.length:=List.length_set;have hmo:sm.length<=sm'.length:=by have:=h.more;omega
 have hsn:sm'[n]?=some (nx s M):=by rw [h.old n (by omega)];simp [hnl]
 refine ⟨?_,hm,h.keep.trans hk,row_keepM hk h.row (by decide) h1 h2,fun k hk'=>?_,fun k x hk' hx=>?_,Nat.le_trans h.size hk.size,h.len,by rw [hl',List.length_set];exact hmo⟩
 ·have h3:=h.num;rw [set_items sm n s (nx s M) hn rfl] at h3;rw [set_items sm n s (nx s M') hn rfl,set_items sm' n (nx s M) (nx s M') hsn rfl];exact h3
 ·by_cases e:n=k
  ·subst e;rw [List.getElem?_set_self (by omega),List.getElem?_set_self (by omega)]
  ·rw [List.getElem?_set_ne e,List.getElem?_set_ne e,h.old k (by omega),List.getElem?_set_ne e]
 ·rw [hl'] at hk';rw [List.getElem?_set_ne (by omega)] at hx;exact h.new k x (by omega) hx
end
theorem lead_three (g:Gr) (hg:Good g) (B mb bm:Nat) (sm:List SM) (n:Nat) (s:SM) (hn:sm[n]?=some s) (hs:Bare s) (w:World) (hm:MkW g B mb bm sm w) (hT:∀ W',KeepM mb bm w W'->Bru W') (hLB:LB<=B)
  (ia:Option Addr) (ic:Nat) (hvi:s.vi=.slice ia s.items.length ic) (w2:World) (hb02:Below w.heap.size w w2) (F0:List (Sy × List It)) (hF0:∀ x∈F0,x.1.kind≠0) (hF0l:F0.length<=10000)
  (hlead:leadsF g s.items=F0++(splitF (ofsL (aheadL g s.items))).filterMap (clsF g (aheadL g s.items)))
  (sm':List SM) (es:List (Sy × Nat)) (ve:Value) (W₀:World) (hE:LeadE g B mb bm sm w2 w2.heap.size F0 sm' es ve W₀)
  (sa:Option Addr) (sc:Nat) (x7:Blk w2 (w.heap.size+1+1+1) 151 #[.slice sa (ofsL (aheadL g s.items)).length sc]) (x7r:w2.ownsRow (w.heap.size+6) 33 4 (.slice sa (ofsL (aheadL g s.items)).length sc) (ofsL (aheadL g s.items)).length (flatK encSet (ofsL (aheadL g s.items))))
  (D:Nat) (xD:w2.heap[D]?=some (.deferred (some []))) (hD:w.heap.size<=D) (hDl:D<w2.heap.size) {u12 u20 u21 u22 u23 u24 u25 u26 u27 u28 u29 u30 u31 u63 u64 u65 u66 u67 u68 u69 u70 u71 u72 u73 u74 u75 u76 u77 u78 u79 u80 u81 u82:Value}
  (c:Code) (hc:(Tryz.f64.body.map (dropSeq 8))=some c) :
  c.wp Tryz.prog (PostL Tryz.prog Tryz.f64 (Led g B mb bm sm n s w)) { tmps:=#[.pointer (some ⟨mb,0,none⟩),.int .i64 n,undef,undef,.slice ia s.items.length ic,.pointer (some ⟨w.heap.size+1,0,none⟩),.pointer (some ⟨w.heap.size+1+1,0,none⟩),.pointer (some ⟨w.heap.size+1+1+1,0,none⟩),undef,undef,ve,undef,u12,undef,undef,undef,undef,undef,undef,undef,u20,u21,u22,u23,u24,u25,u26,u27,u28,u29,u30,u31,undef,undef,undef,undef,undef,undef,undef,undef,undef,undef,undef,undef,undef,undef,undef,undef,undef,undef,undef,undef,undef,undef,undef,undef,undef,undef,undef,undef,undef,undef,undef,u63,u64,u65,u66,u67,u68,u69,u70,u71,u72,u73,u74,u75,u76,u77,u78,u79,u80,u81,u82,undef,undef,undef,undef,undef,undef,undef,undef,undef,undef,undef,undef,undef,undef,undef,undef,undef,undef,undef,undef,undef,undef,undef,undef,undef,undef,undef,undef,undef,undef,undef,undef,undef,undef,undef,undef,undef,undef,undef,undef,undef,undef,undef,undef,undef,undef,undef,undef,undef,undef,undef,undef,undef,undef,undef,undef,undef,undef,undef,undef,undef,undef,undef,undef,undef,undef,undef,undef,undef,undef,undef,undef,undef,undef,undef,undef,undef,undef,undef,undef,undef,undef,undef,undef,undef,undef,undef,undef,undef,undef,undef,undef,undef,undef,undef,undef,undef,undef,undef,undef,undef,undef,undef,undef],defers:={ target:=.collected D,args:=#[] }::[] } W₀:=by
 have ec:(Tryz.f64.body.map (dropSeq 8))=some _:=rfl;rw [ec] at hc;injection hc with hc;subst hc;clear ec;have hS2:=(hm.below hb02).each;have hmw:mb<w.heap.size:=nL hm.mlt hm.size;have hbw:bm<w.heap.size:=nL hm.blt hm.size;have y7:=blk_keepM hE.keep x7 (by decide) (by omega) (by omega)
 have y7r:=row_keepM hE.keep x7r (by decide) (by omega) (by omega)
 have h7:=y7.cell 0;simp at h7;have hTW:Bru W₀:=hT W₀ ((KeepM.of hb02).trans hE.keep);have hofs:∀ x∈ofsL (aheadL g s.items),x<2 ^ 256:=fun x hx=>by
  unfold ofsL at hx;obtain ⟨q,hq,hq2⟩:=List.mem_filterMap.1 hx
  by_cases hk:q.2.kind=0
  ·rw [if_pos hk] at hq2;injection hq2 with hq2;obtain ⟨y,hy,ha,_⟩:=mem_aheadL hq;unfold aheadF rightOf at ha
   cases hp:g.prods[y.1]? with
   | none=>rw [hp] at ha;simp at ha
   | some p =>
    rw [hp] at ha;have h1:=hg.sym p (gM hp) q.2 (gM ha)
    rcases h1 with h1 | h1
    ·rw [<- hq2];exact h1.2.2.2
    ·exact absurd (h1.1.symm.trans hk) (by decide)
  ·rw [if_neg hk] at hq2;cases hq2
 have hsplit:=split_any _ _ hofs _ W₀ (own_sliceK encSet_len y7r) hTW (by have:=hm.size;have:=hb02.size;have:=hE.keep.size;omega);have HO:=Hd hofs;have HM:=Z7.mk hm hg hs hvi hn hT hLB;have HE:=Z9.mk hE x7 x7r xD hD hDl hlead hF0 hb02;have hsz:=hE.keep.size;have HS2:=Hd (fun (M:Nat)=>smok_set (n:=n) hS2 ((hS2 s (gM hn)).nx M));have hsz2:=hb02.size;clear hm hg hs hvi hn hT hLB hE hS2 x7 x7r y7 y7r xD hlead hF0 hb02 hTW hofs;obtain ⟨dsL,hds⟩:∃ ds,({ target:=.collected D,args:=#[] }::[]:List Deferred)=ds:=⟨_,rfl⟩;rw [hds];have HDS:=Hd hds;clear hds;simp only [dropSeq];go_wp2_with fail
 refine hsplit.mono ?_;rintro e w1 ⟨vc,rfl,hrow,hb1⟩;obtain ⟨ca,cc,rfl⟩:=own_shape hrow;have HR:=Z2.mk hrow hb1;clear hrow hb1 hsplit;obtain ⟨C,hC⟩:=eX (splitF (ofsL (aheadL g s.items)));rw [hC] at HR ⊢;have hCl:=splitF_len HO.out;have hClt:=splitF_lt HO.out;rw [hC] at hCl hClt;have HC:=Z2.mk hC hClt;clear hC hClt;obtain ⟨N,hN⟩:=eX C.length;have HN:=Hd hN;rw [hN] at hCl;rw [hN];clear hN;go_wp2_with fail
 rename_i K8 hK8
 have HK8:=Hd hK8;clear hK8;refine wp_loop_free [10,14,15,86,87,88,89,90,91,92,108,109,110,111,112,113,114,115,116,117,118,119,120,121,122,123,124,125,126,127,128,129,130,131,132,133,134,135,136,137,138]
  (fun m u ds Wr=>∃ (i:Nat) (sm':List SM) (es:List (Sy × Nat)) (dl:List Nat),i<=N /\ m=N - i /\ u 86=.int .i64 i /\ ds=marksD dl /\ LeadC g B mb bm sm n s w w2 W₀.heap.size (.slice ca C.length cc) C (F0++(C.take i).filterMap (clsF g (aheadL g s.items))) es sm' (u 10) dl Wr) N ⟨?start,(laidF_self _ _).symm⟩ ?round
 case start =>
  refine ⟨0,sm',es,[D],by omega,rfl,rfl,HDS.out.symm,?_⟩
  have hsz1:=HR.o2.size;have hes0:nextF es=0:=by
   refine nextF_sorts es (fun x hx=>?_);have h1:=numbersF_syms _ _ _ _ HE.o1.num;have h2:x.1∈es.map (·.1):=List.mem_map_of_mem hx;rw [h1] at h2;obtain ⟨y,hy,he⟩:=List.mem_map.1 h2;rw [<- he];exact HE.o8 y hy
  have hsame:sm.set n (nx s (nextF es))=sm:=by
   have h1:nx s (nextF es)=s:=by rw [hes0,<- HM.o3.2.1];rfl
   rw [h1];apply List.ext_getElem?;intro k;rw [List.getElem?_set]
   by_cases e:n=k
   ·subst e;rw [if_pos rfl,if_pos (gS.1 HM.o5).1,HM.o5]
   ·rw [if_neg e]
  rw [List.take_zero,List.filterMap_nil,List.append_nil];have hmark:w1.heap[D]?=some (.deferred (some [])):=by
   have h1:=mark_keepM HE.o1.keep HE.o4 (by omega) (by omega);exact (HR.o2.block D (Array.getElem?_eq_some_iff.1 h1).1).trans h1
  exact ⟨by rw [hsame];exact HE.o1.up HR.o2,HR.o1,(MarksAt.nil w1).cons hmark (by simp),fun d hd=>by rw [List.mem_singleton] at hd;omega⟩
 case round =>
  intro m u ds wr hrel J K hJ hK;obtain ⟨i,sm',es,dl,hi,hm,hu86,rfl,hC⟩:=hrel;simp only [laidF,List.foldl_cons,List.foldl_nil,List.setIfInBounds_toArray,List.set_cons_zero,List.set_cons_succ];rw [hu86];have hJ2:∀ (k:Nat) (a':Act) (w':World) (i':Nat) (sm2:List SM) (es2:List (Sy × Nat)) (dl2:List Nat) (ve2:Value),a'.tmps.getD 86 undef=.int .i64 i'->a'.tmps.getD 10 undef=ve2->a'.defers=marksD dl2->i'<=N->k=N - i' ->
    LeadC g B mb bm sm n s w w2 W₀.heap.size (.slice ca C.length cc) C (F0++(C.take i').filterMap (clsF g (aheadL g s.items))) es2 sm2 ve2 dl2 w'->a'.tmps=laidF _ _ (fun i=>a'.tmps.getD i undef)->J k a' w' :=
   fun k a' w' i' sm2 es2 dl2 ve2 h1 h2 h3 h4 h5 h6 h7=>hJ k a' w' ⟨i',sm2,es2,dl2,h4,h5,h1,h3,by subst h2;exact h6⟩ h7
  have A:=Z4.mk hm hJ2 hK hC;clear hm hJ hK hC hu86 hJ2
  by_cases hlt:i<N
  ·have hC:=A.o4;obtain ⟨cm,hcm⟩:∃ cm,C[i]?=some cm:=⟨_,gE (by rw [HN.out];omega)⟩;have hcs:=HC.o2 cm (gM hcm);have hrow:=hC.rowc;obtain ⟨cg,cc',eo,_⟩:=own_some hrow (by rw [HN.out];omega)
   injection eo with eo eo2 eo3;subst eo;subst eo3;have hc0:wr.cell? ⟨cg,i * 4,none⟩=some (.int .u64 (wd cm 0)):=by
    rw [hrow.cellAt (i * 4) (by rw [HN.out];omega)];have:=flatK_get encSet_len C i cm 0 (.int .u64 (wd cm 0)) hcm rfl
    simpa using this
   have hc1:wr.cell? ⟨cg,i * 4+1,none⟩=some (.int .u64 (wd cm 1)):=by
    rw [hrow.cellAt (i * 4+1) (by rw [HN.out];omega)];have:=flatK_get encSet_len C i cm 1 (.int .u64 (wd cm 1)) hcm rfl
    simpa using this
   have hc2:wr.cell? ⟨cg,i * 4+2,none⟩=some (.int .u64 (wd cm 2)):=by
    rw [hrow.cellAt (i * 4+2) (by rw [HN.out];omega)];have:=flatK_get encSet_len C i cm 2 (.int .u64 (wd cm 2)) hcm rfl
    simpa using this
   have hc3:wr.cell? ⟨cg,i * 4+3,none⟩=some (.int .u64 (wd cm 3)):=by
    rw [hrow.cellAt (i * 4+3) (by rw [HN.out];omega)];have:=flatK_get encSet_len C i cm 3 (.int .u64 (wd cm 3)) hcm rfl
    simpa using this
   have hi0:(0:Int)<=i:=by omega
   have hi1:(i:Int)<N:=by omega
   clear hC hrow;go_wp2_with fail
   have hah:=ahead_any mb ia s.items.length ic ((wr.alloc (.cells #[.int .u64 (wd cm 0),.int .u64 (wd cm 1),.int .u64 (wd cm 2),.int .u64 (wd cm 3)] 33)).alloc (.cells #[.slice none 0 0] 132));refine hah.mono ?_;rintro e w4 ⟨rfl,hw4⟩;have HW4:=Hd hw4;clear hah hw4;go_wp2_with fail
   have hw4:=HW4.out;clear HW4;have hC:=A.o4;have hX1:ClassI wr.heap.size wr cm [] w4:=by
    rw [hw4];exact ⟨(((Blk.new _ _ _).alloc _).alloc _).alloc _,⟨_,((Blk.new_ (by simp) _ _).alloc _).alloc _,World.ownsRow_nil _ _ _ _⟩,(((((bR _ wr).alloc (nR _) _).alloc (by simp) _).alloc (by simp;omega) _).alloc (by simp;omega) _),by simp⟩
   have hB4:Blk w4 (wr.heap.size+2) 127 #[.pointer (some ⟨mb,0,none⟩)]:=by rw [hw4];exact (Blk.new_ (by simp) _ _).alloc _
   have hB5:Blk w4 (wr.heap.size+3) 132 #[.slice ia s.items.length ic]:=by rw [hw4];exact Blk.new_ (by simp) _ _
   clear hw4;have hsz4:=hX1.size;have hlen:(sm.set n (nx s (nextF es))).length=sm.length:=List.length_set;have hnl:n<sm.length:=(gS.1 HM.o5).1;have hsn:sm'[n]?=some (nx s (nextF es)):=by rw [hC.e.old n (by rw [hlen];exact hnl)];simp [hnl]
   have hse:=hC.e.mkw.each _ (gM hsn);have hmwr:mb<wr.heap.size:=nL hC.e.mkw.mlt hC.e.mkw.size;have hDk:MkR (fun q=>q<wr.heap.size∨q=wr.heap.size+3∨q=wr.heap.size+2) w4 mb g :=
    hC.e.mkw.gr.keep (fun q hq hl=>⟨.inl hl,hX1.below.block q hl⟩) hX1.below.size (hX1.below.cell (p:=⟨mb,1,none⟩) hmwr) (hX1.below.cell (p:=⟨mb,5,none⟩) hmwr)
   have hDs:SliceK (fun q=>q<wr.heap.size∨q=wr.heap.size+3∨q=wr.heap.size+2) encIt 2 w4 (.slice ia s.items.length ic) s.items:=by
    obtain ⟨ia',ic',hvi',hic1,hic2,hik⟩:=hse.items;rw [show (nx s (nextF es)).vi=s.vi from rfl,HM.o4] at hvi';injection hvi' with e1 e2 e3;subst e1;subst e3;exact ⟨ia,ic,rfl,hic1,hic2,hik.keep (fun q hq hl=>⟨.inl hl,hX1.below.block q hl⟩)⟩
   have hitr:=ahead_iter (fun q=>q<wr.heap.size∨q=wr.heap.size+3∨q=wr.heap.size+2) (fun _=>True) g mb s.items hse.ok (fun p hp=>by have:=HM.o2.right p hp;omega) _ 4 (by decide) w4 hDk (.inl hmwr) hDs (wr.heap.size+3) (wr.heap.size+2) hB5 hB4 (.inr (.inl rfl)) (.inr (.inr rfl))
   have hse10:=hse.len;rw [nx_items] at hse10;clear hDk hDs hse hsn hlen;refine (wpIn_wide (n:=5)).1 ?_;refine wpIn_rangeFunc_ownT rfl (by decide) (gf:=112) (lb:=#[.pointer (some ⟨wr.heap.size+3,0,none⟩),.pointer (some ⟨wr.heap.size+2,0,none⟩)]) rfl trivial (enters_of Tryz.func112 (by kernel_rfl) rfl)
    hitr KeepD.trans (fun W l o o' h1 h2 h3 h4=>KeepD.putObj (w:=w4) (fun q hq=>by rcases hq with h | h | h <;> omega) l o o' h1 h2 h3 h4) (bR _ _) (fun _ _=>rfl)
    (fun k W=>ClassI wr.heap.size wr cm (setL ((aheadL g s.items).take k) cm) W) (fun _ _ _=>False)
    (classI_own wr.heap.size w4.heap.size wr cm (fun k=>setL ((aheadL g s.items).take k) cm) (by omega))
    (fun _ _ _ _ _ hs _ _=>hs)
    hX1
    (fun tm k a' W=>Round2 wr.heap.size wr cm (aheadL g s.items) tm k a' W) (fun a'=>round2_own _ _ _ _ _ _ a' (by omega)) ?assign ?body ?done ?stop
   case stop=>rintro D c k W _ _ h _;exact h.elim
   case assign =>
    intro lp k W K hk hI hK;have hlt6:=hI.size;have HH:=Hd hI;clear hI hX1 hB4 hB5 hitr;generalize hq:aK (aheadL g s.items) k=q at *;obtain ⟨⟨qa,qb⟩,qs⟩:=q;unfold encA;simp only []
    gi_wp2
    refine hK _ _ ((KeepsOthers.trans (KeepsOthers.alloc _ _) (KeepsOthers.alloc _ _)).from _) (KeepD.below (((bR _ W).alloc (nR _) _).alloc (by simp) _)) ?_;unfold Round2;rw [hq];exact ⟨W.heap.size,W.heap.size+1,rfl,⟨(Blk.new _ _ _).alloc _,Blk.new_ (by simp) _ _⟩,⟨hlt6,by omega⟩,HH.out.up (((bR _ W).alloc (nR _) _).alloc (by simp) _)⟩
   case body =>
    rintro lp k a' W ⟨x8,x9,rfl,⟨h8,h9⟩,⟨hc8,hc9⟩,hI⟩ hk;have hget:(aheadL g s.items)[k]?=some (aK (aheadL g s.items) k):=by unfold aK;simp [List.getD,hk]
    have htk:(aheadL g s.items).take (k+1)=(aheadL g s.items).take k++[aK (aheadL g s.items) k]:=by rw [List.take_add_one,hget];rfl
    have hqm:=gM hget;have hLl:=aheadL_len g s.items;clear hX1 hB4 hB5 hitr hget;obtain ⟨q,hq⟩:=eX (aK (aheadL g s.items) k);rw [hq] at htk hqm h8 h9 ⊢;obtain ⟨⟨qa,qb⟩,⟨qk,qs,qo⟩⟩:=q;have hsy:(qk=0 /\ qo=0 /\ qs≠0 /\ qs<2 ^ 256)∨(qk=1 /\ qs=0 /\ 0<=qo /\ qo<g.sorts.length):=by
     obtain ⟨x,hx,ha,_⟩:=mem_aheadL hqm;unfold aheadF rightOf at ha
     cases hp:g.prods[x.1]? with
     | none=>rw [hp] at ha;simp at ha
     | some p =>
      rw [hp] at ha;exact HM.o2.sym p (gM hp) ⟨qk,qs,qo⟩ (gM ha)
    have hLt:(setL ((aheadL g s.items).take k) cm).length<=100000:=by
     have h1:=setL_len ((aheadL g s.items).take k) cm;have h2:=hse10;rw [List.length_take] at h1;omega
    generalize hT:(aheadL g s.items).take k=T at *;simp only [List.setIfInBounds_toArray,List.set_cons_zero,List.set_cons_succ];obtain ⟨y0,y1,_⟩:=h8.facts2;have z0:=h9.cell 0;have z1:=h9.cell 1;have z2:=h9.cell 2;have z3:=h9.cell 3;have z4:=h9.cell 4;simp at z0 z1 z2 z3 z4;have t0:=hI.set.cell 0;have t1:=hI.set.cell 1;have t2:=hI.set.cell 2;have t3:=hI.set.cell 3;simp at t0 t1 t2 t3
    rcases hsy with ⟨rfl,_,_,hq256⟩ | ⟨rfl,hqs0,hqo0,hqo1⟩
    ·have hwi:=within_any cm qs hcs.1 W;rw [show setV cm=.agg #[.int .u64 (wd cm 0),.int .u64 (wd cm 1),.int .u64 (wd cm 2),.int .u64 (wd cm 3)] from rfl,show setV qs=.agg #[.int .u64 (wd qs 0),.int .u64 (wd qs 1),.int .u64 (wd qs 2),.int .u64 (wd qs 3)] from rfl] at hwi;have HB:=Z4.mk hI h8 h9 htk;clear hI h8 h9 htk hT hq
     gi_wp2
     refine ⟨trivial,(wideF_wide.inRound lp).calls (hwi.mono ?_)⟩;clear hwi;rintro e w5 ⟨rfl,hb5⟩;have hI5:=HB.o1.up hb5;have h85:=HB.o2.below hb5 HB.o2.lt;have hkf5:KeepsFrom w4.heap.size W w5:=KeepsFrom.grown (row:=none) ⟨hb5.os,hb5.tape,hb5.output,hb5.size,fun q hq _=>hb5.block q hq⟩ (fun j e=>by cases e);have hkd5:KeepD (fun q=>q<wr.heap.size∨q=wr.heap.size+3∨q=wr.heap.size+2) W w5:=KeepD.below hb5;obtain ⟨v,s1,s2⟩:=hI5.box;obtain ⟨sa',sc',rfl⟩:=own_shape s2;have s1c:=s1.cell 0;have s1f:=s1.frozen 0;simp at s1c;obtain ⟨y05,y15,_⟩:=h85.facts2;have hbS:=hI5.size;clear y0 y1 z0 z1 z2 z3 z4 t0 t1 t2 t3
     by_cases hwn:withinF cm qs=true
     ·have hd:decide (cm &&& notM qs=0)=true:=decide_eq_true ((within_iff hcs.1 hq256).2 hwn);rw [hd];obtain ⟨i0,hi,hz0,hz1,hz2⟩:=info_parts infoItem;have HC5:=Z6.mk hI5 s1 s2 hkf5 hkd5 h85;clear hI5 s1 s2 hkf5 hkd5 h85 hb5 hd
      gi_wp2_with (gi_at_builtin;refine wpListIn_append_own _ rfl _ _ 132 rfl (wr.heap.size+4) 134 i0 (.agg #[.int .i64 0,.int .i64 0]) 2 16 Tryz.underlying132 hi hz0 hz1 hz2 rfl (by decide) _ (setL T cm).length _ rfl (HC5.o3.alloc _) ⟨w5.heap.size,0,none⟩ 1 1 (encIt (qa,qb)) rfl rfl ?c1 ?c2 ?c3 ?c4 ?c5 ?_)
      case c1=>exact it_two3 w5 qa qb
      case c2=>exact encIt_one (qa,qb)
      case c3=>unfold maxLen;omega
      case c4=>omega
      case c5=>first | omega | (simp;omega)
      intro v' w6 hown' hg6 _;have hgw:w5.grownBy w6 (Value.slice sa' (setL T cm).length sc').ownBlock:=World.grownBy.trans (World.grownBy_alloc _ _ _) hg6;obtain ⟨va',vc',rfl⟩:=own_shape hown';have hbx:=HC5.o2.grown hgw (blk_ne_row HC5.o2 HC5.o3 (by decide));have bc:=hbx.cell 0;have bf:=hbx.frozen 0;simp at bc;have hst:=HC5.o1.push HC5.o2 HC5.o3 hgw hown';have hkf:KeepsFrom w4.heap.size w5 w6:=KeepsFrom.grown hgw (fun j e=>.inr (by obtain ⟨_,c',fz,h⟩:=own_ty HC5.o3 j e;exact ⟨c',_,fz,h⟩));have hrl:=fun j e=>(HC5.o3.lt j e).1;have HC6:=Z4.mk hst hkf hgw hrl;clear hown' hg6 hgw hbx hst hkf hrl
      gi_wp2
      refine ⟨HC5.o4.trans (HC6.o2.trans ((KeepsOthers.setCell _ _ _).from _)),HC5.o5.trans ⟨by have:=HC6.o3.size;simpa using this,fun q hq hl=>?_⟩,?_⟩
      ·rw [Below.heap_setCell w6 ⟨wr.heap.size+1,0,none⟩ _ q (by show q≠wr.heap.size+1;omega)];exact HC6.o3.block q hl (fun e=>by have:=HC6.o4 q e.symm;omega)
      ·show ClassI _ _ _ _ _;rw [HB.o4,setL_snoc,if_pos ⟨rfl,hwn⟩];exact HC6.o1
     ·have hd:decide (cm &&& notM qs=0)=false:=decide_eq_false (fun h=>hwn ((within_iff hcs.1 hq256).1 h));rw [hd];have HC5:=Z3.mk hI5 hkf5 hkd5;clear hI5 s1 s2 hkf5 hkd5 h85 hb5 hd
      gi_wp2
      refine ⟨HC5.o2,HC5.o3,?_⟩;show ClassI _ _ _ _ _;rw [HB.o4,setL_snoc,if_neg (fun h=>hwn h.2)];exact HC5.o1
    ·have HB:=Z4.mk hI h8 h9 htk;clear hI h8 h9 htk hT hq
     gi_wp2
     refine ⟨trivial,?_⟩
     gi_wp2
     refine ⟨KeepsFrom.refl _ _,KeepD.refl _ _,?_⟩;show ClassI _ _ _ _ _;rw [HB.o4,setL_snoc,if_neg (fun h=>absurd (show (1:Int)=0 from h.1) (by decide))];exact HB.o1
   case done =>
    rintro D W hD hI hK;rw [List.take_length] at hI;clear hX1 hB4 hB5 hitr;obtain ⟨v,s1,s2⟩:=hI.box;obtain ⟨ka,kc,rfl⟩:=own_shape s2;have hC3:=hC.up hI.below;have s1c:=s1.cell 0;simp at s1c;have hDM:MarksAt (D::dl) W:=hC3.marks.cons hK (fun h=>by
     have h1:=hC.marks.here D h;have h2:=(Array.getElem?_eq_some_iff.1 h1).1;omega)
    have hDD:marksD (D::dl)={ target:=.collected D,args:=#[] }::marksD dl:=rfl;rw [<- hDD];have HX:=Z5.mk hI hC3 hDM s1 s2;clear hDD hI hC hC3 hDM s1 s2 hK
    go_step
    go_step
    have hcl:ClassI wr.heap.size wr cm (setL (aheadL g s.items) cm) W:=HX.o1
    by_cases hem:setL (aheadL g s.items) cm=[]
    ·have hl0:(setL (aheadL g s.items) cm).length=0:=by rw [hem];rfl
     rw [hl0] at s1c;clear hcl;go_wp2_with fail
     have HK':=Hd HX.o2;go_wp2_with fail
     refine A.o3 _ _ (Handed.intro (N - (i+1)) (by have:=A.o1;omega) (A.o2 _ _ _ (i+1) sm' es (D::dl) (u 10) (by kernel_rfl) (by kernel_rfl) rfl (by omega) rfl ?_ (by kernel_rfl)))
     have htk:(C.take (i+1)).filterMap (clsF g (aheadL g s.items))=(C.take i).filterMap (clsF g (aheadL g s.items)):=by
      rw [List.take_add_one,hcm,List.filterMap_append];simp [clsF,hem]
     rw [htk];exact ⟨HX.o2.e,HX.o2.rowc,HX.o3,fun d hd=>by
      rcases List.mem_cons.1 hd with rfl | hd
      ·have:=A.o4.e.size;omega
      ·exact HX.o2.high d hd⟩
    ·have hln:((setL (aheadL g s.items) cm).length:Int) > 0:=by
      have:(setL (aheadL g s.items) cm).length≠0:=fun e=>hem (List.eq_nil_of_length_eq_zero e);omega
     have t0:=hcl.set.cell 0;have t1:=hcl.set.cell 1;have t2:=hcl.set.cell 2;have t3:=hcl.set.cell 3;simp at t0 t1 t2 t3;clear hcl;go_wp2_with fail
     have hsok:∀ x∈setL (aheadL g s.items) cm,itemOk g x=true:=fun x hx=>by
      unfold setL at hx;obtain ⟨q,hq,hq2⟩:=List.mem_filterMap.1 hx
      by_cases hk:q.2.kind=0 /\ withinF cm q.2.set=true
      ·rw [if_pos hk] at hq2;injection hq2 with hq2;rw [<- hq2];exact aheadL_ok hq
      ·rw [if_neg hk] at hq2;cases hq2
     have hsl1:=setL_len (aheadL g s.items) cm;have hsl2:=aheadL_len g s.items;have hbd:Below W.heap.size W W.drew:=(bR _ W).drew;have hED:=HX.o2.up hbd;have hnum:=number_lead HM.o2 hED.e _ (setL (aheadL g s.items) cm) hsok (by omega) _ (own_sliceK encIt_len HX.o5.drew);have hS29:(fun W':World=>W'.cell? ⟨wr.heap.size,0,none⟩=some (.int .u64 (wd cm 0)) /\ W'.cell? ⟨wr.heap.size,1,none⟩=some (.int .u64 (wd cm 1)) /\ W'.cell? ⟨wr.heap.size,2,none⟩=some (.int .u64 (wd cm 2)) /\ W'.cell? ⟨wr.heap.size,3,none⟩=some (.int .u64 (wd cm 3)) /\ W'.cell? ⟨wr.heap.size+1,0,none⟩=some (.slice ka (setL (aheadL g s.items) cm).length kc)) W.drew:=⟨t0,t1,t2,t3,s1c⟩
     have hWsz:wr.heap.size+4<=W.heap.size:=HX.o1.size;have htk:(C.take (i+1)).filterMap (clsF g (aheadL g s.items))=(C.take i).filterMap (clsF g (aheadL g s.items))++[((⟨0,cm,0⟩:Sy),closedF g (setL (aheadL g s.items) cm))]:=by
      rw [List.take_add_one,hcm,List.filterMap_append];simp [clsF,hem]
     have HT:=Z3.mk htk hED hem;clear hsok hbd htk hED;have hel:es.length<=100000:=by
      have h:=HT.o2.e.len;rw [List.length_append] at h;have h2:=List.length_filterMap_le (clsF g (aheadL g s.items)) (C.take i);rw [List.length_take] at h2;omega
     refine wp_region_held (S:=(fun W':World=>W'.cell? ⟨wr.heap.size,0,none⟩=some (.int .u64 (wd cm 0)) /\ W'.cell? ⟨wr.heap.size,1,none⟩=some (.int .u64 (wd cm 1)) /\ W'.cell? ⟨wr.heap.size,2,none⟩=some (.int .u64 (wd cm 2)) /\ W'.cell? ⟨wr.heap.size,3,none⟩=some (.int .u64 (wd cm 3)) /\ W'.cell? ⟨wr.heap.size+1,0,none⟩=some (.slice ka (setL (aheadL g s.items) cm).length kc))) (by kernel_rfl) ?_;show wpAnyH _ _ _ _ _ 10 #[false,false,false,false,false,false,false,false,false,false] _ W.drew;refine held_take (i:=0) (v:=u 10) rfl (by kernel_rfl) rfl (fun _ _ _ h=>h) (fun W' hW'=>by obtain ⟨q1,q2,q3,q4,q5⟩:=hW';go_simp) hS29 ?_;simp only [Act.put,List.setIfInBounds_toArray,List.set_cons_zero,List.set_cons_succ];refine held_take (i:=1) (v:=.agg #[.int .u64 (wd cm 0),.int .u64 (wd cm 1),.int .u64 (wd cm 2),.int .u64 (wd cm 3)]) rfl (by kernel_rfl) rfl (fun _ _ _ h=>h) (fun W' hW'=>by obtain ⟨q1,q2,q3,q4,q5⟩:=hW';go_simp) hS29 ?_;simp only [Act.put,List.setIfInBounds_toArray,List.set_cons_zero,List.set_cons_succ];refine held_take (i:=2) (v:=.agg #[.int .i64 0,.int .u64 (wd cm 0),.int .u64 (wd cm 1),.int .u64 (wd cm 2),.int .u64 (wd cm 3),.int .i64 0]) rfl (by kernel_rfl) rfl (fun _ _ _ h=>h) (fun W' hW'=>by obtain ⟨q1,q2,q3,q4,q5⟩:=hW';go_simp) hS29 ?_;simp only [Act.put,List.setIfInBounds_toArray,List.set_cons_zero,List.set_cons_succ];refine held_take (i:=3) (v:=.pointer (some ⟨mb,0,none⟩)) rfl (by kernel_rfl) rfl (fun _ _ _ h=>h) (fun W' hW'=>by obtain ⟨q1,q2,q3,q4,q5⟩:=hW';go_simp) hS29 ?_;simp only [Act.put,List.setIfInBounds_toArray,List.set_cons_zero,List.set_cons_succ];refine held_take (i:=4) (v:=.slice ka (setL (aheadL g s.items) cm).length kc) rfl (by kernel_rfl) rfl (fun _ _ _ h=>h) (fun W' hW'=>by obtain ⟨q1,q2,q3,q4,q5⟩:=hW';go_simp) hS29 ?_;simp only [Act.put,List.setIfInBounds_toArray,List.set_cons_zero,List.set_cons_succ];refine held_one (i:=5) (by kernel_rfl) rfl rfl ?_
     intro K5 hK5;go_simp;have hwr2:w2.heap.size<=wr.heap.size:=A.o4.e.size;have hhi:∀ d∈D::dl,w.heap.size<=d:=fun d hd=>by
      rcases List.mem_cons.1 hd with rfl | hd
      ·omega
      ·exact HT.o2.high d hd
     refine hnum.mono ?_;clear hnum;rintro e w3 (⟨q,sm3,rfl,hok⟩ | ⟨rfl,hfull,hk3,hk3r⟩)
     rotate_left
     ·have hnone:numbersF (sm.map (·.items)) (leadsF g s.items)=none:=by
       have h1:=HT.o2.e.full (sy:=⟨0,cm,0⟩) hfull;rw [set_items sm n s _ HM.o5 (nx_items _ _),List.append_assoc,<- HT.o1] at h1;rw [HE.o7,HC.o1];have e1:C.filterMap (clsF g (aheadL g s.items))=(C.take (i+1)).filterMap (clsF g (aheadL g s.items))++(C.drop (i+1)).filterMap (clsF g (aheadL g s.items)):=by rw [<- List.filterMap_append,List.take_append_drop]
       rw [e1,<- List.append_assoc];exact numbersF_none_append _ _ _ h1
      have hkw:KeepM mb bm w w3:=(KeepM.of HE.o9).trans hk3;exact ⟨D::dl,rfl,marks_keepM (show MarksAt (D::dl) W.drew from marks_up HX.o3 ((bR _ W).drew)) hk3r hhi hmw hbw,fun w' hs=>.inr ⟨hnone,rfl,hkw.shut hs hhi⟩⟩
     have hmW:mb<W.heap.size:=by omega
     have hbW:bm<W.heap.size:=by omega
     have B14:Blk w3 wr.heap.size 33 #[.int .u64 (wd cm 0),.int .u64 (wd cm 1),.int .u64 (wd cm 2),.int .u64 (wd cm 3)]:=blk_keepM hok.keepr HX.o1.set.drew (by decide) (by omega) (by omega);have B15:Blk w3 (wr.heap.size+1) 132 #[.slice ka (setL (aheadL g s.items) cm).length kc]:=blk_keepM hok.keepr HX.o4.drew (by decide) (by omega) (by omega);have hrow3:w3.ownsRow w2.heap.size 173 7 (u 10) es.length (flatK encEd es):=row_keepM hok.keepr HT.o2.e.row (by decide) (by omega) (by omega);have hrc3:w3.ownsRow W₀.heap.size 33 4 (.slice (some ⟨cg,0,none⟩) C.length cc) C.length (flatK encSet C):=row_keepM hok.keepr HT.o2.rowc (by decide) (by omega) (by omega);have hmk3:MarksAt (D::dl) w3:=marks_keepM (show MarksAt (D::dl) W.drew from marks_up HX.o3 ((bR _ W).drew)) hok.keepr hhi hmw hbw;have p0:=B14.cell 0;have p1:=B14.cell 1;have p2:=B14.cell 2;have p3:=B14.cell 3;have p4:=B15.cell 0;simp at p0 p1 p2 p3 p4;refine hK5 _ _ ⟨p0,p1,p2,p3,p4⟩ ?_;clear hK5 K5;simp only [Act.put,List.setIfInBounds_toArray,List.set_cons_zero,List.set_cons_succ];refine held_one (i:=6) (by kernel_rfl) rfl rfl ?_;intro K hK;go_simp;refine hK _ _ ⟨p0,p1,p2,p3,p4⟩ ?_;clear hK K;simp only [Act.put,List.setIfInBounds_toArray,List.set_cons_zero,List.set_cons_succ];refine held_one (i:=7) (by kernel_rfl) rfl rfl ?_;intro K hK;go_simp;refine hK _ _ ⟨cell_alloc_ p0 _,cell_alloc_ p1 _,cell_alloc_ p2 _,cell_alloc_ p3 _,cell_alloc_ p4 _⟩ ?_;clear hK K;simp only [Act.put,List.setIfInBounds_toArray,List.set_cons_zero,List.set_cons_succ];refine held_one (i:=8) (by kernel_rfl) rfl rfl ?_;obtain ⟨i0,hi,hz0,hz1,hz2⟩:=info_parts infoEdge;intro K8' hK8';refine wp_append_ownF _ _ _ 143 rfl w2.heap.size 173 i0 (.agg #[.int .i64 0,.int .u64 0,.int .u64 0,.int .u64 0,.int .u64 0,.int .i64 0,.int .i64 0]) 7 56 Tryz.underlying143 hi hz0 hz1 hz2 rfl (by decide) _ es.length (flatK encEd es) rfl (hrow3.alloc _) ⟨w3.heap.size,0,none⟩ 1 1 (edgeC 0 (wd cm 0) (wd cm 1) (wd cm 2) (wd cm 3) 0 q) rfl rfl ?c1 ?c2 ?c3 ?c4 ?c5 ?_
     case c1=>exact edge_cells w3 0 (wd cm 0) (wd cm 1) (wd cm 2) (wd cm 3) 0 q
     case c2=>exact edgeC_one 0 (wd cm 0) (wd cm 1) (wd cm 2) (wd cm 3) 0 q
     case c3=>unfold maxLen;omega
     case c4=>omega
     case c5=>have:=hok.keep.size;first | omega | (simp;omega)
     intro v' w5 hown5 hg5 _;have hgw:w3.grownBy w5 (u 10).ownBlock:=World.grownBy.trans (World.grownBy_alloc _ _ _) hg5;have C14:=B14.grown hgw (blk_ne_row B14 hrow3 (by decide));have C15:=B15.grown hgw (blk_ne_row B15 hrow3 (by decide));have hrc5:=hrc3.kept hgw (row_ne_row hrc3 hrow3 (by decide));have hmk5:=marks_grown hmk3 hrow3 hgw;have hBw:B<=w2.heap.size:=Nat.le_trans HM.o1.size hsz2;have hkw5:KeepM mb bm w2 w5:=hok.keep.grownNew hgw (fun r e=>(hrow3.lt r e).1);have hmkw5:=hok.mkw.edgeGrown (HS2.out _) hok.old hok.new hkw5 hrow3 hBw hgw;have hst:=HT.o2.e.step (nR _) hok.num hok.mkw hok.keep hok.old hok.new hok.more hrow3 hgw (by rw [<- edgeC_set];exact hown5) hmkw5 (Nat.le_trans hok.keep.size hgw.size);rw [List.append_assoc,<- HT.o1] at hst;clear p0 p1 p2 p3 p4;have p0:=C14.cell 0;have p1:=C14.cell 1;have p2:=C14.cell 2;have p3:=C14.cell 3;have p4:=C15.cell 0;simp at p0 p1 p2 p3 p4;refine hK8' _ _ ⟨p0,p1,p2,p3,p4⟩ ?_;clear hK8' K8';simp only [Act.put,List.setIfInBounds_toArray,List.set_cons_zero,List.set_cons_succ];refine held_one (i:=9) (by kernel_rfl) rfl rfl ?_;intro K hK;go_simp;refine hK _ _ ⟨p0,p1,p2,p3,p4⟩ ?_;clear hK K;simp only [Act.put,List.setIfInBounds_toArray,List.set_cons_zero,List.set_cons_succ];refine wpAnyH_done (by kernel_rfl) ?_ _;have hnl:n<sm.length:=(gS.1 HM.o5).1;have hl3:sm.length<=sm3.length:=by have:=hst.more;rwa [List.length_set] at this
     have hsn3:sm3[n]?=some (nx s (nextF es)):=by rw [hst.old n (by rw [List.length_set];exact hnl)];simp [hnl]
     obtain ⟨va,a1,a2⟩:=hst.mkw.all;obtain ⟨ag,ac,rfl,hagB,_,_⟩:=own_some a2 (by omega)
     have x0:w5.cell? ⟨ag,n * 7+2,none⟩=some (.int .u64 (wd (nextF es) 0)):=by
      rw [show n * 7+2=n * 7+2 by omega,a2.cellAt (n * 7+2) (by omega)];exact flatK_get encSM_len sm3 n (nx s (nextF es)) 2 (.int .u64 (wd (nextF es) 0)) hsn3 rfl
     have x1:w5.cell? ⟨ag,n * 7+2+1,none⟩=some (.int .u64 (wd (nextF es) 1)):=by
      rw [show n * 7+2+1=n * 7+3 by omega,a2.cellAt (n * 7+3) (by omega)];exact flatK_get encSM_len sm3 n (nx s (nextF es)) 3 (.int .u64 (wd (nextF es) 1)) hsn3 rfl
     have x2:w5.cell? ⟨ag,n * 7+2+2,none⟩=some (.int .u64 (wd (nextF es) 2)):=by
      rw [show n * 7+2+2=n * 7+4 by omega,a2.cellAt (n * 7+4) (by omega)];exact flatK_get encSM_len sm3 n (nx s (nextF es)) 4 (.int .u64 (wd (nextF es) 2)) hsn3 rfl
     have x3:w5.cell? ⟨ag,n * 7+2+3,none⟩=some (.int .u64 (wd (nextF es) 3)):=by
      rw [show n * 7+2+3=n * 7+5 by omega,a2.cellAt (n * 7+5) (by omega)];exact flatK_get encSM_len sm3 n (nx s (nextF es)) 5 (.int .u64 (wd (nextF es) 3)) hsn3 rfl
     have hmag:mb≠ag:=by have:=hst.mkw.mlt;omega
     have hgs5:W.heap.size<=w5.heap.size:=Nat.le_trans hok.keepr.size hgw.size;have hwag:wr.heap.size≠ag:=fun e=>by
      obtain ⟨_,c',fz,e3⟩:=own_ty a2 ag rfl;unfold Blk at C14;rw [e,e3] at C14;injection C14 with C14;injection C14 with _ C14 _;exact absurd C14 (by decide)
     have hn0:(0:Int)<=n:=by omega
     have hn1:(n:Int)<sm3.length:=by omega
     have hunion:=fun v w hv=>union_any (fun g=>0<=g) [nextF es,cm] v w hv;have HZ:=Z8.mk hst hrc5 hmk5 C14 a2 hsn3 hhi hnl;clear hst hrc5 hmk5 C14 C15 hown5 hg5 hgw hkw5 hmkw5 hok B14 B15 hrow3 hrc3 hmk3 a2 hsn3 hhi hnl
     go_step
     go_step
     have hS30:(fun W':World=>W'.cell? ⟨mb,7,none⟩=some (.slice (some ⟨ag,0,none⟩) sm3.length ac) /\ W'.cell? ⟨wr.heap.size,0,none⟩=some (.int .u64 (wd cm 0)) /\ W'.cell? ⟨wr.heap.size,1,none⟩=some (.int .u64 (wd cm 1)) /\ W'.cell? ⟨wr.heap.size,2,none⟩=some (.int .u64 (wd cm 2)) /\ W'.cell? ⟨wr.heap.size,3,none⟩=some (.int .u64 (wd cm 3))) w5.drew:=⟨a1,p0,p1,p2,p3⟩;obtain ⟨w6,hw6⟩:=eX (w5.drew.alloc (.cells #[.int .u64 (wd (nextF es) 0),.int .u64 (wd (nextF es) 1),.int .u64 (wd (nextF es) 2),.int .u64 (wd (nextF es) 3),.int .u64 (wd cm 0),.int .u64 (wd cm 1),.int .u64 (wd cm 2),.int .u64 (wd cm 3)] 33));have hS30a:(fun W':World=>W'.cell? ⟨mb,7,none⟩=some (.slice (some ⟨ag,0,none⟩) sm3.length ac) /\ W'.cell? ⟨wr.heap.size,0,none⟩=some (.int .u64 (wd cm 0)) /\ W'.cell? ⟨wr.heap.size,1,none⟩=some (.int .u64 (wd cm 1)) /\ W'.cell? ⟨wr.heap.size,2,none⟩=some (.int .u64 (wd cm 2)) /\ W'.cell? ⟨wr.heap.size,3,none⟩=some (.int .u64 (wd cm 3))) w6:=by rw [<- hw6];exact ⟨cell_alloc_ hS30.1 _,cell_alloc_ hS30.2.1 _,cell_alloc_ hS30.2.2.1 _,cell_alloc_ hS30.2.2.2.1 _,cell_alloc_ hS30.2.2.2.2 _⟩
     refine wp_region_held (S:=(fun W':World=>W'.cell? ⟨mb,7,none⟩=some (.slice (some ⟨ag,0,none⟩) sm3.length ac) /\ W'.cell? ⟨wr.heap.size,0,none⟩=some (.int .u64 (wd cm 0)) /\ W'.cell? ⟨wr.heap.size,1,none⟩=some (.int .u64 (wd cm 1)) /\ W'.cell? ⟨wr.heap.size,2,none⟩=some (.int .u64 (wd cm 2)) /\ W'.cell? ⟨wr.heap.size,3,none⟩=some (.int .u64 (wd cm 3)))) (by kernel_rfl) ?_;show wpAnyH _ _ _ _ _ 19 #[false,false,false,false,false,false,false,false,false,false,false,false,false,false,false,false,false,false,false] _ w5.drew;refine held_take (i:=0) (v:=.pointer (some ⟨mb,0,none⟩)) rfl (by kernel_rfl) rfl (fun _ _ _ h=>h) (fun W' hW'=>by obtain ⟨q1,q2,q3,q4,q5⟩:=hW';go_simp) hS30 ?_;simp only [Act.put,List.setIfInBounds_toArray,List.set_cons_zero,List.set_cons_succ];refine held_take (i:=1) (v:=.pointer (some ⟨mb,0,none⟩)) rfl (by kernel_rfl) rfl (fun _ _ _ h=>h) (fun W' hW'=>by obtain ⟨q1,q2,q3,q4,q5⟩:=hW';go_simp) hS30 ?_;simp only [Act.put,List.setIfInBounds_toArray,List.set_cons_zero,List.set_cons_succ];refine held_take (i:=2) (v:=.pointer (some ⟨mb,7,none⟩)) rfl (by kernel_rfl) rfl (fun _ _ _ h=>h) (fun W' hW'=>by obtain ⟨q1,q2,q3,q4,q5⟩:=hW';go_simp) hS30 ?_;simp only [Act.put,List.setIfInBounds_toArray,List.set_cons_zero,List.set_cons_succ];refine held_take (i:=3) (v:=.slice (some ⟨ag,0,none⟩) sm3.length ac) rfl (by kernel_rfl) rfl (fun _ _ _ h=>h) (fun W' hW'=>by obtain ⟨q1,q2,q3,q4,q5⟩:=hW';go_simp) hS30 ?_;simp only [Act.put,List.setIfInBounds_toArray,List.set_cons_zero,List.set_cons_succ];refine held_take (i:=4) (v:=.int .i64 n) rfl (by kernel_rfl) rfl (fun _ _ _ h=>h) (fun W' hW'=>by obtain ⟨q1,q2,q3,q4,q5⟩:=hW';go_simp) hS30 ?_;simp only [Act.put,List.setIfInBounds_toArray,List.set_cons_zero,List.set_cons_succ];refine held_take (i:=5) (v:=.pointer (some ⟨mb,0,none⟩)) rfl (by kernel_rfl) rfl (fun _ _ _ h=>h) (fun W' hW'=>by obtain ⟨q1,q2,q3,q4,q5⟩:=hW';go_simp) hS30 ?_;simp only [Act.put,List.setIfInBounds_toArray,List.set_cons_zero,List.set_cons_succ];refine held_take (i:=6) (v:=.pointer (some ⟨mb,0,none⟩)) rfl (by kernel_rfl) rfl (fun _ _ _ h=>h) (fun W' hW'=>by obtain ⟨q1,q2,q3,q4,q5⟩:=hW';go_simp) hS30 ?_;simp only [Act.put,List.setIfInBounds_toArray,List.set_cons_zero,List.set_cons_succ];refine held_take (i:=7) (v:=.pointer (some ⟨mb,7,none⟩)) rfl (by kernel_rfl) rfl (fun _ _ _ h=>h) (fun W' hW'=>by obtain ⟨q1,q2,q3,q4,q5⟩:=hW';go_simp) hS30 ?_;simp only [Act.put,List.setIfInBounds_toArray,List.set_cons_zero,List.set_cons_succ];refine held_take (i:=8) (v:=.slice (some ⟨ag,0,none⟩) sm3.length ac) rfl (by kernel_rfl) rfl (fun _ _ _ h=>h) (fun W' hW'=>by obtain ⟨q1,q2,q3,q4,q5⟩:=hW';go_simp) hS30 ?_;simp only [Act.put,List.setIfInBounds_toArray,List.set_cons_zero,List.set_cons_succ];refine held_take (i:=9) (v:=.int .i64 n) rfl (by kernel_rfl) rfl (fun _ _ _ h=>h) (fun W' hW'=>by obtain ⟨q1,q2,q3,q4,q5⟩:=hW';go_simp) hS30 ?_;simp only [Act.put,List.setIfInBounds_toArray,List.set_cons_zero,List.set_cons_succ];refine held_take (i:=10) (v:=.pointer (some ⟨ag,n * 7,none⟩)) rfl (by kernel_rfl) rfl (fun _ _ _ h=>h) (fun W' hW'=>by obtain ⟨q1,q2,q3,q4,q5⟩:=hW';go_simp) hS30 ?_;simp only [Act.put,List.setIfInBounds_toArray,List.set_cons_zero,List.set_cons_succ];refine held_take (i:=11) (v:=.pointer (some ⟨ag,n * 7+2,none⟩)) rfl (by kernel_rfl) rfl (fun _ _ _ h=>h) (fun W' hW'=>by obtain ⟨q1,q2,q3,q4,q5⟩:=hW';go_simp) hS30 ?_;simp only [Act.put,List.setIfInBounds_toArray,List.set_cons_zero,List.set_cons_succ];refine held_take (i:=13) (v:=.agg #[.int .u64 (wd cm 0),.int .u64 (wd cm 1),.int .u64 (wd cm 2),.int .u64 (wd cm 3)]) rfl (by kernel_rfl) rfl (fun _ _ _ h=>h) (fun W' hW'=>by obtain ⟨q1,q2,q3,q4,q5⟩:=hW';go_simp) hS30 ?_;simp only [Act.put,List.setIfInBounds_toArray,List.set_cons_zero,List.set_cons_succ];refine held_one (i:=12) (by kernel_rfl) rfl rfl ?_;intro K hK;go_simp;refine hK _ _ hS30 ?_;clear hK K;simp only [Act.put,List.setIfInBounds_toArray,List.set_cons_zero,List.set_cons_succ];refine held_one (i:=14) (by kernel_rfl) rfl rfl ?_
     intro K hK;go_simp;refine hK _ _ hS30a ?_;clear hK K;simp only [Act.put,List.setIfInBounds_toArray,List.set_cons_zero,List.set_cons_succ];refine held_one (i:=15) (by kernel_rfl) rfl rfl ?_;intro K hK;go_simp;have hb56:Below w5.heap.size w5 w6:=by rw [<- hw6];exact ((bR _ w5).drew).alloc (nR _) _
     have hrw6:w6.ownsRow w5.heap.size 33 4 (.slice (some ⟨w5.heap.size,0,none⟩) 2 2) 2 (flatK encSet [nextF es,cm]):=by rw [<- hw6];exact own_fresh w5.drew 33 4 2 _ (nR _) rfl (by decide)
     refine (union_any _ [nextF es,cm] _ w6 (own_sliceK encSet_len hrw6)).mono ?_;rintro e w7 ⟨rfl,hb67⟩;have hb57:Below w5.heap.size w5 w7:=hb56.trans (hb67.mono hb56.size);have hst7:=HZ.o1.up hb57;have hrc7:=row_below HZ.o2 hb57;have hmk7:=marks_up HZ.o3 hb57;have D14:=HZ.o4.below hb57 HZ.o4.lt;have a27:=row_below HZ.o5 hb57;have a17:w7.cell? ⟨mb,7,none⟩=some (.slice (some ⟨ag,0,none⟩) sm3.length ac):=hb57.cell (p:=⟨mb,7,none⟩) (by show mb<w5.heap.size;have:=hgs5;omega) ▸ a1;have d0:=D14.cell 0;have d1:=D14.cell 1;have d2:=D14.cell 2;have d3:=D14.cell 3;simp at d0 d1 d2 d3;refine hK _ _ ⟨a17,d0,d1,d2,d3⟩ ?_;clear hK K;simp only [Act.put,List.setIfInBounds_toArray,List.set_cons_zero,List.set_cons_succ];refine held_one (i:=16) (by kernel_rfl) rfl rfl ?_;intro K hK;go_simp;refine hK _ _ ⟨a17,d0,d1,d2,d3⟩ ?_;clear hK K;simp only [Act.put,List.setIfInBounds_toArray,List.set_cons_zero,List.set_cons_succ];refine held_one (i:=17) (by kernel_rfl) rfl rfl ?_;intro K hK;go_simp;refine hK _ _ ⟨a17,d0,d1,d2,d3⟩ ?_;clear hK K;simp only [Act.put,List.setIfInBounds_toArray,List.set_cons_zero,List.set_cons_succ];have hfz:=a27.frozenAt;have y0:w7.cell? ⟨ag,n * 7+2,none⟩=some (.int .u64 (wd (nextF es) 0)):=by rw [show n * 7+2=n * 7+2 by omega,a27.cellAt (n * 7+2) (by omega)];exact flatK_get encSM_len sm3 n (nx s (nextF es)) 2 (.int .u64 (wd (nextF es) 0)) HZ.o6 rfl
     have y1:w7.cell? ⟨ag,n * 7+2+1,none⟩=some (.int .u64 (wd (nextF es) 1)):=by rw [show n * 7+2+1=n * 7+3 by omega,a27.cellAt (n * 7+3) (by omega)];exact flatK_get encSM_len sm3 n (nx s (nextF es)) 3 (.int .u64 (wd (nextF es) 1)) HZ.o6 rfl
     have y2:w7.cell? ⟨ag,n * 7+2+2,none⟩=some (.int .u64 (wd (nextF es) 2)):=by rw [show n * 7+2+2=n * 7+4 by omega,a27.cellAt (n * 7+4) (by omega)];exact flatK_get encSM_len sm3 n (nx s (nextF es)) 4 (.int .u64 (wd (nextF es) 2)) HZ.o6 rfl
     have y3:w7.cell? ⟨ag,n * 7+2+3,none⟩=some (.int .u64 (wd (nextF es) 3)):=by rw [show n * 7+2+3=n * 7+5 by omega,a27.cellAt (n * 7+5) (by omega)];exact flatK_get encSM_len sm3 n (nx s (nextF es)) 5 (.int .u64 (wd (nextF es) 3)) HZ.o6 rfl
     have hput:=hst7.mkw.putNext a17 HZ.o6 (nextF es ||| cm);have hfin:LeadE g B mb bm (sm.set n (nx s (nextF es ||| cm))) w2 w2.heap.size _ _ _ _ _:=hst7.putNext HM.o5 hput.2 hput.1 (by omega) (by omega);have hrc8:=row_keepM hput.2 hrc7 (by decide) (by omega) (by omega);have hmk8:=marks_keepM hmk7 hput.2 HZ.o7 hmw hbw;have HY:=Z3.mk hfin hrc8 hmk8;refine held_one (i:=18) (by kernel_rfl) rfl rfl ?_;intro K hK;clear hfin hrc8 hmk8 hput hst7 hrc7 hmk7 hb57 hb67 hb56 hrw6 D14 a27;unfold setV;go_simp;refine hK _ _ ⟨cell4 a17 hmag,cell4 d0 hwag,cell4 d1 hwag,cell4 d2 hwag,cell4 d3 hwag⟩ ?_;clear hK K;refine wpAnyH_done (by kernel_rfl) ?_ _
     go_step
     go_step
     go_wp2_with fail
     refine A.o3 _ _ (Handed.intro (N - (i+1)) (by have:=A.o1;omega) (A.o2 _ _ _ (i+1) (sm3.set n (nx s (nextF es ||| cm))) (es++[((⟨0,cm,0⟩:Sy),q)]) (D::dl) v' (by kernel_rfl) (by kernel_rfl) rfl (by omega) rfl ?_ (by kernel_rfl)));refine ⟨?_,HY.o2,HY.o3,HZ.o7⟩;rw [nextF_snoc];exact HY.o1
  ·obtain rfl:i=N:=by omega
   go_wp2_with fail
   have hC:=A.o4;have htk:C.take C.length=C:=List.take_length;rw [HN.out] at htk;rw [htk] at hC;have hE:=hC.e;have hlen:(sm.set n (nx s (nextF es))).length=sm.length:=List.length_set;have hnl:n<sm.length:=(gS.1 HM.o5).1;refine HK8.out _ _ ?_;refine lead_four g HM.o2 B mb bm sm n s HM.o5 HM.o3 w HM.o1 ia ic HM.o4 es sm' ?n1 wr hE.mkw ((KeepM.of HE.o9).trans hE.keep) (by rw [hE.old n (by omega)];simp [hnl]) (fun k hk hkl=>by rw [hE.old k (by omega),List.getElem?_set_ne (Ne.symm hk)]) (fun k x hk hx=>hE.new k x (by omega) hx) w2.heap.size hsz2 (u 10) hE.row dl hC.marks hC.high _ rfl;have h1:=hE.num;rw [set_items sm n s _ HM.o5 (nx_items _ _)] at h1;rw [HE.o7,HC.o1];exact h1
end Go.Proofs.YthiochcpmfkgcaaGreatDoor.Tb
