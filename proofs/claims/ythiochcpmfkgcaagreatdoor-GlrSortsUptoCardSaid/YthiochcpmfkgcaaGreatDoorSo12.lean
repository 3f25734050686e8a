/- Walks and plain laws that the last text stands on: TbLead2, TbSortI, TbLead, TbTellA. -/
import Derived.Test.YthiochcpmfkgcaaGreatDoorSo11
set_option linter.unusedVariables false
set_option linter.unusedSimpArgs false
set_option maxRecDepth 100000
set_option maxHeartbeats 16000000
namespace Go.Proofs.YthiochcpmfkgcaaGreatDoor.Tb
open Go Go.RowKit Go.Proofs Go.Maps Mx Go.Shelf
theorem lead_two (g:Gr) (hg:Good g) (B mb bm:Nat) (sm:List SM) (n:Nat) (s:SM) (hn:sm[n]?=some s) (hs:Bare s) (w:World) (hm:MkW g B mb bm sm w) (hT:∀ W',KeepM mb bm w W'->Bru W') (hLB:LB<=B)
  (hsrt:∀ (c:Nat) (o:List Int) (v:Value) (W:World),o.length<=1000000->W.ownsRow c 3 1 v o.length (flatK encI o)->Calls Tryz.prog 86 #[v] W fun e W'=>e=.returned (.tuple #[]) /\ W'.ownsRow c 3 1 v o.length (flatK encI (o.foldr insInt [])) /\ W.grownBy W' v.ownBlock)
  (ia:Option Addr) (ic:Nat) (hvi:s.vi=.slice ia s.items.length ic)
  (W:World) (D:Nat) (hI:LeadI w.heap.size (w.heap.size+6) w (aheadL g s.items) W) (hK:W.heap[D]?=some (.deferred (some []))) (hD:w.heap.size<=D) {u20 u21 u22 u23 u24 u25 u26 u27 u28 u29 u30 u31:Value}
  (c:Code) (hc:(Tryz.f64.body.map (dropSeq 5))=some c) :
  c.wp Tryz.prog (PostL Tryz.prog Tryz.f64 (Led g B mb bm sm n s w)) { tmps:=#[.pointer (some ⟨mb,0,none⟩),.int .i64 n,undef,undef,.slice ia s.items.length ic,.pointer (some ⟨w.heap.size+1,0,none⟩),.pointer (some ⟨w.heap.size+1+1,0,none⟩),.pointer (some ⟨w.heap.size+1+1+1,0,none⟩),undef,undef,undef,undef,undef,undef,undef,undef,undef,undef,undef,undef,u20,u21,u22,u23,u24,u25,u26,u27,u28,u29,u30,u31,undef,undef,undef,undef,undef,undef,undef,undef,undef,undef,undef,undef,undef,undef,undef,undef,undef,undef,undef,undef,undef,undef,undef,undef,undef,undef,undef,undef,undef,undef,undef,undef,undef,undef,undef,undef,undef,undef,undef,undef,undef,undef,undef,undef,undef,undef,undef,undef,undef,undef,undef,undef,undef,undef,undef,undef,undef,undef,undef,undef,undef,undef,undef,undef,undef,undef,undef,undef,undef,undef,undef,undef,undef,undef,undef,undef,undef,undef,undef,undef,undef,undef,undef,undef,undef,undef,undef,undef,undef,undef,undef,undef,undef,undef,undef,undef,undef,undef,undef,undef,undef,undef,undef,undef,undef,undef,undef,undef,undef,undef,undef,undef,undef,undef,undef,undef,undef,undef,undef,undef,undef,undef,undef,undef,undef,undef,undef,undef,undef,undef,undef,undef,undef,undef,undef,undef,undef,undef,undef,undef,undef,undef,undef,undef,undef,undef,undef,undef,undef,undef,undef,undef,undef,undef,undef],defers:={ target:=.collected D,args:=#[] }::[] } W:=by
 have ec:(Tryz.f64.body.map (dropSeq 5))=some _:=rfl;rw [ec] at hc;injection hc with hc;subst hc;clear ec;have hHb:=hI.below;have hMW:MkW g B mb bm sm W:=hm.below hHb;obtain ⟨f,gv,g1,g2,g3,g4⟩:=hI.grp;obtain ⟨v6,o1,o2⟩:=hI.ord;obtain ⟨vs,s1,s2⟩:=hI.of;obtain ⟨oa,oc,rfl⟩:=own_shape o2;obtain ⟨sa,sc,rfl⟩:=own_shape s2;have b6:=o1.cell 0;simp at b6;have hse:=hm.each s (gM hn);have hilen:=hse.len;have hLl:=aheadL_len g s.items;have hoL:=ordL_len (aheadL g s.items) [];have hoL2:(ordL (aheadL g s.items)).length<=100000:=by have:([]:List Int).length=0:=rfl;unfold ordL;omega
 have hDl:=(Array.getElem?_eq_some_iff.1 hK).1;have hsr:=hsrt _ _ _ W (by omega) o2;have HM:=Z8.mk hm hg hs hse hvi hn hT hLB;have HD:=Z13.mk hI hMW hHb hK g1 g2 g3 o1 o2 s1 s2 hD hDl;clear hI hMW hHb hK g1 g2 g3 g4 o1 o2 s1 s2 hD hDl hsrt hm hg hs hse hvi hn hT hLB;obtain ⟨dsL,hds⟩:∃ ds,({ target:=.collected D,args:=#[] }::[]:List Deferred)=ds:=⟨_,rfl⟩;rw [hds];have HDS:=Hd hds;clear hds;simp only [dropSeq];go_wp2_with fail
 refine hsr.mono ?_;rintro e w2 ⟨rfl,ho2,hg2⟩;have hrg:=fun r e=>(HD.o9.lt r e).1;have hb02:Below w.heap.size w w2:=HD.o3.trans ⟨hg2.os,hg2.tape,hg2.output,hg2.size,fun q hq=>hg2.block q (by have:=HD.o3.size;omega) (fun e=>by have:=hrg q e.symm;omega)⟩;have hM2:MkW g B mb bm sm w2:=HM.o1.below hb02;have x5:=HD.o1.box.grown hg2 (blk_ne_row HD.o1.box HD.o9 (by decide));have x6:=HD.o8.grown hg2 (blk_ne_row HD.o8 HD.o9 (by decide));have x7:=HD.o10.grown hg2 (blk_ne_row HD.o10 HD.o9 (by decide));have x7r:=HD.o11.kept hg2 (row_ne_row HD.o11 HD.o9 (by decide));have xm:=HD.o5.grown hg2 (fun e=>by have:=hrg _ e.symm;omega);have xg:∀ t,t∈ordL (aheadL g s.items)->w2.ownsRow (w.heap.size+6) 134 2 (gv t) (grpL (aheadL g s.items) t).length (flatK encIt (grpL (aheadL g s.items) t)):=fun t ht=>(HD.o6 t ht).2.kept hg2 (row_ne_row (HD.o6 t ht).2 HD.o9 (by decide))
 have xD:w2.heap[D]?=some (.deferred (some [])):=by
  rw [hg2.block D HD.o13 (fun e=>by
   obtain ⟨_,c',fz,e3⟩:=own_ty HD.o9 D e.symm;rw [HD.o4] at e3;injection e3 with e3;cases e3)]
  exact HD.o4
 have hsz2:w.heap.size+6<=w2.heap.size:=Nat.le_trans HD.o1.size hg2.size;have x6c:=x6.cell 0;simp at x6c;have hsl:((ordL (aheadL g s.items)).foldr insInt []).length=(ordL (aheadL g s.items)).length:=(sortInt_perm _).length_eq;have hsm:∀ t,t∈(ordL (aheadL g s.items)).foldr insInt []->t∈ordL (aheadL g s.items):=fun t ht=>(sortInt_perm _).mem_iff.1 ht;have hfst:=HD.o6;have H2:=Z13.mk hb02 hM2 x5 x6 x7 x7r xm xg xD ho2 hsl hsm hfst;clear hrg hb02 hM2 x5 x6 x7 x7r xm xg xD ho2 hg2 b6 hsr hsm hfst;obtain ⟨SO,hSO⟩:=eX ((ordL (aheadL g s.items)).foldr insInt []);rw [hSO] at hsl;have HSO:=Hd hSO;clear hSO;obtain ⟨N,hN⟩:=eX ((ordL (aheadL g s.items)).length);rw [hN] at hsl hoL2 x6c;have HN:=Hd hN;clear hN hoL;go_wp2_with fail
 rename_i K8 hK8;have HK8:=Hd hK8;clear hK8
 go_loopg [10,67] N (fun m v10 v67 wr=>∃ (i:Nat) (sm':List SM) (es:List (Sy × Nat)),i<=N /\ m=N - i /\ v67=.int .i64 i /\ LeadE g B mb bm sm w2 w2.heap.size ((SO.take i).map fun t=>((⟨1,0,t⟩:Sy),closedF g (grpL (aheadL g s.items) t))) sm' es v10 wr)
 case atStart =>
  exact ⟨0,sm,[],by omega,rfl,rfl,⟨rfl,H2.o2,KeepM.refl _ _ _,World.ownsRow_nil _ _ _ _,fun _ _=>rfl,(fun k x hk hx=>(by rw [List.getElem?_eq_none hk] at hx;cases hx)),nR _,rfl,nR _⟩⟩
 case round =>
  obtain ⟨i,sm',es,hi,hm,rfl,hE⟩:=hrel;obtain ⟨ea,ec,rfl⟩:=own_shape hE.row;have A:=Z2.mk hm hE;clear hm hE
  by_cases hlt:i<N
  ·obtain ⟨t,ht⟩:∃ t,SO[i]?=some t:=⟨_,gE (by omega)⟩;have htm:t∈ordL (aheadL g s.items):=H2.o12 t (by rw [HSO.out];exact gM ht);have hro:w2.ownsRow (w.heap.size+6) 3 1 (.slice oa (ordL (aheadL g s.items)).length oc) (ordL (aheadL g s.items)).length (flatK encI SO):=by rw [<- HSO.out];exact H2.o10
   rw [HN.out] at hro;have hmw:mb<w.heap.size:=nL HM.o1.mlt HM.o1.size;have hbw:bm<w.heap.size:=nL HM.o1.blt HM.o1.size;have hro2:=row_keepM A.o2.keep hro (by decide) (by omega) (by omega);obtain ⟨og,oc',eo,_⟩:=own_some hro2 (by omega)
   injection eo with eo eo2 eo3;subst eo;subst eo3;have ho1:wr.cell? ⟨og,i,none⟩=some (.int .i64 t):=by
    rw [hro2.cellAt i (by omega)];have:=flatK_get encI_len SO i t 0 (.int .i64 t) ht rfl
    simpa using this
   have hgr:=row_keepM A.o2.keep (H2.o8 t htm) (by decide) (by omega) (by omega);obtain ⟨va0,vc0,hv0⟩:=own_shape hgr;rw [hv0] at hgr;have hmap:=map_keepM A.o2.keep H2.o7 (by omega) (by omega);have h5:=(blk_keepM A.o2.keep H2.o3 (by decide) (by omega) (by omega)).cell 0
   simp at h5;have htr:0<=t /\ t<1000:=by
    have hne:=(mem_ordL (aheadL g s.items) t).1 htm;obtain ⟨y,hy⟩:=List.exists_mem_of_ne_nil _ hne;unfold grpL at hy;obtain ⟨q,hq,hq2⟩:=List.mem_filterMap.1 hy
    by_cases hk:q.2.kind=1 /\ q.2.sort=t
    ·obtain ⟨x,hx,ha,_⟩:=mem_aheadL hq;unfold aheadF rightOf at ha
     cases hp:g.prods[x.1]? with
     | none=>rw [hp] at ha;simp at ha
     | some p =>
      rw [hp] at ha;have h1:=HM.o2.sym p (gM hp) q.2 (gM ha);have h2:=HM.o2.sorts
      rcases h1 with h1 | h1
      ·exact absurd (h1.1.symm.trans hk.1) (by decide)
      ·omega
    ·rw [if_neg hk] at hq2;cases hq2
   have hKey:keyOf Tryz.prog 3 (.int .i64 t)=some (.int .i64 t):=keyOf_int_mk Tryz.underlying3 (by simp [Lit.wf,IntKind.min,IntKind.max,IntKind.bits,IntKind.signed];omega)
   have hlk:(Instr.lookup 167 (.map (some w.heap.size)) (.int .i64 t) false).run Tryz.prog wr=.ok (.slice va0 (grpL (aheadL g s.items) t).length vc0) wr:=by
    have h:=hmap.lookup (int_keyed Tryz.underlying3) Tryz.underlying167 (Tryz.zeroValue132 wr) hKey;rw [(H2.o13 t htm).1,hv0] at h;exact h
   have hgl:=grpL_len (aheadL g s.items) t;have hgok:∀ x∈grpL (aheadL g s.items) t,itemOk g x=true:=fun x hx=>by
    unfold grpL at hx;obtain ⟨q,hq,hq2⟩:=List.mem_filterMap.1 hx
    by_cases hk:q.2.kind=1 /\ q.2.sort=t
    ·rw [if_pos hk] at hq2;injection hq2 with hq2;rw [<- hq2];exact aheadL_ok hq
    ·rw [if_neg hk] at hq2;cases hq2
   have hnum:=number_lead HM.o2 A.o2 _ (grpL (aheadL g s.items) t) hgok (by omega) _ (own_sliceK encIt_len hgr);have htk:(SO.take (i+1)).map (fun t=>((⟨1,0,t⟩:Sy),closedF g (grpL (aheadL g s.items) t)))=(SO.take i).map (fun t=>((⟨1,0,t⟩:Sy),closedF g (grpL (aheadL g s.items) t)))++[((⟨1,0,t⟩:Sy),closedF g (grpL (aheadL g s.items) t))]:=by rw [List.take_add_one,ht];simp
   have hi0:(0:Int)<=i:=by omega
   have hi1:(i:Int)<N:=by omega
   have R:=Z3.mk htk hnum hgok;have hnum2:=hnum;clear htk hnum hgok hgr hmap hKey hro hro2 ht htm hv0 htr;go_wp2_with fail
   refine hnum2.mono ?_;clear hnum2;rintro e w3 (⟨q,sm3,rfl,hok⟩ | ⟨rfl,hfull,hk3,hk3r⟩)
   ·have hrow3:w3.ownsRow w2.heap.size 173 7 (.slice ea es.length ec) es.length (flatK encEd es):=row_keepM hok.keepr A.o2.row (by decide) (by omega) (by omega);have hk23:=hok.keep;have hel:es.length<=i:=by have h:=A.o2.len;simp only [List.length_map,List.length_take] at h;omega
    have hE3:=Z2.mk hok hrow3;have hsz3:w2.heap.size<=w3.heap.size:=hk23.size;clear hok hrow3 hk23;obtain ⟨i0,hi,hz0,hz1,hz2⟩:=info_parts infoEdge;go_wp2_with (at_builtin;go_loud (refine wpList_append_own _ rfl _ _ 143 rfl w2.heap.size 173 i0 (.agg #[.int .i64 0,.int .u64 0,.int .u64 0,.int .u64 0,.int .u64 0,.int .i64 0,.int .i64 0]) 7 56 Tryz.underlying143 hi hz0 hz1 hz2 rfl (by decide) _ es.length _ rfl (hE3.o2.alloc _) ⟨w3.heap.size,0,none⟩ 1 1 (edgeC 1 0 0 0 0 t q) rfl rfl ?c1 ?c2 ?c3 ?c4 ?c5 ?_))
    case c1=>exact edge_cells w3 1 0 0 0 0 t q
    case c2=>exact edgeC_one 1 0 0 0 0 t q
    case c3=>unfold maxLen;omega
    case c4=>omega
    case c5=>first | omega | (simp;omega)
    intro v' w5 hown5 hg5 _;have hgw:w3.grownBy w5 (Value.slice ea es.length ec).ownBlock:=World.grownBy.trans (World.grownBy_alloc _ _ _) hg5;have hBw:B<=w2.heap.size:=H2.o2.size;have hkw5:KeepM mb bm w2 w5:=hE3.o1.keep.grownNew hgw (fun r e=>(hE3.o2.lt r e).1);have hmk5:=hE3.o1.mkw.edgeGrown H2.o2.each hE3.o1.old hE3.o1.new hkw5 hE3.o2 hBw hgw;have hst:=A.o2.step (nR _) hE3.o1.num hE3.o1.mkw hE3.o1.keep hE3.o1.old hE3.o1.new hE3.o1.more hE3.o2 hgw (by rw [<- edgeC_sort];exact hown5) hmk5 (Nat.le_trans hsz3 hgw.size);rw [<- R.o1] at hst;have F:=Hd hst;clear hown5 hg5 hgw hkw5 hmk5 hst;go_wp2_with fail
    go_roundg (N - (i+1))
    case measure=>have:=A.o1;omega
    case rel=>exact ⟨i+1,sm3,_,by omega,rfl,rfl,F.out⟩
   ·have hnone:numbersF (sm.map (·.items)) (leadsF g s.items)=none:=by
     unfold leadsF;rw [sortsOf_ahead,HSO.out];refine numbersF_none_append _ _ _ ?_;have e1:(SO.map fun t=>((⟨1,0,t⟩:Sy),closedF g (movedSort g s.items t)))=(SO.take (i+1)).map (fun t=>((⟨1,0,t⟩:Sy),closedF g (grpL (aheadL g s.items) t)))++(SO.drop (i+1)).map (fun t=>((⟨1,0,t⟩:Sy),closedF g (grpL (aheadL g s.items) t))):=by
      rw [<- List.map_append,List.take_append_drop];simp only [movedSort_ahead]
     rw [e1,R.o1];exact numbersF_none_append _ _ _ (A.o2.full hfull)
    have hkw:KeepM mb bm w w3:=(KeepM.of H2.o1).trans hk3;have hDm:w3.heap[D]?=some (.deferred (some [])):=mark_keepM hk3 H2.o9 (by have:=HD.o12;omega) (by have:=HD.o12;omega);refine ⟨[D],HDS.out.symm,(MarksAt.nil w3).cons hDm (by simp),fun w' hs=>.inr ⟨hnone,rfl,hkw.shut hs (fun d hd=>by rw [List.mem_singleton] at hd;rw [hd];exact HD.o12)⟩⟩
  ·obtain rfl:i=N:=by omega
   go_wp2_with fail
   refine HK8.out _ _ ?_;have hE:=A.o2;have hSN:SO.length=i:=by
    have h1:=(sortInt_perm (ordL (aheadL g s.items))).length_eq;rw [HSO.out] at h1;rw [h1,HN.out]
   have htk:SO.take i=SO:=by rw [<- hSN,List.take_length]
   rw [htk] at hE;have hlen:i<=10000:=by
    have h1:=ordL_len (aheadL g s.items) [];have h2:=aheadL_len g s.items;have h3:=HM.o4.len;have h4:=HN.out;unfold ordL at h4;simp only [List.length_nil,Nat.zero_add] at h1;omega
   have xD:=H2.o9;rw [<- HDS.out];exact lead_three g HM.o2 B mb bm sm n s HM.o6 HM.o3 w HM.o1 HM.o7 HM.o8 ia ic HM.o5 w2 H2.o1 (SO.map fun t=>((⟨1,0,t⟩:Sy),closedF g (grpL (aheadL g s.items) t))) (fun x hx=>by
     obtain ⟨t,_,rfl⟩:=List.mem_map.1 hx;show (1:Int)≠0
     decide) (by rw [List.length_map];omega) (by rw [leads_ahead,HSO.out]) sm' es _ wr hE sa sc H2.o5 H2.o6 D xD HD.o12 (Array.getElem?_eq_some_iff.1 xD).1 _ rfl
open Go.Sort
theorem insert_nil (w:World):Calls Tryz.prog 135 #[.slice none 0 0,.int .i64 0,.int .i64 0] w fun e w'=>e=.returned (.tuple #[]) /\ w'=w:=by
 go_enter Tryz.func135,Tryz.ntmps135
 go_wp2_with fail
 go_loopg [6] 0 (fun m v wr=>v=.int .i64 1 /\ wr=w)
 case atStart=>exact ⟨rfl,rfl⟩
 case round =>
  obtain ⟨rfl,rfl⟩:=hrel;go_wp2_with fail
  refine bodyPost_end (results_none rfl _ _ _) rfl ?_;exact ⟨rfl,rfl⟩
theorem pdq_nil (k:Int) (w:World):Calls Tryz.prog 113 #[.slice none 0 0,.int .i64 0,.int .i64 0,.int .i64 k] w fun e w'=>e=.returned (.tuple #[]) /\ w'=w:=by
 have hi:=fun W=>insert_nil W;go_enter Tryz.func113,Tryz.ntmps113;go_wp2_with fail
 refine wp_loop_once ?_;go_wp2_with fail
 refine (hi _).mono ?_;rintro e w' ⟨rfl,rfl⟩;go_wp2_with fail
 refine bodyPost_ret (results_none rfl _ _ _) rfl ?_;exact ⟨rfl,rfl⟩
theorem sort_nil (w:World):Calls Tryz.prog 86 #[.slice none 0 0] w fun e w'=>e=.returned (.tuple #[]) /\ w'=w:=by
 have hl:=fun W=>Tryz.bits_Len 0 W (by decide) (by decide);have hp:=fun k W=>pdq_nil k W;go_enter Tryz.func86,Tryz.ntmps86;go_wp2_with fail
 refine (hl _).mono ?_;rintro e w' ⟨rfl,rfl⟩;go_wp2_with fail
 refine (hp _ _).mono ?_;rintro e w' ⟨rfl,rfl⟩;go_wp2_with fail
 refine bodyPost_end (results_none rfl _ _ _) rfl ?_;exact ⟨rfl,rfl⟩
theorem sortI_any (c:Nat) (o:List Int) (v:Value) (w:World) (hn:o.length<=1000000) (h:w.ownsRow c 3 1 v o.length (flatK encI o)) :
  Calls Tryz.prog 86 #[v] w fun e w'=>e=.returned (.tuple #[]) /\ w'.ownsRow c 3 1 v o.length (flatK encI (o.foldr insInt [])) /\ w.grownBy w' v.ownBlock:=by
 have hfl:∀ (l:List Int) (j:Nat) (x:Int),l[j]?=some x->(flatK encI l)[j]?=some (.int .i64 x):=fun l j x hx=>by
  have:=flatK_get encI_len l j x 0 (.int .i64 x) hx rfl
  simpa using this
 have hms:o.mergeSort (fun x y=>decide (x<=y))=o.foldr insInt []:=by
  refine sortInt_unique (List.mergeSort_perm _ _) ?_;have:=List.pairwise_mergeSort (le:=fun (x y:Int)=>decide (x<=y)) (fun a b c h1 h2=>by simp at *;omega) (fun a b=>by simp;omega) o;exact this.imp (fun h=>by simpa using h)
 have h0:=h
 rcases h.2 with ⟨rfl,hz⟩ | ⟨g,cap,cur,rfl,hBg,hh,h1,h2,h3,h4⟩
 ·have ho:o=[]:=List.eq_nil_of_length_eq_zero hz;subst ho;exact (sort_nil w).mono fun e w' ⟨he,hw⟩=>⟨he,by rw [hw];exact h,by rw [hw];exact grown_refl _ _⟩
 ·have hg:=(h.lt g rfl).2
  have hH:Holds (Value.int .i64) w g 0 o.toArray:=fun j hj=>by
   have hj':j<o.length:=by simpa using hj
   rw [Nat.zero_add];refine ⟨?_,h.frozenAt j⟩;rw [h.cellAt j (by simpa using hj'),hfl o j o[j] (gE hj')];rw [getElem!_pos o.toArray j hj];simp
  refine (Any.slices_Sort_int Tryz.lays189 g 0 cap o w hH hg (by omega)).mono ?_;rintro e w' ⟨rfl,n,os,rfl⟩;rw [hms];have hlen:(o.foldr insInt []).length=o.length:=(sortInt_perm o).length_eq;have hw:(grow (putRow (Value.int .i64) (Sort.ahead w n) g 0 (o.foldr insInt []).toArray) os).heap=w.heap.modify g (onCells (putCells (Value.int .i64) 0 (o.foldr insInt []).toArray))++os:=rfl;refine ⟨rfl,⟨by rw [flatK_len encI_len,hlen],.inr ⟨g,cap,putCells (Value.int .i64) 0 (o.foldr insInt []).toArray cur,rfl,hBg,?_,h1,h2,by simp [putCells,h3],?_⟩⟩,rfl,rfl,rfl,?_,?_⟩
  ·rw [hw,Array.getElem?_append_left (by simpa using hg),Array.getElem?_modify,if_pos rfl,hh];rfl
  ·apply List.ext_getElem?;intro j
   by_cases hj:j<o.length
   ·have hj2:j<(o.foldr insInt []).length:=by rw [hlen];exact hj
    rw [List.getElem?_take,if_pos (by omega),hfl _ j _ (gE hj2)];have hc:j<cur.size:=by rw [h3];omega
    unfold putCells;rw [Array.getElem?_toList,Array.getElem?_mapIdx,Array.getElem?_eq_getElem hc];have hj3:j<(o.foldr insInt []).toArray.size:=by simpa using hj2
    simp [hj2]
   ·rw [List.getElem?_take,if_neg (by omega),List.getElem?_eq_none (by rw [flatK_len encI_len,hlen];omega)]
  ·rw [hw];simp
  ·intro i hi hne;rw [hw,Array.getElem?_append_left (by simpa using hi),Array.getElem?_modify,if_neg (by rintro rfl;exact hne rfl)]
attribute [local go_sem] Oper.semAt_some
theorem encI_one (s:Int):∀ u∈encI s,u.oneCell'=true:=by intro u hu;simp [encI] at hu;subst hu;rfl
theorem infoInt:(Tryz.prog.info? 3).map (fun i=>(i.zero,i.size,i.bytes))=some (some (.int .i64 0),1,8):=by kernel_rfl
theorem int_one (w:World) (s:Int):∀ j u,(encI s)[j]?=some u->(w.alloc (.cells #[.int .i64 s] 3)).cell? ((⟨w.heap.size,0,none⟩:Addr).add j)=some u:=by
 intro j u hj;have hb:Blk (w.alloc (.cells #[.int .i64 s] 3)) w.heap.size 3 #[.int .i64 s]:=Blk.new w _ _;rw [addr_add_,Nat.zero_add,hb.cell j]
 simpa [encI] using hj
theorem it_two (w:World) (a b:Nat):∀ j u,(encIt (a,b))[j]?=some u->(w.alloc (.cells #[.int .i64 a,.int .i64 b] 134)).cell? ((⟨w.heap.size,0,none⟩:Addr).add j)=some u:=by
 intro j u hj;have hb:Blk (w.alloc (.cells #[.int .i64 a,.int .i64 b] 134)) w.heap.size 134 #[.int .i64 a,.int .i64 b]:=Blk.new w _ _;rw [addr_add_,Nat.zero_add,hb.cell j]
 simpa [encIt] using hj
def Round1 (b c:Nat) (w0:World) (L:List (It × Sy)) (tm:Array Value) (k:Nat) (a':Act) (W:World):Prop :=
 ∃ x8 x9:Nat,a'={ tmps:=((((tm.setIfInBounds 32 (.agg #[.int .i64 ((aK L k).1.1:Int),.int .i64 ((aK L k).1.2:Int)])).setIfInBounds 33 (.agg #[.int .i64 (aK L k).2.kind,.int .u64 (wd (aK L k).2.set 0),.int .u64 (wd (aK L k).2.set 1),.int .u64 (wd (aK L k).2.set 2),.int .u64 (wd (aK L k).2.set 3),.int .i64 (aK L k).2.sort])).setIfInBounds 8 (.pointer (some ⟨x8,0,none⟩))).setIfInBounds 9 (.pointer (some ⟨x9,0,none⟩))),defers:=[] } /\
  (Blk W x8 134 #[.int .i64 ((aK L k).1.1:Int),.int .i64 ((aK L k).1.2:Int)] /\ Blk W x9 49 #[.int .i64 (aK L k).2.kind,.int .u64 (wd (aK L k).2.set 0),.int .u64 (wd (aK L k).2.set 1),.int .u64 (wd (aK L k).2.set 2),.int .u64 (wd (aK L k).2.set 3),.int .i64 (aK L k).2.sort]) /\
  (c<=x8 /\ c<=x9) /\ LeadI b c w0 (L.take k) W
theorem round1_own (b c n0:Nat) (w0:World) (L:List (It × Sy)) (tm:Array Value) (a':Act) (hn:b+4<=n0):OwnFrom n0 (fun k W=>Round1 b c w0 L tm k a' W):=by
 rintro k W W' row ⟨x8,x9,e,⟨h8,h9⟩,hc,h⟩ hg hr;have hcells:∀ {g:Nat} {t:TypeId} {cs:Array Value},Blk W g t cs->some g≠row:=fun {g t cs} hB e=>by
  obtain ⟨_,o,ho,hc⟩:=hr g e.symm;unfold Blk at hB;rw [hB] at ho;injection ho with ho;subst ho
  cases hc
 exact ⟨x8,x9,e,⟨h8.grown hg (hcells h8),h9.grown hg (hcells h9)⟩,hc,leadG_own b c n0 w0 (fun k=>(L.take k).length) (fun k=>ordL (L.take k)) (fun k=>ordL (L.take k)) (fun k=>ofsL (L.take k)) (fun k=>grpL (L.take k)) hn k W W' row h hg hr⟩
theorem lead_any (g:Gr) (hg:Good g) (B mb bm:Nat) (sm:List SM) (n:Nat) (s:SM) (hn:sm[n]?=some s) (hs:Bare s) (w:World) (hm:MkW g B mb bm sm w) (hT:∀ W',KeepM mb bm w W'->Bru W') (hLB:LB<=B)
  (hsrt:∀ (c:Nat) (o:List Int) (v:Value) (W:World),o.length<=1000000->W.ownsRow c 3 1 v o.length (flatK encI o)->Calls Tryz.prog 86 #[v] W fun e W'=>e=.returned (.tuple #[]) /\ W'.ownsRow c 3 1 v o.length (flatK encI (o.foldr insInt [])) /\ W.grownBy W' v.ownBlock) :
  Calls Tryz.prog 64 #[.pointer (some ⟨mb,0,none⟩),.int .i64 n] w (Led g B mb bm sm n s w):=by
 obtain ⟨va,hva1,hva2⟩:=hm.all;have hnl:n<sm.length:=(gS.1 hn).1;obtain ⟨ag,ac,rfl,hagB,_,_⟩:=own_some hva2 (by omega);have hSM:=opt_of (own_sliceK encSM_len hva2);obtain ⟨_,_,eag,_,haglt,hcells⟩:=hSM.at_ hnl;injection eag with eag;injection eag with e1 e2 _;subst e1;subst e2;have hsn:sm[n]=s:=by rw [gE hnl] at hn;injection hn
 rw [hsn] at hcells;have c0:=hcells 0 _ rfl;simp only [Nat.zero_add,Nat.add_zero] at c0;have hse:=hm.each s (gM hn);obtain ⟨ia,ic,hvi,hic1,hic2,hik⟩:=hse.items;rw [hvi] at c0;have hvi0:=hvi;have hmm:=@run_makeMap Tryz.prog;have hn0:(0:Int)<=n:=by omega
 have hnl1:(n:Int)<sm.length:=by omega
 have hah:=fun W=>ahead_any mb ia s.items.length ic W;have hilen:=hse.len;have HM:=Z9.mk hm hg hs hse hik hva2 hn hT hLB;clear hm hg hs hse hik hva2 hn hT hSM hcells hsn hvi;refine calls_of_wp_post Tryz.func64 rfl ?_;simp only [Tryz.ntmps64,List.size_toArray,List.length_cons,List.length_nil,Nat.reduceAdd,Nat.reduceSub,Array.replicate_succ,Array.replicate_zero,List.push_toArray,List.append_toArray,List.nil_append,List.cons_append];go_wp2_with fail
 refine (hah _).mono ?_;rintro e w1 ⟨rfl,rfl⟩;go_wp2_with fail
 have hX1:LeadI w.heap.size (w.heap.size+6) w [] ((((((w.alloc (.map #[] 0)).alloc (.cells #[.map (some w.heap.size)] 167)).alloc (.cells #[.slice none 0 0] 57)).alloc (.cells #[.slice none 0 0] 151)).alloc (.cells #[.pointer (some ⟨mb,0,none⟩)] 127)).alloc (.cells #[.slice ia s.items.length ic] 132)) :=
  ⟨((((Blk.new_ (by simp) _ _).alloc _).alloc _).alloc _).alloc _,⟨_,(((Blk.new_ (by simp) _ _).alloc _).alloc _).alloc _,World.ownsRow_nil _ _ _ _⟩,⟨_,((Blk.new_ (by simp) _ _).alloc _).alloc _,World.ownsRow_nil _ _ _ _⟩,
   ⟨fun _=>none,fun _=>.slice none 0 0,(((((MapV.made w Tryz.prog 3).alloc _).alloc _).alloc _).alloc _).alloc _,by simp [ordL],fun _ _=>rfl,by simp [ordL]⟩,
   (((((((bR _ w).alloc (nR _) _).alloc (by simp) _).alloc (by simp;omega) _).alloc (by simp;omega) _).alloc (by simp;omega) _).alloc (by simp;omega) _),by simp⟩
 have hB4:Blk ((((((w.alloc (.map #[] 0)).alloc (.cells #[.map (some w.heap.size)] 167)).alloc (.cells #[.slice none 0 0] 57)).alloc (.cells #[.slice none 0 0] 151)).alloc (.cells #[.pointer (some ⟨mb,0,none⟩)] 127)).alloc (.cells #[.slice ia s.items.length ic] 132)) (w.heap.size+4) 127 #[.pointer (some ⟨mb,0,none⟩)]:=(Blk.new_ (by simp) _ _).alloc _;have hB5:Blk ((((((w.alloc (.map #[] 0)).alloc (.cells #[.map (some w.heap.size)] 167)).alloc (.cells #[.slice none 0 0] 57)).alloc (.cells #[.slice none 0 0] 151)).alloc (.cells #[.pointer (some ⟨mb,0,none⟩)] 127)).alloc (.cells #[.slice ia s.items.length ic] 132)) (w.heap.size+5) 132 #[.slice ia s.items.length ic]:=Blk.new_ (by simp) _ _
 generalize ((((((w.alloc (.map #[] 0)).alloc (.cells #[.map (some w.heap.size)] 167)).alloc (.cells #[.slice none 0 0] 57)).alloc (.cells #[.slice none 0 0] 151)).alloc (.cells #[.pointer (some ⟨mb,0,none⟩)] 127)).alloc (.cells #[.slice ia s.items.length ic] 132))=w1 at hX1 hB4 hB5 ⊢;have hsz1:w.heap.size+6<=w1.heap.size:=hX1.size;have hDk:MkR (fun q=>q<w.heap.size∨q=w.heap.size+5∨q=w.heap.size+4) w1 mb g :=
  HM.o1.gr.keep (fun q hq hl=>⟨.inl hl,hX1.below.block q hl⟩) hX1.below.size (hX1.below.cell (p:=⟨mb,1,none⟩) HM.o1.gr.lt) (hX1.below.cell (p:=⟨mb,5,none⟩) HM.o1.gr.lt)
 have hik:OptK (TyD B 134 w) encIt 2 w ia s.items:=HM.o5;have hDs:SliceK (fun q=>q<w.heap.size∨q=w.heap.size+5∨q=w.heap.size+4) encIt 2 w1 (.slice ia s.items.length ic) s.items :=
  ⟨ia,ic,rfl,hic1,hic2,hik.keep (fun q hq hl=>⟨.inl hl,hX1.below.block q hl⟩)⟩
 have hitr:=ahead_iter (fun q=>q<w.heap.size∨q=w.heap.size+5∨q=w.heap.size+4) (fun _=>True) g mb s.items HM.o4.ok (fun p hp=>by have:=HM.o2.right p hp;omega) _ 4 (by decide) w1 hDk (.inl HM.o1.gr.lt) hDs (w.heap.size+5) (w.heap.size+4) hB5 hB4 (.inr (.inl rfl)) (.inr (.inr rfl))
 have HI1:=Z3.mk hX1 hDk hDs;clear hik hDs hDk;refine (wpIn_wide (n:=5)).1 ?_;refine wpIn_rangeFunc_ownT rfl (by decide) (gf:=112) (lb:=#[.pointer (some ⟨w.heap.size+5,0,none⟩),.pointer (some ⟨w.heap.size+4,0,none⟩)]) rfl trivial (enters_of Tryz.func112 (by kernel_rfl) rfl)
  hitr KeepD.trans (fun W l o o' h1 h2 h3 h4=>KeepD.putObj (w:=w1) (fun q hq=>by rcases hq with h | h | h <;> omega) l o o' h1 h2 h3 h4) (bR _ _) (fun _ _=>rfl)
  (fun k W=>LeadI w.heap.size (w.heap.size+6) w ((aheadL g s.items).take k) W) (fun _ _ _=>False)
  (leadG_own w.heap.size (w.heap.size+6) w1.heap.size w (fun k=>((aheadL g s.items).take k).length) (fun k=>ordL ((aheadL g s.items).take k)) (fun k=>ordL ((aheadL g s.items).take k)) (fun k=>ofsL ((aheadL g s.items).take k)) (fun k=>grpL ((aheadL g s.items).take k)) (by omega))
  (fun _ _ _ _ _ hs _ _=>hs)
  hX1
  (fun tm k a' W=>Round1 w.heap.size (w.heap.size+6) w (aheadL g s.items) tm k a' W) (fun a'=>round1_own _ _ _ _ _ _ a' (by omega)) ?assign ?body ?done ?stop
 case stop=>rintro D c k W _ _ h _;exact h.elim
 case assign =>
  intro lp k W K hk hI hK;have hlt6:=hI.size;have HH:=Hd hI;clear hI hX1 hB4 hB5 hitr;generalize hq:aK (aheadL g s.items) k=q at *;obtain ⟨⟨qa,qb⟩,qs⟩:=q;unfold encA;simp only []
  gi_wp2
  refine hK _ _ ((KeepsOthers.trans (KeepsOthers.alloc _ _) (KeepsOthers.alloc _ _)).from _) (KeepD.below (((bR _ W).alloc (nR _) _).alloc (by simp) _)) ?_;unfold Round1;rw [hq];exact ⟨W.heap.size,W.heap.size+1,rfl,⟨(Blk.new _ _ _).alloc _,Blk.new_ (by simp) _ _⟩,⟨hlt6,by omega⟩,HH.out.up (((bR _ W).alloc (nR _) _).alloc (by simp) _)⟩
 case body =>
  rintro lp k a' W ⟨x8,x9,rfl,⟨h8,h9⟩,⟨hc8,hc9⟩,hI⟩ hk;have hget:(aheadL g s.items)[k]?=some (aK (aheadL g s.items) k):=by unfold aK;simp [List.getD,hk]
  have htk:(aheadL g s.items).take (k+1)=(aheadL g s.items).take k++[aK (aheadL g s.items) k]:=by rw [List.take_add_one,hget];rfl
  have hqm:=gM hget;have hLl:=aheadL_len g s.items;clear hX1 hB4 hB5 hitr hget;obtain ⟨q,hq⟩:=eX (aK (aheadL g s.items) k);rw [hq] at htk hqm h8 h9 ⊢;obtain ⟨⟨qa,qb⟩,⟨qk,qs,qo⟩⟩:=q;have hsy:(qk=0 /\ qo=0 /\ qs≠0 /\ qs<2 ^ 256)∨(qk=1 /\ qs=0 /\ 0<=qo /\ qo<g.sorts.length):=by
   obtain ⟨x,hx,ha,_⟩:=mem_aheadL hqm;unfold aheadF rightOf at ha
   cases hp:g.prods[x.1]? with
   | none=>rw [hp] at ha;simp at ha
   | some p =>
    rw [hp] at ha;exact HM.o2.sym p (gM hp) ⟨qk,qs,qo⟩ (gM ha)
  have hLt:((aheadL g s.items).take k).length<=100000:=by rw [List.length_take];omega
  have hbl:∀ W',Below W.heap.size W W'->KeepD (fun q=>q<w.heap.size∨q=w.heap.size+5∨q=w.heap.size+4) W W':=fun W' h=>KeepD.below h;generalize hT:(aheadL g s.items).take k=T at *;simp only [List.setIfInBounds_toArray,List.set_cons_zero,List.set_cons_succ];obtain ⟨y0,y1,_⟩:=h8.facts2;have z0:=h9.cell 0;have z1:=h9.cell 1;have z2:=h9.cell 2;have z3:=h9.cell 3;have z4:=h9.cell 4;have z5:=h9.cell 5;simp at z0 z1 z2 z3 z4 z5
  rcases hsy with ⟨rfl,_,_,hq256⟩ | ⟨rfl,hqs0,hqo0,hqo1⟩
  ·obtain ⟨v,s1,s2⟩:=hI.of;obtain ⟨sa,sc,rfl⟩:=own_shape s2;have s1c:=s1.cell 0;have s1f:=s1.frozen 0;simp at s1c;have hol:=ofsL_len T;obtain ⟨i0,hi,hz0,hz1,hz2⟩:=info_parts infoSet;have HB:=Z6.mk hI s1 s2 h8 h9 htk;clear hI s1 s2 h8 h9 htk hT hq
   gi_wp2_with (gi_at_builtin;refine wpListIn_append_own _ rfl _ _ 151 rfl (w.heap.size+6) 33 i0 (.agg #[.int .u64 0,.int .u64 0,.int .u64 0,.int .u64 0]) 4 32 Tryz.underlying151 hi hz0 hz1 hz2 rfl (by decide) _ (ofsL T).length _ rfl (HB.o3.alloc _) ⟨W.heap.size,0,none⟩ 1 1 (encSet qs) rfl rfl ?c1 ?c2 ?c3 ?c4 ?c5 ?_)
   case c1=>first | exact setCells_blk W qs | exact fun j u h=>h
   case c2=>exact encSet_one' qs
   case c3=>unfold maxLen;omega
   case c4=>omega
   case c5=>have:=HB.o1.size;first | omega | (simp;omega)
   intro v' w3 hown' hg3 _;have hgw:W.grownBy w3 (Value.slice sa (ofsL T).length sc).ownBlock:=World.grownBy.trans (World.grownBy_alloc _ _ _) hg3;obtain ⟨va',vc',rfl⟩:=own_shape hown';have hbx:=HB.o2.grown hgw (blk_ne_row HB.o2 HB.o3 (by decide));have bc:=hbx.cell 0;have bf:=hbx.frozen 0;simp at bc;have hst:=HB.o1.pushSet (by omega) HB.o2 HB.o3 hgw hown';have hkf:KeepsFrom w1.heap.size W w3:=KeepsFrom.grown hgw (fun j e=>.inr (by obtain ⟨_,c',fz,h⟩:=own_ty HB.o3 j e;exact ⟨c',_,fz,h⟩));have hrl:=fun j e=>(HB.o3.lt j e).1;have HC:=Z4.mk hst hkf hgw hrl;clear hown' hg3 hgw hbx hst hkf hrl
   gi_wp2
   refine ⟨HC.o2.trans ((KeepsOthers.setCell _ _ _).from _),⟨by have:=HC.o3.size;simpa using this,fun q hq hl=>?_⟩,?_⟩
   ·rw [Below.heap_setCell w3 ⟨w.heap.size+1+1+1,0,none⟩ _ q (by show q≠w.heap.size+1+1+1;omega)];exact HC.o3.block q hl (fun e=>by have:=HC.o4 q e.symm;omega)
   ·show LeadI _ _ _ _ _;rw [HB.o6];unfold LeadI;rw [ordL_snoc,ofsL_snoc,if_pos rfl,List.length_append];have e1:ordStep (ordL T) ((qa,qb),⟨0,qs,qo⟩)=ordL T:=by unfold ordStep;simp
    have e2:grpL (T++[((qa,qb),⟨0,qs,qo⟩)])=grpL T:=by funext t;rw [grpL_snoc];simp
    rw [e1,e2];exact HC.o1.mono (Nat.le_succ _)
  ·obtain ⟨f,gv,g1,g2,g3,g4⟩:=hI.grp;obtain ⟨v6,o1,o2⟩:=hI.ord;obtain ⟨oa,oc,rfl⟩:=own_shape o2;have b5:=hI.box.cell 0;have b6:=o1.cell 0;have f6:=o1.frozen 0;simp at b5 b6;have hS9:=HM.o2.sorts;have hKey:keyOf Tryz.prog 3 (.int .i64 qo)=some (.int .i64 qo):=keyOf_int_mk Tryz.underlying3 (by simp [Lit.wf,IntKind.min,IntKind.max,IntKind.bits,IntKind.signed];omega);have hmem:=mem_ordL T qo;have hgl:=grpL_len T qo;have hoL:=ordL_len T [];have hcells8:x8<W.heap.size:=h8.lt;have hcells9:x9<W.heap.size:=h9.lt;have hbS:=hI.size
   by_cases hin:qo∈ordL T
   ·have hgr:=(g2 qo hin).2;have hf:=(g2 qo hin).1;have hne0:(grpL T qo).length≠0:=fun e=>hmem.1 hin (List.eq_nil_of_length_eq_zero e)
    obtain ⟨va0,vc0,hv0⟩:=own_shape hgr;have hlk:∀ W',MapV Tryz.prog 3 W' w.heap.size T.length f->(Instr.lookup 167 (.map (some w.heap.size)) (.int .i64 qo) false).run Tryz.prog W'=.ok (.slice va0 (grpL T qo).length vc0) W':=fun W' hW'=>by
     have h:=hW'.lookup (int_keyed Tryz.underlying3) Tryz.underlying167 (Tryz.zeroValue132 W') hKey;rw [hf,hv0] at h;exact h
    have hlkW:=hlk W g1;have hlkD:=hlk W.drew g1;have hlkA:=hlk (W.alloc (.cells #[.int .i64 qa,.int .i64 qb] 134)).drew (g1.alloc _).drew;have hln:(((grpL T qo).length:Int)==0)=false:=by rw [beq_eq_false_iff_ne];omega
    rw [hv0] at hgr;have HB:=Z11.mk hI htk g1 g2 g3 g4 hgr hv0 hin hmem hKey;have B5x:=hI.box;have B9x:=h9;clear hI h8 h9 htk hlk g1 g2 g3 g4 hgr hv0 hin hmem hKey o1 o2 hT hq hf
    gi_wp2
    have hsX:w.heap.size+6<=W.heap.size:=hbS;have b5x:=b5;have z5x:=z5;have hS11:W.drew.cell? ⟨w.heap.size+1,0,none⟩=some (.map (some w.heap.size)) /\ W.drew.cell? ⟨x9,5,none⟩=some (.int .i64 qo):=⟨b5,z5⟩;have hS11a:(W.drew.alloc (.cells #[.int .i64 qa,.int .i64 qb] 134)).cell? ⟨w.heap.size+1,0,none⟩=some (.map (some w.heap.size)) /\ (W.drew.alloc (.cells #[.int .i64 qa,.int .i64 qb] 134)).cell? ⟨x9,5,none⟩=some (.int .i64 qo):=⟨cell_alloc_ hS11.1 _,cell_alloc_ hS11.2 _⟩;refine wpIn_region_out (wideF_wide.inRound lp) (by kernel_rfl) (by kernel_rfl) (by rintro ⟨_,_,h⟩;exact h) ?_;refine wpAny_of_held (S:=(fun W'=>W'.cell? ⟨w.heap.size+1,0,none⟩=some (.map (some w.heap.size)) /\ W'.cell? ⟨x9,5,none⟩=some (.int .i64 qo))) _ _ _ _ ?_;show wpAnyH _ _ _ _ _ 11 #[false,false,false,false,false,false,false,false,false,false,false] _ _;refine held_take (i:=0) (v:=.map (some w.heap.size)) rfl (by kernel_rfl) rfl (fun _ _ _ h=>h) (fun W' hW'=>by obtain ⟨q1,q2⟩:=hW';go_simp) hS11 ?_;simp only [Act.put,List.setIfInBounds_toArray,List.set_cons_zero,List.set_cons_succ];refine held_take (i:=1) (v:=.pointer (some ⟨x9,5,none⟩)) rfl (by kernel_rfl) rfl (fun _ _ _ h=>h) (fun W' hW'=>by obtain ⟨q1,q2⟩:=hW';go_simp) hS11 ?_;simp only [Act.put,List.setIfInBounds_toArray,List.set_cons_zero,List.set_cons_succ];refine held_take (i:=2) (v:=.int .i64 qo) rfl (by kernel_rfl) rfl (fun _ _ _ h=>h) (fun W' hW'=>by obtain ⟨q1,q2⟩:=hW';go_simp) hS11 ?_;simp only [Act.put,List.setIfInBounds_toArray,List.set_cons_zero,List.set_cons_succ];refine held_take (i:=3) (v:=.map (some w.heap.size)) rfl (by kernel_rfl) rfl (fun _ _ _ h=>h) (fun W' hW'=>by obtain ⟨q1,q2⟩:=hW';go_simp) hS11 ?_;simp only [Act.put,List.setIfInBounds_toArray,List.set_cons_zero,List.set_cons_succ];refine held_take (i:=4) (v:=.pointer (some ⟨x9,5,none⟩)) rfl (by kernel_rfl) rfl (fun _ _ _ h=>h) (fun W' hW'=>by obtain ⟨q1,q2⟩:=hW';go_simp) hS11 ?_;simp only [Act.put,List.setIfInBounds_toArray,List.set_cons_zero,List.set_cons_succ];refine held_take (i:=5) (v:=.int .i64 qo) rfl (by kernel_rfl) rfl (fun _ _ _ h=>h) (fun W' hW'=>by obtain ⟨q1,q2⟩:=hW';go_simp) hS11 ?_;simp only [Act.put,List.setIfInBounds_toArray,List.set_cons_zero,List.set_cons_succ];apply via
    ·intro KV;refine held_two (i:=6) (j:=7) (by kernel_rfl) rfl rfl rfl rfl ?_ ?_
     ·intro K hK;go_simp;refine hK _ _ hS11 ?_;clear hK K;simp only [Act.put,List.setIfInBounds_toArray,List.set_cons_zero,List.set_cons_succ];refine held_one (i:=7) (by kernel_rfl) rfl rfl ?_;intro K hK;go_simp;refine hK _ _ hS11 ?_;clear hK K;simp only [Act.put,List.setIfInBounds_toArray,List.set_cons_zero,List.set_cons_succ];refine held_one (i:=8) (by kernel_rfl) rfl rfl ?_;intro K hK;go_simp;refine hK _ _ hS11a ?_;clear hK K;simp only [Act.put,List.setIfInBounds_toArray,List.set_cons_zero,List.set_cons_succ];exact KV.out
     ·intro K hK;go_simp;refine hK _ _ hS11 ?_;clear hK K;simp only [Act.put,List.setIfInBounds_toArray,List.set_cons_zero,List.set_cons_succ];refine held_two (i:=6) (j:=8) (by kernel_rfl) rfl rfl rfl rfl ?_ ?_
      ·intro K hK;go_simp;refine hK _ _ hS11 ?_;clear hK K;simp only [Act.put,List.setIfInBounds_toArray,List.set_cons_zero,List.set_cons_succ];refine held_one (i:=8) (by kernel_rfl) rfl rfl ?_;intro K hK;go_simp;refine hK _ _ hS11a ?_;clear hK K;simp only [Act.put,List.setIfInBounds_toArray,List.set_cons_zero,List.set_cons_succ];exact KV.out
      ·intro K hK;go_simp;refine hK _ _ hS11a ?_;clear hK K;simp only [Act.put,List.setIfInBounds_toArray,List.set_cons_zero,List.set_cons_succ];refine held_one (i:=6) (by kernel_rfl) rfl rfl ?_;intro K hK;go_simp;refine hK _ _ hS11a ?_;clear hK K;simp only [Act.put,List.setIfInBounds_toArray,List.set_cons_zero,List.set_cons_succ];exact KV.out
    clear hlkD hlkA;refine held_one (i:=9) (by kernel_rfl) rfl rfl ?_;obtain ⟨i0,hi,hz0,hz1,hz2⟩:=info_parts infoItem;intro K9 hK9;refine wp_append_ownF _ _ _ 132 rfl (w.heap.size+6) 134 i0 (.agg #[.int .i64 0,.int .i64 0]) 2 16 Tryz.underlying132 hi hz0 hz1 hz2 rfl (by decide) _ (grpL T qo).length (flatK encIt (grpL T qo)) rfl (HB.o7.alloc _) ⟨W.heap.size,0,none⟩ 1 1 (encIt (qa,qb)) rfl rfl ?c1 ?c2 ?c3 ?c4 ?c5 ?_
    case c1=>exact it_two W.drew qa qb
    case c2=>exact encIt_one (qa,qb)
    case c3=>unfold maxLen;omega
    case c4=>omega
    case c5=>have:=hbS;have:=hsX;first | omega | (simp;omega)
    intro v' w5 hown5 hg5 hfr5;have hgw:W.grownBy w5 (Value.slice va0 (grpL T qo).length vc0).ownBlock:=World.grownBy.trans (show W.grownBy (W.drew.alloc _) _ from World.grownBy.trans (grown_drewN (grown_refl W _) 1) (World.grownBy_alloc _ _ _)) hg5;have q1:=(hgw.cell b5x (blk_ne_row B5x HB.o7 (by decide)));have q2:=(hgw.cell z5x (blk_ne_row B9x HB.o7 (by decide)));refine hK9 _ _ ⟨q1,q2⟩ ?_;clear hK9 K9;simp only [Act.put,List.setIfInBounds_toArray,List.set_cons_zero,List.set_cons_succ];refine held_one (i:=10) (by kernel_rfl) rfl rfl ?_;have hm5:MapV Tryz.prog 3 w5 w.heap.size T.length f:=HB.o3.grown hgw (fun e=>by have:=(HB.o7.lt _ e.symm).1;omega);intro K10 hK10;refine wp_mapUpdateV _ _ _ _ 167 rfl 3 132 (int_keyed Tryz.underlying3) Tryz.underlying167 w.heap.size T.length f rfl hm5 (by unfold maxLen;omega) _ v' _ rfl rfl HB.o11 ?_;intro w6 hm6 hg6;refine hK10 _ _ ⟨hg6.cell q1 (by simp),hg6.cell q2 (by intro e;injection e with e;simp only at e;omega)⟩ ?_;clear hK10 K10;refine wpAnyH_done (by kernel_rfl) ?_ _;simp only [Act.put,List.setIfInBounds_toArray,List.set_cons_zero,List.set_cons_succ];show KeepsFrom w1.heap.size W w6 /\ KeepD _ W w6 /\ LeadI _ _ _ _ w6;have hrl:=fun y e=>(HB.o7.lt y e).1
    refine ⟨(KeepsFrom.grown hgw (fun y e=>.inr (by obtain ⟨_,c',fz,h⟩:=own_ty HB.o7 y e;exact ⟨c',_,fz,h⟩))).trans (KeepsFrom.of_grownBy hg6 (fun y e=>by injection e with e;omega)),
     ⟨Nat.le_trans hgw.size hg6.size,fun y hy hl=>(hg6.block y (nL hl hgw.size) (by intro e;injection e with e;omega)).trans (hgw.block y hl (fun e=>by have:=hrl y e.symm;omega))⟩,?_⟩
    have hp:=HB.o1.pushGrp (by omega) HB.o4 HB.o5 HB.o6 (.inl ⟨HB.o9,HB.o8.symm,rfl⟩) hgw HB.o7 hown5
     (fun y hy=>(hfr5 y hy).imp id (fun h=>by have h2:(W.drew.alloc (Obj.cells #[.int .i64 qa,.int .i64 qb] 134)).heap.size<=y:=h;rw [World.size_alloc] at h2;have:W.drew.heap.size=W.heap.size:=rfl;omega)) hm6 hg6
    unfold LeadI;rw [HB.o2,ordL_snoc,ofsL_snoc,List.length_append];have e1:ordStep (ordL T) ((qa,qb),⟨1,qs,qo⟩)=ordL T:=by unfold ordStep;simp [HB.o9]
    have e2:grpL (T++[((qa,qb),⟨1,qs,qo⟩)])=fun t=>if t=qo then grpL T qo++[(qa,qb)] else grpL T t:=by
     funext t;rw [grpL_snoc]
     by_cases e:t=qo
     ·subst e;simp
     ·simp [e,Ne.symm e]
    rw [e1,e2];rw [if_pos HB.o9] at hp
    simpa using hp
   ·have hfn:=g3 qo hin
    have hlkW:(Instr.lookup 167 (.map (some w.heap.size)) (.int .i64 qo) false).run Tryz.prog W=.ok (.slice none 0 0) W:=by
     have h:=g1.lookup (int_keyed Tryz.underlying3) Tryz.underlying167 (Tryz.zeroValue132 W) hKey;rw [hfn] at h;exact h
    have HB:=Z9.mk hI h8 h9 htk o1 o2 hin hmem hKey;clear hI h8 h9 htk g1 g2 g3 g4 hin hmem hKey o1 o2 hT hq hfn;obtain ⟨i0,hi,hz0,hz1,hz2⟩:=info_parts infoInt
    gi_wp2_with (gi_at_builtin;refine wpListIn_append_own _ rfl _ _ 57 rfl (w.heap.size+6) 3 i0 (.int .i64 0) 1 8 Tryz.underlying57 hi hz0 hz1 hz2 rfl (by decide) _ (ordL T).length _ rfl (HB.o6.alloc _) ⟨W.heap.size,0,none⟩ 1 1 (encI qo) rfl rfl ?d1 ?d2 ?d3 ?d4 ?d5 ?_)
    case d1=>first | exact int_one W qo | exact fun j u h=>h
    case d2=>exact encI_one qo
    case d3=>unfold maxLen;have:([]:List Int).length=0:=rfl;unfold ordL at *;omega
    case d4=>have:([]:List Int).length=0:=rfl;unfold ordL at *;omega
    case d5=>first | omega | (simp;omega)
    intro v6' w4 hown4 hg4 _;have hgw4:W.grownBy w4 (Value.slice oa (ordL T).length oc).ownBlock:=World.grownBy.trans (World.grownBy_alloc _ _ _) hg4;obtain ⟨va6,vc6,rfl⟩:=own_shape hown4;have hbx:=HB.o5.grown hgw4 (blk_ne_row HB.o5 HB.o6 (by decide));have bc:=hbx.cell 0;have bf:=hbx.frozen 0;simp at bc;have hst:=HB.o1.pushOrd (by omega) HB.o5 HB.o6 hgw4 hown4;have hrl4:=fun j e=>(HB.o6.lt j e).1;have hkf:KeepsFrom w1.heap.size W (w4.setCell ⟨w.heap.size+1+1,0,none⟩ (.slice va6 ((ordL T).length+1) vc6)):=(KeepsFrom.grown hgw4 (fun j e=>.inr (by obtain ⟨_,c',fz,h⟩:=own_ty HB.o6 j e;exact ⟨c',_,fz,h⟩))).trans ((KeepsOthers.setCell _ _ _).from _)
    have hkd:KeepD (fun q=>q<w.heap.size∨q=w.heap.size+5∨q=w.heap.size+4) W (w4.setCell ⟨w.heap.size+1+1,0,none⟩ (.slice va6 ((ordL T).length+1) vc6)) :=
     ⟨by have:=hgw4.size;simpa using this,fun y hy hl=>by
      rw [Below.heap_setCell w4 ⟨w.heap.size+1+1,0,none⟩ _ y (by show y≠w.heap.size+1+1;omega)];exact hgw4.block y hl (fun e=>by have:=hrl4 y e.symm;omega)⟩
    have h89:=(HB.o2.grown hgw4 (blk_ne_row HB.o2 HB.o6 (by decide))).far (p:=⟨w.heap.size+1+1,0,none⟩) (by show x8≠w.heap.size+1+1;omega) (.slice va6 ((ordL T).length+1) vc6);have h99:=(HB.o3.grown hgw4 (blk_ne_row HB.o3 HB.o6 (by decide))).far (p:=⟨w.heap.size+1+1,0,none⟩) (by show x9≠w.heap.size+1+1;omega) (.slice va6 ((ordL T).length+1) vc6);have HC:=Z5.mk hst hkf hkd h89 h99;clear hown4 hg4 hgw4 hbx hst hrl4 hkf hkd h89 h99
    gi_wp2
    obtain ⟨W9,hW9⟩:=eX ((w4.setCell ⟨w.heap.size+1+1,0,none⟩ (.slice va6 ((ordL T).length+1) vc6)));obtain ⟨hst,hkf,hkd,h89,h99⟩:=(A5 HC.o1 HC.o2 HC.o3 HC.o4 HC.o5);rw [hW9] at hst hkf hkd h89 h99 ⊢;clear HC hW9 y0 y1 z0 z1 z2 z3 z4 z5 b5 b6 f6 bc bf hlkW;obtain ⟨f9,gv9,g1,g2,g3,g4⟩:=hst.grp;obtain ⟨y0,y1,_⟩:=h89.facts2;have z5x:=h99.cell 5;have b5x:=hst.box.cell 0;simp at z5x b5x;have hbS:=hst.size;have hsX:w.heap.size+6<=W9.heap.size:=hbS;have hfn9:=g3 qo HB.o7;have hlk:∀ W',MapV Tryz.prog 3 W' w.heap.size T.length f9->(Instr.lookup 167 (.map (some w.heap.size)) (.int .i64 qo) false).run Tryz.prog W'=.ok (.slice none 0 0) W':=fun W' hW'=>by
     have h:=hW'.lookup (int_keyed Tryz.underlying3) Tryz.underlying167 (Tryz.zeroValue132 W') HB.o9;rw [hfn9] at h;exact h
    have hlkD:=hlk W9.drew g1;have hlkA:=hlk (W9.alloc (.cells #[.int .i64 qa,.int .i64 qb] 134)).drew (g1.alloc _).drew;have hgr0:W9.ownsRow (w.heap.size+6) 134 2 (.slice none 0 0) 0 (flatK encIt ([]:List It)):=World.ownsRow_nil _ _ _ _;have B5x:=hst.box;have B9x:=h99;have HB9:=Z8.mk hst g1 g2 g3 g4 hgr0 hkf hkd;have hS11:W9.drew.cell? ⟨w.heap.size+1,0,none⟩=some (.map (some w.heap.size)) /\ W9.drew.cell? ⟨x9,5,none⟩=some (.int .i64 qo):=⟨b5x,z5x⟩;have hS11a:(W9.drew.alloc (.cells #[.int .i64 qa,.int .i64 qb] 134)).cell? ⟨w.heap.size+1,0,none⟩=some (.map (some w.heap.size)) /\ (W9.drew.alloc (.cells #[.int .i64 qa,.int .i64 qb] 134)).cell? ⟨x9,5,none⟩=some (.int .i64 qo):=⟨cell_alloc_ hS11.1 _,cell_alloc_ hS11.2 _⟩;clear hst g1 g2 g3 g4 hgr0 hkf hkd h89 h99 hlk hfn9 i0 hi hz0 hz1 hz2;refine wpIn_region_out (wideF_wide.inRound lp) (by kernel_rfl) (by kernel_rfl) (by rintro ⟨_,_,h⟩;exact h) ?_;refine wpAny_of_held (S:=(fun W'=>W'.cell? ⟨w.heap.size+1,0,none⟩=some (.map (some w.heap.size)) /\ W'.cell? ⟨x9,5,none⟩=some (.int .i64 qo))) _ _ _ _ ?_;show wpAnyH _ _ _ _ _ 11 #[false,false,false,false,false,false,false,false,false,false,false] _ _;refine held_take (i:=0) (v:=.map (some w.heap.size)) rfl (by kernel_rfl) rfl (fun _ _ _ h=>h) (fun W' hW'=>by obtain ⟨q1,q2⟩:=hW';go_simp) hS11 ?_;simp only [Act.put,List.setIfInBounds_toArray,List.set_cons_zero,List.set_cons_succ];refine held_take (i:=1) (v:=.pointer (some ⟨x9,5,none⟩)) rfl (by kernel_rfl) rfl (fun _ _ _ h=>h) (fun W' hW'=>by obtain ⟨q1,q2⟩:=hW';go_simp) hS11 ?_;simp only [Act.put,List.setIfInBounds_toArray,List.set_cons_zero,List.set_cons_succ];refine held_take (i:=2) (v:=.int .i64 qo) rfl (by kernel_rfl) rfl (fun _ _ _ h=>h) (fun W' hW'=>by obtain ⟨q1,q2⟩:=hW';go_simp) hS11 ?_;simp only [Act.put,List.setIfInBounds_toArray,List.set_cons_zero,List.set_cons_succ];refine held_take (i:=3) (v:=.map (some w.heap.size)) rfl (by kernel_rfl) rfl (fun _ _ _ h=>h) (fun W' hW'=>by obtain ⟨q1,q2⟩:=hW';go_simp) hS11 ?_;simp only [Act.put,List.setIfInBounds_toArray,List.set_cons_zero,List.set_cons_succ];refine held_take (i:=4) (v:=.pointer (some ⟨x9,5,none⟩)) rfl (by kernel_rfl) rfl (fun _ _ _ h=>h) (fun W' hW'=>by obtain ⟨q1,q2⟩:=hW';go_simp) hS11 ?_;simp only [Act.put,List.setIfInBounds_toArray,List.set_cons_zero,List.set_cons_succ];refine held_take (i:=5) (v:=.int .i64 qo) rfl (by kernel_rfl) rfl (fun _ _ _ h=>h) (fun W' hW'=>by obtain ⟨q1,q2⟩:=hW';go_simp) hS11 ?_;simp only [Act.put,List.setIfInBounds_toArray,List.set_cons_zero,List.set_cons_succ];apply via
    ·intro KV;refine held_two (i:=6) (j:=7) (by kernel_rfl) rfl rfl rfl rfl ?_ ?_
     ·intro K hK;go_simp;refine hK _ _ hS11 ?_;clear hK K;simp only [Act.put,List.setIfInBounds_toArray,List.set_cons_zero,List.set_cons_succ];refine held_one (i:=7) (by kernel_rfl) rfl rfl ?_;intro K hK;go_simp;refine hK _ _ hS11 ?_;clear hK K;simp only [Act.put,List.setIfInBounds_toArray,List.set_cons_zero,List.set_cons_succ];refine held_one (i:=8) (by kernel_rfl) rfl rfl ?_;intro K hK;go_simp;refine hK _ _ hS11a ?_;clear hK K;simp only [Act.put,List.setIfInBounds_toArray,List.set_cons_zero,List.set_cons_succ];exact KV.out
     ·intro K hK;go_simp;refine hK _ _ hS11 ?_;clear hK K;simp only [Act.put,List.setIfInBounds_toArray,List.set_cons_zero,List.set_cons_succ];refine held_two (i:=6) (j:=8) (by kernel_rfl) rfl rfl rfl rfl ?_ ?_
      ·intro K hK;go_simp;refine hK _ _ hS11 ?_;clear hK K;simp only [Act.put,List.setIfInBounds_toArray,List.set_cons_zero,List.set_cons_succ];refine held_one (i:=8) (by kernel_rfl) rfl rfl ?_;intro K hK;go_simp;refine hK _ _ hS11a ?_;clear hK K;simp only [Act.put,List.setIfInBounds_toArray,List.set_cons_zero,List.set_cons_succ];exact KV.out
      ·intro K hK;go_simp;refine hK _ _ hS11a ?_;clear hK K;simp only [Act.put,List.setIfInBounds_toArray,List.set_cons_zero,List.set_cons_succ];refine held_one (i:=6) (by kernel_rfl) rfl rfl ?_;intro K hK;go_simp;refine hK _ _ hS11a ?_;clear hK K;simp only [Act.put,List.setIfInBounds_toArray,List.set_cons_zero,List.set_cons_succ];exact KV.out
    clear hlkD hlkA;refine held_one (i:=9) (by kernel_rfl) rfl rfl ?_;obtain ⟨i0,hi,hz0,hz1,hz2⟩:=info_parts infoItem;intro K9 hK9;refine wp_append_ownF _ _ _ 132 rfl (w.heap.size+6) 134 i0 (.agg #[.int .i64 0,.int .i64 0]) 2 16 Tryz.underlying132 hi hz0 hz1 hz2 rfl (by decide) _ 0 (flatK encIt ([]:List It)) rfl (HB9.o6.alloc _) ⟨W9.heap.size,0,none⟩ 1 1 (encIt (qa,qb)) rfl rfl ?c1 ?c2 ?c3 ?c4 ?c5 ?_
    case c1=>exact it_two W9.drew qa qb
    case c2=>exact encIt_one (qa,qb)
    case c3=>unfold maxLen;omega
    case c4=>omega
    case c5=>have:=hbS;have:=hsX;first | omega | (simp;omega)
    intro v' w5 hown5 hg5 hfr5;have hgw:W9.grownBy w5 (Value.slice none 0 0).ownBlock:=World.grownBy.trans (show W9.grownBy (W9.drew.alloc _) _ from World.grownBy.trans (grown_drewN (grown_refl W9 _) 1) (World.grownBy_alloc _ _ _)) hg5;have q1:=(hgw.cell b5x (blk_ne_row B5x HB9.o6 (by decide)));have q2:=(hgw.cell z5x (blk_ne_row B9x HB9.o6 (by decide)));refine hK9 _ _ ⟨q1,q2⟩ ?_;clear hK9 K9;simp only [Act.put,List.setIfInBounds_toArray,List.set_cons_zero,List.set_cons_succ];refine held_one (i:=10) (by kernel_rfl) rfl rfl ?_;have hm5:MapV Tryz.prog 3 w5 w.heap.size T.length f9:=HB9.o2.grown hgw (fun e=>by have:=(HB9.o6.lt _ e.symm).1;omega);intro K10 hK10;refine wp_mapUpdateV _ _ _ _ 167 rfl 3 132 (int_keyed Tryz.underlying3) Tryz.underlying167 w.heap.size T.length f9 rfl hm5 (by unfold maxLen;omega) _ v' _ rfl rfl HB.o9 ?_;intro w6 hm6 hg6;refine hK10 _ _ ⟨hg6.cell q1 (by simp),hg6.cell q2 (by intro e;injection e with e;simp only at e;omega)⟩ ?_;clear hK10 K10;refine wpAnyH_done (by kernel_rfl) ?_ _;simp only [Act.put,List.setIfInBounds_toArray,List.set_cons_zero,List.set_cons_succ];show KeepsFrom w1.heap.size W w6 /\ KeepD _ W w6 /\ LeadI _ _ _ _ w6
    refine ⟨(HB9.o7.trans (KeepsFrom.grown hgw (fun y e=>by cases e))).trans (KeepsFrom.of_grownBy hg6 (fun y e=>by injection e with e;omega)),
     HB9.o8.trans ⟨Nat.le_trans hgw.size hg6.size,fun y hy hl=>(hg6.block y (nL hl hgw.size) (by intro e;injection e with e;omega)).trans (hgw.block y hl (fun e=>by cases e))⟩,?_⟩
    have hp:=HB9.o1.pushGrp (by omega) HB9.o3 HB9.o4 HB9.o5 (.inr ⟨HB.o7,rfl,rfl⟩) hgw HB9.o6 hown5
     (fun y hy=>(hfr5 y hy).imp id (fun h=>by have h2:(W9.drew.alloc (Obj.cells #[.int .i64 qa,.int .i64 qb] 134)).heap.size<=y:=h;rw [World.size_alloc] at h2;have:W9.drew.heap.size=W9.heap.size:=rfl;omega)) hm6 hg6
    unfold LeadI;rw [HB.o4,ordL_snoc,ofsL_snoc,List.length_append];have e1:ordStep (ordL T) ((qa,qb),⟨1,qs,qo⟩)=ordL T++[qo]:=by unfold ordStep;simp [HB.o7]
    have e3:grpL T qo=[]:=Classical.byContradiction fun h=>HB.o7 (HB.o8.2 h)
    have e2:grpL (T++[((qa,qb),⟨1,qs,qo⟩)])=fun t=>if t=qo then []++[(qa,qb)] else grpL T t:=by
     funext t;rw [grpL_snoc]
     by_cases e:t=qo
     ·subst e;simp [e3]
     ·simp [e,Ne.symm e]
    rw [e1,e2];rw [if_neg HB.o7] at hp
    simpa using hp
 case done =>
  rintro D W hD hI hK;rw [List.take_length] at hI
  go_step
  go_step
  exact lead_two g HM.o2 B mb bm sm n s HM.o7 HM.o3 w HM.o1 HM.o8 HM.o9 hsrt ia ic hvi0 W D hI hK (by omega) _ rfl
theorem lead_all (g:Gr) (hg:Good g) (B mb bm:Nat) (sm:List SM) (n:Nat) (s:SM) (hn:sm[n]?=some s) (hs:Bare s) (w:World) (hm:MkW g B mb bm sm w) (hT:∀ W',KeepM mb bm w W'->Bru W') (hLB:LB<=B) :
  Calls Tryz.prog 64 #[.pointer (some ⟨mb,0,none⟩),.int .i64 n] w (Led g B mb bm sm n s w) :=
 lead_any g hg B mb bm sm n s hn hs w hm hT hLB (fun c o v W ho h=>sortI_any c o v W ho h)
end Go.Proofs.YthiochcpmfkgcaaGreatDoor.Tb
namespace Go.Proofs.YthiochcpmfkgcaaGreatDoor.Tb
open Go Go.RowKit Go.Proofs Go.Maps Mx
structure TabW (g:Gr) (B:Nat) (tb:Nat) (sm:List SM) (w:World):Prop where
 blk:∃ va,Blk w tb 138 #[va] /\ w.ownsRow B 145 7 va sm.length (flatK encSM sm)
 each:∀ s∈sm,SMok g B w s
 many:sm.length<=16384
def TabP (g:Gr) (B:Nat) (tv:Value) (sm:List SM) (w:World):Prop:=(tv=.pointer none /\ sm=[])∨∃ tb,tv=.pointer (some ⟨tb,0,none⟩) /\ TabW g B tb sm w
theorem SMok.below {g:Gr} {B:Nat} {w w':World} {s:SM} (h:SMok g B w s) (hb:Below w.heap.size w w'):SMok g B w' s :=
 ⟨h.items.tyBelow hb,h.edges.tyBelow hb,h.done.tyBelow hb,h.ok,h.len⟩
theorem TabW.below {g:Gr} {B tb:Nat} {sm:List SM} {w w':World} (h:TabW g B tb sm w) (hb:Below w.heap.size w w'):TabW g B tb sm w':=by
 obtain ⟨va,h1,h2⟩:=h.blk;exact ⟨⟨va,h1.below hb h1.lt,row_below h2 hb⟩,fun s hs=>(h.each s hs).below hb,h.many⟩
theorem TabP.below {g:Gr} {B:Nat} {tv:Value} {sm:List SM} {w w':World} (h:TabP g B tv sm w) (hb:Below w.heap.size w w'):TabP g B tv sm w':=by
 rcases h with ⟨h1,h2⟩ | ⟨tb,h1,h2⟩
 ·exact .inl ⟨h1,h2⟩
 ·exact .inr ⟨tb,h1,h2.below hb⟩
theorem TabP.many {g:Gr} {B:Nat} {tv:Value} {sm:List SM} {w:World} (h:TabP g B tv sm w):sm.length<=16384:=by
 rcases h with ⟨_,rfl⟩ | ⟨tb,_,h⟩
 ·decide
 ·exact h.many
def noSM:SM:=freshSM (.slice none 0 0) []
def stAt (sm:List SM) (n:Int):SM:=if 0<=n then (sm[n.toNat]?).getD noSM else noSM
theorem stAt_in {sm:List SM} {n:Nat} {s:SM} (h:sm[n]?=some s):stAt sm (n:Int)=s:=by
 unfold stAt;rw [if_pos (by omega),Int.toNat_natCast,h];rfl
theorem stAt_out {sm:List SM} {n:Int} (h:n<0∨(sm.length:Int)<=n):stAt sm n=noSM:=by
 unfold stAt
 split
 ·rw [List.getElem?_eq_none (by omega)];rfl
 ·rfl
theorem smok_none (g:Gr) (B:Nat) (w:World):SMok g B w noSM:=⟨SliceK.nil,SliceK.nil,SliceK.nil,(fun x hx=>by cases hx),by decide⟩
theorem TabP.at_ {g:Gr} {B:Nat} {tv:Value} {sm:List SM} {w:World} (h:TabP g B tv sm w) (n:Int):SMok g B w (stAt sm n):=by
 rcases h with ⟨_,rfl⟩ | ⟨tb,_,h⟩
 ·unfold stAt
  split <;> exact smok_none g B w
 ·by_cases hn:0<=n /\ n.toNat<sm.length
  ·have:sm[n.toNat]?=some sm[n.toNat]:=gE hn.2;unfold stAt;rw [if_pos hn.1,this];exact h.each _ (List.getElem_mem hn.2)
  ·rw [stAt_out (by omega)];exact smok_none g B w
def smV (s:SM):Value:=.agg #[s.vi,s.ve,.int .u64 (wd s.next 0),.int .u64 (wd s.next 1),.int .u64 (wd s.next 2),.int .u64 (wd s.next 3),s.vd]
theorem smV_none:smV noSM=.agg #[.slice none 0 0,.slice none 0 0,.int .u64 0,.int .u64 0,.int .u64 0,.int .u64 0,.slice none 0 0]:=by simp [smV,noSM,freshSM,wd]
theorem at_any (g:Gr) (B:Nat) (tv:Value) (sm:List SM) (n:Int) (w:World) (h:TabP g B tv sm w) :
  Calls Tryz.prog 69 #[tv,.int .i64 n] w fun e w'=>e=.returned (smV (stAt sm n)) /\ Below w.heap.size w w':=by
 have hmany:=h.many
 rcases h with ⟨rfl,rfl⟩ | ⟨tb,rfl,h⟩
 ·rw [stAt_out (by simp;omega),smV_none];go_enter Tryz.func69,Tryz.ntmps69;go_wp2_with fail
  exact bodyPost_ret (v:=.agg #[.slice none 0 0,.slice none 0 0,.int .u64 0,.int .u64 0,.int .u64 0,.int .u64 0,.slice none 0 0]) (by simp [results,Tryz.results69,go_sem]) rfl ⟨rfl,(bR _ _).alloc (nR _) _⟩
 ·obtain ⟨va,h1,h2⟩:=h.blk;obtain ⟨a,c,rfl⟩:=own_shape h2;have c0:=h1.cell 0;have htb:=h1.lt;simp at c0
  by_cases hn0:n<0
  ·rw [stAt_out (.inl hn0),smV_none];have HX:=Z3.mk h1 h2 h.each;clear h1 h2 h;go_enter Tryz.func69,Tryz.ntmps69;go_wp2_with fail
   exact bodyPost_ret (v:=.agg #[.slice none 0 0,.slice none 0 0,.int .u64 0,.int .u64 0,.int .u64 0,.int .u64 0,.slice none 0 0]) (by simp [results,Tryz.results69,go_sem]) rfl ⟨rfl,(bR _ _).alloc (nR _) _⟩
  ·by_cases hn1:(sm.length:Int)<=n
   ·rw [stAt_out (.inr hn1),smV_none];have HX:=Z3.mk h1 h2 h.each;clear h1 h2 h;go_enter Tryz.func69,Tryz.ntmps69;go_wp2_with fail
    exact bodyPost_ret (v:=.agg #[.slice none 0 0,.slice none 0 0,.int .u64 0,.int .u64 0,.int .u64 0,.int .u64 0,.slice none 0 0]) (by simp [results,Tryz.results69,go_sem]) rfl ⟨rfl,(bR _ _).alloc (nR _) _⟩
   ·obtain ⟨k,rfl⟩:∃ k:Nat,n=(k:Int):=⟨n.toNat,by omega⟩;have hk:k<sm.length:=by omega
    obtain ⟨s,hs⟩:∃ s,sm[k]?=some s:=⟨_,gE hk⟩;rw [stAt_in hs];obtain ⟨ag,rfl⟩:∃ ag,a=some ⟨ag,0,none⟩:=by
     rcases h2.2 with ⟨e,e2⟩ | ⟨ag,cap,cur,e,_⟩
     ·omega
     ·injection e with e;exact ⟨ag,e⟩
    have hc:∀ j u,(encSM s)[j]?=some u->w.cell? ⟨ag,k * 7+j,none⟩=some u:=fun j u hu=>by
     have:=h2.cells (g:=ag) rfl (k * 7+j) u (flatK_get encSM_len sm k s j u hs hu);rw [addr_add,Nat.zero_add] at this;exact this
    have f0:=hc 0 _ rfl;have f1:=hc 1 _ rfl;have f2:=hc 2 _ rfl;have f3:=hc 3 _ rfl;have f4:=hc 4 _ rfl;have f5:=hc 5 _ rfl;have f6:=hc 6 _ rfl;simp only [Nat.add_zero] at f0;have hag:=(h2.lt ag rfl).2;have hk1:(k:Int)<sm.length:=by omega
    have hk0:(0:Int)<=k:=by omega
    have hok:=h.each s (gM hs);obtain ⟨ia,ic,e1,_⟩:=hok.items;obtain ⟨ea,ec,e2,_⟩:=hok.edges;obtain ⟨da,dc,e3,_⟩:=hok.done;rw [e1] at f0;rw [e2] at f1;rw [e3] at f6;unfold smV;rw [e1,e2,e3];clear hok e1 e2 e3;have HX:=Z4.mk h1 h2 h.each hs;clear h1 h2 h hs hc;go_enter Tryz.func69,Tryz.ntmps69;go_wp2_with fail
    exact bodyPost_ret (v:=.agg #[.slice ia s.items.length ic,.slice ea s.edges.length ec,.int .u64 (wd s.next 0),.int .u64 (wd s.next 1),.int .u64 (wd s.next 2),.int .u64 (wd s.next 3),.slice da s.done.length dc]) (by simp [results,Tryz.results69,go_sem]) rfl ⟨rfl,(bR _ _).alloc (nR _) _⟩
end Go.Proofs.YthiochcpmfkgcaaGreatDoor.Tb
namespace Go.Proofs.YthiochcpmfkgcaaGreatDoor.Tb
open Go Go.RowKit Go.Proofs Go.Maps Mx
theorem field1 (v0 v1 v2 v3 v4 v5 v6:Value) (w:World):(Instr.field 145 (.agg #[v0,v1,v2,v3,v4,v5,v6]) 1).run Tryz.prog w=.ok v1 w:=by kernel_rfl
theorem field2 (v0 v1 v2 v3 v4 v5 v6:Value) (w:World):(Instr.field 145 (.agg #[v0,v1,v2,v3,v4,v5,v6]) 2).run Tryz.prog w=.ok (.agg #[v2,v3,v4,v5]) w:=by kernel_rfl
theorem field3 (v0 v1 v2 v3 v4 v5 v6:Value) (w:World):(Instr.field 145 (.agg #[v0,v1,v2,v3,v4,v5,v6]) 3).run Tryz.prog w=.ok v6 w:=by kernel_rfl
theorem start_any (tv:Value) (w:World) :
  Calls Tryz.prog 72 #[tv] w fun e w'=>e=.returned (.int .i64 0) /\ w'=w:=by
 go_enter Tryz.func72,Tryz.ntmps72
 go_wp2_with fail
 go_ret;exact ⟨rfl,rfl⟩
theorem smV_shape {g:Gr} {B:Nat} {w:World} {s:SM} (h:SMok g B w s):∃ ia ic ea ec da dc,s.vi=.slice ia s.items.length ic /\ s.ve=.slice ea s.edges.length ec /\ s.vd=.slice da s.done.length dc:=by
 obtain ⟨ia,ic,e1,_⟩:=h.items;obtain ⟨ea,ec,e2,_⟩:=h.edges;obtain ⟨da,dc,e3,_⟩:=h.done;exact ⟨ia,ic,ea,ec,da,dc,e1,e2,e3⟩
theorem next_any (g:Gr) (B:Nat) (tv:Value) (sm:List SM) (n:Int) (w:World) (h:TabP g B tv sm w) :
  Calls Tryz.prog 56 #[tv,.int .i64 n] w fun e w'=>e=.returned (setV (stAt sm n).next) /\ Below w.heap.size w w':=by
 have hat:=fun W (hW:Below w.heap.size w W)=>at_any g B tv sm n W (h.below hW);have hfl:=field2;obtain ⟨ia,ic,ea,ec,da,dc,e1,e2,e3⟩:=smV_shape (h.at_ n);unfold smV at hat;rw [e1,e2,e3] at hat;clear e1 e2 e3 h;obtain ⟨M,hM⟩:=eX ((stAt sm n).next);rw [hM] at hat ⊢;clear hM;have HA:=Hd hat;clear hat;go_enter Tryz.func56,Tryz.ntmps56;go_wp2_with fail
 have hB0:Blk (w.alloc (.cells #[.int .u64 0,.int .u64 0,.int .u64 0,.int .u64 0] 33)) w.heap.size 33 (setC 0):=Blk.new_ rfl _ _;have hb0:Below w.heap.size w (w.alloc (.cells #[.int .u64 0,.int .u64 0,.int .u64 0,.int .u64 0] 33)):=(bR _ _).alloc (nR _) _;generalize (w.alloc (.cells #[.int .u64 0,.int .u64 0,.int .u64 0,.int .u64 0] 33))=W1 at hB0 hb0 ⊢;refine (HA.out W1 hb0).mono ?_;rintro e w2 ⟨rfl,hb⟩;have h1:=hB0.below hb hB0.lt;have A:=Z2.mk h1 (hb0.trans (hb.mono hb0.size));obtain ⟨f0,f1,f2,f3,ff⟩:=h1.facts4;clear hb h1 hB0 hb0;go_wp2_with fail
 have hbk:=(((A.o1.set_ 0 (.int .u64 (wd M 0))).set_ 1 (.int .u64 (wd M 1))).set_ 2 (.int .u64 (wd M 2))).set_ 3 (.int .u64 (wd M 3));refine bodyPost_ret (results_cell_row (by rfl) _ _ w.heap.size 33 _ (0,0) _ (by rfl) hbk Tryz.underlying33 (by rfl) (by kernel_rfl)) rfl ?_;refine ⟨rfl,(((A.o2.setCell ?_ _).setCell ?_ _).setCell ?_ _).setCell ?_ _⟩ <;> simp
def toF (p:Sy->Bool) (l:List (Sy × Nat)):Int × Bool:=match l.find? (fun e=>p e.1) with | some e=>((e.2:Int),true) | none=>(0,false)
theorem toF_hit (p:Sy->Bool) (l:List (Sy × Nat)) (i:Nat) (e:Sy × Nat) (h:l[i]?=some e) (hp:p e.1=true) (hn:∀ x∈l.take i,p x.1=false):toF p l=((e.2:Int),true):=by
 unfold toF;have hi:=(gS.1 h).1;have e1:l=l.take i++e::l.drop (i+1):=by
  have:l[i]=e:=(gS.1 h).2;rw [<- this];simp
 have e2:List.find? (fun e=>p e.1) (e::l.drop (i+1))=some e:=by rw [List.find?_cons];simp [hp]
 rw [e1,List.find?_append,List.find?_eq_none.2 (fun x hx=>by rw [hn x hx];decide),e2]
 rfl
theorem toF_miss (p:Sy->Bool) (l:List (Sy × Nat)) (hn:∀ x∈l,p x.1=false):toF p l=(0,false):=by
 unfold toF;rw [List.find?_eq_none.2 (fun x hx=>by rw [hn x hx];decide)]
theorem to_any (g:Gr) (B:Nat) (tv:Value) (sm:List SM) (n:Int) (K:FuncId) (cap:Value) (p:Sy->Bool) (hen:∀ (args:Array Value) (W:World),(callFunc K args).run Tryz.prog W=.ok (.enter K args) W) (w:World) (h:TabP g B tv sm w) (hlen:(stAt sm n).edges.length<=1000000)
  (hby:∀ s∈(stAt sm n).edges,∀ W,Below w.heap.size w W->Calls Tryz.prog K #[symV s.1,cap] W fun e W'=>e=.returned (.bool (p s.1)) /\ Below W.heap.size W W') :
  Calls Tryz.prog 67 #[tv,.int .i64 n,.func (.func K) #[] #[cap]] w fun e w'=>e=.returned (.tuple #[.int .i64 (toF p (stAt sm n).edges).1,.bool (toF p (stAt sm n).edges).2]) /\ Below w.heap.size w w':=by
 have hfl:=field1;have hat:=at_any g B tv sm n w h;have hok:=h.at_ n;obtain ⟨ia,ic,ea,ec,da,dc,e1,e2,e3⟩:=smV_shape hok;have hed:=hok.edges;unfold smV at hat;rw [e1,e2,e3] at hat;rw [e2] at hed;clear e1 e2 e3 h hok;obtain ⟨E,hE⟩:=eX ((stAt sm n).edges);rw [hE] at hat hed hlen hby ⊢;clear hE;obtain ⟨ea',ec',e4,hc1,hc2,hk⟩:=hed;injection e4 with e5 e6 e7;subst e5;subst e7;have HB:=Z2.mk hby hk;clear hby hk e6
 go_enter Tryz.func67,Tryz.ntmps67
 go_wp2_with fail
 refine hat.mono ?_;rintro e w1 ⟨rfl,hb1⟩;have H1:=Hd hb1;clear hb1 hat;go_wp2_with fail
 go_loopg [15] E.length (fun m v wr=>∃ i:Nat,i<=E.length /\ m=E.length - i /\ v=.int .i64 i /\ (∀ x∈E.take i,p x.1=false) /\ Below w.heap.size w wr)
 case atStart=>exact ⟨0,by omega,rfl,rfl,(fun x hx=>by simp at hx),H1.out⟩
 case round =>
  obtain ⟨i,hi,hm,rfl,hno,hb⟩:=hrel
  by_cases hlt:i<E.length
  ·obtain ⟨⟨sy,q⟩,hx⟩:∃ x,E[i]?=some x:=⟨_,gE hlt⟩;obtain ⟨kg,ko,rfl,hkD,hkr⟩:=HB.o2 (by rintro rfl;simp at hlt);have up:∀ {i:Nat} {u:Value},w.cell? ⟨kg,i,none⟩=some u->wr.cell? ⟨kg,i,none⟩=some u:=fun h=>(wB (hb.block kg hkr.lt)).trans h;have c0:=up (hkr.cells i _ hx 0 _ rfl);have c1:=up (hkr.cells i _ hx 1 _ rfl);have c2:=up (hkr.cells i _ hx 2 _ rfl);have c3:=up (hkr.cells i _ hx 3 _ rfl);have c4:=up (hkr.cells i _ hx 4 _ rfl);have c5:=up (hkr.cells i _ hx 5 _ rfl);have c6:=up (hkr.cells i _ hx 6 _ rfl);simp only [Nat.add_zero] at c0;have hi0:(0:Int)<=i:=by omega
   have hi1:(i:Int)<E.length:=by omega
   have HR:=Z4.mk hm hno hb hx;clear hm hno hb hx up hkr;go_wp2_with fail
   have hP:Blk (wr.alloc (.cells #[.int .i64 sy.kind,.int .u64 (wd sy.set 0),.int .u64 (wd sy.set 1),.int .u64 (wd sy.set 2),.int .u64 (wd sy.set 3),.int .i64 sy.sort,.int .i64 q] 173)) wr.heap.size 173 #[.int .i64 sy.kind,.int .u64 (wd sy.set 0),.int .u64 (wd sy.set 1),.int .u64 (wd sy.set 2),.int .u64 (wd sy.set 3),.int .i64 sy.sort,.int .i64 q]:=Blk.new _ _ _;have hb3:Below wr.heap.size wr (wr.alloc (.cells #[.int .i64 sy.kind,.int .u64 (wd sy.set 0),.int .u64 (wd sy.set 1),.int .u64 (wd sy.set 2),.int .u64 (wd sy.set 3),.int .i64 sy.sort,.int .i64 q] 173)):=(bR _ wr).alloc (nR _) _;generalize (wr.alloc (.cells #[.int .i64 sy.kind,.int .u64 (wd sy.set 0),.int .u64 (wd sy.set 1),.int .u64 (wd sy.set 2),.int .u64 (wd sy.set 3),.int .i64 sy.sort,.int .i64 q] 173))=W3 at hP hb3 ⊢;have hbb:=HR.o3.trans (hb3.mono HR.o3.size);refine (HB.o1 (sy,q) (gM HR.o4) W3 hbb).mono ?_;rintro e w4 ⟨rfl,hb4⟩;have hP4:=hP.below hb4 hP.lt;have p6:=hP4.cell 6;simp at p6;have H4:=Hd (hbb.trans (hb4.mono hbb.size));clear hP hb3 hbb hb4 hP4 c0 c1 c2 c3 c4 c5 c6
   cases hp:p sy with
   | true =>
    have HP:=Hd hp;clear hp;go_wp2_with fail
    go_ret2
    rw [toF_hit p E i (sy,q) HR.o4 HP.out HR.o2];exact ⟨rfl,H4.out⟩
   | false =>
    have HP:=Hd hp;clear hp;go_wp2_with fail
    go_roundg (E.length - (i+1))
    case measure=>have:=HR.o1;omega
    case rel =>
     refine ⟨i+1,by omega,rfl,rfl,?_,H4.out⟩;intro x hx;rw [List.take_add_one,HR.o4] at hx
     rcases List.mem_append.1 hx with hx | hx
     ·exact HR.o2 x hx
     ·simp at hx;subst hx;exact HP.out
  ·obtain rfl:i=E.length:=by omega
   rw [List.take_length] at hno;have HR:=Z2.mk hno hb;clear hno hb hm;go_wp2_with fail
   go_ret2
   rw [toF_miss p E HR.o1];exact ⟨rfl,HR.o2⟩
def isSort (s:Int) (x:Sy):Bool:=x.kind==1&&x.sort==s
def hasByte (b:Nat) (x:Sy):Bool:=x.kind==0&&x.set.testBit b
theorem goto_by (s:Int) (x:Sy) (b:Nat) (w:World) (h:w.cell? ⟨b,0,none⟩=some (.int .i64 s)) :
  Calls Tryz.prog 68 #[symV x,.pointer (some ⟨b,0,none⟩)] w fun e w'=>e=.returned (.bool (isSort s x)) /\ Below w.heap.size w w':=by
 have hbl:=wL _ _ h;simp at hbl;unfold symV isSort
 by_cases hk:x.kind=1
 ·have hk2:(x.kind==1)=true:=by simpa using hk
  have HK:=Hd hk2;rw [hk];clear hk hk2;go_enter Tryz.func68,Tryz.ntmps68;go_wp2_with fail
  go_ret;exact ⟨by simp,(bR _ _).alloc (nR _) _⟩
 ·have hk2:(x.kind==1)=false:=by simpa using hk
  clear hk;go_enter Tryz.func68,Tryz.ntmps68;go_wp2_with fail
  go_ret;exact ⟨by simp [hk2],(bR _ _).alloc (nR _) _⟩
theorem shift_by (c:Nat) (hc:c<256) (x:Sy) (b:Nat) (w:World) (h:w.cell? ⟨b,0,none⟩=some (.int .u8 (c:Int))) :
  Calls Tryz.prog 125 #[symV x,.pointer (some ⟨b,0,none⟩)] w fun e w'=>e=.returned (.bool (hasByte c x)) /\ Below w.heap.size w w':=by
 have hbl:=wL _ _ h;simp at hbl;have hhas:=fun W=>has_any x.set c hc W;unfold setV at hhas;unfold symV hasByte
 by_cases hk:x.kind=0
 ·have hk2:(x.kind==0)=true:=by simpa using hk
  have HK:=Hd hk2;rw [hk];clear hk hk2;go_enter Tryz.func125,Tryz.ntmps125;go_wp2_with fail
  refine (hhas _).mono ?_;rintro e w2 ⟨rfl,hb2⟩;have H2:=Hd (((bR w.heap.size w).alloc (nR _) (.cells #[.int .i64 0,.int .u64 (wd x.set 0),.int .u64 (wd x.set 1),.int .u64 (wd x.set 2),.int .u64 (wd x.set 3),.int .i64 x.sort] 49)).trans (hb2.mono (by simp)));clear hb2;go_wp2_with fail
  go_ret;exact ⟨by simp,H2.out⟩
 ·have hk2:(x.kind==0)=false:=by simpa using hk
  clear hk;go_enter Tryz.func125,Tryz.ntmps125;go_wp2_with fail
  go_ret;exact ⟨by simp [hk2],(bR _ _).alloc (nR _) _⟩
theorem goto_any (g:Gr) (B:Nat) (tv:Value) (sm:List SM) (n s:Int) (w:World) (h:TabP g B tv sm w) (hlen:(stAt sm n).edges.length<=1000000) :
  Calls Tryz.prog 45 #[tv,.int .i64 n,.int .i64 s] w fun e w'=>e=.returned (.tuple #[.int .i64 (toF (isSort s) (stAt sm n).edges).1,.bool (toF (isSort s) (stAt sm n).edges).2]) /\ Below w.heap.size w w':=by
 have hmf:∀ (fn:Fn) (first cap:Array Value) (w:World),(Instr.makeFunc fn first cap).run Tryz.prog w=.ok (.func fn first cap) w:=fun _ _ _ _=>rfl;have hb0:Below w.heap.size w (w.alloc (.cells #[.int .i64 s] 3)):=(bR _ _).alloc (nR _) _;have hB0:Blk (w.alloc (.cells #[.int .i64 s] 3)) w.heap.size 3 #[.int .i64 s]:=Blk.new _ _ _;have hto:=to_any g B tv sm n 68 (.pointer (some ⟨w.heap.size,0,none⟩)) (isSort s) (fun _ _=>by kernel_rfl) _ (h.below hb0) hlen (fun x _ W hW=>goto_by s x.1 w.heap.size W ((hB0.below hW hB0.lt).cell 0));have H0:=Hd hb0;clear hb0 hB0 h;go_enter Tryz.func45,Tryz.ntmps45;go_wp2_with fail
 refine hto.mono ?_;rintro e w2 ⟨rfl,hb2⟩;have H2:=Hd (H0.out.trans (hb2.mono H0.out.size));clear hb2 hto;go_wp2_with fail
 go_ret2
 exact ⟨rfl,H2.out⟩
theorem shift_any (g:Gr) (B:Nat) (tv:Value) (sm:List SM) (n:Int) (c:Nat) (hc:c<256) (w:World) (h:TabP g B tv sm w) (hlen:(stAt sm n).edges.length<=1000000) :
  Calls Tryz.prog 92 #[tv,.int .i64 n,.int .u8 (c:Int)] w fun e w'=>e=.returned (.tuple #[.int .i64 (toF (hasByte c) (stAt sm n).edges).1,.bool (toF (hasByte c) (stAt sm n).edges).2]) /\ Below w.heap.size w w':=by
 have hmf:∀ (fn:Fn) (first cap:Array Value) (w:World),(Instr.makeFunc fn first cap).run Tryz.prog w=.ok (.func fn first cap) w:=fun _ _ _ _=>rfl;have hb0:Below w.heap.size w (w.alloc (.cells #[.int .u8 (c:Int)] 5)):=(bR _ _).alloc (nR _) _;have hB0:Blk (w.alloc (.cells #[.int .u8 (c:Int)] 5)) w.heap.size 5 #[.int .u8 (c:Int)]:=Blk.new _ _ _;have hto:=to_any g B tv sm n 125 (.pointer (some ⟨w.heap.size,0,none⟩)) (hasByte c) (fun _ _=>by kernel_rfl) _ (h.below hb0) hlen (fun x _ W hW=>shift_by c hc x.1 w.heap.size W ((hB0.below hW hB0.lt).cell 0));have H0:=Hd hb0;clear hb0 hB0 h;go_enter Tryz.func92,Tryz.ntmps92;go_wp2_with fail
 refine hto.mono ?_;rintro e w2 ⟨rfl,hb2⟩;have H2:=Hd (H0.out.trans (hb2.mono H0.out.size));clear hb2 hto;go_wp2_with fail
 go_ret2
 exact ⟨rfl,H2.out⟩
end Go.Proofs.YthiochcpmfkgcaaGreatDoor.Tb
namespace Go.Proofs.YthiochcpmfkgcaaGreatDoor.Tb
open Go Go.RowKit Go.Proofs Mx
theorem own_lower {w:World} {B B':Nat} {e:TypeId} {z n:Nat} {v:Value} {xs:List Value} (h:w.ownsRow B e z v n xs) (hB:B'<=B):w.ownsRow B' e z v n xs:=by
 refine ⟨h.1,?_⟩
 rcases h.2 with h2 | ⟨g,cap,cur,e1,hg,h3⟩
 ·exact .inl h2
 ·exact .inr ⟨g,cap,cur,e1,Nat.le_trans hB hg,h3⟩
theorem flat_oneN:∀ (l:List Nat),∀ u∈flatK encN l,u.oneCell'=true
 | [],u,hu=>by simp [flatK] at hu
 | x::l,u,hu=>by
  rw [flatK_cons] at hu
  rcases List.mem_append.1 hu with h | h
  ·simp [encN] at h;subst h;rfl
  ·exact flat_oneN l u h
theorem clone_int (D:Nat->Prop) (l:List Nat) (v:Value) (w:World) (h:SliceK D encN 1 w v l) (hn:l.length<=10000000000000) :
  Calls Tryz.prog 91 #[v] w fun e w'=>∃ v',e=.returned v' /\ w'.ownsRow w.heap.size 3 1 v' l.length (flatK encN l) /\ Below w.heap.size w w':=by
 obtain ⟨a,cap,rfl,hc1,hc2,hK⟩:=h;obtain ⟨i0,hi,hz0,hz1,hz2⟩:=info_parts infoInt;have q50:∀ (w:World) (a:Option Addr) (n c n' c':Nat),(binOp .eql 57 (.slice a n c) (.slice none n' c')).run Tryz.prog w=.ok (.bool a.isNone) w:=fun w a n c n' c'=>Lib.run_eql_slice_nil w _ _ a n c n' c' Tryz.underlying57
 cases a with
 | none =>
  have hl:l=[]:=by
   apply Classical.byContradiction;intro hl;obtain ⟨g,o,e,_⟩:=hK hl
   cases e
  subst hl;clear hK;go_enter Tryz.func91,Tryz.ntmps91
  go_wp2
  go_ret;exact ⟨_,rfl,World.ownsRow_nil _ _ _ _,bR _ _⟩
 | some ad =>
  have hcell:∀ j u,(flatK encN l)[j]?=some u->w.cell? (ad.add j)=some u:=by
   intro j u hu;have hl:l≠[]:=by rintro rfl;simp [flatK] at hu
   obtain ⟨g,o,e,_,hr⟩:=hK hl;have e:=Option.some.inj e;subst e;obtain ⟨x,hx,hxu⟩:=flatK_cell encN_len (by decide) l j u hu;have:=hr.cells _ x hx _ u hxu;rw [show o+j / 1 * 1+j % 1=o+j by omega] at this;rw [addr_add];exact this
  have A:=Hd hcell;clear hK hcell;go_enter Tryz.func91,Tryz.ntmps91;go_wp2_with (at_builtin;refine wpList_append_own _ rfl _ _ 57 rfl w.heap.size 3 i0 (.int .i64 0) 1 8 Tryz.underlying57 hi hz0 hz1 hz2 rfl (by decide) _ _ _ rfl (World.ownsRow_made w #[] 0 (nR _) (Nat.zero_le _) (by simp)) ad l.length cap (flatK encN l) rfl ?c0 ?c1 ?c2 ?c3 ?c4 ?c5 ?_)
  case c0=>exact flatK_len encN_len l
  case c1 =>
   intro j u hj;exact cell_alloc_ (A.out j u hj) _
  case c2=>exact flat_oneN l
  case c3=>have:=hc1;have:=hc2;omega
  case c4=>omega
  case c5=>simp
  intro v' w1 hown hg _;have H:=Z2.mk hown hg;clear hown hg;go_wp2_with fail
  go_ret;have h1:=H.o1
  first | rw [Nat.zero_add,List.nil_append] at h1 | skip
  refine ⟨_,rfl,h1,?_⟩;exact ((bR _ w).alloc (nR _) _).grown H.o2 (by simp) (fun b hb=>by simp [Value.ownBlock] at hb;omega)
theorem reduces_any (g:Gr) (B:Nat) (tv:Value) (sm:List SM) (n:Int) (w:World) (h:TabP g B tv sm w) (hlen:(stAt sm n).done.length<=1000000) :
  Calls Tryz.prog 120 #[tv,.int .i64 n] w fun e w'=>∃ v',e=.returned v' /\ w'.ownsRow w.heap.size 3 1 v' (stAt sm n).done.length (flatK encN (stAt sm n).done) /\ Below w.heap.size w w':=by
 have hfl:=field3;have hat:=at_any g B tv sm n w h;have hok:=h.at_ n;obtain ⟨ia,ic,ea,ec,da,dc,e1,e2,e3⟩:=smV_shape hok;have hed:=hok.done;unfold smV at hat;rw [e1,e2,e3] at hat;rw [e3] at hed;clear e1 e2 e3 h hok;obtain ⟨E,hE⟩:=eX ((stAt sm n).done);rw [hE] at hat hed hlen ⊢;clear hE;have HE:=Hd hed;clear hed;go_enter Tryz.func120,Tryz.ntmps120;go_wp2_with fail
 refine hat.mono ?_;rintro e w1 ⟨rfl,hb1⟩;have H1:=Hd hb1;clear hb1 hat;go_wp2_with fail
 refine (clone_int _ E _ w1 (HE.out.tyBelow H1.out) (by omega)).mono ?_;rintro e w2 ⟨v',rfl,hown,hb2⟩;have H2:=Z2.mk (own_lower hown H1.out.size) (H1.out.trans (hb2.mono H1.out.size));clear hown hb2;go_wp2_with fail
 go_ret;exact ⟨_,rfl,H2.o1,H2.o2⟩
end Go.Proofs.YthiochcpmfkgcaaGreatDoor.Tb
